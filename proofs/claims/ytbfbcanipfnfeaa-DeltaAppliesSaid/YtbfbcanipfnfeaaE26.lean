import Derived.Test.YtbfbcanipfnfeaaE25
set_option linter.unusedVariables false
set_option linter.unusedSimpArgs false
namespace Go.Ev
open Go
variable{E:Env}{ω:Opq}{K:Nat→Prop}{w0:World}
variable{ops:Array Oper}{l r:List PO}{hs:Heap}{βs:Bij}
variable{R:Type}{A:Alg R}{T:R→Prop}
theorem bn8(hA:AlgOk A T ω)(hp:PlanOk ops.toList l r){k:Fr→Heap→R}{listed:Array Bool}{β:Bij}{act:Act}{w:World}: ∀(n:Nat) (rest:List PO) (done:Nat) (pend:List Pend) (a:Fr) (h:Heap) (bid:Nat→Nat),
 T (ev E n R A (.dops ops.toList rest pend a h k))→DI E ω K w0 ops l hs βs done rest pend a h bid listed β act w→
 ∃n2 done2 rest2 pend2 a2 h2 bid2,n2≤n∧T (ev E n2 R A (.dops ops.toList rest2 pend2 a2 h2 k))∧DI E ω K w0 ops l hs βs done2 rest2 pend2 a2 h2 bid2 listed β act w∧(rest2=[]∨ ∃x r',rest2=x::r'∧x.fl=false)
 |n,[],done,pend,a,h,bid,he,d=>⟨n,done,[],pend,a,h,bid,b9 _,he,d,.inl rfl⟩
 |0,x::rest,done,pend,a,h,bid,he,d=>absurd he hA.bad
 |n+1,x::rest,done,pend,a,h,bid,he,d=>by
  cases hf:x.fl with
  |false=>exact⟨n+1,done,x::rest,pend,a,h,bid,b9 _,he,d,.inr ⟨x,rest,rfl,hf⟩⟩
  |true=>
   obtain⟨done',rest',pend',a',h',bid',he',d'⟩:=d.float hA hp hf he
   obtain⟨n2,done2,rest2,pend2,a2,h2,bid2,g1,g2⟩:=bn8 hA hp n rest' _ pend' a' h' bid' he' d'
   exact⟨n2,done2,rest2,pend2,a2,h2,bid2,F5 g1,g2⟩
theorem c02{listed:Array Bool}(h:left listed=0){i:Nat}(hi:i<listed.size):Lis listed i:=by
 unfold left at h
 have:=r9.1 h
 have hm:listed[i]∈listed.toList:=by simp
 unfold Lis
 rw[k7,p7 hi]
 cases hb:listed[i]with
 |true=>rfl
 |false=>
  rw[hb]at hm
  have:=List.filter_eq_nil_iff.1 this false hm
  simp at this
theorem DI.finish(hA:AlgOk A T ω)(hp:PlanOk ops.toList l r){k:Fr→Heap→R}{Q:Exit→Act→World→Prop}
 (hQ: ∀a h β act w,T (k a h)→FrR β ω a act→HR β ω K w0 h w→St hs βs h β→Q .normal act w)
 {n done:Nat} {rest:List PO} {pend:List Pend} {a:Fr} {h:Heap} {bid:Nat→Nat} {listed:Array Bool} {β:Bij} {act:Act} {w:World}
 (he:T (ev E n R A (.dops ops.toList rest pend a h k))) (d:DI E ω K w0 ops l hs βs done rest pend a h bid listed β act w) (hall: ∀x∈l,Lis listed x.i):Q .normal act w:=by
 cases rest with
 |cons x rest=>
  have:=aL3 _ _ d.eg x (.head _)
  rw[d.cd x (d.rl x (.head _)) (hall x (d.rl x (.head _)))]at this
  cases this
 |nil=>
  cases n with
  |zero=>exact absurd he hA.bad
  |succ n=>
   have he:T (k a h):=he
   exact hQ a h β act w he (d.fr.weaken fun t ⟨y,hy,_,g2,_⟩=>g2 (hall y hy)) d.hr d.st
theorem cC6(hA:AlgOk A T ω)(hE:E.Ok ω)(hp:PlanOk ops.toList l r){N:Nat}{ro:Option Nat}(hc: ∀m,m<N→GoS E ω m){k:Fr→Heap→R}{Q:Exit→Act→World→Prop}
 (hQ: ∀a h β act w,T (k a h)→FrR β ω a act→HR β ω K w0 h w→St hs βs h β→Q .normal act w):
 ∀(fuel n done:Nat) (rest:List PO) (pend:List Pend) (a:Fr) (h:Heap) (bid:Nat→Nat) (listed:Array Bool) (β:Bij) (act:Act) (w:World),n≤N→
  T (ev E n R A (.dops ops.toList rest pend a h k))→DI E ω K w0 ops l hs βs done rest pend a h bid listed β act w→left listed≤fuel→wpAnyIn (Fen ro) 0 E.P .any ops Q fuel listed act w:=by
 intro fuel
 induction fuel with
 |zero=>
  intro n done rest pend a h bid listed β act w hn he d hle
  have hall: ∀i,i<ops.size→Lis listed i:=fun i hi=>c02 (by omega) (by rw[d.lsz];exact hi)
  have hall2: ∀x∈l,Lis listed x.i:=by
   intro x hx
   obtain⟨o,ho,-⟩:=hp.get x hx
   refine hall _ ?_
   rcases d8 x.i ops.size with hh|hh
   ·exact hh
   ·rw[j7 (by simpa using hh)]at ho;cases ho
  obtain⟨n2,done2,rest2,pend2,a2,h2,bid2,g1,g2,g3,g4⟩:=bn8 hA hp n rest done pend a h bid he d
  refine⟨?_,g3.finish hA hp hQ g2 hall2⟩
  apply List.eq_nil_iff_forall_not_mem.2
  intro i hi
  obtain⟨h1,h2,-⟩:=aL6.1 hi
  have:=hall i h1
  unfold Lis at this
  rw[k7]at this h2
  cases hh:listed[i]? with
  |none=>rw[hh]at this;cases this
  |some b=>rw[hh]at this h2;simp at this h2;rw[this]at h2;cases h2
 |succ fuel ih=>
  intro n done rest pend a h bid listed β act w hn he d hle
  obtain⟨n2,done2,rest2,pend2,a2,h2,bid2,g1,g2,g3,g4⟩:=bn8 hA hp n rest done pend a h bid he d
  have getEq: ∀i,i<ops.size→(¬Lis listed i↔listed.getD i true=false):=by
   intro i hi
   have hi':i<listed.size:=by rw[d.lsz];exact hi
   unfold Lis
   rw[k7,k7,p7 hi']
   cases listed[i]<;>simp
  refine⟨fun hnil=> ?_,fun i hi=> ?_⟩
  ·refine g3.finish hA hp hQ g2 ?_
   have main: ∀m,∀x∈l,x.i=m→Lis listed x.i:=by
    intro m
    induction m using Nat.strongRecOn with
    |_ m ihm=>
     intro x hx hm
     obtain⟨o,ho,ho2,-⟩:=hp.get x hx
     have hlt:x.i<ops.size:=by
      rcases d8 x.i ops.size with hh|hh
      ·exact hh
      ·rw[j7 (by simpa using hh)]at ho;cases ho
     refine Classical.byContradiction fun hno=> ?_
     have:x.i∈Region.ready .any ops listed:=by
      refine aL6.2 ⟨hlt,(getEq _ hlt).1 hno,x.o,by rw[ho2,←ho];simp,fun e he hb=> ?_⟩
      have hbk:=hp.back x hx e he hb
      have hel:e.on<ops.toList.length:=by simp;omega
      obtain⟨y,hy,hyi⟩:=hp.at_ e.on _ (j0 hel)
      rw[←hyi]
      exact ihm y.i (by omega) y hy rfl
     rw[hnil]at this;cases this
   exact fun x hx=>main x.i x hx rfl
  ·obtain⟨h1,h2',o,ho,hdeps⟩:=aL6.1 hi
   obtain⟨x,hx,rfl⟩:=hp.at_ i o (by rw[←ho];simp)
   obtain⟨o',ho',ho2,-⟩:=hp.get x hx
   have hxo:x.o=o:=by
    rw[ho2]
    have:ops.toList[x.i]? =ops[x.i]? :=by simp
    rw[this,ho]at ho'
    simpa using ho'.symm
   have hrdy: ∀j,x.m.testBit j=true→Lis listed j:=by
    intro j hj
    obtain⟨e,he,hb,hh⟩:=(hp.mask x hx j).1 hj
    have hl:=hdeps e (hxo▸he) hb
    rcases hh with rfl|⟨y,hy,hy1,hy2⟩
    ·exact hl
    ·exact d.cm y hy (by rw[hy1];exact hl) j hy2
   have hC: ¬Lis listed x.i:=(getEq _ h1).2 h2'
   have hleft:=ci4 h2'
   cases hD:done2.testBit x.i with
   |true=>
    exact g3.late hE hp hx hrdy hD hC fun β' act' w' d'=>ih n2 done2 rest2 pend2 a2 h2 bid2 _ β' act' w' (m7 g1 hn) g2 d' (by omega)
   |false=>
    rcases g4 with rfl|⟨c,r',rfl,hcf⟩
    ·have:=g3.rd x hx hD;cases this
    ·have hxc:x=c:=by
      have hmem:=g3.rd x hx hD
      have hcl:=g3.rl c (.head _)
      have hcD:=aL3 _ _ g3.eg c (.head _)
      have eg:=g3.eg
      simp only[eager,d6,m6]at eg
      obtain⟨⟨⟨e1,e2⟩,e3⟩,e4⟩:=eg
      have hmD: ∀j,x.m.testBit j=true→done2.testBit j=true:=by
       intro j hj
       obtain⟨y,hy,rfl⟩:=hp.dom x.i x hx rfl j hj
       exact g3.cd y hy (hrdy _ hj)
      cases hmem with
      |head=>rfl
      |tail _ hm=>
       cases hxf:x.fl with
       |true=>
        rw[hcf,A0]at e3
        have:=i6.1 e3 x hm
        rw[hxf,ci1 hmD]at this
        cases this
       |false=>
        rcases D6 x.i c.i with hlt|heq|hgt
        ·have:=hp.chain c hcl x hx hcf hxf hlt
         rw[b21 e1 _ this]at hD;cases hD
        ·exact hp.uniq x hx c hcl heq
        ·have:=hp.chain x hx c hcl hxf hcf hgt
         rw[hmD _ this]at hcD;cases hcD
     subst hxc
     exact DI.link hA hE hp hcf hrdy n2 a2 (fun m hm=>hc m (by omega)) g3 g2 fun m pend' a' h' β' act' w' g0 he' d'=>ih m _ r' pend' a' h' bid2 _ β' act' w' (by omega) he' d' (by omega)
end Go.Ev
