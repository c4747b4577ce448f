import Derived.Test.YtbfbcanipfnfeaaE10
set_option linter.unusedVariables false
set_option linter.unusedSimpArgs false
namespace Go.Ev
open Go
variable{P:Program}{β:Bij}{ω:Opq}{K:Nat→Prop}{w0 w:World}{h h':Heap}
def bV3(w:World)(r:Nat)(o:Obj):World:={w with heap:=w.heap.setIfInBounds r o}
theorem HR.set1(r:HR β ω K w0 h w)(b:Nat)(x0 x:Blk)(L:Loc)(o:Obj)(hg:h.get b=some x0)(hb:β b=some L)(hwm:h.wm≤b)(hx:BR β ω L (some o) x):
 HR β ω K w0 (h.put b (some x)) (bV3 w L.blk o)∧St h β (h.put b (some x)) β:=by
 have hlt:=r.lt b L hb
 refine HR.upd r b x0 x L hg hb hwm (fun i hi=>by simp[bV3,Ne.symm hi]) (by simp[bV3]) rfl rfl rfl rfl ?_
 rw[show(bV3 w L.blk o).heap[L.blk]? =some o by simp[bV3,hlt]]
 exact hx
theorem HR.map{b c:Nat}{es:List Ent}{L:Loc}(r:HR β ω K w0 h w)(hg:h.get b=some (.map es c))(hb:β b=some L):
 ∃E,w.heap[L.blk]? =some (.map E c)∧ERs β ω es E.toList:=r.blk b _ L hg hb
theorem O7{r c:Nat}{E:Array MapEntry}(hb:w.heap[r]? =some (.map E c)):(getObj r).run P w= .ok (.map E c) w:=by simp[getObj,Sem.run,hb]
theorem Q8{r c:Nat}{E:Array MapEntry}(o:Obj)(hb:w.heap[r]? =some (.map E c)):(setObj r o).run P w= .ok () (bV3 w r o):=by simp[setObj,Sem.run,hb,bV3]
theorem ce1{t:TypeId}{cs:List AV}{xs:Array Value}{off:Nat}{a:AV}(e:ae8 P t cs off=some a)(r:VRs β ω cs xs.toList)(w:World): ∃v,(part t xs off).run P w= .ok v w:=by
 obtain⟨v,_,hv⟩:=ac9 e r
 exact⟨v,hv w⟩
theorem aj4{t:TypeId}(hk:aF8 P t=true)(em:Bool)(n:Nat)(v:Value)(w:World):(Instr.checkKey em (n+1) t v).run P w= .ok () w:=by
 unfold aF8 at hk
 unfold Instr.checkKey
 split at hk<;>simp_all [Sem.run_bind,run_underlying]
theorem am3{α:Type}(g:α→PUnit→Sem (ForInStep PUnit))(w:World): ∀(l:List α),(∀f∈l,(g f ⟨⟩).run P w= .ok (.yield ⟨⟩) w)→(forIn l PUnit.unit g).run P w= .ok PUnit.unit w
 | [],_=>rfl
 |a::l,hg=>by
  rw[C4,Sem.run_bind,hg a (.head _)]
  simp only[Result.andThen_ok]
  exact am3 g w l fun f hf=>hg f (.tail _ hf)
theorem T0{kt:TypeId}{k:AV}{vk:Value}(e:aF9 P kt k=true)(rk:VR β ω k vk)(em:Bool)(w:World):(Instr.checkKey em 10000 kt vk).run P w= .ok () w:=by
 unfold aF9 at e
 split at e
 ·rename_i hk;exact aj4 (by unfold aF8;rw[hk]) em 9999 vk w
 ·rename_i hk;exact aj4 (by unfold aF8;rw[hk]) em 9999 vk w
 ·rename_i hk;exact aj4 (by unfold aF8;rw[hk]) em 9999 vk w
 ·rename_i fields cs hk
  simp only[VR]at rk;obtain⟨xs,rfl,rx⟩:=rk
  have hf: ∀f∈fields.toList,(∃a,ae8 P f.type cs f.offset=some a)∧aF8 P f.type=true:=by
   intro f hf
   have:=J5.1 e f (by simpa using hf)
   obtain⟨h1,h2⟩:=M6 (by simpa using this)
   exact⟨J4.1 h1,h2⟩
  unfold Instr.checkKey
  simp only[Sem.run_bind,M9 hk,Result.andThen_ok]
  rw[←Array.forIn_toList,am3]
  ·rfl
  ·intro f hm
   obtain⟨⟨a,ha⟩,hb⟩:=hf f hm
   obtain⟨v,hv⟩:=ce1 ha rx w
   by_cases hn:f.name= "_"
   ·simp[hn]
   ·simp[hn,hv,aj4 hb]
 ·cases e
theorem aU8{kt:TypeId}{a b:AV}{x y:Value}{r:Bool}{d:TypeDesc}{n:Nat}(hd:P.underlying kt=some d)(e:eqE P (n+1) kt a b=some r)(ra:VR β ω a x)(rb:VR β ω b y):
 Instr.sameNow d x y=none∨Instr.sameNow d x y=some r:=by
 have e':a44 P (eqE P n) kt a b=some r:=e
 unfold a44 at e'
 rw[hd]at e'
 cases d with
 |bool=>
  simp only[]at e'
  split at e'
  ·simp only[a8]at e';subst e'
   simp only[VR]at ra rb;subst ra rb;exact .inr rfl
  ·cases e'
 |int k=>
  simp only[]at e'
  split at e'
  ·rename_i k1 a1 k2 b1
   simp only[VR]at ra rb;subst ra rb
   split at e'
   ·rename_i hk;subst hk
    simp only[a8]at e';subst e'
    right;simp[Instr.sameNow,a09]
   ·cases e'
  ·rename_i k1 a1 k2 b1
   simp only[VR]at ra rb;subst ra rb
   split at e'
   ·rename_i hk;subst hk
    replace e':=M7 e'
    obtain⟨h1,h2⟩:=e'
    obtain rfl:=SX.beq_eq _ _ h1
    simp only[a8]at h2;subst h2
    right;simp[Instr.sameNow]
   ·cases e'
  ·cases e'
 |string=>
  simp only[]at e'
  split at e'
  ·simp only[a8]at e';subst e'
   simp only[VR]at ra rb;subst ra rb;right
   simp only[Instr.sameNow,af6,ac8]
  ·simp only[VR]at ra rb;subst ra rb
   replace e':=M7 e'
   obtain⟨h1,h2⟩:=e'
   obtain rfl:=SX.beq_eq _ _ h1
   simp only[a8]at h2;subst h2
   right;simp[Instr.sameNow,af6]
  ·cases e'
 |_=>left;cases x<;>rfl
def FR(β:Bij)(ω:Opq)(es:List Ent)(m:List MapEntry)(i:Nat):Option (Nat×Ent)→Option (Nat×Value)→Prop
 |none,r=>r=none
 |some (j,e),r=> ∃k v,r=some (i+j,v)∧es[j]? =some e∧m[j]? =some ⟨k,v,e.born⟩∧VR β ω e.key k∧VR β ω e.val v
theorem ce2{kt:TypeId}{k:AV}{vk:Value}{d:TypeDesc}(hd:P.underlying kt=some d)(rk:VR β ω k vk){es:List Ent}{m:List MapEntry}(r:ERs β ω es m): ∀(i i0:Nat) {x:Option (Nat×Ent)},al4 P kt k es i=some x→
 ∃x' v',(x=none∧x'=none∨ ∃j e,x=some (i+j,e)∧x'=some (j,e))∧FR β ω es m i0 x' v'∧(∀w,(Instr.findAsking kt vk m i0).run P w= .ok v' w)∧(Instr.findNow d vk m i0=none∨Instr.findNow d vk m i0=some v'):=by
 induction r with
 |nil=>
  intro i i0 x e
  simp only[al4,a8]at e;subst e
  exact⟨none,none,.inl ⟨rfl,rfl⟩,rfl,fun w=>rfl,.inr rfl⟩
 | @cons e es kk v m p q r ih=>
   intro i i0 x he
   simp only[al4]at he
   split at he
   ·rename_i heq
    simp only[a8]at he;subst he
    have h1: ∀w,(Op.equal kt vk kk).run P w= .ok true w:=aH3 10000 heq rk p
    refine⟨some (0,e),some (i0,v),.inr ⟨0,e,rfl,rfl⟩,⟨kk,v,by simp,rfl,rfl,p,q⟩,fun w=> ?_,?_⟩
    ·simp[Instr.findAsking,h1]
    ·rcases aU8 (n:=9999) hd heq rk p with hn|hn
     ·left;simp[Instr.findNow,hn]
     ·right;simp[Instr.findNow,hn]
   ·rename_i heq
    have h1: ∀w,(Op.equal kt vk kk).run P w= .ok false w:=aH3 10000 heq rk p
    obtain⟨x',v',hx,hf,ha,hn'⟩:=ih (i+1) (i0+1) he
    have hx2: ∃x2,(x=none∧x2=none∨ ∃j e',x=some (i+j,e')∧x2=some (j,e'))∧FR β ω (e::es) (⟨kk,v,e.born⟩::m) i0 x2 v':=by
     rcases hx with⟨rfl,rfl⟩|⟨j,e',rfl,rfl⟩
     ·exact⟨none,.inl ⟨rfl,rfl⟩,hf⟩
     ·obtain⟨k2,v2,e1,e2,e3,e4,e5⟩:=hf
      exact⟨some (j+1,e'),.inr ⟨j+1,e',by rw[l8,y6 1 j],rfl⟩,k2,v2,by rw[e1,l8,y6 1 j],by simpa using e2,by simpa using e3,e4,e5⟩
    obtain⟨x2,hx2,hf2⟩:=hx2
    refine⟨x2,v',hx2,hf2,fun w=> ?_,?_⟩
    ·simp[Instr.findAsking,h1,ha]
    ·rcases aU8 (n:=9999) hd heq rk p with hn|hn
     ·left;simp[Instr.findNow,hn]
     ·simp only[Instr.findNow,hn];exact hn'
   ·cases he
theorem T1{kt:TypeId}{k:AV}{vk:Value}(hk:aF9 P kt k=true)(rk:VR β ω k vk){es:List Ent}{m:List MapEntry}(r:ERs β ω es m){x:Option (Nat×Ent)}(e:al4 P kt k es 0=some x):
 ∃v',FR β ω es m 0 x v'∧ ∀w,(Instr.findKey kt vk m).run P w= .ok v' w:=by
 obtain⟨d,hd⟩: ∃d,P.underlying kt=some d:=by
  unfold aF9 at hk
  cases h:P.underlying kt with
  |none=>rw[h]at hk;simp at hk
  |some d=>exact⟨d,rfl⟩
 obtain⟨x',v',hx,hf,ha,hn⟩:=ce2 hd rk r 0 0 e
 have hxx:x=x':=by
  rcases hx with⟨rfl,rfl⟩|⟨j,e',rfl,rfl⟩
  ·rfl
  ·rw[i3]
 subst hxx
 refine⟨v',hf,fun w=> ?_⟩
 unfold Instr.findKey
 simp only[Sem.run_bind,M9 hd,Result.andThen_ok]
 rcases hn with hn|hn<;>rw[hn]
 ·exact ha w
 ·rfl
theorem aI0{a b:AV}{x y:Value}(n:Nat)(e:b79 a b=true)(ra:VR β ω a x)(rb:VR β ω b y):Instr.sameBits n x y=true:=by
 cases a<;>cases b<;>simp only[b79,i4,reduceCtorEq]at e<;>simp only[VR]at ra rb<;>subst ra rb
 ·cases n<;>simpa[Instr.sameBits]using e
 ·obtain⟨e1,e2⟩:=M6 e
  cases n<;>simp only[Instr.sameBits,e1,A6]<;>rw[←a09];exact e2;exact e2
 ·rw[ac8]at e
  cases n<;>simp only[Instr.sameBits,af6]<;>exact e
theorem aU9(n:Nat): ∀{a b:List AV} {x y:List Value},aY4 a b=true→VRs β ω a x→VRs β ω b y→x.length=y.length∧(x.zip y).all (fun p=>Instr.sameBits n p.1 p.2)=true
 | [],[],_,_,_,ra,rb=>by rw[ra,rb];exact⟨rfl,rfl⟩
 |_::_,[],_,_,e,_,_=>by cases e
 | [],_::_,_,_,e,_,_=>by cases e
 |a::l,b::m,_,_,e,⟨v,vr,rfl,p,q⟩,⟨u,ur,rfl,s,t⟩=>by
  simp only[aY4]at e
  obtain⟨e1,e2⟩:=M6 e
  obtain⟨h1,h2⟩:=aU9 n e2 q t
  exact⟨by simp[h1],by simp[aI0 n e1 p s,h2]⟩
theorem ce3{a b:AV}{x y:Value}(e:bO0 a b=true)(ra:VR β ω a x)(rb:VR β ω b y):Instr.sameBits 10000 x y=true:=by
 unfold bO0 at e
 split at e
 ·simp only[VR]at ra rb
  obtain⟨xs,rfl,ra⟩:=ra
  obtain⟨ys,rfl,rb⟩:=rb
  obtain⟨h1,h2⟩:=aU9 9999 e ra rb
  simp only[Array.length_toList]at h1
  show(xs.size==ys.size&&(xs.toList.zip ys.toList).all fun(x,y)=>Instr.sameBits 9999 x y)=true
  rw[h1];simpa using h2
 ·exact aI0 _ e ra rb
theorem bw1{a b:AV}{x y:Value}(e:bO0 a b=true)(ra:VR β ω a x)(rb:VR β ω b y)(w:World):(Instr.keyThatStays x y).run P w= .ok y w:=by
 simp[Instr.keyThatStays,ce3 e ra rb]
theorem ERs.set{es:List Ent}{m:List MapEntry}(r:ERs β ω es m){k v:AV}{vk vv:Value}(rk:VR β ω k vk)(rv:VR β ω v vv)(f:MapEntry→MapEntry):
 ∀(i:Nat) {e:Ent} {x:MapEntry},es[i]? =some e→m[i]? =some x→f x=⟨vk,vv,e.born⟩→ERs β ω (am0 es i ⟨k,v,e.born⟩) (m.modify i f):=by
 induction r with
 |nil=>intro i e x he;simp at he
 | @cons e' es kk v' m p q r ih=>
   intro i e x he hx hf
   cases i with
   |zero=>
    simp at he hx;subst he hx
    simp only[am0,List.modify_zero_cons,hf]
    exact .cons rk rv r
   |succ i=>
    simp at he hx
    simp only[am0,List.modify_succ_cons]
    exact .cons p q (ih i he hx hf)
theorem ERs.del{es:List Ent}{m:List MapEntry}(r:ERs β ω es m): ∀(i:Nat),ERs β ω (bu1 es i) (m.eraseIdx i):=by
 induction r with
 |nil=>intro i;exact .nil
 | @cons e' es kk v' m p q r ih=>
   intro i
   cases i with
   |zero=>exact r
   |succ i=>exact .cons p q (ih i)
theorem ERs.push{es:List Ent}{m:List MapEntry}(r:ERs β ω es m){k v:AV}{vk vv:Value}(rk:VR β ω k vk)(rv:VR β ω v vv)(b:Nat):ERs β ω (es++[⟨k,v,b⟩]) (m++[⟨vk,vv,b⟩]):=by
 induction r with
 |nil=>exact .cons rk rv .nil
 |cons p q r ih=>exact .cons p q ih
end Go.Ev
