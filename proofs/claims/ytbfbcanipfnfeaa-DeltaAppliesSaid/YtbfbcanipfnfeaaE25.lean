import Derived.Test.YtbfbcanipfnfeaaE24
set_option linter.unusedVariables false
set_option linter.unusedSimpArgs false
namespace Go.Ev
open Go
variable{E:Env}{β:Bij}{ω:Opq}{K:Nat→Prop}{w0 w:World}{h h':Heap}
variable{ops:Array Oper}{l r:List PO}{hs:Heap}{βs:Bij}
section
variable{done:Nat}{rest:List PO}{pend:List Pend}{a:Fr}{bid:Nat→Nat}{listed:Array Bool}{act:Act}
variable{R:Type}{A:Alg R}{T:R→Prop}
theorem DI.link1(hA:AlgOk A T ω)(hE:E.Ok ω)(hp:PlanOk ops.toList l r){x:PO}(hf:x.fl=false)(d:DI E ω K w0 ops l hs βs done (x::rest) pend a h bid listed β act w){ro:Option Nat}{n:Nat}(hc:GoS E ω n){k:Fr→Heap→R}
 {b:Bool} (hw:P6 ops.toList a x.o=some b) (he:T (ev E (n+1) R A (.dops ops.toList (x::rest) pend a h k))) (hrdy: ∀j,x.m.testBit j=true→Lis listed j) {Q:Exit→Act→World→Prop} {next:Act→World→Prop}
 (hk: ∀pend' a' h' β' act' w',T (ev E n R A (.dops ops.toList rest pend' a' h' k))→DI E ω K w0 ops l hs βs (done|||2^x.i) rest pend' a' h' bid (listed.setIfInBounds x.i true) β' act' w'→next act' w'):
 wpOpIn (Fen ro) 0 E.P ops Q x.i next act w:=by
 obtain⟨hx,hnd,hm,eg',rl',rd',dm',cd'⟩:=d.doneMore hp
 obtain⟨o,ho,ho2,hfl⟩:=hp.get x hx
 have hlim:=d.fr.lim
 have hox:ops[x.i]? =some x.o:=by rw[ho2,←ho];simp
 have hsz:x.i<listed.size:=by
  rw[d.lsz]
  rcases d8 x.i ops.size with hh|hh
  ·exact hh
  ·rw[s6 hh]at hox;cases hox
 have hCx: ¬Lis listed x.i:=fun hh=>by rw[d.cd x hx hh]at hnd;cases hnd
 have hother: ∀y∈l,done.testBit y.i=true→ ¬Lis listed y.i→(∀t∈Z0 ops.toList y.o,x.o.dst≠some t)∧(∀t,y.o.dst=some t→x.o.dst≠some t):=by
  intro y hy hyd hyc
  refine⟨fun t ht hd=> ?_,fun t h1 h2=> ?_⟩
  ·rcases hp.slots y hy t ht x hx hd with h1|⟨_,h1⟩
   ·rw[d.dm y hy hyd _ h1]at hnd;cases hnd
   ·exact hyc (hrdy _ h1)
  ·have:=hp.once y hy x hx t h1 h2
   subst this
   rw[hyd]at hnd;cases hnd
 have hcase: ∀y∈l,(done|||2^x.i).testBit y.i=true→ ¬Lis (listed.setIfInBounds x.i true) y.i→y≠x∧done.testBit y.i=true∧ ¬Lis listed y.i:=by
  intro y hy hb hn
  rw[aa3 hsz]at hn
  have hne:y≠x:=fun hh=>hn (.inr (by rw[hh]))
  rcases(ag5 _ _ _).1 hb with hb1|hb1
  ·exact⟨hne,hb1,fun hh=>hn (.inl hh)⟩
  ·exact absurd (hp.uniq y hy x hx hb1) hne
 have fin: ∀(pend':List Pend) (v:AV) (u:Value) (h':Heap) (β':Bij) (w':World),VR β' ω v u→HR β' ω K w0 h' w'→St h β h' β'→(∀p∈pend,¬x.m.testBit p.i=true→p∈pend')→
  (∀y∈l,done.testBit y.i=true→ ¬Lis listed y.i→ ∀v',R9 y.o=false→aT3 E ω a.ev y.o h v'→(∃p∈pend,p.i=y.i∧p.o=y.o∧p.v=v'∧cV8 ω p)→aT3 E ω (a.put x.o.dst v).ev y.o h' v')→
  DI E ω K w0 ops l hs βs (done|||2^x.i) rest pend' (a.put x.o.dst v) h' bid (listed.setIfInBounds x.i true) β' (act.put x.o.dst u) w':=by
  intro pend' v u h' β' w' h1 h2 h3 h4 h5
  refine⟨h2,d.st.trans h3,by simp[d.lsz],?_,?_,dm',eg',rl',rd',?_,?_,?_⟩
  ·intro y hy hl
   rw[ag5]
   rcases(aa3 hsz).1 hl with hh|hh
   ·exact .inl (d.cd y hy hh)
   ·exact .inr hh
  ·intro y hy hl j hj
   rw[aa3 hsz]
   rcases(aa3 hsz).1 hl with hh|hh
   ·exact .inl (d.cm y hy hh j hj)
   ·have:=hp.uniq y hy x hx hh
    subst this
    exact .inl (hrdy j hj)
  ·refine((d.fr.mono (h3.Le d.hr)).put x.o.dst h1).weaken ?_
   rintro t ⟨⟨y,hy,g1,g2,g3,g4⟩,g5⟩
   refine⟨y,hy,(ag5 _ _ _).2 (.inl g1),?_,g3,by rw[Fr.put_nt];exact g4⟩
   rw[aa3 hsz]
   rintro(hh|hh)
   ·exact g2 hh
   ·have:=hp.uniq y hy x hx hh
    subst this
    exact g5 ⟨g3,g4⟩
  ·intro y hy g1 g2
   obtain⟨yn,y1,y2⟩:=hcase y hy g1 g2
   obtain⟨q1,q2⟩:=d.fl y hy y1 y2
   exact⟨q1,q2.step hlim (hother y hy y1 y2).1 (hother y hy y1 y2).2 (fun p hp hpi=>h4 p hp (fun hh=>y2 (hrdy _ (hpi▸hh)))) (h5 y hy y1 y2) rfl h3⟩
  ·intro y hy z hz g1 g2 g3 g4 q1 q2 q3 q4 hne
   obtain⟨yn,y1,y2⟩:=hcase y hy g1 g2
   obtain⟨zn,z1,z2⟩:=hcase z hz g3 g4
   rw[U5 hlim (hother y hy y1 y2).1]at q3
   rw[U5 hlim (hother z hz z1 z2).1]at q4
   exact d.inj y hy z hz y1 y2 z1 z2 q1 q2 q3 q4 hne
 replace he:T (bH2 E (ev E n) A ops.toList x rest pend a h k (P6 ops.toList a x.o)):=he
 unfold wpOpIn
 rw[hox]
 simp only[]
 ·rw[hw]at he
  rw[d.wantedX hp hx hrdy hw]
  cases b with
  |false=>
   simp only[i4,if_false]
   refine⟨fun _ _=>trivial,?_⟩
   exact hk _ _ _ _ _ _ he (fin pend .undef Go.undef h β w ⟨#[],rfl,rfl⟩ d.hr (.refl _ _) (fun p hp _=>hp) fun y hy y1 y2 v' _ hv _=>ar9 hlim (hother y hy y1 y2).1 hv)
  |true=>
   simp only[if_true]
   simp only[bH2,hf,cond_false]at he
   refine cV7 hA hc d.hr rfl (aW2 hE d.hr x.o (d.opRX hp hx hrdy)) he ?_
   intro β' v u h' w' hkd hv hr' hst'
   simp only[dd4]at hkd
   obtain⟨hre,he2⟩:aa2 E (a.put x.o.dst v) h' (pend.filter fun p=> !(x.m.testBit p.i))=true∧T (ev E n R A (.dops ops.toList rest (pend.filter fun p=> !(x.m.testBit p.i)) (a.put x.o.dst v) h' k)):=by
    cases hcc:aa2 E (a.put x.o.dst v) h' (pend.filter fun p=> !(x.m.testBit p.i))with
    |false=>rw[hcc]at hkd;exact absurd hkd hA.bad
    |true=>rw[hcc]at hkd;exact⟨rfl,hkd⟩
   refine hk _ _ _ _ _ _ he2 (fin _ v u h' β' w' hv hr' hst' (fun p hp hn=>x8.2 ⟨hp,by simpa using hn⟩) fun y hy y1 y2 v' hna _ hpe=> ?_)
   obtain⟨oy,_,hyo,hyf⟩:=hp.get y hy
   obtain⟨p,hpm,p1,p2,p3,p4⟩:=hpe
   refine as0 hre (by rw[hyo,←hyf];exact(d.fl y hy y1 y2).1) hna ⟨p,x8.2 ⟨hpm,?_⟩,p1,p2,p3,p4⟩
   rw[p1]
   cases hh:x.m.testBit y.i with
   |false=>rfl
   |true=>exact absurd (hrdy _ hh) y2
theorem DI.link(hA:AlgOk A T ω)(hE:E.Ok ω)(hp:PlanOk ops.toList l r){x:PO}(hf:x.fl=false){k:Fr→Heap→R}(hrdy: ∀j,x.m.testBit j=true→Lis listed j){Q:Exit→Act→World→Prop}{next:Act→World→Prop}{ro:Option Nat}:
 ∀(n:Nat) (a:Fr),(∀m,m<n→GoS E ω m)→DI E ω K w0 ops l hs βs done (x::rest) pend a h bid listed β act w→T (ev E n R A (.dops ops.toList (x::rest) pend a h k))→
 (∀m pend' a' h' β' act' w',m<n→T (ev E m R A (.dops ops.toList rest pend' a' h' k))→DI E ω K w0 ops l hs βs (done|||2^x.i) rest pend' a' h' bid (listed.setIfInBounds x.i true) β' act' w'→next act' w')→
 wpOpIn (Fen ro) 0 E.P ops Q x.i next act w
 |0,a,hc,d,he,hk=>absurd he hA.bad
 |n+1,a,hc,d,he,hk=>by
  cases hw:P6 ops.toList a x.o with
  |some b=>exact d.link1 hA hE hp hf (hc n (by omega)) hw he hrdy fun pend' a' h' β' act' w' g1 g2=>hk n pend' a' h' β' act' w' (by omega) g1 g2
  |none=>
   replace he:T (bH2 E (ev E n) A ops.toList x rest pend a h k (P6 ops.toList a x.o)):=he
   rw[hw]at he
   replace he:T (bk8 (ev E n) A ops.toList (x::rest) pend a h k (b90 ops.toList a x.o)):=he
   cases hs:b90 ops.toList a x.o with
   |none=>rw[hs]at he;exact absurd he hA.bad
   |some e=>
    rw[hs]at he
    obtain⟨h1,h2⟩:=hA.ite _ _ _ he
    cases hd:dB ω e with
    |true=>exact DI.link hA hE hp hf hrdy n _ (fun m hm=>hc m (by omega)) (d.cond hd) (h1 hd) fun m pend' a' h' β' act' w' g0 g1 g2=>hk m pend' a' h' β' act' w' (by omega) g1 g2
    |false=>exact DI.link hA hE hp hf hrdy n _ (fun m hm=>hc m (by omega)) (d.cond hd) (h2 hd) fun m pend' a' h' β' act' w' g0 g1 g2=>hk m pend' a' h' β' act' w' (by omega) g1 g2
end
theorem aL6{listed:Array Bool}{i:Nat}:i∈Region.ready .any ops listed↔i<ops.size∧listed.getD i true=false∧ ∃o,ops[i]? =some o∧ ∀e∈o.after.toList,a07 e=true→Lis listed e.on:=by
 unfold Region.ready
 rw[x8,r6]
 refine and_congr_right fun hi=> ?_
 rw[d6,m6]
 refine and_congr_right fun _=> ?_
 have a35:ops[i]? =some ops[i]:=p7 hi
 rw[a35]
 simp only[Option.map_some,Option.getD_some,a8,exists_eq_left']
 rw[←Array.all_toList,i6]
 refine forall_congr' fun e=>forall_congr' fun _=> ?_
 have hb:Region.binds .any e=a07 e:=by
  unfold Region.binds a07
  cases e.ground<;>rfl
 rw[hb,j8,m6]
 constructor
 ·rintro(h1|h1) h2
  ·rw[h1]at h2;cases h2
  ·exact h1
 ·intro h1
  cases hh:a07 e with
  |false=>exact .inl rfl
  |true=>exact .inr (h1 hh)
def left(listed:Array Bool):Nat:=(listed.toList.filter (fun b=> !b)).length
theorem ci4{listed:Array Bool}{i:Nat}(h:listed.getD i true=false):left (listed.setIfInBounds i true)+1=left listed:=by
 have hi:i<listed.size:=by
  rcases d8 i listed.size with hh|hh
  ·exact hh
  ·simp[k7,s6 hh]at h
 have hv:listed.toList[i]? =some false:=by
  rw[k7,p7 hi]at h
  simp at h
  simp[hi,h]
 unfold left
 rw[Array.toList_setIfInBounds]
 have main: ∀(xs:List Bool) (i:Nat),xs[i]? =some false→((xs.set i true).filter (fun b=> !b)).length+1=(xs.filter (fun b=> !b)).length:=by
  intro xs
  induction xs with
  |nil=>intro i h;simp at h
  |cons b r ih=>
   intro i h
   cases i with
   |zero=>simp at h;subst h;simp
   |succ i=>
    simp at h
    have:=ih i h
    cases b<;>simp[y9]<;>omega
 exact main _ _ hv
end Go.Ev
