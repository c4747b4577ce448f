import Derived.Test.YtbfbcanipfnfeaaE22b
set_option linter.unusedVariables false
set_option linter.unusedSimpArgs false
namespace Go.Ev
open Go
variable{E:Env}{β:Bij}{ω:Opq}{K:Nat→Prop}{w0 w:World}{h h':Heap}
variable{ops:Array Oper}{l r:List PO}{hs:Heap}{βs:Bij}
theorem FSq.step{a:Fr}{pend pend':List Pend}{bid bid':Nat→Nat}{β':Bij}{y:PO}{dst:Option Tmp}{v0:AV}(f:FSq E ω ops hs a h pend bid β y)(hl:a.nt≤256)(hr: ∀d∈Z0 ops.toList y.o,dst≠some d)
 (hd: ∀d,y.o.dst=some d→dst≠some d) (hpend: ∀p∈pend,p.i=y.i→p∈pend')
 (hna: ∀v,R9 y.o=false→aT3 E ω a.ev y.o h v→(∃p∈pend,p.i=y.i∧p.o=y.o∧p.v=v∧cV8 ω p)→aT3 E ω (a.put dst v0).ev y.o h' v)
 (hb:bid' y.i=bid y.i) (hst:St h β h' β'):FSq E ω ops hs (a.put dst v0) h' pend' bid' β' y:=by
 have hslot: ∀d,y.o.dst=some d→(a.put dst v0).slot d=a.slot d:=fun d h1=>by rw[Fr.put_slot hl,if_neg (fun hh=>hd d h1 hh.1)]
 rcases f with⟨h1,h2⟩|⟨h1,v,h2,⟨p,hp,p1,p2,p3,p4⟩,h4⟩
 ·left
  rw[U5 hl hr]
  exact⟨h1,fun d e hlt=>by rw[Fr.put_nt]at hlt;rw[hslot d e];exact h2 d e hlt⟩
 ·right
  rw[U5 hl hr]
  refine⟨h1,v,fun d e hlt=>by rw[Fr.put_nt]at hlt;rw[hslot d e];exact h2 d e hlt,⟨p,hpend p hp p1,p1,p2,p3,p4⟩,?_⟩
  rcases h4 with⟨g1,g2⟩|⟨g1,mk,blk,g2,g3,g4,g5,g6,g7⟩
  ·exact .inl ⟨g1,hna v g1 g2 ⟨p,hp,p1,p2,p3,p4⟩⟩
  ·right
   refine⟨g1,mk,blk,⟨fun h2=>by rw[by1 hl hr];exact g2.step h2,g2.nar⟩,by rw[hb];exact g3,by rw[hb];exact g4,by rw[hb];exact o7 g5 hst.le,by rw[hb,hst.ext _ g5];exact g6,?_⟩
   rw[hb]
   rcases hst.unm _ g5 g6 with hu|hu|⟨e,sg,l,hu⟩
   ·rw[hu];exact g7
   ·right;exact hu
   ·rw[hu]at g7
    rcases g7 with g7|g7
    ·simp only[a8]at g7;subst g7;have:=g2.nar;cases this
    ·cases g7
theorem DI.noX(hp:PlanOk ops.toList l r){done:Nat}{rest:List PO}{pend:List Pend}{a:Fr}{bid:Nat→Nat}{listed:Array Bool}{act:Act}
 (d:DI E ω K w0 ops l hs βs done rest pend a h bid listed β act w) {x:PO} (hx:x∈l) (hrdy: ∀j,x.m.testBit j=true→Lis listed j):
 ∀t∈Z0 ops.toList x.o,¬(∃y∈l,done.testBit y.i=true∧ ¬Lis listed y.i∧y.o.dst=some t∧t<a.nt):=by
 rintro t ht ⟨y,hy,h1,h2,h3,h4⟩
 rcases hp.slots x hx t ht y hy h3 with h5|⟨h5,h6⟩
 ·exact h2 (hrdy _ h5)
 ·have:=(d.fl y hy h1 h2).1
  rw[h5]at this;cases this
theorem DI.opRX(hp:PlanOk ops.toList l r){done:Nat}{rest:List PO}{pend:List Pend}{a:Fr}{bid:Nat→Nat}{listed:Array Bool}{act:Act}
 (d:DI E ω K w0 ops l hs βs done rest pend a h bid listed β act w) {x:PO} (hx:x∈l) (hrdy: ∀j,x.m.testBit j=true→Lis listed j):
 ∀y∈x.o.op.operands,∀v,a.ev y=some v→VR β ω v (act.eval y):=
 fun y hy v e=>d.fr.evs y (fun t ht=>d.noX hp hx hrdy t (a74 (ht▸hy))) v e
theorem DI.wantedX(hp:PlanOk ops.toList l r){done:Nat}{rest:List PO}{pend:List Pend}{a:Fr}{bid:Nat→Nat}{listed:Array Bool}{act:Act}
 (d:DI E ω K w0 ops l hs βs done rest pend a h bid listed β act w) {x:PO} (hx:x∈l) (hrdy: ∀j,x.m.testBit j=true→Lis listed j) {b:Bool} (e:P6 ops.toList a x.o=some b):
 Region.wanted x.o (yielded ops act.tmps)=b:=
 bc4 d.fr rfl e fun j want g dd h1 h2 h3=>d.noX hp hx hrdy dd (ar8 h1 h2 h3)
theorem DI.late(hE:E.Ok ω)(hp:PlanOk ops.toList l r){done:Nat}{rest:List PO}{pend:List Pend}{a:Fr}{bid:Nat→Nat}{listed:Array Bool}{act:Act}{Q:Exit→Act→World→Prop}{next:Act→World→Prop}
 (d:DI E ω K w0 ops l hs βs done rest pend a h bid listed β act w) {x:PO} (hx:x∈l) (hrdy: ∀j,x.m.testBit j=true→Lis listed j) (hD:done.testBit x.i=true) (hC: ¬Lis listed x.i)
 (hk: ∀β' act' w',DI E ω K w0 ops l hs βs done rest pend a h bid (listed.setIfInBounds x.i true) β' act' w'→next act' w') {ro:Option Nat}:wpOpIn (Fen ro) 0 E.P ops Q x.i next act w:=by
 obtain⟨o,ho,ho2,hfl⟩:=hp.get x hx
 have hox:ops[x.i]? =some x.o:=by rw[ho2,←ho];simp
 have hsz:x.i<listed.size:=by
  rw[d.lsz]
  rcases d8 x.i ops.size with hh|hh
  ·exact hh
  ·rw[s6 hh]at hox;cases hox
 obtain⟨hf,hfs⟩:=d.fl x hx hD hC
 have base: ∀(β':Bij) (u:Value) (w':World),HR β' ω K w0 h w'→St hs βs h β'→Le β β'→(∀dd,x.o.dst=some dd→dd<a.nt→VR β' ω (a.slot dd) u)→
  (∀y∈l,done.testBit y.i=true→ ¬Lis listed y.i→y≠x→FSq E ω ops hs a h pend bid β' y)→
  DI E ω K w0 ops l hs βs done rest pend a h bid (listed.setIfInBounds x.i true) β' (act.put x.o.dst u) w':=by
  intro β' u w' h1 h2 h3 h4 h5
  have hne: ∀y∈l,¬Lis (listed.setIfInBounds x.i true) y.i→ ¬Lis listed y.i∧y≠x:=by
   intro y hy hn
   rw[aa3 hsz]at hn
   exact⟨fun hh=>hn (.inl hh),fun hh=>hn (.inr (by rw[hh]))⟩
  refine⟨h1,h2,by simp[d.lsz],?_,?_,d.dm,d.eg,d.rl,d.rd,?_,?_,?_⟩
  ·intro y hy hl
   rcases(aa3 hsz).1 hl with hh|hh
   ·exact d.cd y hy hh
   ·rw[hh];exact hD
  ·intro y hy hl j hj
   rw[aa3 hsz]
   rcases(aa3 hsz).1 hl with hh|hh
   ·exact .inl (d.cm y hy hh j hj)
   ·have:=hp.uniq y hy x hx hh
    subst this
    exact .inl (hrdy j hj)
  ·refine((d.fr.mono h3).behind x.o.dst h4).weaken ?_
   rintro t ⟨⟨y,hy,g1,g2,g3,g4⟩,g5⟩
   refine⟨y,hy,g1,?_,g3,g4⟩
   rw[aa3 hsz]
   rintro(hh|hh)
   ·exact g2 hh
   ·have:=hp.uniq y hy x hx hh
    subst this
    exact g5 ⟨g3,g4⟩
  ·intro y hy g1 g2
   obtain⟨g3,g4⟩:=hne y hy g2
   exact⟨(d.fl y hy g1 g3).1,h5 y hy g1 g3 g4⟩
  ·intro y hy z hz g1 g2 g3 g4
   exact d.inj y hy z hz g1 (hne y hy g2).1 g3 (hne z hz g4).1
 unfold wpOpIn
 rw[hox]
 simp only[]
 rcases hfs with⟨hw,hv⟩|⟨hw,v,hv,hpe,hps⟩
 ·rw[d.wantedX hp hx hrdy hw]
  simp only[i4,if_false]
  refine⟨fun _ _=>trivial,?_⟩
  exact hk _ _ _ (base β Go.undef w d.hr d.st (Le.refl _) (fun dd e hlt=>by rw[hv dd e hlt];exact⟨#[],rfl,rfl⟩) fun y hy g1 g2 _=>(d.fl y hy g1 g2).2)
 ·rw[d.wantedX hp hx hrdy hw]
  simp only[if_true]
  rcases hps with⟨ha,hstep⟩|⟨ha,mk,blk,hA,hvb,b1,b2,b3,b4⟩
  ·have hok:=aW2 hE d.hr x.o (d.opRX hp hx hrdy)
   have hnd: ∀c,x.o.op≠ .defer c:=by
    rcases hstep with hstep|⟨e,hstep,hd⟩
    ·exact bZ9 hstep nofun nofun
    ·exact bZ9 hstep nofun nofun
   have hok:W2 E β ω K w0 w h (execOp act.eval x.o) v h:=by
    rcases hstep with hstep|⟨e,hstep,hd⟩
    ·rw[hstep]at hok;exact hok
    ·rw[hstep]at hok;exact hok hd
   refine ak0 hnd hok fun β' u w' hv' hr' hst'=>hk _ _ _ (base β' u w' hr' (d.st.trans hst') (hst'.Le d.hr) (fun dd e hlt=>by rw[hv dd e hlt];exact hv') ?_)
   intro y hy g1 g2 _
   rcases(d.fl y hy g1 g2).2 with q|⟨q1,v',q2,q3,q4⟩
   ·exact .inl q
   ·refine .inr ⟨q1,v',q2,q3,b98 id ?_ q4⟩
    rintro⟨z1,mk,blk,z2,z3,z4,z5,z6,z7⟩
    exact⟨z1,mk,blk,z2,z3,z4,z5,by rw[hst'.ext _ z5];exact z6,z7⟩
  ·obtain⟨mk',x',hA',-,-,hV⟩:=bx6 (β:=β) (ω:=ω) (ρ:=act.eval) ha (hA.step h)
   obtain⟨e1,e2⟩:=hA.uniq hA'
   subst e1
   obtain⟨mkV,obj,ext,hV⟩:=hV (d.opRX hp hx hrdy)
   have hle:Le β (β.add (bid x.i) ⟨w.heap.size,0,ext⟩):=by
    intro b' M hb'
    simp only[Bij.add]
    by_cases e:b'=bid x.i
    ·subst e;rw[b3]at hb';cases hb'
    ·rw[if_neg e];exact hb'
   have hr':=d.hr.adopt (bid x.i) obj blk ext b3 b2 b4 (hV.blk _ _ hle)
   have hval:VR (β.add (bid x.i) ⟨w.heap.size,0,ext⟩) ω v (mkV w.heap.size):=by
    rw[hvb,e2];exact hV.val _ _ _ (Bij.add_self _ _ _)
   have hrun:=hV.run w
   refine ax2 (fun c hc=>by unfold R9 at ha;rw[hc]at ha;cases ha) hrun ?_
   refine hk _ _ _ (base _ _ _ hr' ?_ hle (fun dd e hlt=>by rw[hv dd e hlt];exact hval) ?_)
   ·refine⟨d.st.le,fun b hb=> ?_,d.st.unm,d.st.wm⟩
    simp only[Bij.add]
    rw[if_neg (by omega)]
    exact d.st.ext b hb
   ·intro y hy g1 g2 hne
    rcases(d.fl y hy g1 g2).2 with q|⟨q1,v',q2,q3,q4⟩
    ·exact .inl q
    ·refine .inr ⟨q1,v',q2,q3,b98 id ?_ q4⟩
     rintro⟨z1,mk,blk,z2,z3,z4,z5,z6,z7⟩
     refine⟨z1,mk,blk,z2,z3,z4,z5,?_,z7⟩
     simp only[Bij.add]
     rw[if_neg]
     ·exact z6
     ·exact d.inj y hy x hx g1 g2 hD hC z1 ha q1 hw hne
end Go.Ev
