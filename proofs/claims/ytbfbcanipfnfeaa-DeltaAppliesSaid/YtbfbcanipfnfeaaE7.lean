import Derived.Test.YtbfbcanipfnfeaaE6
set_option linter.unusedVariables false
set_option linter.unusedSimpArgs false
namespace Go.Ev
open Go
variable{P:Program}{β:Bij}{ω:Opq}{K:Nat→Prop}{w0 w:World}{h h':Heap}
theorem a41{b o:Nat}{C:Array Value}{e:TypeId}{fr:Nat×Nat}(hb:w.heap[b]? =some (.cells C e fr)):w.cell? ⟨b,o,none⟩=C[o]? :=by
 simp[World.cell?,hb]
theorem a28{b o:Nat}{C:Array Value}{e:TypeId}{lo hi:Nat}(hb:w.heap[b]? =some (.cells C e (lo,hi)))(hn: ¬(lo≤o∧o<hi)):w.frozen? ⟨b,o,none⟩=false:=by
 simp only[World.frozen?,hb]
 cases hh:(decide (lo≤o)&&decide (o<hi))with
 |false=>rfl
 |true=>exact absurd (by simpa using hh) hn
theorem a54(b:Nat)(e:TypeId)(fr:Nat×Nat): ∀(us:List Value) (o:Nat) (w:World) (C:Array Value),w.heap[b]? =some (.cells C e fr)→
 ∃C',(w.setCells b o us).heap[b]? =some (.cells C' e fr)∧C'.size=C.size∧ ∀i,i<C.size→C'[i]? =if o≤i∧i<o+us.length then us[i-o]? else C[i]?
 | [],o,w,C,hb=>⟨C,hb,rfl,fun i _=>by rw[if_neg (by simp)]⟩
 |u::us,o,w,C,hb=>by
  have h1:(w.setCell ⟨b,o,none⟩ u).heap[b]? =some (.cells (C.setIfInBounds o u) e fr):=by
   simp[World.setCell,D7,hb]
  obtain⟨C',h2,h3,h4⟩:=a54 b e fr us (o+1) _ _ h1
  refine⟨C',h2,by simpa using h3,fun i hi=> ?_⟩
  rw[h4 i (by simpa using hi)]
  simp only[List.length_cons]
  by_cases e1:i=o
  ·subst e1
   rw[if_neg (by omega),if_pos (by omega)]
   simp[hi]
  ·by_cases e2:o≤i∧i<o+(us.length+1)
   ·rw[if_pos (by omega),if_pos e2]
    obtain⟨k,rfl⟩: ∃k,i=o+1+k:=⟨i-(o+1),by omega⟩
    rw[show o+1+k-(o+1)=k by omega,show o+1+k-o=k+1 by omega]
    simp
   ·rw[if_neg (by omega),if_neg e2]
    simp[A4,Ne.symm e1]
theorem a20(b:Nat): ∀(us:List Value) (o:Nat) (w:World) (i:Nat),i≠b→(w.setCells b o us).heap[i]? =w.heap[i]?
 | [],_,_,_,_=>rfl
 |u::us,o,w,i,hi=>by
  show((w.setCell ⟨b,o,none⟩ u).setCells b (o+1) us).heap[i]? =_
  rw[a20 b us (o+1) _ i hi]
  exact RowKit.Below.heap_setCell _ _ _ _ hi
theorem a56(b:Nat): ∀(us:List Value) (o:Nat) (w:World),(w.setCells b o us).heap.size=w.heap.size∧(w.setCells b o us).os=w.os∧(w.setCells b o us).tape=w.tape∧(w.setCells b o us).output=w.output
 | [],_,_=>⟨rfl,rfl,rfl,rfl⟩
 |u::us,o,w=>by
  obtain⟨h1,h2,h3,h4⟩:=a56 b us (o+1) (w.setCell ⟨b,o,none⟩ u)
  exact⟨h1.trans (World.size_setCell _ _ _),h2,h3,h4⟩
theorem a21(b:Nat): ∀(us:List Value) (o:Nat) (w:World),(w.setCells b o us).drawn=w.drawn
 | [],_,_=>rfl
 |u::us,o,w=>by
  have h1:=a21 b us (o+1) (w.setCell ⟨b,o,none⟩ u)
  exact h1
theorem bl4{vs:List AV}{us:List Value}(ho:vs.all AV.one=true)(r:VRs β ω vs us): ∀v∈us,v.oneCell'=true:=by
 induction vs generalizing us with
 |nil=>rw[show us=[]from r];simp
 |cons a b ih=>
  obtain⟨v,vr,rfl,p,q⟩:=r
  simp only[List.all_cons,d6]at ho
  intro x hx
  simp only[l5]at hx
  rcases hx with rfl|hx
  ·exact VR.one p ho.1
  ·exact ih ho.2 q x hx
theorem W8{b e fz o n:Nat}{cs:List AV}{L:Loc}(r:HR β ω K w0 h w)(hg:h.get b=some (.cells e fz cs))(hb:β b=some L)(hn:o+n≤cs.length):
 ∃us,VRs β ω ((cs.drop o).take n) us∧us.length=n∧(∀j v,us[j]? =some v→w.cell? ⟨L.blk,L.off+o+j,none⟩=some v):=by
 obtain⟨C,lo,hi,vs,h1,h2,h3,h4,h5,h6,h7⟩:=r.cells hg hb
 have hl:=h5.length
 refine⟨(vs.drop o).take n,(h5.drop o).take n,by simp;omega,fun j v hj=> ?_⟩
 rw[a41 h1]
 have hjn:j<n:=by
  rcases d8 j n with hh|hh
  ·exact hh
  ·rw[n8,if_neg (by omega)]at hj;cases hj
 rw[n8,if_pos hjn,o9]at hj
 rw[show L.off+o+j=L.off+(o+j) by omega,h6 (o+j) (by omega)]
 exact hj
theorem aB3{b e fz o n:Nat}{cs:List AV}{L:Loc}(r:HR β ω K w0 h w)(hg:h.get b=some (.cells e fz cs))(hb:β b=some L)(hn:o+n≤cs.length):
 ∃us,VRs β ω ((cs.drop o).take n) us∧us.length=n∧(loadCells ⟨L.blk,L.off+o,none⟩ n).run P w= .ok us.toArray w:=by
 obtain⟨us,h1,h2,h3⟩:=W8 r hg hb hn
 refine⟨us,h1,h2,?_⟩
 have:=run_loadCells_list (P:=P) w ⟨L.blk,L.off+o,none⟩ us (fun j v hj=>by rw[U7];exact h3 j v hj)
 rw[h2]at this;exact this
theorem bv8{t:TypeId}{x a:AV}{vx:Value}(r:HR β ω K w0 h w)(e:bN7 P t x h=some a)(rx:VR β ω x vx): ∃v,VR β ω a v∧(Instr.loadAt t vx).run P w= .ok v w:=by
 unfold bN7 at e
 split at e
 ·rename_i b o
  split at e
  ·rename_i el fz cs hg
   simp only[VR]at rx;obtain⟨L,hL,rfl⟩:=rx
   unfold ae8 at e
   split at e
   ·rename_i n h1 h2
    obtain⟨hc,e⟩:=M7 e
    rw[N1]at hc
    simp only[a8]at e;subst e
    obtain⟨us,r1,r2,r3⟩:=aB3 (P:=P) r hg hL hc
    exact⟨.agg us.toArray,⟨_,rfl,r1⟩,by simp only[Instr.loadAt,Instr.sureAddr,Sem.run_bind,Sem.run_pure,Result.andThen_ok,loadVar,ac7 h1,if_true,O2 h2,r3]⟩
   ·rename_i n h1 h2
    obtain⟨C,lo,hi,vs,q1,q2,q3,q4,q5,q6,q7⟩:=r.cells hg hL
    obtain⟨y,hy,ry⟩:=q5.get o a e
    have hlt:o<cs.length:=by
     rcases d8 o cs.length with hh|hh
     ·exact hh
     ·rw[j7 hh]at e;cases e
    have hcell:w.cell? ⟨L.blk,L.off+o,none⟩=some y:=by rw[a41 q1,q6 o hlt,hy]
    exact⟨y,ry,by simp[Instr.loadAt,Instr.sureAddr,loadVar,ac7 h1,hcell]⟩
   ·cases e
  ·cases e
 ·cases e
theorem Y1{b o:Nat}{vs:List AV}{us:List Value}{L:Loc}(r:HR β ω K w0 h w)(e:putCells h b o vs=some h')(hb:β b=some L)(rv:VRs β ω vs us):
 (storeCells ⟨L.blk,L.off+o,none⟩ us).run P w= .ok () (w.setCells L.blk (L.off+o) us)∧HR β ω K w0 h' (w.setCells L.blk (L.off+o) us)∧St h β h' β:=by
 unfold putCells at e
 split at e
 ·simp only[a8]at e;subst e
  rw[show us=[]from rv]
  exact⟨rfl,r,.refl _ _⟩
 ·split at e
  ·rename_i el fz cs hg
   obtain⟨hc,e⟩:=M7 e
   obtain⟨hc,c4⟩:=M6 hc
   obtain⟨hc,c3⟩:=M6 hc
   obtain⟨c1,c2⟩:=M6 hc
   rw[N1]at c1 c2 c3
   simp only[a8]at e;subst e
   obtain⟨C,lo,hi,xs,q1,q2,q3,q4,q5,q6,q7⟩:=r.cells hg hb
   have hl:=rv.length
   have hx:=q5.length
   obtain⟨C',s1,s2,s3⟩:=a54 L.blk el (lo,hi) us (L.off+o) w C q1
   obtain⟨t1,t2,t3,t4⟩:=a56 L.blk us (L.off+o) w
   refine⟨?_,?_⟩
   ·have:=run_storeCells_cells (P:=P) L.blk (L.off+o) us 0 w
     (fun j hj=>by
      rw[a41 q1]
      have:L.off+o+0+j<C.size:=by omega
      rw[p7 this];rfl)
     (fun j hj=>a28 q1 (by have:=q7 (o+j) (by omega) (by omega);rw[show L.off+o+0+j=L.off+(o+j) by omega];exact this))
     (bl4 c4 rv)
    simpa using this
   ·refine HR.upd r b _ _ L hg hb c1 (fun i hi=>a20 L.blk us (L.off+o) w i hi) t1 t2 t3 t4 (a21 _ _ _ _) ?_
    rw[s1]
    refine⟨C',lo,hi,xs.take o++us++xs.drop (o+us.length),rfl,by omega,by rw[ar0 c3];exact q3,?_,aU6 o q5 rv,fun i hi'=> ?_,q7,r.head hg hb⟩
    ·simp only[a03,B2,d6]
     refine⟨⟨?_,aG9 c4⟩,?_⟩
     ·exact i6.2 fun x hx'=>i6.1 q4 x (J6 hx')
     ·exact i6.2 fun x hx'=>i6.1 q4 x (List.mem_of_mem_drop hx')
    ·rw[ar0 c3]at hi'
     rw[s3 (L.off+i) (by omega)]
     by_cases g:o≤i∧i<o+us.length
     ·rw[if_pos (by omega),show L.off+i-(L.off+o)=i-o by omega]
      rw[r7,j3 (by simp;omega)]
      rw[show i-(List.take o xs).length=i-o by simp;omega]
      rw[j5 (by omega)]
     ·rw[if_neg (by omega),q6 i hi']
      rcases d8 i o with g1|g1
      ·rw[r7,j5 (by simp;omega),n8,if_pos g1]
      ·rw[j3 (by simp;omega),o9]
       congr 1
       simp;omega
  ·cases e
theorem ba4{t:TypeId}{x v:AV}{vx vv:Value}(r:HR β ω K w0 h w)(e:b78 P t x v h=some h')(rx:VR β ω x vx)(rv:VR β ω v vv):
 ∃w',(Instr.storeAt t vx vv).run P w= .ok () w'∧HR β ω K w0 h' w'∧St h β h' β:=by
 unfold b78 at e
 split at e
 ·rename_i b o n hn
  obtain⟨hc,e⟩:=M7 e
  obtain⟨h0,hc⟩:=M6 hc
  rw[M8]at hc
  simp only[VR]at rx;obtain⟨L,hL,rfl⟩:=rx
  have rc:=VR.cells rv h0
  obtain⟨p1,p2,p3⟩:=Y1 (P:=P) r e hL rc
  refine⟨_,?_,p2,p3⟩
  have hs: ¬(vv.cells.size≠n):=by have:=rc.length;simp at this;omega
  simp only[Instr.storeAt,Instr.sureAddr,Sem.run_bind,Sem.run_pure,Result.andThen_ok,storeVar,O2 hn,if_neg hs,p1]
 ·cases e
theorem ba5(r:HR β ω K w0 h w)(elem:TypeId)(cs:List AV)(us:Array Value)(ho:cs.all AV.one=true)(rv:VRs β ω cs us.toList)(ext:Nat)(he:ext≤us.size)(hc:cs.length≤ext):
 HR (β.add h.next ⟨w.heap.size,0,ext⟩) ω K w0 (h.new (.cells elem 0 cs)) (w.alloc (.cells us elem))∧St h β (h.new (.cells elem 0 cs)) (β.add h.next ⟨w.heap.size,0,ext⟩):=by
 refine r.new _ _ 0 ext ?_
 have hle:Le β (β.add h.next ⟨w.heap.size,0,ext⟩):=by
  intro b L hb
  simp only[Bij.add]
  by_cases e:b=h.next
  ·subst e;rw[r.fresh _ (b9 _)]at hb;cases hb
  ·rw[if_neg e];exact hb
 refine⟨us,0,0,us.toList,rfl,by simpa using he,hc,aG9 ho,VRs.mono hle _ _ rv,fun i hi=>by simp,fun i _ _=>by omega,fun _=>rfl⟩
theorem Bij.add_self(β:Bij)(n:Nat)(L:Loc):β.add n L n=some L:=by simp[Bij.add]
theorem aU7{t:TypeId}{v a:AV}{vv:Value}(r:HR β ω K w0 h w)(e:av8 t v h=some (a,h'))(rv:VR β ω v vv):
 ∃β' x w',(do pure (Value.pointer (some (←newVar t vv))):Sem Value).run P w= .ok x w'∧VR β' ω a x∧HR β' ω K w0 h' w'∧St h β h' β':=by
 unfold av8 at e
 obtain⟨hc,e⟩:=M7 e
 simp only[a8,d7]at e
 obtain⟨rfl,rfl⟩:=e
 have rc:=VR.cells rv (by cases v<;>first|rfl|(simp[AV.cells,AV.one]at hc))
 have hl:=rc.length
 simp only[Array.length_toList]at hl
 obtain⟨p1,p2⟩:=ba5 r t v.cells vv.cells hc rc vv.cells.size (b9 _) (by omega)
 exact⟨_,_,_,rfl,⟨_,Bij.add_self _ _ _,rfl⟩,p1,p2⟩
end Go.Ev
