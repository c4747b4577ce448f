import Derived.Test.YtdbiooidpgafaaaGreatE6
set_option linter.unusedVariables false
set_option linter.unusedSimpArgs false
namespace Go.Ev
open Go
variable{P:Program}{β:Bij}{ω:Opq}{K:Nat→Prop}{w0 w:World}{h h':Heap}
theorem ad6{b o:Nat}{C:Array Value}{e:TypeId}{fr:Nat×Nat}(hb:w.heap[b]? =some (.cells C e fr)):w.cell? ⟨b,o,none⟩=C[o]? :=by
 simp[World.cell?,hb]
theorem ae4{b o:Nat}{C:Array Value}{e:TypeId}{lo hi:Nat}(hb:w.heap[b]? =some (.cells C e (lo,hi)))(hn: ¬(lo≤o∧o<hi)):w.frozen? ⟨b,o,none⟩=false:=by
 simp only[World.frozen?,hb]
 cases hh:(decide (lo≤o)&&decide (o<hi))with
 |false=>rfl
 |true=>exact absurd (by simpa using hh) hn
theorem a89(b:Nat)(e:TypeId)(fr:Nat×Nat): ∀(us:List Value) (o:Nat) (w:World) (C:Array Value),w.heap[b]? =some (.cells C e fr)→
 ∃C',(w.setCells b o us).heap[b]? =some (.cells C' e fr)∧C'.size=C.size∧ ∀i,i<C.size→C'[i]? =if o≤i∧i<o+us.length then us[i-o]? else C[i]?
 | [],o,w,C,hb=>⟨C,hb,rfl,fun i _=>by rw[if_neg (by simp)]⟩
 |u::us,o,w,C,hb=>by
  have h1:(w.setCell ⟨b,o,none⟩ u).heap[b]? =some (.cells (C.setIfInBounds o u) e fr):=by
   simp[World.setCell,I6,hb]
  obtain⟨C',h2,h3,h4⟩:=a89 b e fr us (o+1) _ _ h1
  refine⟨C',h2,by simpa using h3,fun i hi=> ?_⟩
  rw[h4 i (by simpa using hi)]
  simp only[List.length_cons]
  by_cases e1:i=o
  ·subst e1
   rw[if_neg (by omega),if_pos (by omega)]
   simp[hi]
  ·by_cases e2:o≤i∧i<o+(us.length+1)
   ·rw[if_pos (by omega),if_pos e2]
    obtain⟨k,rfl⟩: ∃k,i=o+1+k:=⟨i-(o+1),by omega⟩
    rw[show o+1+k-(o+1)=k by omega,show o+1+k-o=k+1 by omega]
    simp
   ·rw[if_neg (by omega),if_neg e2]
    simp[B9,Ne.symm e1]
theorem a61(b:Nat): ∀(us:List Value) (o:Nat) (w:World) (i:Nat),i≠b→(w.setCells b o us).heap[i]? =w.heap[i]?
 | [],_,_,_,_=>rfl
 |u::us,o,w,i,hi=>by
  show((w.setCell ⟨b,o,none⟩ u).setCells b (o+1) us).heap[i]? =_
  rw[a61 b us (o+1) _ i hi]
  exact RowKit.Below.heap_setCell _ _ _ _ hi
theorem a90(b:Nat): ∀(us:List Value) (o:Nat) (w:World),(w.setCells b o us).heap.size=w.heap.size∧(w.setCells b o us).os=w.os∧(w.setCells b o us).tape=w.tape∧(w.setCells b o us).output=w.output
 | [],_,_=>⟨rfl,rfl,rfl,rfl⟩
 |u::us,o,w=>by
  obtain⟨h1,h2,h3,h4⟩:=a90 b us (o+1) (w.setCell ⟨b,o,none⟩ u)
  exact⟨h1.trans (World.size_setCell _ _ _),h2,h3,h4⟩
theorem a62(b:Nat): ∀(us:List Value) (o:Nat) (w:World),(w.setCells b o us).drawn=w.drawn
 | [],_,_=>rfl
 |u::us,o,w=>by
  have h1:=a62 b us (o+1) (w.setCell ⟨b,o,none⟩ u)
  exact h1
theorem br0{vs:List AV}{us:List Value}(ho:vs.all AV.one=true)(r:VRs β ω vs us): ∀v∈us,v.oneCell'=true:=by
 induction vs generalizing us with
 |nil=>rw[show us=[]from r];simp
 |cons a b ih=>
  obtain⟨v,vr,rfl,p,q⟩:=r
  simp only[List.all_cons,e9]at ho
  intro x hx
  simp only[k5]at hx
  rcases hx with rfl|hx
  ·exact VR.one p ho.1
  ·exact ih ho.2 q x hx
theorem a27{b e fz o n:Nat}{cs:List AV}{L:Loc}(r:HR β ω K w0 h w)(hg:h.get b=some (.cells e fz cs))(hb:β b=some L)(hn:o+n≤cs.length):
 ∃us,VRs β ω ((cs.drop o).take n) us∧us.length=n∧(∀j v,us[j]? =some v→w.cell? ⟨L.blk,L.off+o+j,none⟩=some v):=by
 obtain⟨C,lo,hi,vs,h1,h2,h3,h4,h5,h6,h7⟩:=r.cells hg hb
 have hl:=h5.length
 refine⟨(vs.drop o).take n,(h5.drop o).take n,by simp;omega,fun j v hj=> ?_⟩
 rw[ad6 h1]
 have hjn:j<n:=by
  rcases i4 j n with hh|hh
  ·exact hh
  ·rw[p9,if_neg (by omega)]at hj;cases hj
 rw[p9,if_pos hjn,r9]at hj
 rw[show L.off+o+j=L.off+(o+j) by omega,h6 (o+j) (by omega)]
 exact hj
theorem aF6{b e fz o n:Nat}{cs:List AV}{L:Loc}(r:HR β ω K w0 h w)(hg:h.get b=some (.cells e fz cs))(hb:β b=some L)(hn:o+n≤cs.length):
 ∃us,VRs β ω ((cs.drop o).take n) us∧us.length=n∧(loadCells ⟨L.blk,L.off+o,none⟩ n).run P w= .ok us.toArray w:=by
 obtain⟨us,h1,h2,h3⟩:=a27 r hg hb hn
 refine⟨us,h1,h2,?_⟩
 have:=run_loadCells_list (P:=P) w ⟨L.blk,L.off+o,none⟩ us (fun j v hj=>by rw[a00];exact h3 j v hj)
 rw[h2]at this;exact this
theorem bB4{t:TypeId}{x a:AV}{vx:Value}(r:HR β ω K w0 h w)(e:bT1 P t x h=some a)(rx:VR β ω x vx): ∃v,VR β ω a v∧(Instr.loadAt t vx).run P w= .ok v w:=by
 unfold bT1 at e
 split at e
 ·rename_i b o
  split at e
  ·rename_i el fz cs hg
   simp only[VR]at rx;obtain⟨L,hL,rfl⟩:=rx
   unfold ah7 at e
   split at e
   ·rename_i n h1 h2
    obtain⟨hc,e⟩:=P7 e
    rw[Q2]at hc
    simp only[b9]at e;subst e
    obtain⟨us,r1,r2,r3⟩:=aF6 (P:=P) r hg hL hc
    exact⟨.agg us.toArray,⟨_,rfl,r1⟩,by simp only[Instr.loadAt,Instr.sureAddr,Sem.run_bind,Sem.run_pure,Result.andThen_ok,loadVar,ag3 h1,if_true,R2 h2,r3]⟩
   ·rename_i n h1 h2
    obtain⟨C,lo,hi,vs,q1,q2,q3,q4,q5,q6,q7⟩:=r.cells hg hL
    obtain⟨y,hy,ry⟩:=q5.get o a e
    have hlt:o<cs.length:=by
     rcases i4 o cs.length with hh|hh
     ·exact hh
     ·rw[l8 hh]at e;cases e
    have hcell:w.cell? ⟨L.blk,L.off+o,none⟩=some y:=by rw[ad6 q1,q6 o hlt,hy]
    exact⟨y,ry,by simp[Instr.loadAt,Instr.sureAddr,loadVar,ag3 h1,hcell]⟩
   ·cases e
  ·cases e
 ·cases e
theorem aa5{b o:Nat}{vs:List AV}{us:List Value}{L:Loc}(r:HR β ω K w0 h w)(e:putCells h b o vs=some h')(hb:β b=some L)(rv:VRs β ω vs us):
 (storeCells ⟨L.blk,L.off+o,none⟩ us).run P w= .ok () (w.setCells L.blk (L.off+o) us)∧HR β ω K w0 h' (w.setCells L.blk (L.off+o) us)∧St h β h' β:=by
 unfold putCells at e
 split at e
 ·simp only[b9]at e;subst e
  rw[show us=[]from rv]
  exact⟨rfl,r,.refl _ _⟩
 ·split at e
  ·rename_i el fz cs hg
   obtain⟨hc,e⟩:=P7 e
   obtain⟨hc,c4⟩:=P8 hc
   obtain⟨hc,c3⟩:=P8 hc
   obtain⟨c1,c2⟩:=P8 hc
   rw[Q2]at c1 c2 c3
   simp only[b9]at e;subst e
   obtain⟨C,lo,hi,xs,q1,q2,q3,q4,q5,q6,q7⟩:=r.cells hg hb
   have hl:=rv.length
   have hx:=q5.length
   obtain⟨C',s1,s2,s3⟩:=a89 L.blk el (lo,hi) us (L.off+o) w C q1
   obtain⟨t1,t2,t3,t4⟩:=a90 L.blk us (L.off+o) w
   refine⟨?_,?_⟩
   ·have:=run_storeCells_cells (P:=P) L.blk (L.off+o) us 0 w
     (fun j hj=>by
      rw[ad6 q1]
      have:L.off+o+0+j<C.size:=by omega
      rw[s6 this];rfl)
     (fun j hj=>ae4 q1 (by have:=q7 (o+j) (by omega) (by omega);rw[show L.off+o+0+j=L.off+(o+j) by omega];exact this))
     (br0 c4 rv)
    simpa using this
   ·refine HR.upd r b _ _ L hg hb c1 (fun i hi=>a61 L.blk us (L.off+o) w i hi) t1 t2 t3 t4 (a62 _ _ _ _) ?_
    rw[s1]
    refine⟨C',lo,hi,xs.take o++us++xs.drop (o+us.length),rfl,by omega,by rw[au2 c3];exact q3,?_,aW9 o q5 rv,fun i hi'=> ?_,q7,r.head hg hb⟩
    ·simp only[ah4,F7,e9]
     refine⟨⟨?_,aU5 c4⟩,?_⟩
     ·exact j5.2 fun x hx'=>j5.1 q4 x (I7 hx')
     ·exact j5.2 fun x hx'=>j5.1 q4 x (List.mem_of_mem_drop hx')
    ·rw[au2 c3]at hi'
     rw[s3 (L.off+i) (by omega)]
     by_cases g:o≤i∧i<o+us.length
     ·rw[if_pos (by omega),show L.off+i-(L.off+o)=i-o by omega]
      rw[v8,k8 (by simp;omega)]
      rw[show i-(List.take o xs).length=i-o by simp;omega]
      rw[k9 (by omega)]
     ·rw[if_neg (by omega),q6 i hi']
      rcases i4 i o with g1|g1
      ·rw[v8,k9 (by simp;omega),p9,if_pos g1]
      ·rw[k8 (by simp;omega),r9]
       congr 1
       simp;omega
  ·cases e
theorem bd9{t:TypeId}{x v:AV}{vx vv:Value}(r:HR β ω K w0 h w)(e:bb7 P t x v h=some h')(rx:VR β ω x vx)(rv:VR β ω v vv):
 ∃w',(Instr.storeAt t vx vv).run P w= .ok () w'∧HR β ω K w0 h' w'∧St h β h' β:=by
 unfold bb7 at e
 split at e
 ·rename_i b o n hn
  obtain⟨hc,e⟩:=P7 e
  obtain⟨h0,hc⟩:=P8 hc
  rw[P9]at hc
  simp only[VR]at rx;obtain⟨L,hL,rfl⟩:=rx
  have rc:=VR.cells rv h0
  obtain⟨p1,p2,p3⟩:=aa5 (P:=P) r e hL rc
  refine⟨_,?_,p2,p3⟩
  have hs: ¬(vv.cells.size≠n):=by have:=rc.length;simp at this;omega
  simp only[Instr.storeAt,Instr.sureAddr,Sem.run_bind,Sem.run_pure,Result.andThen_ok,storeVar,R2 hn,if_neg hs,p1]
 ·cases e
theorem be0(r:HR β ω K w0 h w)(elem:TypeId)(cs:List AV)(us:Array Value)(ho:cs.all AV.one=true)(rv:VRs β ω cs us.toList)(ext:Nat)(he:ext≤us.size)(hc:cs.length≤ext):
 HR (β.add h.next ⟨w.heap.size,0,ext⟩) ω K w0 (h.new (.cells elem 0 cs)) (w.alloc (.cells us elem))∧St h β (h.new (.cells elem 0 cs)) (β.add h.next ⟨w.heap.size,0,ext⟩):=by
 refine r.new _ _ 0 ext ?_
 have hle:Le β (β.add h.next ⟨w.heap.size,0,ext⟩):=by
  intro b L hb
  simp only[Bij.add]
  by_cases e:b=h.next
  ·subst e;rw[r.fresh _ (e8 _)]at hb;cases hb
  ·rw[if_neg e];exact hb
 refine⟨us,0,0,us.toList,rfl,by simpa using he,hc,aU5 ho,VRs.mono hle _ _ rv,fun i hi=>by simp,fun i _ _=>by omega,fun _=>rfl⟩
theorem Bij.add_self(β:Bij)(n:Nat)(L:Loc):β.add n L n=some L:=by simp[Bij.add]
theorem aX0{t:TypeId}{v a:AV}{vv:Value}(r:HR β ω K w0 h w)(e:az2 t v h=some (a,h'))(rv:VR β ω v vv):
 ∃β' x w',(do pure (Value.pointer (some (←newVar t vv))):Sem Value).run P w= .ok x w'∧VR β' ω a x∧HR β' ω K w0 h' w'∧St h β h' β':=by
 unfold az2 at e
 obtain⟨hc,e⟩:=P7 e
 simp only[b9,i3]at e
 obtain⟨rfl,rfl⟩:=e
 have rc:=VR.cells rv (by cases v<;>first|rfl|(simp[AV.cells,AV.one]at hc))
 have hl:=rc.length
 simp only[Array.length_toList]at hl
 obtain⟨p1,p2⟩:=be0 r t v.cells vv.cells hc rc vv.cells.size (e8 _) (by omega)
 exact⟨_,_,_,rfl,⟨_,Bij.add_self _ _ _,rfl⟩,p1,p2⟩
end Go.Ev
