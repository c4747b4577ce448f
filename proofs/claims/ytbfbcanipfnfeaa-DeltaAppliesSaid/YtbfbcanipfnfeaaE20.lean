import Derived.Test.YtbfbcanipfnfeaaE19
set_option linter.unusedVariables false
set_option linter.unusedSimpArgs false
namespace Go.Ev
open Go
variable{E:Env}{β:Bij}{ω:Opq}{K:Nat→Prop}{w0 w:World}{h h':Heap}
theorem bn5{t:TypeId}{z v:AV}(e:av8 t z h=some (v,h')):z.cells.all AV.one=true∧v= .ptr h.next 0∧h'=h.new (.cells t 0 z.cells):=by
 unfold av8 at e
 obtain⟨hc,e⟩:=M7 e
 simp only[a8,d7]at e
 exact⟨hc,e.1.symm,e.2.symm⟩
theorem bc5{t:TypeId}{z:Option AV}{v:AV}(e:cp2 t h z= .val v h'): ∃z0,z=some z0∧z0.cells.all AV.one=true∧v= .ptr h.next 0∧h'=h.new (.cells t 0 z0.cells)∧ ∀h2,cp2 t h2 z= .val (.ptr h2.next 0) (h2.new (.cells t 0 z0.cells)):=by
 cases z with
 |none=>cases e
 |some z0=>
  obtain⟨h1,h2,h3⟩:=bn5 (bZ5 e)
  exact⟨z0,rfl,h1,h2,h3,fun h2=>by simp only[cp2,av8,h1,cond_true,oh]⟩
structure AllocV (E:Env) (β:Bij) (ω:Opq) (m:Sem Next) (mk:Nat→AV) (x:Blk) (mkV:Nat→Value) (obj:Obj) (ext:Nat):Prop where
 run: ∀w,m.run E.P w= .ok (.value (mkV w.heap.size)) (w.alloc obj)
 blk: ∀(β':Bij) n,Le β β'→BR β' ω ⟨n,0,ext⟩ (some obj) x
 val: ∀(β':Bij) b n,β' b=some ⟨n,0,ext⟩→VR β' ω (mk b) (mkV n)
theorem bx5{m:Sem Next}{t:TypeId}{z:AV}{zv:Value}(rz:VR β ω z zv)(ho:z.cells.all AV.one=true)(hrun: ∀w,m.run E.P w= .ok (.value (.pointer (some ⟨w.heap.size,0,none⟩))) (w.alloc (.cells zv.cells t))):
 AllocV E β ω m (fun b=> .ptr b 0) (.cells t 0 z.cells) (fun n=> .pointer (some ⟨n,0,none⟩)) (.cells zv.cells t) zv.cells.size:=by
 refine⟨hrun,fun β' n hle=> ?_,fun β' b n hb=>⟨_,hb,rfl⟩⟩
 have rc:=VR.cells' rz (cz5 ho)
 have hl:=rc.length
 simp only[Array.length_toList]at hl
 exact⟨zv.cells,0,0,zv.cells.toList,rfl,by simp,by simp only[];omega,aG9 ho,VRs.mono hle _ _ rc,fun i hi=>by simp,fun i _ _=>by omega,fun _=>rfl⟩
theorem bZ8{m:Sem Next}{elem l c:Nat}{cs:List AV}{us:Array Value}(rv:VRs β ω cs us.toList)(ho:cs.all AV.one=true)
 (hrun: ∀w,m.run E.P w= .ok (.value (.slice (some ⟨w.heap.size,0,none⟩) l c)) (w.alloc (.cells us elem))):
 AllocV E β ω m (fun b=> .sl b 0 l c) (.cells elem 0 cs) (fun n=> .slice (some ⟨n,0,none⟩) l c) (.cells us elem) us.size:=by
 refine⟨hrun,fun β' n hle=> ?_,fun β' b n hb=>⟨_,hb,rfl⟩⟩
 have hl:=rv.length
 simp only[Array.length_toList]at hl
 exact⟨us,0,0,us.toList,rfl,by simp,by simp only[];omega,aG9 ho,VRs.mono hle _ _ rv,fun i hi=>by simp,fun i _ _=>by omega,fun _=>rfl⟩
theorem aL0{t n:Nat}{parts:List (Nat×AV)}{v:AV}(e:X9 E.P t n parts h=some (v,h')):
 ∃elem cs,v= .sl h.next 0 n n∧h'=h.new (.cells elem 0 cs)∧(∀h2,X9 E.P t n parts h2=some (.sl h2.next 0 n n,h2.new (.cells elem 0 cs)))∧
  ∀(β:Bij) (ω:Opq) (vparts:Array (Nat×Value)),parts.map (·.1)=vparts.toList.map (·.1)→VRs β ω (parts.map (·.2)) (vparts.toList.map (·.2))→
   ∃us:Array Value,VRs β ω cs us.toList∧cs.all AV.one=true∧ ∀w,(Instr.buildSlice t n vparts).run E.P w= .ok (.slice (some ⟨w.heap.size,0,none⟩) n n) (w.alloc (.cells us elem)):=by
 have e0:=e
 unfold X9 at e
 split at e
 ·rename_i elem ht
  split at e
  ·rename_i s z hs hz
   replace e:=M7 e
   obtain⟨hc,e⟩:=e
   split at e
   ·rename_i cs hf
    replace e:=M7 e
    obtain⟨ho,e⟩:=e
    simp only[a8,d7]at e
    obtain⟨rfl,rfl⟩:=e
    refine⟨elem,cs,rfl,rfl,fun h2=> ?_,fun β ω vparts hm hv=> ?_⟩
    ·unfold X9
     simp only[ht,hs,hz,hc,cond_true,hf,ho]
    ·obtain⟨hc,c3⟩:=M6 hc
     obtain⟨c1,c2⟩:=M6 hc
     rw[M8]at c1
     rw[N9]at c2
     rw[N1]at c3
     obtain⟨zv,hzv,hzr⟩:=Y4 hz
     have rz:VRs β ω z.cells zv.cells.toList:=VR.cells' (a19 hzv) (ab0 hzv)
     have hzs:zv.cells.size=s:=by have:=rz.length;simpa[c1]using this
     have rr:=aw4 rz (by omega) n
     rw[hzs]at rr
     obtain⟨cells',e1,e2,e3⟩:=aH7 (placeV:=fun i=>some (i*s,s)) (fun i x hx=>hx) parts vparts.toList _ cs _ hf rr hm hv
     refine⟨cells',e2,ho,fun w=> ?_⟩
     have h1: ¬(n*s>2^24):=by omega
     by_cases hn0:n*s=0
     ·simp only[hzs,hn0]at e1
      simp only[Instr.buildSlice,Sem.run_bind,M9 ht,O2 hs,Result.andThen_ok,hn0,if_true,if_neg (show¬(0>2^24) by omega),Sem.run_pure]
      rw[ab1]at e1⊢
      rw[e1];rfl
     ·simp only[Instr.buildSlice,Sem.run_bind,M9 ht,O2 hs,Result.andThen_ok,if_neg h1,if_neg hn0,hzr,Sem.run_pure,hzs,e1]
      rfl
   ·cases e
  ·cases e
 ·cases e
theorem aT2{t:Nat}{l c v:AV}(e:a05 E.P t l c h=some (v,h')):
 ∃elem nl nc cs,v= .sl h.next 0 nl nc∧h'=h.new (.cells elem 0 cs)∧(∀h2,a05 E.P t l c h2=some (.sl h2.next 0 nl nc,h2.new (.cells elem 0 cs)))∧
  ∀(β:Bij) (ω:Opq) (vl vc:Value),VR β ω l vl→VR β ω c vc→
   ∃us:Array Value,VRs β ω cs us.toList∧cs.all AV.one=true∧ ∀w,(Instr.makeSlice t vl vc).run E.P w= .ok (.slice (some ⟨w.heap.size,0,none⟩) nl nc) (w.alloc (.cells us elem)):=by
 unfold a05 at e
 split at e
 ·rename_i elem k l k' c ht
  split at e
  ·rename_i l c s z i hl hc hs hz hi
   replace e:=M7 e
   obtain⟨hx,e⟩:=e
   simp only[a8,d7]at e
   obtain⟨rfl,rfl⟩:=e
   refine⟨elem,l,c,_,rfl,rfl,fun h2=> ?_,fun β ω vl vc rl rc=> ?_⟩
   ·unfold a05
    simp only[ht,hl,hc,hs,hz,hi,hx,cond_true]
   ·obtain⟨hx,c6⟩:=M6 hx
    obtain⟨hx,c5⟩:=M6 hx
    obtain⟨hx,c4⟩:=M6 hx
    obtain⟨hx,c3⟩:=M6 hx
    obtain⟨c1,c2⟩:=M6 hx
    rw[N1]at c1 c2 c3
    rw[M8]at c4
    rw[N9]at c5
    obtain rfl:=X5 hl
    obtain rfl:=X5 hc
    simp only[VR]at rl rc;subst rl rc
    obtain⟨zv,hzv,hzr⟩:=Y4 hz
    have rz:VRs β ω z.cells zv.cells.toList:=VR.cells' (a19 hzv) (ab0 hzv)
    have hzs:zv.cells.size=s:=by have:=rz.length;simpa[c4]using this
    have rr:=aw4 rz (by omega) c
    rw[hzs]at rr
    refine⟨_,rr,b07 c6,fun w=> ?_⟩
    have w1:IntKind.i64.wrap (l:Int)=l:=aq8 _ _ (by show l<9223372036854775808;omega)
    have w2:IntKind.i64.wrap (c:Int)=c:=aq8 _ _ (by show c<9223372036854775808;omega)
    have hb:i.bytes*c≤1000*1000000:=D9 c3 c2
    have hcond:((decide ((c:Int)<0)||decide ((i.bytes:Int)*(c:Int)>2^48))||decide ((l:Int)<0)||decide ((l:Int)>(c:Int)))=false:=by
     have: ¬((i.bytes:Int)*(c:Int)>2^48):=by
      rw[←Int.natCast_mul];omega
     simp only[this]
     simp;omega
    by_cases hn0:c*s=0
    ·have hc0:c=0:=by rcases Nat.mul_eq_zero.1 hn0 with hh|hh<;>omega
     subst hc0
     obtain rfl:l=0:=by omega
     rw[B5,ab1]
     simp only[Instr.makeSlice,Sem.run_bind,M9 ht,Result.andThen_ok,asInt,asIntOf,Sem.run_pure,typeInfo,hi,run_program,w1,w2,hcond,i4,if_false,run_askRoom,Int.toNat_natCast,O2 hs,B5,if_true,ab1]
     rfl
    ·simp only[Instr.makeSlice,Sem.run_bind,M9 ht,Result.andThen_ok,asInt,asIntOf,Sem.run_pure,typeInfo,hi,run_program,w1,w2,hcond,if_neg hn0,i4,if_false,run_askRoom,Int.toNat_natCast,O2 hs,hzr,hzs]
     rfl
  ·cases e
 ·cases e
theorem bx6{ρA:Operand→Option AV}{ρ:Operand→Value}{o:Oper}{v:AV}(ha:R9 o=true)(e:S5 E ρA o h= .val v h'):
 ∃mk x,AllocA E ρA o mk x∧v=mk h.next∧h'=h.new x∧((∀y∈o.op.operands,∀a,ρA y=some a→VR β ω a (ρ y))→ ∃mkV obj ext,AllocV E β ω (execOp ρ o) mk x mkV obj ext):=by
 rw[az8 ha]at e
 have hA: ∀{mk:Nat→AV} {x:Blk},(∀h2,aq4 E ρA o h2= .val (mk h2.next) (h2.new x))→x.isArr=false→AllocA E ρA o mk x:=fun hh hn=>⟨fun h2=>(az8 ha h2).trans (hh h2),hn⟩
 obtain⟨dst,op,ty,pos,after,guard⟩:=o
 cases op<;>first|(cases ha;done)|skip
 case alloc t=>
  obtain⟨z0,hz,ho,rfl,rfl,hall⟩:=bc5 (t:=t) (z:=V5 E.P t) e
  refine⟨fun b=> .ptr b 0,_,hA hall rfl,rfl,rfl,fun _=> ?_⟩
  obtain⟨zv,z1,z2⟩:=an9 hz
  exact⟨_,_,_,bx5 (z1 β ω) ho fun w=>by
   show(do pure (.value (←Instr.alloc t true (.tuple #[]))):Sem Next).run E.P w=_
   simp only[Instr.alloc,Sem.run_bind,z2,Result.andThen_ok];rfl⟩
 case box t y=>
  obtain⟨z0,hz,ho,rfl,rfl,hall⟩:=bc5 (t:=t) (z:=ρA y) e
  refine⟨fun b=> .ptr b 0,_,hA hall rfl,rfl,rfl,fun hr=> ?_⟩
  exact⟨_,_,_,bx5 (hr y (by simp[Op.operands]) z0 hz) ho fun w=>rfl⟩
 case buildSlice t n ps=>
  have e:a06 E.P t n h (aS1 ρA ps.toList)= .val v h':=e
  cases hx:aS1 ρA ps.toList with
  |none=>rw[hx]at e;cases e
  |some l=>
   rw[hx]at e
   obtain⟨elem,cs,rfl,rfl,hall,hrun⟩:=aL0 (bZ5 e)
   refine⟨fun b=> .sl b 0 n n,_,hA (fun h2=>by show a06 E.P t n h2 (aS1 ρA ps.toList)=_;rw[hx];simp only[a06,hall,oh]) rfl,rfl,rfl,fun hr=> ?_⟩
   have hops: ∃q1:l.map (·.1)=((ps.map fun(i,x)=>(i,ρ x)).toList.map (·.1)),VRs β ω (l.map (·.2)) ((ps.map fun(i,x)=>(i,ρ x)).toList.map (·.2)):=by
    have main: ∀(qs:List (Nat×Operand)) (l:List (Nat×AV)),(∀y∈qs.map (·.2),∀a,ρA y=some a→VR β ω a (ρ y))→aS1 ρA qs=some l→
     l.map (·.1)=(qs.map fun p=>(p.1,ρ p.2)).map (·.1)∧VRs β ω (l.map (·.2)) ((qs.map fun p=>(p.1,ρ p.2)).map (·.2)):=by
     intro qs
     induction qs with
     |nil=>intro l _ hl;simp only[aS1,a8]at hl;subst hl;exact⟨rfl,.nil⟩
     |cons q r ih=>
      intro l hq hl
      obtain⟨i,y⟩:=q
      simp only[aS1]at hl
      split at hl
      ·rename_i v vs h1 h2
       simp only[a8]at hl;subst hl
       obtain⟨g1,g2⟩:=ih vs (fun y hy=>hq y (.tail _ hy)) h2
       exact⟨by simpa using g1,.cons (hq y (.head _) v h1) g2⟩
      ·cases hl
    obtain⟨g1,g2⟩:=main ps.toList l (fun y hy=>hr y (by simpa[Op.operands]using hy)) hx
    exact⟨by simpa using g1,by simpa using g2⟩
   obtain⟨q1,q2⟩:=hops
   obtain⟨us,u1,u2,u3⟩:=hrun β ω _ q1 q2
   exact⟨_,_,_,bZ8 u1 u2 fun w=>by
    show(do pure (.value (←Instr.buildSlice t n (ps.map fun(i,x)=>(i,ρ x)))):Sem Next).run E.P w=_
    simp only[Sem.run_bind,u3,Result.andThen_ok,Sem.run_pure]⟩
 case makeMap t y=>
  have e:cb5 E.P t h (evo ρA y)= .val v h':=e
  unfold cb5 at e
  split at e
  ·rename_i kt et ht
   have fin: ∀m:Sem Next,(∀w,m.run E.P w= .ok (.value (.map (some w.heap.size))) (w.alloc (.map #[] 0)))→AllocV E β ω m (fun b=> .map b) (.map [] 0) (fun n=> .map (some n)) (.map #[] 0) 0:=
    fun m hm=>⟨hm,fun β' n _=>⟨#[],rfl,.nil⟩,fun β' b n hb=>⟨_,hb,rfl⟩⟩
   split at e
   ·rename_i hy
    simp only[Res.val.injEq]at e;obtain⟨rfl,rfl⟩:=e
    refine⟨fun b=> .map b,_,hA (fun h2=>by show cb5 E.P t h2 (evo ρA y)=_;simp only[cb5,ht,hy]) rfl,rfl,rfl,fun hr=>⟨_,_,_,fin _ fun w=> ?_⟩⟩
    cases y with
    |none=>rfl
    |some y=>simp only[evo,j4]at hy;obtain⟨a,_,hh⟩:=hy;cases hh
   ·rename_i k n hy
    simp only[Res.val.injEq]at e;obtain⟨rfl,rfl⟩:=e
    refine⟨fun b=> .map b,_,hA (fun h2=>by show cb5 E.P t h2 (evo ρA y)=_;simp only[cb5,ht,hy]) rfl,rfl,rfl,fun hr=>⟨_,_,_,fin _ fun w=> ?_⟩⟩
    cases y with
    |none=>simp[evo]at hy
    |some y=>
     simp only[evo,j4]at hy;obtain⟨a,hay,hh⟩:=hy
     simp only[a8]at hh;subst hh
     have hv:=hr y (by simp[Op.operands]) _ hay
     simp only[VR]at hv
     show(do pure (.value (←Instr.makeMap t ((some y).map ρ))):Sem Next).run E.P w=_
     simp only[Option.map_some,hv,Instr.makeMap,Sem.run_bind,M9 ht,Result.andThen_ok,asInt,asIntOf,Sem.run_pure,run_newObj]
     rfl
   ·cases e
  ·cases e
 case makeSlice t x y=>
  have e:a60 E.P t h (ρA x) (ρA y)= .val v h':=e
  cases hx:ρA x with
  |none=>rw[hx]at e;cases e
  |some a=>
   cases hy:ρA y with
   |none=>rw[hx,hy]at e;cases e
   |some b=>
    rw[hx,hy]at e
    obtain⟨elem,nl,nc,cs,rfl,rfl,hall,hrun⟩:=aT2 (bZ5 e)
    refine⟨fun b=> .sl b 0 nl nc,_,hA (fun h2=>by show a60 E.P t h2 (ρA x) (ρA y)=_;rw[hx,hy];simp only[a60,hall,oh]) rfl,rfl,rfl,fun hr=> ?_⟩
    obtain⟨us,u1,u2,u3⟩:=hrun β ω (ρ x) (ρ y) (hr x (by simp[Op.operands]) a hx) (hr y (by simp[Op.operands]) b hy)
    exact⟨_,_,_,bZ8 u1 u2 fun w=>by
     show(do pure (.value (←Instr.makeSlice t (ρ x) (ρ y))):Sem Next).run E.P w=_
     simp only[Sem.run_bind,u3,Result.andThen_ok,Sem.run_pure]⟩
end Go.Ev
