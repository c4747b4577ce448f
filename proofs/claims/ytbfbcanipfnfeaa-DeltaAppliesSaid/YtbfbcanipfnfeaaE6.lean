import Derived.Test.YtbfbcanipfnfeaaE5
set_option linter.unusedVariables false
set_option linter.unusedSimpArgs false
namespace Go.Ev
open Go
variable{P:Program}{β:Bij}{ω:Opq}{K:Nat→Prop}{w0 w:World}{h:Heap}
def OR(β:Bij)(ω:Opq):Option AV→Option Value→Prop
 |none,v=>v=none
 |some a,v=> ∃x,v=some x∧VR β ω a x
theorem aj3{x:AV}{d n:Nat}(e:W3 (some x) d=some n): ∃k,x= .int k (n:Int):=by
 cases x<;>simp only[W3,reduceCtorEq]at e
 rename_i k i
 exact⟨k,by rw[X5 e]⟩
theorem bU7(x:AV)(d d':Nat):W3 (some x) d=W3 (some x) d':=by cases x<;>rfl
theorem T7{v:Value}{k:IntKind}{n y:Nat}(code:BoundsCode)(hv:v= .int k (n:Int))(hy:n≤y)(w:World):(Instr.sliceBound v y code).run P w= .ok n w:=by
 subst hv
 have hc:(0:Int)≤(n:Int)∧(n:Int)≤(y:Int):=by omega
 simp only[Instr.sliceBound,Sem.run_bind,asIntOf,Sem.run_pure,Result.andThen_ok,if_pos hc,Int.toNat_natCast]
theorem O9{lo hi mx:Option AV}{vl vh vm:Option Value}{len cap l e m:Nat}(isS:Bool)
 (rl:OR β ω lo vl) (rh:OR β ω hi vh) (rm:OR β ω mx vm) (hl:W3 lo 0=some l) (he:W3 hi len=some e) (hm:W3 mx cap=some m)
 (h1:l≤e) (h2:e≤m) (h3:m≤cap) (hx:hi=none→mx=none) (w:World):
 (Instr.sliceBounds isS len cap vl vh vm).run P w= .ok (l,e,m) w:=by
 have hlow:(vl=none∧l=0)∨ ∃v,vl=some v∧ ∀code,(Instr.sliceBound v e code).run P w= .ok l w:=by
  cases lo with
  |none=>simp only[OR]at rl;subst rl;simp[W3]at hl;subst hl;exact .inl ⟨rfl,rfl⟩
  |some x=>
   obtain⟨v,rfl,rv⟩:=rl
   obtain⟨k,rfl⟩:=aj3 hl
   simp only[VR]at rv
   exact .inr ⟨v,rfl,fun code=>T7 code rv h1 w⟩
 cases mx with
 |none=>
  simp only[OR]at rm;subst rm
  simp[W3]at hm;subst hm
  cases hi with
  |none=>
   simp only[OR]at rh;subst rh
   simp[W3]at he;subst he
   rcases hlow with⟨rfl,rfl⟩|⟨v,rfl,hv⟩
   ·rfl
   ·simp only[Instr.sliceBounds,Sem.run_bind,Sem.run_pure,Result.andThen_ok,hv]
  |some x=>
   obtain⟨v,rfl,rv⟩:=rh
   obtain⟨k,rfl⟩:=aj3 he
   simp only[VR]at rv
   rcases hlow with⟨rfl,rfl⟩|⟨v',rfl,hv⟩
   ·simp only[Instr.sliceBounds,Sem.run_bind,Sem.run_pure,Result.andThen_ok,T7 _ rv h2]
   ·simp only[Instr.sliceBounds,Sem.run_bind,Sem.run_pure,Result.andThen_ok,T7 _ rv h2,hv]
 |some y=>
  obtain⟨u,rfl,ru⟩:=rm
  obtain⟨k',rfl⟩:=aj3 hm
  simp only[VR]at ru
  cases hi with
  |none=>exact absurd (hx rfl) (by simp)
  |some x=>
   obtain⟨v,rfl,rv⟩:=rh
   obtain⟨k,rfl⟩:=aj3 he
   simp only[VR]at rv
   rcases hlow with⟨rfl,rfl⟩|⟨v',rfl,hv⟩
   ·simp only[Instr.sliceBounds,Sem.run_bind,Sem.run_pure,Result.andThen_ok,T7 _ ru h3,T7 _ rv h2]
   ·simp only[Instr.sliceBounds,Sem.run_bind,Sem.run_pure,Result.andThen_ok,T7 _ ru h3,T7 _ rv h2,hv]
theorem M6{a b:Bool}(h:(a&&b)=true):a=true∧b=true:=by simpa using h
theorem M7{α:Type}{c:Bool}{x:Option α}{a:α}(h:(bif c then x else none)=some a):c=true∧x=some a:=by
 cases c with
 |true=>exact⟨rfl,h⟩
 |false=>cases h
theorem HR.cells{b:Nat}{e fz:Nat}{cs:List AV}{L:Loc}(r:HR β ω K w0 h w)(hg:h.get b=some (.cells e fz cs))(hb:β b=some L):
 ∃C lo hi vs,w.heap[L.blk]? =some (.cells C e (lo,hi))∧L.off+L.ext≤C.size∧cs.length≤L.ext∧cs.all AV.oneA=true∧VRs β ω cs vs∧
  (∀i,i<cs.length→C[L.off+i]? =vs[i]?)∧(∀i,fz≤i→i<L.ext→ ¬(lo≤L.off+i∧L.off+i<hi)):=
 let ⟨C,lo,hi,vs,h1,h2,h3,h4,h5,h6,h7,_⟩:=r.blk b _ L hg hb
 ⟨C,lo,hi,vs,h1,h2,h3,h4,h5,h6,h7⟩
theorem HR.head{b:Nat}{e fz:Nat}{cs:List AV}{L:Loc}(r:HR β ω K w0 h w)(hg:h.get b=some (.cells e fz cs))(hb:β b=some L):ω.fix e=true→L.off=0:=
 let ⟨_,_,_,_,_,_,_,_,_,_,_,h8⟩:=r.blk b _ L hg hb
 h8
set_option maxHeartbeats 1000000 in
theorem bU8{t:TypeId}{x a:AV}{lo hi mx:Option AV}{vx:Value}{vl vh vm:Option Value}(r:HR β ω K w0 h w)(e:bN9 P t x lo hi mx h=some a)(hx:(hi.isNone&&mx.isSome)=false)
 (rx:VR β ω x vx) (rl:OR β ω lo vl) (rh:OR β ω hi vh) (rm:OR β ω mx vm): ∃v,VR β ω a v∧ ∀w,(Instr.sliceAt t vx vl vh vm).run P w= .ok v w:=by
 have hx':hi=none→mx=none:=by intro e;subst e;cases mx<;>simp_all
 unfold bN9 at e
 split at e
 ·
  rename_i s ht
  split at e
  ·rename_i l en hl he
   obtain⟨hc,e⟩:=M7 e
   obtain⟨h1,h2⟩:=M6 hc
   rw[N1]at h1 h2
   simp only[a8]at e;subst e
   simp only[VR]at rx;subst rx
   simp only[OR]at rm;subst rm
   refine⟨_,rfl,fun w=> ?_⟩
   have hs:(ByteArray.mk s.toArray).size=s.length:=by simp[ByteArray.size]
   simp only[Instr.sliceAt,Sem.run_bind,M9 ht,Result.andThen_ok,Instr.slice,hs,Option.isSome_none,i4,if_false,Sem.run_pure,
    O9 (mx:=none) (vm:=none) false rl rh rfl hl he (m:=s.length) rfl h1 h2 (b9 _) (fun _=>rfl),ByteArray.extract_mk]
  ·cases e
 ·
  rename_i elem ht
  split at e
  ·rename_i s hl he hm hs
   simp only[a8]at e;subst e
   simp only[VR]at rx;subst rx
   refine⟨_,rfl,fun w=> ?_⟩
   simp[Instr.sliceAt,Sem.run_bind,M9 ht,Instr.slice,O9 (cap:=0) true rl rh rm hl he hm (b9 _) (b9 _) (b9 _) hx',O2 hs]
  ·cases e
 ·
  rename_i elem b o sz ht
  simp only[VR]at rx;obtain⟨L,ad,cap,hL,rfl,hor⟩:=rx
  split at e
  ·rename_i s hl he hs
   simp only[a8]at e;subst e
   refine⟨.slice (some ad) 0 cap,⟨L,ad,cap,hL,rfl,hor⟩,fun w=> ?_⟩
   have hb:=O9 (P:=P) (mx:=none) (vm:=none) (cap:=cap) true rl rh rfl hl he (m:=cap) rfl (b9 _) (k8 _) (b9 _) (fun _=>rfl) w
   simp only[OR]at rm;subst rm
   by_cases hc:cap=0
   ·subst hc
    simp[Instr.sliceAt,Sem.run_bind,M9 ht,Instr.slice,hb,O2 hs]
   ·simp[Instr.sliceAt,Sem.run_bind,M9 ht,Instr.slice,hb,O2 hs,hc,Addr.add]
  ·rename_i mm s hl he hs
   split at e
   ·rename_i hm
    simp only[a8]at e;subst e
    refine⟨.slice (some ad) 0 0,⟨ad,rfl⟩,fun w=> ?_⟩
    have hb:=O9 (P:=P) (cap:=cap) (m:=0) true rl rh rm hl he ((bU7 _ _ _).trans hm) (b9 _) (b9 _) (k8 _) hx' w
    simp[Instr.sliceAt,Sem.run_bind,M9 ht,Instr.slice,hb,O2 hs]
   ·cases e
  ·cases e
 ·
  rename_i elem ht
  simp only[VR]at rx;obtain⟨ad,rfl⟩:=rx
  split at e
  ·rename_i s hl he hm hs
   simp only[a8]at e;subst e
   refine⟨.slice (some ad) 0 0,⟨ad,rfl⟩,fun w=> ?_⟩
   simp[Instr.sliceAt,Sem.run_bind,M9 ht,Instr.slice,O9 (cap:=0) true rl rh rm hl he hm (b9 _) (b9 _) (b9 _) hx',O2 hs]
  ·cases e
 ·
  rename_i elem b o len cap ht
  split at e
  ·rename_i l en m s hl he hm hs
   obtain⟨hc,e⟩:=M7 e
   obtain⟨hc,h3⟩:=M6 hc
   obtain⟨h1,h2⟩:=M6 hc
   rw[N1]at h1 h2 h3
   simp only[a8]at e;subst e
   simp only[VR]at rx;obtain⟨L,hL,rfl⟩:=rx
   by_cases hml:m=l
   ·subst hml
    refine⟨.slice (some ⟨L.blk,L.off+o,none⟩) (en-m) (m-m),⟨L,hL,by simp⟩,fun w=> ?_⟩
    simp[Instr.sliceAt,Sem.run_bind,M9 ht,Instr.slice,O9 true rl rh rm hl he hm h1 h2 h3 hx',O2 hs]
   ·refine⟨.slice (some ⟨L.blk,L.off+(o+l*s),none⟩) (en-l) (m-l),⟨L,hL,by rw[bl0 hml];rfl⟩,fun w=> ?_⟩
    simp[Instr.sliceAt,Sem.run_bind,M9 ht,Instr.slice,O9 true rl rh rm hl he hm h1 h2 h3 hx',O2 hs,hml,U7,l8]
  ·cases e
 ·
  rename_i elem b o len sz ht
  split at e
  ·rename_i l en s el fz cs hl he hs hg
   obtain⟨hc,e⟩:=M7 e
   obtain⟨hc,h4⟩:=M6 hc
   obtain⟨hc,h3⟩:=M6 hc
   obtain⟨h1,h2⟩:=M6 hc
   rw[N1]at h2 h4
   rw[N9]at h3
   rw[M8]at h1;subst h1
   simp only[VR]at rx;obtain⟨L,cap,hL,hext,rfl⟩:=rx
   obtain⟨C,lo',hi',vs,_,_,hle,_⟩:=r.cells hg hL
   have hcap: ∀m,o+m*s≤cs.length→m≤cap:=by
    intro m hm
    exact A1 (show m*s≤cap*s by omega) h3
   have hen:en≤cap:=hcap en h4
   split at e
   ·simp only[OR]at rm;subst rm
    have hb:=O9 (P:=P) (mx:=none) (vm:=none) (cap:=cap) true rl rh rfl hl he (m:=cap) rfl h2 hen (b9 _) (fun _=>rfl)
    have hrun: ∀w,(Instr.sliceAt t (.slice (some ⟨L.blk,L.off+o,none⟩) len cap) vl vh none).run P w= .ok (.slice (if cap=l then some ⟨L.blk,L.off+o,none⟩else some ⟨L.blk,L.off+(o+l*s),none⟩) (en-l) (cap-l)) w:=by
     intro w
     by_cases hml:cap=l
     ·subst hml;simp[Instr.sliceAt,Sem.run_bind,M9 ht,Instr.slice,hb,O2 hs]
     ·simp[Instr.sliceAt,Sem.run_bind,M9 ht,Instr.slice,hb,O2 hs,hml,U7,l8]
    have hmul:l*s+(cap-l)*s=cap*s:=by
     rw[←l7];congr 1;omega
    by_cases hq:(Nat.blt (o+l*s) cs.length||Nat.beq l 0)=true
    ·rw[hq]at e;simp only[cond_true,a8]at e;subst e
     refine⟨_,⟨L,cap-l,hL,by omega,?_⟩,hrun⟩
     by_cases hml:cap=l
     ·rcases Bool.or_eq_true_iff.1 hq with hq|hq
      ·rw[N9]at hq
       subst hml
       omega
      ·rw[M8]at hq;subst hq;simp
     ·rw[if_neg hml]
    ·have hq':(Nat.blt (o+l*s) cs.length||Nat.beq l 0)=false:=(l9 _).mp hq
     rw[hq']at e;simp only[cond_false,a8]at e;subst e
     have hge: ¬(o+l*s<cs.length):=fun hh=>hq (by rw[a40 hh];rfl)
     have hle2:l*s≤en*s:=t8 s h2
     have hen2:en=l:=by
      have:en*s=l*s:=by omega
      exact Nat.eq_of_mul_eq_mul_right h3 this
     subst hen2
     by_cases hml:cap=en
     ·refine⟨_,⟨L,⟨L.blk,L.off+o,none⟩,cap-en,hL,?_,.inl (by omega)⟩,hrun⟩
      rw[if_pos hml];simp
     ·refine⟨_,⟨L,⟨L.blk,L.off+(o+en*s),none⟩,cap-en,hL,?_,.inr ⟨rfl,by omega⟩⟩,hrun⟩
      rw[if_neg hml];simp
   ·rename_i mm
    split at e
    ·rename_i m hm
     obtain⟨hc,e⟩:=M7 e
     obtain⟨h5,h6⟩:=M6 hc
     rw[N1]at h5 h6
     simp only[a8]at e;subst e
     have hb:=O9 (P:=P) (cap:=cap) (m:=m) true rl rh rm hl he ((bU7 _ _ _).trans hm) h2 h5 (hcap m h6) hx'
     by_cases hml:m=l
     ·subst hml
      refine⟨.slice (some ⟨L.blk,L.off+o,none⟩) (en-m) (m-m),⟨L,hL,by simp⟩,fun w=> ?_⟩
      simp[Instr.sliceAt,Sem.run_bind,M9 ht,Instr.slice,hb,O2 hs]
     ·refine⟨.slice (some ⟨L.blk,L.off+(o+l*s),none⟩) (en-l) (m-l),⟨L,hL,by rw[bl0 hml];rfl⟩,fun w=> ?_⟩
      simp[Instr.sliceAt,Sem.run_bind,M9 ht,Instr.slice,hb,O2 hs,hml,U7,l8]
    ·cases e
  ·cases e
 ·
  rename_i n elem b o ht
  split at e
  ·rename_i l en m s hl he hm hs
   obtain⟨hc,e⟩:=M7 e
   obtain⟨hc,h3⟩:=M6 hc
   obtain⟨h1,h2⟩:=M6 hc
   rw[N1]at h1 h2 h3
   simp only[a8]at e;subst e
   simp only[VR]at rx;obtain⟨L,hL,rfl⟩:=rx
   by_cases hml:m=l
   ·subst hml
    refine⟨.slice (some ⟨L.blk,L.off+o,none⟩) (en-m) (m-m),⟨L,hL,by simp⟩,fun w=> ?_⟩
    simp[Instr.sliceAt,Instr.sureAddr,Sem.run_bind,M9 ht,O9 false rl rh rm hl he hm h1 h2 h3 hx',O2 hs]
   ·refine⟨.slice (some ⟨L.blk,L.off+(o+l*s),none⟩) (en-l) (m-l),⟨L,hL,by rw[bl0 hml];rfl⟩,fun w=> ?_⟩
    simp[Instr.sliceAt,Instr.sureAddr,Sem.run_bind,M9 ht,O9 false rl rh rm hl he hm h1 h2 h3 hx',O2 hs,hml,U7,l8]
  ·cases e
 ·cases e
theorem aU6{cs:List AV}{xs:List Value}{vs:List AV}{us:List Value}(o:Nat)(r:VRs β ω cs xs)(q:VRs β ω vs us):
 VRs β ω (a03 cs o vs) (xs.take o++us++xs.drop (o+us.length)):=by
 rw[q.length]
 exact((r.take o).append q).append (r.drop _)
theorem ar0{cs vs:List AV}{o:Nat}(h:o+vs.length≤cs.length):(a03 cs o vs).length=cs.length:=by
 simp[a03];omega
theorem bU9(v:List Value): ∀(j off:Nat) (cells:Array Value),off+j+v.length≤cells.size→
 ((v.zipIdx j).foldl (fun cs (x:Value×Nat)=>cs.setIfInBounds (off+x.2) x.1) cells).toList=cells.toList.take (off+j)++v++cells.toList.drop (off+j+v.length):=by
 induction v with
 |nil=>intro j off cells h;simp
 |cons a r ih=>
  intro j off cells h
  simp only[List.zipIdx_cons,List.foldl_cons]
  rw[ih (j+1) off _ (by simp at h⊢;omega)]
  simp only[List.length_cons]at h⊢
  have hlt:off+j<cells.toList.length:=by simp;omega
  have hp:off+(j+1)=off+j+1:=by omega
  rw[Array.toList_setIfInBounds,hp]
  generalize off+j=p at hlt⊢
  have hmin:min p cells.toList.length=p:=by omega
  rw[List.set_eq_take_append_cons_drop,if_pos hlt,List.take_append,F7]
  simp only[e9,hmin,List.take_take,F8]
  rw[show p+1-p=1 by omega,show p+1+r.length-p=r.length+1 by omega,show min (p+1) p=p by omega,show p-(p+1+r.length)=0 by omega]
  simp[F9,l8,y6 1]
theorem aH7{placeA:Nat→Option (Nat×Nat)}{placeV:Nat→Option (Nat×Nat)}(hp: ∀i x,placeA i=some x→placeV i=some x):
 ∀(parts:List (Nat×AV)) (vparts:List (Nat×Value)) (cs cs':List AV) (cells:Array Value),
  bi5 placeA cs parts=some cs'→VRs β ω cs cells.toList→(List.map (·.1) parts=List.map (·.1) vparts)→VRs β ω (parts.map (·.2)) (vparts.map (·.2))→
  ∃cells',Instr.fill placeV cells vparts=some cells'∧VRs β ω cs' cells'.toList∧cells'.size=cells.size
 | [],vparts,cs,cs',cells,h,r,hm,hv=>by
   cases vparts with
   |nil=>simp only[bi5,a8]at h;subst h;exact⟨cells,rfl,r,rfl⟩
   |cons a b=>simp at hm
 |(i,v)::rest,vparts,cs,cs',cells,h,r,hm,hv=>by
  cases vparts with
  |nil=>simp at hm
  |cons a b=>
   obtain⟨i',y⟩:=a
   simp only[j9,A3]at hm
   obtain⟨rfl,hm⟩:=hm
   obtain⟨y',yr,hy,ry,rr⟩:=hv
   simp only[j9,A3]at hy
   obtain⟨rfl,rfl⟩:=hy
   simp only[bi5]at h
   split at h
   ·cases h
   ·rename_i off size hpl
    obtain⟨hc,h⟩:=M7 h
    obtain⟨h0,hc⟩:=M6 hc
    obtain⟨h1,h2⟩:=M6 hc
    rw[M8]at h1
    rw[N1]at h2
    have rc:=VR.cells ry h0
    have hl:=rc.length
    have hs:=r.length
    simp only[Array.length_toList]at hl hs
    have hfold:=bU9 y.cells.toList 0 off cells (by simp;omega)
    simp only[Nat.add_zero]at hfold
    obtain⟨cells',e1,e2,e3⟩:=aH7 hp rest b (a03 cs off v.cells) cs'
     (y.cells.zipIdx.foldl (fun cs (c,j)=>cs.setIfInBounds (off+j) c) cells) h
     (by
      have:=aU6 off r rc
      rw[show(y.cells.zipIdx.foldl (fun cs (c,j)=>cs.setIfInBounds (off+j) c) cells).toList=cells.toList.take off++y.cells.toList++cells.toList.drop (off+y.cells.toList.length) by
       rw[←hfold,←J3,Array.toList_zipIdx]]
      exact this) hm rr
    refine⟨cells',?_,e2,?_⟩
    ·have hcond: ¬(y.cells.size≠size||decide (off+y.cells.size>cells.size))=true:=by
      simp;omega
     simp only[Instr.fill,hp _ _ hpl]
     rw[if_neg hcond];exact e1
    ·rw[e3]
     have: ∀(l:List (Value×Nat)) (c:Array Value),(l.foldl (fun cs (x:Value×Nat)=>cs.setIfInBounds (off+x.2) x.1) c).size=c.size:=by
      intro l;induction l with
      |nil=>intro c;rfl
      |cons a b ih=>intro c;simp[ih]
     rw[←J3]
     exact this _ _
theorem aH8{fields:List Field}(hs: ∀f∈fields,(a90 P f.type).isSome=true)(w:World):
 (fields.mapM (m:=Sem) fun f=>do pure (f.offset,←sizeOf f.type)).run P w= .ok (fields.map fun f=>(f.offset,(a90 P f.type).getD 0)) w:=by
 induction fields with
 |nil=>rfl
 |cons f r ih=>
  obtain⟨s,hs'⟩:=J4.1 (hs f (by simp))
  simp only[C3,Sem.run_bind,O2 hs',Result.andThen_ok,Sem.run_pure,ih (fun g hg=>hs g (by simp[hg])),j9,hs',Option.getD_some]
theorem bV0{t:TypeId}{parts:List (Nat×AV)}{vparts:Array (Nat×Value)}{a:AV}(e:bN8 P t parts=some a)(hm:parts.map (·.1)=vparts.toList.map (·.1))(hv:VRs β ω (parts.map (·.2)) (vparts.toList.map (·.2))):
 ∃v,VR β ω a v∧ ∀w,(Instr.build t vparts).run P w= .ok v w:=by
 unfold bN8 at e
 split at e
 ·rename_i z fields hz ht
  obtain⟨zv,hzv,hzr⟩:=Y4 hz
  simp only[j6]at e
  obtain⟨cs,hf,e⟩:=e
  obtain⟨hall,e⟩:=M7 e
  obtain⟨hall,hnt⟩:=M6 hall
  simp only[a8]at e;subst e
  have hall': ∀f∈fields.toList,(a90 P f.type).isSome=true:=by
   intro f hf
   have:=J5.1 hall f (by simpa using hf)
   simpa using this
  have hz':VRs β ω z.cells zv.cells.toList:=VR.cells (a19 hzv) hnt
  obtain⟨cells',e1,e2,e3⟩:=aH7 (placeV:=fun i=>((fields.toList.map fun f=>(f.offset,(a90 P f.type).getD 0)).toArray)[i]?)
   (fun i x hx=>by
    simp only[j6,j4]at hx
    obtain⟨f,hf,s,hs,rfl⟩:=hx
    simp[hf,hs]) parts vparts.toList z.cells cs zv.cells hf hz' hm hv
  refine⟨.agg cells',⟨_,rfl,e2⟩,fun w=> ?_⟩
  have hmap:(fields.mapM (m:=Sem) fun f=>do pure (f.offset,←sizeOf f.type)).run P w= .ok (fields.toList.map fun f=>(f.offset,(a90 P f.type).getD 0)).toArray w:=by
    rw[Array.mapM_eq_mapM_toList]
    simp only[Sem.run_map,aH8 hall',Result.andThen_ok]
  simp only[Instr.build,Sem.run_bind,hzr,Result.andThen_ok,M9 ht,hmap]
  rw[e1]
  rfl
 ·rename_i z len elem hz ht
  obtain⟨zv,hzv,hzr⟩:=Y4 hz
  split at e
  ·rename_i s hs
   obtain⟨hnt,e⟩:=M7 e
   simp only[j4]at e
   obtain⟨cs,hf,rfl⟩:=e
   have hz':VRs β ω z.cells zv.cells.toList:=VR.cells (a19 hzv) hnt
   obtain⟨cells',e1,e2,e3⟩:=aH7 (placeV:=fun i=>some (i*s,s)) (fun i x hx=>hx) parts vparts.toList z.cells cs zv.cells hf hz' hm hv
   refine⟨.agg cells',⟨_,rfl,e2⟩,fun w=> ?_⟩
   simp only[Instr.build,Sem.run_bind,hzr,Result.andThen_ok,M9 ht,O2 hs]
   rw[e1]
   rfl
  ·cases e
 ·cases e
end Go.Ev
