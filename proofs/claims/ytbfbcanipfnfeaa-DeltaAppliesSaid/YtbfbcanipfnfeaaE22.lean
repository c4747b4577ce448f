import Derived.Test.YtbfbcanipfnfeaaE21
import Derived.OrdersIn
import Derived.RangeFuncIn
import Derived.RangeFuncRecord
set_option linter.unusedVariables false
set_option linter.unusedSimpArgs false
namespace Go.Ev
open Go
variable{E:Env}{β:Bij}{ω:Opq}{K:Nat→Prop}{w0 w:World}{h h':Heap}
structure AlgOk {R:Type} (A:Alg R) (T:R→Prop) (ω:Opq):Prop where
 bad: ¬T A.bad
 amb: ∀l f,T (A.amb l f)→ ∀x∈l,T (f x)
 ite: ∀e x y,T (A.ite e x y)→(dB ω e=true→T x)∧(dB ω e=false→T y)
 need: ∀e x,T (A.need e x)→dB ω e=true∧T x
 loop: ∀hd body ks,T (A.loop hd body ks)→ ∃r x,P5 (fun vs=>N0 body (ω.upd hd.v0 vs)) (N2 ω hd.s0)=some r∧ω.f hd.id (N2 ω (hd.s0++hd.fv))=S6 r∧ks[r.1]? =some x∧T x
 mloop: ∀hd l body ks,T (A.mloop hd l body ks)→ ∃D x,cU6 (fun vs=>N0 body (ω.upd hd.v0 vs)) (dL ω l).length (N2 ω hd.s0) D∧ω.f hd.id (N2 ω (hd.s0++hd.fv))=S6 (0,[.vi D.length,.vl D])∧ks[0]? =some x∧T x
theorem bc7{a b:Int}:aF5 a b=true↔a<b:=by rw[a69];exact decide_eq_true_iff
theorem ch9{ω:Opq}{p:Prim}{l:List SX}(h:cy5 p l=true):dB ω (.op p l)=true:=by
 unfold cy5 at h
 split at h
 ·rename_i x
  exact decide_eq_true (show(0:Int)≤((den ω x).toL.length:Int) by omega)
 ·rename_i x
  exact decide_eq_true (show(0:Int)≤((den ω x).toS.length:Int) by omega)
 ·rename_i a b
  refine decide_eq_true (show a≤b from ?_)
  cases hc:aF5 b a with
  |true=>rw[hc]at h;cases h
  |false=>
   rw[a69]at hc
   have:=of_decide_eq_false hc
   omega
 ·exact decide_eq_true (bc7.1 h)
 ·cases h
theorem aL1{ω:Opq}{e:SX}(h:b92 e=true):dB ω e=true:=by
 unfold b92 at h
 split at h
 ·exact h
 ·exact ch9 h
 ·cases h
theorem aL2{ω:Opq}{e:SX}(h:b93 e=true):dB ω e=true:=by
 unfold b93 at h
 split at h
 ·rw[d6]at h
  show(dB ω _&&dB ω _)=true
  rw[aL1 h.1,aL1 h.2];rfl
 ·exact aL1 h
theorem bx8{ω:Opq}{e:SX}(h:bH0 e=true):dB ω e=true:=by
 unfold bH0 at h
 split at h
 ·rw[d6]at h
  show(dB ω _&&dB ω _)=true
  rw[aL2 h.1,aL2 h.2];rfl
 ·exact aL2 h
theorem cC3{ω:Opq}{p:Prim}{l:List SX}(h:d40 p l=true):dB ω (.op p l)=true:=by
 unfold d40 at h
 split at h
 ·rename_i a b
  refine decide_eq_true (show a≤b from ?_)
  cases hc:aF5 b a with
  |true=>rw[hc]at h;cases h
  |false=>
   rw[a69]at hc
   have:=of_decide_eq_false hc
   omega
 ·exact decide_eq_true (bc7.1 h)
 ·rfl
 ·cases h
theorem ar7{ω:Opq}: ∀(n:Nat) {e:SX},dB ω (b94 n e)=true→dB ω e=true
 |0,_,h=>h
 |n+1,e,h=>by
  unfold b94 at h
  split at h
  ·obtain⟨h1,h2⟩:=ao2 h
   show(dB ω _&&dB ω _)=true
   rw[ar7 n h1,ar7 n h2];rfl
  ·rename_i p l _
   unfold cS9 at h
   cases hc:d40 p l with
   |true=>exact cC3 hc
   |false=>rw[hc]at h;exact h
  ·exact h
theorem AlgOk.needA{R:Type}{A:Alg R}{T:R→Prop}{ω:Opq}(hA:AlgOk A T ω)(e:SX)(x:R)(h:T (needA A e x)):dB ω e=true∧T x:=by
 unfold Go.Ev.needA at h
 cases hs:bH0 e with
 |true=>rw[hs]at h;exact⟨bx8 hs,h⟩
 |false=>
  rw[hs]at h
  cases hl:cT0 e with
  |false=>rw[hl]at h;exact hA.need e x h
  |true=>
   rw[hl]at h
   simp only[cond_true,cond_false]at h
   unfold cT1 at h
   split at h
   ·rename_i ht;exact⟨ar7 30 (by rw[ht];rfl),h⟩
   ·obtain⟨h1,h2⟩:=hA.need _ _ h
    exact⟨ar7 30 h1,h2⟩
theorem ax0: ∀{ks:List VT} {n:Nat} {ω:Opq} {r:Nat×List Val},R2 ks n ω=some r→ ∃x,ks[n]? =some x∧N0 x ω=some r
 | [],n,ω,r,h=>by cases n<;>simp[R2]at h
 |k::ks,0,ω,r,h=>⟨k,rfl,by simpa[R2]using h⟩
 |k::ks,n+1,ω,r,h=>by
  obtain⟨x,h1,h2⟩:=ax0 (ks:=ks) (n:=n) (by simpa[R2]using h)
  exact⟨x,by simpa using h1,h2⟩
theorem ax1(ω:Opq):AlgOk a38 (· =true) ω:=
 ⟨by simp[a38],fun l f h=>i6.1 h,fun e x y h=>by simp only[a38,d6]at h;exact⟨fun _=>h.1,fun _=>h.2⟩,fun e x h=>(by cases h),fun _ _ _ h=>(by cases h),fun _ _ _ _ h=>(by cases h)⟩
def cC4(E:Env)(ω:Opq)(n:Nat):Prop:= ∀(R:Type) (A:Alg R) (T:R→Prop),AlgOk A T ω→ ∀(f:FuncId) (args:List AV) (h:Heap) (k:AV→Heap→R),T (ev E n R A (.call f args h k))→
 ∀(K:Nat→Prop) (w0:World) (β:Bij) (w:World) (us:List Value),HR β ω K w0 h w→VRs β ω args us→
  Calls E.P f us.toArray w (fun e w'=> ∃u β' v h',e= .returned u∧T (k v h')∧VR β' ω v u∧HR β' ω K w0 h' w'∧St h β h' β')
def Fen(ro:Option Nat):Fence:={Fence.wide with round:=ro}
def RoR(β:Bij):Option Nat→Option Nat→Prop
 |none,r=>r=none
 |some l,r=> ∃L,β l=some L∧r=some L.blk
theorem RoR.mono{β':Bij}(hl:Le β β'): ∀{l r:Option Nat},RoR β l r→RoR β' l r
 |none,_,h=>h
 |some _,_,⟨L,h1,h2⟩=>⟨L,hl _ _ h1,h2⟩
theorem bx9{ro:Option Nat}{n:Nat}{f:FuncId}{args:Array Value}{R:Ending→World→Prop}:CallsIn (Fen ro) n E.P f args w R↔Calls E.P f args w R:=
 callsIn_wide (n:=n)
def cC5:Ex→Exit
 | .norm=> .normal
 | .exit id=> .exit id
 | .ret=> .ret
def KOk{R:Type}(T:R→Prop)(ω:Opq)(K:Nat→Prop)(w0:World)(hs:Heap)(βs:Bij)(r0:Option Nat)(k:Ex→Fr→Heap→R)(Q:Exit→Act→World→Prop):Prop:=
 ∀e a h β act w,T (k e a h)→a.ro=r0→FrR β ω a act→HR β ω K w0 h w→St hs βs h β→Q (cC5 e) act w
theorem KOk.later{R:Type}{T:R→Prop}{K:Nat→Prop}{w0:World}{hs h:Heap}{βs β:Bij}{r0:Option Nat}{k:Ex→Fr→Heap→R}{Q:Exit→Act→World→Prop}(q:KOk T ω K w0 hs βs r0 k Q)(s:St hs βs h β):KOk T ω K w0 h β r0 k Q:=
 fun e a h' β' act w he g f r s'=>q e a h' β' act w he g f r (s.trans s')
def ao6(E:Env)(ω:Opq)(n:Nat):Prop:= ∀(R:Type) (A:Alg R) (T:R→Prop),AlgOk A T ω→ ∀(c:Code) (a:Fr) (h:Heap) (k:Ex→Fr→Heap→R),T (ev E n R A (.code c a h k))→
 ∀(K:Nat→Prop) (w0:World) (β:Bij) (act:Act) (w:World) (ro:Option Nat) (Q:Exit→Act→World→Prop),HR β ω K w0 h w→FrR β ω a act→RoR β a.ro ro→KOk T ω K w0 h β a.ro k Q→c.wpIn (Fen ro) 0 E.P Q act w
def GoS(E:Env)(ω:Opq)(n:Nat):Prop:=cC4 E ω n∧ao6 E ω n
theorem bJ7{ρ:Operand→Option AV}{o:Oper}{c:Call}(hc:o.op= .defer c)(h:Heap):S5 E ρ o h= .bad∨ ∃d,S5 E ρ o h= .defer d:=by
 unfold S5 aq4 aG3
 rw[hc]
 simp only[]
 unfold b83
 split
 ·exact .inl rfl
 ·split
  ·rename_i f _
   cases ρ f with
   |none=>exact .inl rfl
   |some v=>
    simp only[s1r]
    unfold bP4
    split
    ·exact .inr ⟨_,rfl⟩
    ·exact .inl rfl
  ·exact .inl rfl
theorem bZ9{ρ:Operand→Option AV}{o:Oper}{h:Heap}{r:Res}(e:S5 E ρ o h=r)(h1:r≠ .bad)(h2: ∀d,r≠ .defer d)(c:Call):o.op≠ .defer c:=by
 intro hc
 rcases bJ7 (E:=E) (ρ:=ρ) hc h with q|⟨d,q⟩
 ·exact h1 (e▸q)
 ·exact h2 d (e▸q)
theorem ax2{ro:Option Nat}{o:Oper}{act:Act}{next:Act→World→Prop}{Q:Exit→Act→World→Prop}(ho: ∀c,o.op≠ .defer c){u:Value}{w':World}(hr:(execOp act.eval o).run E.P w= .ok (.value u) w')
 (hk:next (act.put o.dst u) w'):o.wpIn (Fen ro) 0 E.P act w next Q:=by
 refine⟨fun _ _=>trivial,?_⟩
 rw[Oper.semAt_eq _ _ _ ho,hr]
 exact hk
theorem bJ8{ro:Option Nat}{o:Oper}{act:Act}{next:Act→World→Prop}{Q:Exit→Act→World→Prop}(ho: ∀c,o.op≠ .defer c){w':World}(hr:(execOp act.eval o).run E.P w= .ok .skip w')
 (hk:next (act.put o.dst Go.undef) w'):o.wpIn (Fen ro) 0 E.P act w next Q:=by
 refine⟨fun _ _=>trivial,?_⟩
 rw[Oper.semAt_eq _ _ _ ho,hr]
 exact hk
theorem ak0{ro:Option Nat}{o:Oper}{act:Act}{next:Act→World→Prop}{Q:Exit→Act→World→Prop}{v:AV}(ho: ∀c,o.op≠ .defer c)(hs:W2 E β ω K w0 w h (execOp act.eval o) v h')
 (hk: ∀β' u w',VR β' ω v u→HR β' ω K w0 h' w'→St h β h' β'→next (act.put o.dst u) w'):o.wpIn (Fen ro) 0 E.P act w next Q:=by
 obtain⟨β',u,w',hr,hv,hh,hst⟩:=hs
 rcases hr with hr|⟨rfl,hr⟩
 ·exact ax2 ho hr (hk β' u w' hv hh hst)
 ·exact bJ8 ho hr (hk β' _ w' hv hh hst)
theorem HR.loopAt{st:LoopState}{pend:Option Code}{fn:FuncId}{tm:TF}{nt:Nat}{ps:Array Tmp}{as body:Code}{d l:Nat}{L:Loc}(r:HR β ω K w0 h w)(hg:h.get l=some (.loop st pend fn tm nt ps as body d))(hL:β l=some L)(hwm:h.wm≤l):
 ∃(f':FuncId) (tmps:Array Value) (Ld:Loc),w.heap[L.blk]? =some (.loop {state:=st,pending:=pend,fn:=f',tmps:=tmps,params:=ps,assign:=as,body:=body,defers:=Ld.blk})∧β d=some Ld∧TR β ω tm nt tmps∧
  ∀st' pend',HR β ω K w0 (h.put l (some (.loop st' pend' fn tm nt ps as body d))) (w.putObj L.blk (.loop {state:=st',pending:=pend',fn:=f',tmps:=tmps,params:=ps,assign:=as,body:=body,defers:=Ld.blk}))∧
   St h β (h.put l (some (.loop st' pend' fn tm nt ps as body d))) β:=by
 obtain⟨tmps,f',Ld,h1,h2,h3⟩:=r.blk l _ L hg hL
 refine⟨f',tmps,Ld,h1,h2,h3,fun st' pend'=> ?_⟩
 refine r.upd l _ _ L hg hL hwm (fun i hi=>World.putObj_heap_other hi) World.putObj_size rfl rfl rfl rfl ?_
 rw[World.putObj_heap_same (r.lt l L hL)]
 exact⟨tmps,f',Ld,rfl,h2,h3⟩
theorem by0: ∀{ps:List Tmp} {args:List AV} {us:List Value} {nt:Nat} {t:TF} {tmps:Array Value},TR β ω t nt tmps→VRs β ω args us→
 TR β ω (b97 ps args nt t) nt ((ps.zip us).foldl (fun tmps (p:Tmp×Value)=>tmps.setIfInBounds p.1 p.2) tmps)
 | [],args,us,nt,t,tmps,r,ra=>by
   cases args<;>simpa[b97]using r
 |p::ps,[],us,nt,t,tmps,r,ra=>by
  rw[show us=[]from ra]
  simpa[b97]using r
 |p::ps,v::args,us,nt,t,tmps,r,⟨u,ur,e,rv,rr⟩=>by
  subst e
  simp only[b97,List.zip_cons_cons,List.foldl_cons]
  refine by0 ?_ rr
  obtain⟨h1,h2,h3⟩:=r
  by_cases hp:p<nt
  ·rw[a40 hp,cond_true]
   refine⟨by simpa using h1,h2,fun n=> ?_⟩
   rw[TF.get_set t p n v (o7 hp h2),k7,A4]
   by_cases hn:n=p
   ·subst hn
    rw[if_pos rfl,if_pos rfl,if_pos (show n<tmps.size by rw[h1];exact hp)]
    exact rv
   ·rw[if_neg hn,if_neg (fun hh=>hn hh.symm),←k7]
    exact h3 n
  ·rw[a89 hp,cond_false]
   rw[Array.setIfInBounds_eq_of_size_le (show tmps.size≤p by rw[h1];exact A8 hp)]
   exact⟨h1,h2,h3⟩
theorem ci0{R:Type}{A:Alg R}{T:R→Prop}(hA:AlgOk A T ω){n:Nat}(hk1:ao6 E ω n){l:Nat}{L:Loc}{args:List AV}{us:List Value}{k':AV→Heap→R}(r:HR β ω K w0 h w)(hL:β l=some L)(ra:VRs β ω args us)
 (he:T (bT6 (ev E n) A l args h k' (h.get l))) {Rr:Ending→World→Prop}
 (hk: ∀β' v u h' w',T (k' v h')→VR β' ω v u→HR β' ω K w0 h' w'→St h β h' β'→Rr (.returned u) w'):
 ∃f tmps as body,(Instr.yield L.blk us.toArray).run E.P w= .ok (.round L.blk f tmps as body) w∧RoundIn Fence.wide 0 E.P L.blk f tmps as body w Rr:=by
 unfold bT6 at he
 split at he
 ·rename_i st pend fn tm nt ps as body d hg
  obtain⟨hcnd,he⟩:(Nat.beq args.length ps.size&&Nat.ble h.wm l)=true∧T (ev E n R A (.code as ⟨b97 ps.toList args nt tm,nt,[],fn,[],some l⟩ h (bk7 (ev E n) A l body k'))):=by
   cases hc:(Nat.beq args.length ps.size&&Nat.ble h.wm l)with
   |false=>rw[hc]at he;exact absurd he hA.bad
   |true=>rw[hc]at he;exact⟨rfl,he⟩
  obtain⟨c1,c2⟩:=M6 hcnd
  rw[M8]at c1
  rw[N1]at c2
  obtain⟨f',tmps,Ld,g1,g2,g3,g4⟩:=r.loopAt hg hL c2
  have hsz:us.toArray.size=ps.size:=by rw[←c1];simp[ra.length]
  have hy:=run_yield (P:=E.P) (args:=us.toArray) g1 hsz
  refine⟨_,_,_,_,hy,?_⟩
  refine roundIn_of_wpIn (F:=Fence.wide) trivial ?_
  have hf:=by0 (ps:=ps.toList) g3 ra
  have hfold:(ps.zip us.toArray).foldl (fun tmps (x:Tmp×Value)=>tmps.setIfInBounds x.1 x.2) tmps=(ps.toList.zip us).foldl (fun tmps (p:Tmp×Value)=>tmps.setIfInBounds p.1 p.2) tmps:=by
   rw[←J3,Array.toList_zip]
  have hfr:FrR β ω ⟨b97 ps.toList args nt tm,nt,[],fn,[],some l⟩ {tmps:=(ps.zip us.toArray).foldl (fun tmps (x:Tmp×Value)=>tmps.setIfInBounds x.1 x.2) tmps,defers:=[]}:=by
   rw[hfold]
   exact⟨hf.1,hf.2.1,fun t _=>hf.2.2 t,rfl,fun p hp=>by cases hp⟩
  refine hk1 R A T hA as _ h _ he K w0 β _ w (some L.blk) _ r hfr ⟨L,hL,rfl⟩ ?_
  intro e a1 h1 β1 act1 w1 hke hro hf1 hr1 hst1
  cases e with
  |norm=>
   simp only[bk7]at hke
   split at hke
   ·rename_i pend1 fn1 tm1 nt1 ps1 as1 b1 d1 hg1
    have hL1:β1 l=some L:=by
     rw[hst1.ext l]
     ·exact hL
     ·rcases d8 l h.next with hh|hh
      ·exact hh
      ·rw[r.fget l hh]at hg;cases hg
    have hwm1:h1.wm≤l:=by rw[hst1.wm];exact c2
    obtain⟨f1,tmps1,Ld1,z1,z2,z3,z4⟩:=hr1.loopAt hg1 hL1 hwm1
    obtain⟨y1,y2⟩:=z4 .busy pend1
    refine⟨_,run_beginRound z1 rfl,?_⟩
    refine hk1 R A T hA body a1 _ _ hke K w0 β1 act1 _ (some L.blk) _ y1 hf1 (by rw[hro];exact⟨L,hL1,rfl⟩) ?_
    intro e a2 h2 β2 act2 w2 hke2 hro2 hf2 hr2 hst2
    have main: ∀j:Option Code,aq7 e=j→ ∃v w',(Instr.endRound L.blk j).run E.P w2= .ok v w'∧Rr (.returned v) w':=by
     rintro j rfl
     unfold bT5 at hke2
     split at hke2
     ·split at hke2
      ·rename_i st2 pend2 fn2 tm2 nt2 ps2 as2 b2 d2 hg2
       have hL2:β2 l=some L:=by
        rw[hst2.ext l]
        ·exact hL1
        ·rw[Heap.next_put]
         rcases d8 l h1.next with hh|hh
         ·exact hh
         ·rw[hr1.fget l hh]at hg1;cases hg1
       have hwm2:h2.wm≤l:=by rw[hst2.wm];exact hwm1
       obtain⟨f2,tmps2,Ld2,x1,x2,x3,x4⟩:=hr2.loopAt hg2 hL2 hwm2
       obtain⟨q1,q2⟩:=x4 (bk6 (aq7 e)) (aq7 e)
       have hend:=run_endRound (P:=E.P) (aq7 e) x1
       have hst:(if(aq7 e).isNone then LoopState.ready else LoopState.done)=bk6 (aq7 e):=by cases e<;>rfl
       simp only[hst]at hend
       exact⟨_,_,hend,hk β2 _ _ _ _ hke2 rfl q1 ((((hst1.trans y2).trans hst2)).trans q2)⟩
      ·exact absurd hke2 hA.bad
     ·exact absurd hke2 hA.bad
    cases e with
    |norm=>exact main none rfl
    |ret=>exact main (some .ret) rfl
    |exit id=>exact main (some (.exit id)) rfl
   ·exact absurd hke hA.bad
  |exit id=>exact absurd hke hA.bad
  |ret=>exact absurd hke hA.bad
 ·exact absurd he hA.bad
theorem cV7{R:Type}{A:Alg R}{T:R→Prop}(hA:AlgOk A T ω){n:Nat}(hc:GoS E ω n){ro:Option Nat}{ρ:Operand→Option AV}{o:Oper}{act:Act}{next:Act→World→Prop}{Q:Exit→Act→World→Prop}{k':AV→Heap→R}{res:Res}(r:HR β ω K w0 h w)
 (hres:S5 E ρ o h=res) (hs:SOk E β ω K w0 w h (execOp act.eval o) res) (he:T (d43 (ev E n) A h k' res))
 (hk: ∀β' v u h' w',T (k' v h')→VR β' ω v u→HR β' ω K w0 h' w'→St h β h' β'→next (act.put o.dst u) w'):o.wpIn (Fen ro) 0 E.P act w next Q:=by
 have nd:res≠ .bad→(∀d,res≠ .defer d)→ ∀c,o.op≠ .defer c:=bZ9 hres
 cases res with
 |val v h'=>exact ak0 (nd nofun nofun) hs fun β' u w' hv hh hst=>hk β' v u h' w' he hv hh hst
 |need e v h'=>
  obtain⟨h1,h2⟩:=hA.needA _ _ he
  exact ak0 (nd nofun nofun) (hs h1) fun β' u w' hv hh hst=>hk β' v u h' w' h2 hv hh hst
 |cho e v l h'=>
  obtain⟨h1,h2⟩:=hA.ite _ _ _ he
  cases hd:dB ω e with
  |true=>exact ak0 (nd nofun nofun) (hs.1 hd) fun β' u w' hv hh hst=>hk β' v u h' w' (h1 hd) hv hh hst
  |false=>
   obtain⟨x,hx,hv⟩:=hs.2 hd
   have:=hA.amb _ _ (h2 hd) (x,h') (k9.2 ⟨x,hx,rfl⟩)
   exact ak0 (nd nofun nofun) hv fun β' u w' hv hh hst=>hk β' x u h' w' this hv hh hst
 |enter f args=>
  obtain⟨us,hr,ra⟩:=hs
  refine⟨fun _ _=>trivial,?_⟩
  rw[Oper.semAt_eq _ _ _ (nd nofun nofun),hr,Oper.uponIn_enter]
  refine⟨(fun hh=>by cases hh),bx9.2 (Calls.mono (hc.1 R A T hA f args h k' he K w0 β w us r ra) ?_)⟩
  rintro e w' ⟨u,β',v,h',rfl,h1,h2,h3,h4⟩
  exact hk β' v u h' w' h1 h2 h3 h4
 |choice l=>
  obtain⟨x,hx,hv⟩:=hs
  have:=hA.amb _ _ he x hx
  exact ak0 (nd nofun nofun) hv fun β' u w' hv hh hst=>hk β' x.1 u x.2 w' this hv hh hst
 |yield l args=>
  obtain⟨L,us,hL,ra,hrun⟩:=hs
  obtain⟨f,tmps,as,body,hy,hround⟩:=ci0 hA hc.2 r hL ra he (Rr:=fun
   | .returned v,w''=>next (act.put o.dst v) w''
   | .panicked chain,w''=>Q (.panic chain) act w''
   | .outgrown,_=>LetsOut Q) fun β' v u h' w' h1 h2 h3 h4=>hk β' v u h' w' h1 h2 h3 h4
  refine⟨fun _ _=>trivial,?_⟩
  rw[Oper.semAt_eq _ _ _ (nd nofun nofun),hrun,hy,Oper.uponIn_round]
  exact⟨(fun hh=>by cases hh),hround⟩
 |defer d=>exact absurd he hA.bad
 |bad=>exact absurd he hA.bad
theorem aW2(hE:E.Ok ω){ρA:Operand→Option AV}{ρ:Operand→Value}(r:HR β ω K w0 h w)(o:Oper)(ro: ∀x∈o.op.operands,∀a,ρA x=some a→VR β ω a (ρ x)):
 SOk E β ω K w0 w h (execOp ρ o) (S5 E ρA o h):=by
 classical
 rw[ag4 (ρ:=ρA) (ρ':=fun x=>if x∈o.op.operands then ρA x else none) o (fun x hx=>by simp only[hx,if_true]) h]
 refine bc3 hE r (fun x a e=> ?_) o
 split at e
 ·rename_i hx;exact ro x hx a e
 ·cases e
theorem ag5(done i j:Nat):(done|||2^i).testBit j=true↔done.testBit j=true∨j=i:=by
 rw[Nat.testBit_or,j8,Nat.testBit_two_pow,decide_eq_true_eq]
 exact⟨fun h=>b98 id Eq.symm h,fun h=>b98 id Eq.symm h⟩
theorem b21{m done:Nat}(h:Nat.beq (m&&&done) m=true)(j:Nat)(hj:m.testBit j=true):done.testBit j=true:=by
 rw[M8]at h
 rw[←h,Nat.testBit_and,d6]at hj
 exact hj.2
theorem ci1{m done:Nat}(h: ∀j,m.testBit j=true→done.testBit j=true):Nat.beq (m&&&done) m=true:=by
 rw[M8]
 apply Nat.eq_of_testBit_eq
 intro j
 rw[Nat.testBit_and]
 cases hj:m.testBit j with
 |false=>rfl
 |true=>rw[h j hj];rfl
theorem aL3: ∀(rest:List PO) (done:Nat),eager done rest=true→ ∀x∈rest,done.testBit x.i=false
 | [],_,_,x,hx=>by cases hx
 |y::r,done,h,x,hx=>by
  simp only[eager,d6,m6]at h
  obtain⟨⟨⟨h1,h2⟩,h3⟩,h4⟩:=h
  cases hx with
  |head=>exact h2
  |tail _ hx=>
   have:=aL3 r _ h4 x hx
   cases hh:done.testBit x.i with
   |false=>rfl
   |true=>rw[(ag5 done y.i x.i).2 (.inl hh)]at this;cases this
section
variable(E ω K w0)(ops:Array Oper)(l:List PO)(hs:Heap)(βs:Bij)
def aT3(ρ:Operand→Option AV)(o:Oper)(h:Heap)(v:AV):Prop:=S5 E ρ o h= .val v h∨ ∃e,S5 E ρ o h= .need e v h∧dB ω e=true
def cV8(p:Pend):Prop:= ∀e,p.nd=some e→dB ω e=true
def FSq(a:Fr)(h:Heap)(pend:List Pend)(bid:Nat→Nat)(β:Bij)(x:PO):Prop:=
 (P6 ops.toList a x.o=some false∧ ∀d,x.o.dst=some d→d<a.nt→a.slot d= .undef)∨
 (P6 ops.toList a x.o=some true∧ ∃v,(∀d,x.o.dst=some d→d<a.nt→a.slot d=v)∧(∃p∈pend,p.i=x.i∧p.o=x.o∧p.v=v∧cV8 ω p)∧
  ((R9 x.o=false∧aT3 E ω a.ev x.o h v)∨
   (R9 x.o=true∧ ∃mk blk,AllocA E a.ev x.o mk blk∧v=mk (bid x.i)∧hs.next≤bid x.i∧bid x.i<h.next∧β (bid x.i)=none∧(h.get (bid x.i)=some blk∨h.get (bid x.i)=none))))
def Lis(listed:Array Bool)(i:Nat):Prop:=listed.getD i false=true
structure DI (done:Nat) (rest:List PO) (pend:List Pend) (a:Fr) (h:Heap) (bid:Nat→Nat) (listed:Array Bool) (β:Bij) (act:Act) (w:World):Prop where
 hr:HR β ω K w0 h w
 st:St hs βs h β
 lsz:listed.size=ops.size
 cd: ∀x∈l,Lis listed x.i→done.testBit x.i=true
 cm: ∀x∈l,Lis listed x.i→ ∀j,x.m.testBit j=true→Lis listed j
 dm: ∀x∈l,done.testBit x.i=true→ ∀j,x.m.testBit j=true→done.testBit j=true
 eg:eager done rest=true
 rl: ∀x∈rest,x∈l
 rd: ∀x∈l,done.testBit x.i=false→x∈rest
 fr:FrP β ω (fun t=> ∃x∈l,done.testBit x.i=true∧ ¬Lis listed x.i∧x.o.dst=some t∧t<a.nt) a act
 fl: ∀x∈l,done.testBit x.i=true→ ¬Lis listed x.i→x.fl=true∧FSq E ω ops hs a h pend bid β x
 inj: ∀x∈l,∀y∈l,done.testBit x.i=true→ ¬Lis listed x.i→done.testBit y.i=true→ ¬Lis listed y.i→R9 x.o=true→R9 y.o=true→
  P6 ops.toList a x.o=some true→P6 ops.toList a y.o=some true→x≠y→bid x.i≠bid y.i
end
theorem aa3{listed:Array Bool}{i j:Nat}(hi:i<listed.size):Lis (listed.setIfInBounds i true) j↔Lis listed j∨j=i:=by
 unfold Lis
 simp only[k7,A4]
 by_cases e:i=j
 ·subst e;simp[hi]
 ·rw[if_neg e];simp[Ne.symm e]
theorem a74{ops:List Oper}{o:Oper}{t:Nat}(h:Operand.tmp t∈o.op.operands):t∈Z0 ops o:=by
 unfold Z0
 refine G9 _ (u5.2 ⟨.tmp t,by simpa using h,by simp[cp9]⟩)
theorem ar8{ops:List Oper}{o g:Oper}{j:Nat}{want:Bool}{d:Tmp}(h:o.guard=some (j,want))(hj:ops[j]? =some g)(hd:g.dst=some d):d∈Z0 ops o:=by
 unfold Z0
 refine K3 _ ?_
 rw[h];simp[hj,hd]
theorem cs0{a:Fr}(hl:a.nt≤256){dst:Option Tmp}{v:AV}{x:Operand}(hx: ∀t,x= .tmp t→dst≠some t):(a.put dst v).ev x=a.ev x:=by
 cases x with
 |tmp t=>simp only[Fr.ev];rw[Fr.put_slot hl,if_neg (fun hh=>hx t rfl hh.1)]
 |_=>rfl
theorem U5{ops:List Oper}{a:Fr}(hl:a.nt≤256){dst:Option Tmp}{v:AV}{o:Oper}(hx: ∀d∈Z0 ops o,dst≠some d):P6 ops (a.put dst v) o=P6 ops a o:=by
 unfold P6
 split
 ·rfl
 ·rename_i j want hg
  cases hd:(ops[j]?).bind (·.dst)with
  |none=>rfl
  |some d=>
   obtain⟨g,g1,g2⟩:=j6.1 hd
   simp only[]
   rw[Fr.put_nt,Fr.put_pc,Fr.put_slot hl,if_neg (fun hh=>hx d (ar8 hg g1 g2) hh.1)]
theorem ar9{ops:List Oper}{a:Fr}(hl:a.nt≤256){dst:Option Tmp}{v v':AV}{o:Oper}(hx: ∀d∈Z0 ops o,dst≠some d){h:Heap}(q:aT3 E ω a.ev o h v'):aT3 E ω (a.put dst v).ev o h v':=by
 unfold aT3
 rw[ag4 o (fun x hm=>cs0 hl fun t ht=>hx t (a74 (ht▸hm))) h]
 exact q
theorem by1{ops:List Oper}{a:Fr}(hl:a.nt≤256){dst:Option Tmp}{v:AV}{o:Oper}(hx: ∀d∈Z0 ops o,dst≠some d)(h:Heap):S5 E (a.put dst v).ev o h=S5 E a.ev o h:=
 ag4 o (fun x hm=>cs0 hl fun t ht=>hx t (a74 (ht▸hm))) h
theorem ao7{ops:List Oper}{a:Fr}(hp: ∀p∈a.pc,dB ω p.1=p.2){e:SX}{c:Bool}(hc:dB ω e=c){o:Oper}{b:Bool}(h:P6 ops a o=some b):P6 ops (a.cond (e,c)) o=some b:=by
 unfold P6 at h⊢
 split
 ·rename_i hg;simp only[hg]at h;exact h
 ·rename_i j want hg
  simp only[hg]at h
  cases hd:(ops[j]?).bind (·.dst)with
  |none=>simp only[hd]at h⊢;exact h
  |some d=>
   simp only[hd]at h⊢
   rw[Fr.cond_nt,Fr.cond_slot]
   cases hlt:Nat.blt d a.nt with
   |false=>rw[hlt]at h;exact h
   |true=>
    rw[hlt]at h
    simp only[cond_true]at h⊢
    cases hs:a.slot d<;>simp only[hs]at h⊢ <;>try exact h
    rename_i e'
    cases hf:aF7 e' a.pc with
    |none=>rw[hf]at h;cases h
    |some b'=>
     rw[hf]at h
     simp only[Fr.cond_pc,aF7]
     cases hq:SX.beq e' e with
     |false=>simp only[cond_false,hf];exact h
     |true=>
      simp only[cond_true]
      have h1:=aK9 hp hf
      rw[SX.beq_eq _ _ hq,hc]at h1
      subst h1;exact h
variable{ops:Array Oper}{l:List PO}{hs:Heap}{βs:Bij}
theorem FSq.want{a:Fr}{pend:List Pend}{bid:Nat→Nat}{x:PO}(f:FSq E ω ops hs a h pend bid β x): ∃b,P6 ops.toList a x.o=some b:=by
 rcases f with⟨h1,_⟩|⟨h1,_⟩
 ·exact⟨_,h1⟩
 ·exact⟨_,h1⟩
theorem FSq.cond{a:Fr}{pend:List Pend}{bid:Nat→Nat}{x:PO}(f:FSq E ω ops hs a h pend bid β x)(hp: ∀p∈a.pc,dB ω p.1=p.2){e:SX}{c:Bool}(hc:dB ω e=c):FSq E ω ops hs (a.cond (e,c)) h pend bid β x:=by
 unfold FSq
 rw[Fr.cond_ev,Fr.cond_nt]
 rcases f with⟨h1,h2⟩|⟨h1,v,h2,h3,h4⟩
 ·exact .inl ⟨ao7 hp hc h1,fun d q1 q2=>by rw[Fr.cond_slot];exact h2 d q1 q2⟩
 ·exact .inr ⟨ao7 hp hc h1,v,fun d q1 q2=>by rw[Fr.cond_slot];exact h2 d q1 q2,h3,h4⟩
theorem DI.cond{done:Nat}{rest:List PO}{pend:List Pend}{a:Fr}{bid:Nat→Nat}{listed:Array Bool}{act:Act}(d:DI E ω K w0 ops l hs βs done rest pend a h bid listed β act w){e:SX}{c:Bool}(hc:dB ω e=c):
 DI E ω K w0 ops l hs βs done rest pend (a.cond (e,c)) h bid listed β act w:=by
 refine⟨d.hr,d.st,d.lsz,d.cd,d.cm,d.dm,d.eg,d.rl,d.rd,?_,fun x hx g1 g2=>⟨(d.fl x hx g1 g2).1,(d.fl x hx g1 g2).2.cond d.fr.pcs hc⟩,fun x hx y hy g1 g2 g3 g4 q1 q2 q3 q4 hne=> ?_⟩
 ·have:=d.fr.cond (e:=e) hc
  refine this.weaken ?_
  intro t ht
  rw[Fr.cond_nt];exact ht
 ·have key: ∀z∈l,done.testBit z.i=true→ ¬Lis listed z.i→P6 ops.toList (a.cond (e,c)) z.o=some true→P6 ops.toList a z.o=some true:=by
   intro z hz z1 z2 z3
   obtain⟨b,hb⟩:=(d.fl z hz z1 z2).2.want
   have:=ao7 d.fr.pcs hc hb
   rw[this]at z3
   simp only[a8]at z3
   rw[hb,z3]
  exact d.inj x hx y hy g1 g2 g3 g4 q1 q2 (key x hx g1 g2 q3) (key y hy g3 g4 q4) hne
end Go.Ev
