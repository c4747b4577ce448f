import Derived.Test.YtgeohopencabkaaGreatE17
import Derived.OrdersIn
import Derived.RangeFuncIn
import Derived.RangeFuncRecord
set_option linter.all false
namespace Go.Ev
open Go
variable{o:Oper}{a:Fr}{e:SX}{ro:mB}{Q:Exit->Act->Ac->Prop}{act:Act}{v:AV}{R:Type}{next:Act->Ac->Prop}{dst:aaK}{ρ:An->EX}{done:Nat}{pend:aaL}{bid:Nat->Nat}
variable{E:Env}{O:cj}{I:Opq}{K:wW}{w0 w:Ac}{h h':Heap}
structure AlgOk {R:Type} (A:Alg R) (T:R->Prop) (I:Opq):Prop where
 X: ¬T A.X
 amb: ∀l f,T (A.amb l f)-> ∀x∈l,T (f x)
 J: ∀e x y,T (A.J e x y)->(dB I e=true->T x)/\(dB I e=false->T y)
 N: ∀e x,T (A.N e x)->dB I e=true/\T x
 loop: ∀hd body ks,T (A.loop hd body ks)-> ∃r x,Y9 (λvs=>W6 body (I.U hd.v0 vs)) (X4 I hd.s0)=some r/\I.f hd.id (X4 I (hd.s0++hd.fv))=cx r/\ks[r.1]? =some x/\T x
 mloop: ∀hd l body ks,T (A.mloop hd l body ks)-> ∃D x,tK (λvs=>W6 body (I.U hd.v0 vs)) (dL I l).length (X4 I hd.s0) D/\I.f hd.id (X4 I (hd.s0++hd.fv))=cx (0,[.D D.length,.A D])/\ks[0]? =some x/\T x
def bv5{a b:Int}:gQ a b=true↔a<b:=by rw[ph];grind
def cW1{I:Opq}{p:Prim}{l:GF}(h:Wb p l=true):dB I (.O p l)=true:=by unfold Wb at h;split at h;rfl;rfl;rename_i a b;refine j0 (show a<=b from ?_);grind[gQ,ph,of_decide_eq_false];exact j0 (bv5.1 h);cases h
theorem bv6{I:Opq}(h:DQ e=true):dB I e=true:=by unfold DQ at h;split at h;exact h;exact cW1 h;cases h
theorem bv7{I:Opq}(h:Ew e=true):dB I e=true:=by unfold Ew at h;split at h;show(dB I _&&dB I _)=true;grind[bv6];exact bv6 h
theorem bV7{I:Opq}(h:Bf e=true):dB I e=true:=by unfold Bf at h;split at h;show(dB I _&&dB I _)=true;grind[bv7];exact bv7 h
theorem dp3{I:Opq}{p:Prim}{l:GF}(h:Ng p l=true):dB I (.O p l)=true:=by unfold Ng at h;split at h;rename_i a b;refine j0 (show a<=b from ?_);grind[gQ,ph,of_decide_eq_false];exact j0 (bv5.1 h);rfl;cases h
theorem Ke{I:Opq}: ∀(n:Nat) {e:SX},dB I (Ed n e)=true->dB I e=true
 |0,_,h=>h
 |n+1,e,h=>by unfold Ed at h;split at h;obtain⟨h1,h2⟩:=zS h;show(dB I _&&dB I _)=true;rw[Ke n h1,Ke n h2];rfl;grind[dI6,Ng,dp3];exact h
def AlgOk.needA{A:Alg R}{T:R->Prop}{I:Opq}(hA:AlgOk A T I)(e:SX)(x:R)(h:T (needA A e x)):dB I e=true/\T x:=by
 unfold Go.Ev.needA at h;cases hs:Bf e with
 |true=>grind[bV7]
 |false=>
  rw[hs]at h;cases hl:dI7 e with
  |false=>rw[hl]at h;exact hA.N e x h
  |true=>
   rw[hl]at h;unfold dI8 at h;split at h;rename_i ht;exact⟨Ke 30 (by rw[ht];rfl),h⟩;obtain⟨h1,h2⟩:=hA.N _ _ h;grind[Ke]
def QN: ∀{ks:abd} {n:Nat} {I:Opq} {r:Nat×U7},kE ks n I=some r-> ∃x,ks[n]? =some x/\W6 x I=some r
 | [],n,I,r,h=>by grind[kE]
 |k::ks,0,I,r,h=>⟨k,rfl,by grind[kE]⟩
 |k::ks,n+1,I,r,h=>by obtain⟨x,h1,h2⟩:=QN (ks:=ks) (n:=n) (by simpa[kE]using h);grind
def Tz(I:Opq):AlgOk oU (· =true) I:=
 ⟨by simp[oU],λl f h=>l5.1 h,λe x y h=>by simp_all[oU,j8],λe x h=>(by cases h),λ_ _ _ h=>(by cases h),λ_ _ _ _ h=>(by cases h)⟩
def Mn(E:Env)(I:Opq)(n:Nat):Prop:= ∀(R:Type) (A:Alg R) (T:R->Prop),AlgOk A T I-> ∀(f:FuncId) (args:zw) (h:Heap) (k:AV->Heap->R),T (ev E n R A (.call f args h k))->
 ∀(K:wW) (w0:Ac) (O:cj) (w:Ac) (us:List Zl),HR O I K w0 h w->co O I args us->
  Calls E.P f us.toArray w (λe w'=> ∃u ac v h',e= .returned u/\T (k v h')/\VR ac I v u/\HR ac I K w0 h' w'/\St h O h' ac)
def fA(ro:mB):Fence:={Fence.wide with round:=ro}
def tM(O:cj):mB->mB->Prop
 |none,r=>r=none
 |some l,r=> ∃L,O l=some L/\r=some L.blk
def tM.mono{ac:cj}(hl:Le O ac): ∀{l r:mB},tM O l r->tM ac l r
 |none,_,h=>h
 |some _,_,⟨L,h1,h2⟩=>⟨L,hl _ _ h1,h2⟩
def bV8{n:Nat}{f:FuncId}{args:Array Zl}{R:Ending->Ac->Prop}:CallsIn (fA ro) n E.P f args w R↔Calls E.P f args w R:=
 callsIn_wide (n:=n)
def Pv:Ex->Exit
 | .norm=> .normal
 | .exit id=> .exit id
 | .ret=> .ret
def sh{R:Type}(T:R->Prop)(I:Opq)(K:wW)(w0:Ac)(hs:Heap)(ah:cj)(r0:mB)(k:Ex->Fr->Heap->R)(Q:Exit->Act->Ac->Prop):Prop:=
 ∀e a h O act w,T (k e a h)->a.ro=r0->cS O I a act->HR O I K w0 h w->St hs ah h O->Q (Pv e) act w
def sh.later{T:R->Prop}{K:wW}{w0:Ac}{hs h:Heap}{ah O:cj}{r0:mB}{k:Ex->Fr->Heap->R}(q:sh T I K w0 hs ah r0 k Q)(s:St hs ah h O):sh T I K w0 h O r0 k Q:=
 λe a h' ac act w he g f r s'=>q e a h' ac act w he g f r (s.trans s')
def md(E:Env)(I:Opq)(n:Nat):Prop:= ∀(R:Type) (A:Alg R) (T:R->Prop),AlgOk A T I-> ∀(c:Code) (a:Fr) (h:Heap) (k:Ex->Fr->Heap->R),T (ev E n R A (.code c a h k))->
 ∀(K:wW) (w0:Ac) (O:cj) (act:Act) (w:Ac) (ro:mB) (Q:Exit->Act->Ac->Prop),HR O I K w0 h w->cS O I a act->tM O a.ro ro->sh T I K w0 h O a.ro k Q->c.wpIn (fA ro) 0 E.P Q act w
def zz(E:Env)(I:Opq)(n:Nat):Prop:=Mn E I n/\md E I n
theorem ca8{c:Call}(hc:o.op= .defer c)(h:Heap):eQ E ρ o h= .X\/ ∃d,eQ E ρ o h= .defer d:=by
 unfold eQ mS pW;rw[hc];simp;unfold EO;split;exact .inl rfl;split
 rename_i f _;cases ρ f with
 |none=>exact .inl rfl
 |some v=>
  simp[uA];unfold Uu;split;exact .inr ⟨_,rfl⟩;exact .inl rfl
 .exact .inl rfl
def QE{h:Heap}{r:Res}(e:eQ E ρ o h=r)(h1:r≠ .X)(h2: ∀d,r≠ .defer d)(c:Call):o.op≠ .defer c:=by grind[ca8]
theorem Pc(ho: ∀c,o.op≠ .defer c){u:Zl}{w':Ac}(hr:(execOp act.eval o).run E.P w= .ok (.value u) w')
 (hk:next (act.put o.dst u) w'):o.wpIn (fA ro) 0 E.P act w next Q:=by
 refine⟨λ_ _=>trivial,?_⟩;rw[Oper.semAt_eq _ _ _ ho,hr];exact hk
theorem ca9(ho: ∀c,o.op≠ .defer c){w':Ac}(hr:(execOp act.eval o).run E.P w= .ok .skip w')
 (hk:next (act.put o.dst Go.undef) w'):o.wpIn (fA ro) 0 E.P act w next Q:=by
 refine⟨λ_ _=>trivial,?_⟩;rw[Oper.semAt_eq _ _ _ ho,hr];exact hk
def Cg(ho: ∀c,o.op≠ .defer c)(hs:cO E O I K w0 w h (execOp act.eval o) v h')
 (hk: ∀ac u w',VR ac I v u->HR ac I K w0 h' w'->St h O h' ac->next (act.put o.dst u) w'):o.wpIn (fA ro) 0 E.P act w next Q:=by
 obtain⟨ac,u,w',hr,hv,hh,hst⟩:=hs;grind[Pc,ca9]
def HR.loopAt{st:LoopState}{pend:aa9}{fn:FuncId}{tm:TF}{nt:Nat}{ps:Array Tmp}{as body:Code}{d l:Nat}{L:Loc}(r:HR O I K w0 h w)(hg:h.get l=some (.loop st pend fn tm nt ps as body d))(hL:O l=some L)(hwm:h.wm<=l):
 ∃(f':FuncId) (tmps:Array Zl) (Ld:Loc),w.heap[L.blk]? =some (.loop {state:=st,pending:=pend,fn:=f',tmps:=tmps,params:=ps,assign:=as,body:=body,defers:=Ld.blk})/\O d=some Ld/\TR O I tm nt tmps/\
  ∀st' pend',HR O I K w0 (h.put l (some (.loop st' pend' fn tm nt ps as body d))) (w.putObj L.blk (.loop {state:=st',pending:=pend',fn:=f',tmps:=tmps,params:=ps,assign:=as,body:=body,defers:=Ld.blk}))/\
   St h O (h.put l (some (.loop st' pend' fn tm nt ps as body d))) O:=by
 obtain⟨tmps,f',Ld,h1,h2,h3⟩:=r.blk l _ L hg hL;refine⟨f',tmps,Ld,h1,h2,h3,λst' pend'=> ?_⟩;refine r.U l _ _ L hg hL hwm (λi hi=>World.putObj_heap_other hi) World.putObj_size rfl rfl rfl rfl ?_;rw[World.putObj_heap_same (r.lt l L hL)];exact⟨tmps,f',Ld,rfl,h2,h3⟩
def bV9: ∀{ps:List Tmp} {args:zw} {us:List Zl} {nt:Nat} {t:TF} {tmps:Array Zl},TR O I t nt tmps->co O I args us->
 TR O I (AO ps args nt t) nt ((ps.zip us).foldl (λtmps (p:Tmp×Zl)=>tmps.setIfInBounds p.1 p.2) tmps)
 | [],args,us,nt,t,tmps,r,ra=>by simp_all[AO]
 |p::ps,[],us,nt,t,tmps,r,ra=>by rw[show us=[]from ra];simp_all[AO]
 |p::ps,v::args,us,nt,t,tmps,r,⟨u,ur,e,rv,rr⟩=>by subst e;simp;refine bV9 ?_ rr;obtain⟨h1,h2,h3⟩:=r;by_cases hp:p<nt;rw[gW hp,cond_true];refine⟨by grind,h2,λn=> ?_⟩;rw[TF.get_set t p n v (y7 hp h2),x6,K9];by_cases hn:n=p;grind;rw[b9 hn,b9 (λhh=>hn hh.symm),<-x6];exact h3 n;rw[iv hp,cond_false];rw[Array.setIfInBounds_eq_of_size_le (show tmps.size<=p by grind)];exact⟨h1,h2,h3⟩
def cW3{A:Alg R}{T:R->Prop}(hA:AlgOk A T I){n:Nat}(hk1:md E I n){l:Nat}{L:Loc}{args:zw}{us:List Zl}{k':AV->Heap->R}(r:HR O I K w0 h w)(hL:O l=some L)(ra:co O I args us)
 (he:T (Rq (ev E n) A l args h k' (h.get l))) {Rr:Ending->Ac->Prop}
 (hk: ∀ac v u h' w',T (k' v h')->VR ac I v u->HR ac I K w0 h' w'->St h O h' ac->Rr (.returned u) w'):
 ∃f tmps as body,(Instr.yield L.blk us.toArray).run E.P w= .ok (.round L.blk f tmps as body) w/\RoundIn Fence.wide 0 E.P L.blk f tmps as body w Rr:=by
 unfold Rq at he;split at he
 .rename_i st pend fn tm nt ps as body d hg;obtain⟨hcnd,he⟩:(Nat.beq args.length ps.size&&Nat.ble h.wm l)=true/\T (ev E n R A (.code as ⟨AO ps.toList args nt tm,nt,[],fn,[],some l⟩ h (RO (ev E n) A l body k'))):=by
   cases hc:(Nat.beq args.length ps.size&&Nat.ble h.wm l)with
   |false=>rw[hc]at he;exact absurd he hA.X
   |true=>grind
  obtain⟨c1,c2⟩:=W4 hcnd;rw[X0]at c1;rw[X6]at c2;obtain⟨f',tmps,Ld,g1,g2,g3,g4⟩:=r.loopAt hg hL c2;have hsz:us.toArray.size=ps.size:=by rw[<-c1];simp[ra.length]
  have hy:=run_yield (P:=E.P) (args:=us.toArray) g1 hsz;refine⟨_,_,_,_,hy,?_⟩;refine roundIn_of_wpIn (F:=Fence.wide) trivial ?_;have hf:=bV9 (ps:=ps.toList) g3 ra;have hfold:(ps.zip us.toArray).foldl (λtmps (x:Tmp×Zl)=>tmps.setIfInBounds x.1 x.2) tmps=(ps.toList.zip us).foldl (λtmps (p:Tmp×Zl)=>tmps.setIfInBounds p.1 p.2) tmps:=by rw[<-Q6,Array.toList_zip]
  have hfr:cS O I ⟨AO ps.toList args nt tm,nt,[],fn,[],some l⟩ {tmps:=(ps.zip us.toArray).foldl (λtmps (x:Tmp×Zl)=>tmps.setIfInBounds x.1 x.2) tmps,defers:=[]}:=by rw[hfold];exact⟨hf.1,hf.2.1,λt _=>hf.2.2 t,rfl,λp hp=>by cases hp⟩
  refine hk1 R A T hA as _ h _ he K w0 O _ w (some L.blk) _ r hfr ⟨L,hL,rfl⟩ ?_;intro e a1 h1 aj act1 w1 hke hro hf1 hr1 hst1;cases e with
  |norm=>
   simp[RO]at hke;split at hke
   .rename_i pend1 fn1 tm1 nt1 ps1 as1 b1 d1 hg1;have hL1:aj l=some L:=by
     rw[hst1.ext l];exact hL
     .rcases k8 l h.next with hh|hh
      .exact hh
      rw[r.fget l hh]at hg;cases hg
    have hwm1:h1.wm<=l:=by rw[hst1.wm];exact c2
    obtain⟨f1,tmps1,Ld1,z1,z2,z3,z4⟩:=hr1.loopAt hg1 hL1 hwm1;obtain⟨y1,y2⟩:=z4 .busy pend1;refine⟨_,run_beginRound z1 rfl,?_⟩;refine hk1 R A T hA body a1 _ _ hke K w0 aj act1 _ (some L.blk) _ y1 hf1 (by rw[hro];exact⟨L,hL1,rfl⟩) ?_;intro e a2 h2 an act2 w2 hke2 hro2 hf2 hr2 hst2;have main: ∀j:aa9,uD e=j-> ∃v w',(Instr.endRound L.blk j).run E.P w2= .ok v w'/\Rr (.returned v) w':=by
     rintro j rfl;unfold cm9 at hke2;split at hke2
     .split at hke2
      .rename_i st2 pend2 fn2 tm2 nt2 ps2 as2 b2 d2 hg2;have hL2:an l=some L:=by
        rw[hst2.ext l];exact hL1
        .rcases k8 l h1.next with hh|hh
         .exact hh
         rw[hr1.fget l hh]at hg1;cases hg1
       have hwm2:h2.wm<=l:=by rw[hst2.wm];exact hwm1
       obtain⟨f2,tmps2,Ld2,x1,x2,x3,x4⟩:=hr2.loopAt hg2 hL2 hwm2;obtain⟨q1,q2⟩:=x4 (Qs (uD e)) (uD e);have hend:=run_endRound (P:=E.P) (uD e) x1;have hst:(if(uD e).isNone then LoopState.ready else LoopState.done)=Qs (uD e):=by cases e<;>rfl
       simp only[hst]at hend;exact⟨_,_,hend,hk an _ _ _ _ hke2 rfl q1 ((((hst1.trans y2).trans hst2)).trans q2)⟩
      exact absurd hke2 hA.X
     exact absurd hke2 hA.X
    cases e with
    |norm=>exact main none rfl
    |ret=>exact main (some .ret) rfl
    |exit id=>exact main (some (.exit id)) rfl
   exact absurd hke hA.X
  |exit id=>exact absurd hke hA.X
  |ret=>exact absurd hke hA.X
 exact absurd he hA.X
def dL2{A:Alg R}{T:R->Prop}(hA:AlgOk A T I){n:Nat}(hc:zz E I n){k':AV->Heap->R}{res:Res}(r:HR O I K w0 h w)
 (hres:eQ E ρ o h=res) (hs:cN E O I K w0 w h (execOp act.eval o) res) (he:T (Jc (ev E n) A h k' res))
 (hk: ∀ac v u h' w',T (k' v h')->VR ac I v u->HR ac I K w0 h' w'->St h O h' ac->next (act.put o.dst u) w'):o.wpIn (fA ro) 0 E.P act w next Q:=by
 have nd:res≠ .X->(∀d,res≠ .defer d)-> ∀c,o.op≠ .defer c:=QE hres;cases res with
 |val v h'=>exact Cg (nd nofun nofun) hs λac u w' hv hh hst=>hk ac v u h' w' he hv hh hst
 |N e v h'=>
  obtain⟨h1,h2⟩:=hA.needA _ _ he;exact Cg (nd nofun nofun) (hs h1) λac u w' hv hh hst=>hk ac v u h' w' h2 hv hh hst
 |cho e v l h'=>
  obtain⟨h1,h2⟩:=hA.J _ _ _ he;cases hd:dB I e with
  |true=>exact Cg (nd nofun nofun) (hs.1 hd) λac u w' hv hh hst=>hk ac v u h' w' (h1 hd) hv hh hst
  |false=>
   obtain⟨x,hx,hv⟩:=hs.2 hd;have:=hA.amb _ _ (h2 hd) (x,h') (k6.2 ⟨x,hx,rfl⟩);exact Cg (nd nofun nofun) hv λac u w' hv hh hst=>hk ac x u h' w' this hv hh hst
 |enter f args=>
  obtain⟨us,hr,ra⟩:=hs;refine⟨λ_ _=>trivial,?_⟩;rw[Oper.semAt_eq _ _ _ (nd nofun nofun),hr,Oper.uponIn_enter];refine⟨(λhh=>by cases hh),bV8.2 (Calls.mono (hc.1 R A T hA f args h k' he K w0 O w us r ra) ?_)⟩;grind
 |choice l=>
  obtain⟨x,hx,hv⟩:=hs;have:=hA.amb _ _ he x hx;exact Cg (nd nofun nofun) hv λac u w' hv hh hst=>hk ac x.1 u x.2 w' this hv hh hst
 |yield l args=>
  obtain⟨L,us,hL,ra,hrun⟩:=hs;obtain⟨f,tmps,as,body,hy,hround⟩:=cW3 hA hc.2 r hL ra he (Rr:=λ
   | .returned v,w''=>next (act.put o.dst v) w''
   | .panicked chain,w''=>Q (.panic chain) act w''
   | .outgrown,_=>LetsOut Q) λac v u h' w' h1 h2 h3 h4=>hk ac v u h' w' h1 h2 h3 h4
  refine⟨λ_ _=>trivial,?_⟩;rw[Oper.semAt_eq _ _ _ (nd nofun nofun),hrun,hy,Oper.uponIn_round];exact⟨(λhh=>by cases hh),hround⟩
 |defer d=>exact absurd he hA.X
 |X=>exact absurd he hA.X
def bc1(hE:E.Ok I){af:An->EX}{ρ:An->Zl}(r:HR O I K w0 h w)(o:Oper)(ro: ∀x∈o.op.operands,∀a,af x=some a->VR O I a (ρ x)):
 cN E O I K w0 w h (execOp ρ o) (eQ E af o h):=by
 classical
 rw[Pa (ρ:=af) (au:=λx=>if x∈o.op.operands then af x else none) o (λx hx=>by simp_all) h];refine Yn hE r (λx a e=> ?_) o;grind
theorem uU(done i j:Nat):(done|||2^i).testBit j=true↔done.testBit j=true\/j=i:=by grind
theorem Sv{m:Nat}(h:Nat.beq (m&&&done) m=true)(j:Nat)(hj:m.testBit j=true):done.testBit j=true:=by rw[X0]at h;grind
def cW4{m:Nat}(h: ∀j,m.testBit j=true->done.testBit j=true):Nat.beq (m&&&done) m=true:=by rw[X0];apply Nat.eq_of_testBit_eq;grind
def RT: ∀(rest:aaH) (done:Nat),eager done rest=true-> ∀x∈rest,done.testBit x.i=false
 | [],_,_,x,hx=>by cases hx
 |y::r,done,h,x,hx=>by
  simp[eager,j8,s7]at h;obtain⟨⟨⟨h1,h2⟩,h3⟩,h4⟩:=h;cases hx with
  |head=>exact h2
  |tail _ hx=>
   have:=RT r _ h4 x hx;grind
section
variable(E I K w0)(ops:aaW)(l:aaH)(hs:Heap)(ah:cj)
def sa(ρ:An->EX)(o:Oper)(h:Heap)(v:AV):Prop:=eQ E ρ o h= .val v h\/ ∃e,eQ E ρ o h= .N e v h/\dB I e=true
def DV(p:Pend):Prop:= ∀e,p.nd=some e->dB I e=true
def pi(a:Fr)(h:Heap)(pend:aaL)(bid:Nat->Nat)(O:cj)(x:PO):Prop:=
 (eE ops.toList a x.o=some false/\ ∀d,x.o.dst=some d->d<a.nt->a.slot d= .undef)\/
 (eE ops.toList a x.o=some true/\ ∃v,(∀d,x.o.dst=some d->d<a.nt->a.slot d=v)/\(∃p∈pend,p.i=x.i/\p.o=x.o/\p.v=v/\DV I p)/\
  ((gk x.o=false/\sa E I a.ev x.o h v)\/
   (gk x.o=true/\ ∃mk blk,AllocA E a.ev x.o mk blk/\v=mk (bid x.i)/\hs.next<=bid x.i/\bid x.i<h.next/\O (bid x.i)=none/\(h.get (bid x.i)=some blk\/h.get (bid x.i)=none))))
def dP(listed:aaI)(i:Nat):Prop:=listed.getD i false=true
structure DI (done:Nat) (rest:aaH) (pend:aaL) (a:Fr) (h:Heap) (bid:Nat->Nat) (listed:aaI) (O:cj) (act:Act) (w:Ac):Prop where
 hr:HR O I K w0 h w
 st:St hs ah h O
 lsz:listed.size=ops.size
 cd: ∀x∈l,dP listed x.i->done.testBit x.i=true
 cm: ∀x∈l,dP listed x.i-> ∀j,x.m.testBit j=true->dP listed j
 dm: ∀x∈l,done.testBit x.i=true-> ∀j,x.m.testBit j=true->done.testBit j=true
 eg:eager done rest=true
 rl: ∀x∈rest,x∈l
 rd: ∀x∈l,done.testBit x.i=false->x∈rest
 fr:FrP O I (λt=> ∃x∈l,done.testBit x.i=true/\ ¬dP listed x.i/\x.o.dst=some t/\t<a.nt) a act
 fl: ∀x∈l,done.testBit x.i=true-> ¬dP listed x.i->x.fl=true/\pi E I ops hs a h pend bid O x
 inj: ∀x∈l,∀y∈l,done.testBit x.i=true-> ¬dP listed x.i->done.testBit y.i=true-> ¬dP listed y.i->gk x.o=true->gk y.o=true->
  eE ops.toList a x.o=some true->eE ops.toList a y.o=some true->x≠y->bid x.i≠bid y.i
end
theorem sA{listed:aaI}{i j:Nat}(hi:i<listed.size):dP (listed.setIfInBounds i true) j↔dP listed j\/j=i:=by unfold dP;simp;grind
theorem SI{ops:aaz}{t:Nat}(h:Operand.tmp t∈o.op.operands):t∈nr ops o:=by refine F6 _ (x7.2 ⟨.tmp t,by grind,by simp[d92]⟩)
def Xc{ops:aaz}{g:Oper}{j:Nat}{want:Bool}{d:Tmp}(h:o.guard=some (j,want))(hj:ops[j]? =some g)(hd:g.dst=some d):d∈nr ops o:=by grind[nr,List.mem_append_right]
theorem db2(hl:a.nt<=256){x:An}(hx: ∀t,x= .tmp t->dst≠some t):(a.put dst v).ev x=a.ev x:=by
 cases x with
 |tmp t=>simp[Fr.ev];rw[Fr.put_slot hl,b9 (λhh=>hx t rfl hh.1)]
 |_=>rfl
theorem th{ops:aaz}(hl:a.nt<=256)(hx: ∀d∈nr ops o,dst≠some d):eE ops (a.put dst v) o=eE ops a o:=by
 unfold eE;split;rfl
 rename_i j want hg;cases hd:(ops[j]?).bind (·.dst)with
 |none=>rfl
 |some d=>
  obtain⟨g,g1,g2⟩:=o8.1 hd;simp;rw[Fr.put_nt,Fr.put_pc,Fr.put_slot hl,b9 (λhh=>hx d (Xc hg g1 g2) hh.1)]
def Lr{ops:aaz}(hl:a.nt<=256){v':AV}(hx: ∀d∈nr ops o,dst≠some d){h:Heap}(q:sa E I a.ev o h v'):sa E I (a.put dst v).ev o h v':=by grind[sa,Pa,db2,SI]
def bW0{ops:aaz}(hl:a.nt<=256)(hx: ∀d∈nr ops o,dst≠some d)(h:Heap):eQ E (a.put dst v).ev o h=eQ E a.ev o h:=
 Pa o (λx hm=>db2 hl λt ht=>hx t (SI (ht▸hm))) h
theorem b01{ops:aaz}(hp: ∀p∈a.pc,dB I p.1=p.2){c:Bool}(hc:dB I e=c){b:Bool}(h:eE ops a o=some b):eE ops (a.cond (e,c)) o=some b:=by
 unfold eE at h⊢;split;grind
 rename_i j want hg;simp[hg]at h;cases hd:(ops[j]?).bind (·.dst)with
 |none=>grind
 |some d=>
  simp only[hd]at h⊢;rw[Fr.cond_nt,Fr.cond_slot];cases hlt:Nat.blt d a.nt with
  |false=>grind
  |true=>
   rw[hlt]at h;cases hs:a.slot d<;>simp only[hs]at h⊢ <;>try exact h
   rename_i e';cases hf:yU e' a.pc with
   |none=>grind
   |some b'=>
    simp[Fr.cond_pc,yU];cases hq:SX.beq e' e with
    |false=>grind
    |true=>
     grind[Vf,SX.beq_eq]
variable{ops:aaW}{l:aaH}{hs:Heap}{ah:cj}
def pi.want{x:PO}(f:pi E I ops hs a h pend bid O x): ∃b,eE ops.toList a x.o=some b:=by
 rcases f with⟨h1,_⟩|⟨h1,_⟩
 exact⟨_,h1⟩;grind
def pi.cond{x:PO}(f:pi E I ops hs a h pend bid O x)(hp: ∀p∈a.pc,dB I p.1=p.2){c:Bool}(hc:dB I e=c):pi E I ops hs (a.cond (e,c)) h pend bid O x:=by grind[pi,Fr.cond_ev,Fr.cond_nt,b01,Fr.cond_slot]
def DI.cond{rest:aaH}{listed:aaI}(d:DI E I K w0 ops l hs ah done rest pend a h bid listed O act w){c:Bool}(hc:dB I e=c):
 DI E I K w0 ops l hs ah done rest pend (a.cond (e,c)) h bid listed O act w:=by
 refine⟨d.hr,d.st,d.lsz,d.cd,d.cm,d.dm,d.eg,d.rl,d.rd,?_,λx hx g1 g2=>⟨(d.fl x hx g1 g2).1,(d.fl x hx g1 g2).2.cond d.fr.pcs hc⟩,λx hx y hy g1 g2 g3 g4 q1 q2 q3 q4 hne=> ?_⟩;have:=d.fr.cond (e:=e) hc;simp_all
 .have key: ∀z∈l,done.testBit z.i=true-> ¬dP listed z.i->eE ops.toList (a.cond (e,c)) z.o=some true->eE ops.toList a z.o=some true:=by
   intro z hz z1 z2 z3;obtain⟨b,hb⟩:=(d.fl z hz z1 z2).2.want;have:=b01 d.fr.pcs hc hb;grind
  exact d.inj x hx y hy g1 g2 g3 g4 q1 q2 (key x hx g1 g2 q3) (key y hy g3 g4 q4) hne
variable{E:Env}{I:Opq}
def mP(I:Opq)(pc:PC):Prop:= ∀p∈pc,dB I p.1=p.2
def VC.Ok(I:Opq)(v:VC):Prop:=mP I v.pc->dB I v.cl=true
theorem bv8(a b:Bool):Pi a b=(a==b):=by cases a<;>cases b<;>rfl
def ct2(a b:Int):decide (b<=a)= !decide (a<b):=by grind
theorem bW2(e:SX):dB I e=(dB I (Bi e).1==(Bi e).2):=by unfold Bi;split;unfold d96;split<;>simp only[dB,bZ,X4,cD,Val.Z,gr,nZ,beq_true,beq_false,R4];exact ct2 _ _;grind;simp
theorem bW3{e:SX}{b:Bool}: ∀{pc:PC},mP I pc->Ki e pc=some b->dB I e=b
 | [],_,h=>by cases h
 |p::r,hp,h=>by
  simp[Ki]at h;cases hc:SX.beq e p.1 with
  |true=>
   rw[hc]at h;simp at h;rw[SX.beq_eq _ _ hc,<-h];exact hp p (by simp)
  |false=>rw[hc]at h;exact bW3 (λq hq=>hp q (by simp[hq])) h
theorem cW5{c:SX×Bool}{b:Bool}{pc:PC}(hp:mP I pc)(h:Wm c pc=some b):(dB I c.1==c.2)=b:=by grind[Wm,Option.some.injEq,bW3,bv8]
theorem dL4{a b:S8}{x y r:Bool}(ha: ∀z,a=some z->x=z)(hb: ∀z,b=some z->y=z)(h:Qf a b=some r):(x&&y)=r:=by unfold Qf at h;grind
theorem e32{a b:S8}{x y r:Bool}(ha: ∀z,a=some z->x=z)(hb: ∀z,b=some z->y=z)(h:Pp a b=some r):(x||y)=r:=by unfold Pp at h;grind
theorem IU(a b:SX):dB I (.O .or [a,b])=(dB I a||dB I b):=rfl
theorem UE(a:SX):dB I (.O .not [a])= !dB I a:=rfl
theorem Lv(c a b:SX):dB I (.O .J [c,a,b])=bif dB I c then dB I a else dB I b:=by show Val.Z (bif (bZ I c).Z then bZ I a else bZ I b)=_;grind[dB,bZ]
theorem pG{pc:PC}(hp:mP I pc): ∀(n:Nat) (e:SX) (b:Bool),oQ pc n e=some b->dB I e=b
 |0,e,b,h=>by cases h
 |n+1,e,b,h=>by have ih:=pG hp n;have h:Pn pc (oQ pc n) e=some b:=h;unfold Pn at h;split at h;grind[Option.some.injEq,bW2,cW5];unfold Xu at h;split at h;simp at h;subst h;rfl;unfold d97 at h;split at h;rw[UE];unfold ec7 at h;grind;rw[tE];grind[dL4];rw[IU];grind[e32];rw[Lv];unfold Zr at h;grind;exact YZ h;cases h
theorem xe{a b:PC}(ha:mP I a)(hb:mP I b):mP I (a++b):=by
 intro p hp;rcases t8.1 hp with h|h
 exact ha p h;exact hb p h
theorem lf:mP I []:=λp hp=>by cases hp
def NP: ∀(n:Nat) (e:SX) (b:Bool),dB I e=b->mP I (Am n e b)
 |0,e,b,h=>lf
 |n+1,e,b,h=>by
  have ih:=NP n;intro p hp;rcases p7.1 hp with rfl|hp
  grind[dH8,bW2,bv8,dB,Bi];refine(?_:mP I (Tg (Am n) e b)) p hp;unfold Tg;split;rename_i q l;unfold XB;split;refine ih _ _ ?_;simp_all[UE,R4]
  cases b with
  |true=>rw[tE,j8]at h;grind[xe]
  |false=>exact lf
  .grind[lf,IU,Bool.or_eq_false_iff,xe]
  rename_i c x;cases b with
  |true=>
   rw[Lv]at h;cases hc:dB I c with
   |true=>grind[xe]
   |false=>rw[hc]at h;cases h
  |false=>exact lf
  .rename_i c y _;cases b with
   |true=>exact lf
   |false=>
    rw[Lv]at h;cases hc:dB I c with
    |true=>rw[hc]at h;cases h
    |false=>grind[xe]
  exact lf;exact lf
def Px{pc:PC}(hp:mP I pc): ∀(n:Nat) (e:SX),dB I (Ho pc n e)=dB I e
 |0,e=>rfl
 |n+1,e=>by have:Ho pc (n+1) e=Vp pc (Ho pc n) e:=rfl;rw[this];unfold Vp;split;have ih:=Px hp n;unfold ec9;split;grind[Lv,pG];rename_i a b;split;grind[tE,pG];split;rename_i h;rw[ih,tE,pG hp 8 b _ h,C7];rfl;rename_i a b;split;grind[IU,pG];split;rename_i h;rw[ih,IU,pG hp 8 b _ h,I8];rfl;grind[UE];rfl;rfl
def ct4(c a b:SX):bZ I (.O .J [c,a,b])=bif dB I c then bZ I a else bZ I b:=rfl
def UT{pc:PC}(hp:mP I pc): ∀(n:Nat) (e:SX),bZ I (Mf pc n e)=bZ I e
 |0,e=>rfl
 |n+1,e=>by have:Mf pc (n+1) e=PQ pc (Mf pc n) e:=rfl;rw[this];unfold PQ;split;unfold Wq;split;rename_i c a b;split;rename_i h;rw[UT hp n,ct4,pG hp 8 c _ h];rfl;rename_i h;rw[UT hp n,ct4,pG hp 8 c _ h];rfl;rfl;rfl;rfl
def nh(I:Opq)(r:Nat×U7)(t:gY):Prop:= ∃pc,mP I pc/\W6 (t pc) I=some r
def PG{pc:PC}: ∀{ks:List gY} {n:Nat} {x:VT},(tJ pc ks)[n]? =some x-> ∃k,ks[n]? =some k/\x=k pc
 | [],n,x,h=>by simp[tJ]at h
 |k::r,0,x,h=>by simp only[tJ,List.getElem?_cons_zero,j5]at h;exact⟨k,rfl,h.symm⟩
 |k::r,n+1,x,h=>by simp only[tJ,List.getElem?_cons_succ]at h;obtain⟨k',h1,h2⟩:=PG h;exact⟨k',by simpa using h1,h2⟩
def wy(I:Opq)(r:Nat×U7):AlgOk jX (nh I r) I:=by
 refine⟨λh=> ?_,λl f h=> ?_,λe x y h=> ?_,λe x h=> ?_,λhd body ks h=> ?_,λhd l body ks h=> ?_⟩;obtain⟨pc,_,h⟩:=h;simp[jX,W6]at h;obtain⟨pc,hp,h⟩:=h;have h:W6 (Qv l f pc) I=some r:=h;unfold Qv at h;split at h;intro x hx;simp at hx;subst hx;exact⟨pc,hp,h⟩;rename_i a b;simp only[W6]at h;split at h
 rename_i he;intro x hx;simp at hx;rcases hx with rfl|rfl
 exact⟨pc,hp,h⟩;exact⟨pc,hp,he▸h⟩;cases h;grind[W6];obtain⟨pc,hp,h⟩:=h;have h:W6 (Tp e x y pc (oQ pc 8 e)) I=some r:=h;unfold Tp at h;split at h;rename_i hk;have:=pG hp 8 e _ hk;exact⟨λ_=>⟨pc,hp,h⟩,λhf=>by grind⟩;rename_i hk;have:=pG hp 8 e _ hk;exact⟨λhf=>by grind,λ_=>⟨pc,hp,h⟩⟩;simp[W6,Px hp]at h;refine⟨λhd=> ?_,λhd=> ?_⟩;rw[i6 hd]at h;exact⟨_,xe (NP 8 e _ hd) hp,h⟩;rw[b9 (by grind)]at h;exact⟨_,xe (NP 8 e _ hd) hp,h⟩;obtain⟨pc,hp,h⟩:=h;have h:W6 (Qk e x pc (oQ pc 8 e)) I=some r:=h;unfold Qk at h;split at h;rename_i hk;exact⟨pG hp 8 e _ hk,pc,hp,h⟩;simp only[W6,Px hp]at h;split at h;rename_i hd;exact⟨hd,_,xe (NP 8 e _ hd) hp,h⟩;cases h;obtain⟨pc,hp,h⟩:=h;have h:W6 (.loop hd body (tJ pc ks)) I=some r:=h;simp[W6]at h;split at h;rename_i q hq;split at h;rename_i hf;obtain⟨x,h1,h2⟩:=QN h;obtain⟨k,h3,rfl⟩:=PG h1;exact⟨q,k,hq,hf,h3,pc,hp,h2⟩;cases h;cases h;obtain⟨pc,hp,h⟩:=h;have h:W6 (.mloop hd l body (tJ pc ks)) I=some r:=h;simp only[W6]at h;split at h;rename_i hq;obtain⟨D,h1,h2⟩:=hq;obtain⟨x,h3,h4⟩:=QN h;obtain⟨k,h5,rfl⟩:=PG h3;exact⟨D,k,h1,h2,h5,pc,hp,h4⟩;cases h
variable{a:Fr}{pend:aaL}{bid:Nat->Nat}{done:Nat}{rest:aaH}{listed:aaI}{act:Act}
variable{E:Env}{O:cj}{I:Opq}{K:wW}{w0 w:Ac}{h h':Heap}
variable{ops:aaW}{l r:aaH}{hs:Heap}{ah:cj}
def pi.step{pend':aaL}{bid':Nat->Nat}{ac:cj}{y:PO}{dst:aaK}{v0:AV}(f:pi E I ops hs a h pend bid O y)(hl:a.nt<=256)(hr: ∀d∈nr ops.toList y.o,dst≠some d)
 (hd: ∀d,y.o.dst=some d->dst≠some d) (hpend: ∀p∈pend,p.i=y.i->p∈pend')
 (hna: ∀v,gk y.o=false->sa E I a.ev y.o h v->(∃p∈pend,p.i=y.i/\p.o=y.o/\p.v=v/\DV I p)->sa E I (a.put dst v0).ev y.o h' v)
 (hb:bid' y.i=bid y.i) (hst:St h O h' ac):pi E I ops hs (a.put dst v0) h' pend' bid' ac y:=by
 have hslot: ∀d,y.o.dst=some d->(a.put dst v0).slot d=a.slot d:=λd h1=>by simp_all[Fr.put_slot,b9]
 rcases f with⟨h1,h2⟩|⟨h1,v,h2,⟨p,hp,p1,p2,p3,p4⟩,h4⟩
 left;grind[th,Fr.put_nt]
 right;rw[th hl hr];refine⟨h1,v,λd e hlt=>by grind[Fr.put_nt],⟨p,hpend p hp p1,p1,p2,p3,p4⟩,?_⟩;rcases h4 with⟨g1,g2⟩|⟨g1,mk,blk,g2,g3,g4,g5,g6,g7⟩
 grind
 right;refine⟨g1,mk,blk,⟨λh2=>by rw[bW0 hl hr];exact g2.step h2,g2.nar⟩,by grind,by omega,by rw[hb];exact y7 g5 hst.le,by rw[hb,hst.ext _ g5];exact g6,?_⟩;rcases hst.unm _ g5 g6 with hu|hu|hu
 grind;grind
 rcases g7 with g7|g7
 rw[g7]at hu;have:=g2.nar;cases hu<;>cases this;rw[g7]at hu;cases hu
def DI.noX(hp:PlanOk ops.toList l r)
 (d:DI E I K w0 ops l hs ah done rest pend a h bid listed O act w) {x:PO} (hx:x∈l) (hrdy: ∀j,x.m.testBit j=true->dP listed j):
 ∀t∈nr ops.toList x.o,¬(∃y∈l,done.testBit y.i=true/\ ¬dP listed y.i/\y.o.dst=some t/\t<a.nt):=by
 rintro t ht ⟨y,hy,h1,h2,h3,h4⟩;rcases hp.slots x hx t ht y hy h3 with h5|⟨h5,h6⟩
 grind;have:=(d.fl y hy h1 h2).1;grind
def DI.opRX(hp:PlanOk ops.toList l r)
 (d:DI E I K w0 ops l hs ah done rest pend a h bid listed O act w) {x:PO} (hx:x∈l) (hrdy: ∀j,x.m.testBit j=true->dP listed j):
 ∀y∈x.o.op.operands,∀v,a.ev y=some v->VR O I v (act.eval y):=
 λy hy v e=>d.fr.evs y (λt ht=>d.noX hp hx hrdy t (SI (ht▸hy))) v e
def DI.wantedX(hp:PlanOk ops.toList l r)
 (d:DI E I K w0 ops l hs ah done rest pend a h bid listed O act w) {x:PO} (hx:x∈l) (hrdy: ∀j,x.m.testBit j=true->dP listed j) {b:Bool} (e:eE ops.toList a x.o=some b):
 Region.wanted x.o (yielded ops act.tmps)=b:=
 bv2 d.fr rfl e λj want g dd h1 h2 h3=>d.noX hp hx hrdy dd (Xc h1 h2 h3)
def DI.late(hE:E.Ok I)(hp:PlanOk ops.toList l r){Q:Exit->Act->Ac->Prop}{next:Act->Ac->Prop}
 (d:DI E I K w0 ops l hs ah done rest pend a h bid listed O act w) {x:PO} (hx:x∈l) (hrdy: ∀j,x.m.testBit j=true->dP listed j) (hD:done.testBit x.i=true) (hC: ¬dP listed x.i)
 (hk: ∀ac act' w',DI E I K w0 ops l hs ah done rest pend a h bid (listed.setIfInBounds x.i true) ac act' w'->next act' w') {ro:mB}:wpOpIn (fA ro) 0 E.P ops Q x.i next act w:=by
 obtain⟨o,ho,ho2,hfl⟩:=hp.get x hx;have hox:ops[x.i]? =some x.o:=by grind
 have hsz:x.i<listed.size:=by rw[d.lsz];grind
 obtain⟨hf,hfs⟩:=d.fl x hx hD hC;have base: ∀(ac:cj) (u:Zl) (w':Ac),HR ac I K w0 h w'->St hs ah h ac->Le O ac->(∀dd,x.o.dst=some dd->dd<a.nt->VR ac I (a.slot dd) u)->
  (∀y∈l,done.testBit y.i=true-> ¬dP listed y.i->y≠x->pi E I ops hs a h pend bid ac y)->
  DI E I K w0 ops l hs ah done rest pend a h bid (listed.setIfInBounds x.i true) ac (act.put x.o.dst u) w':=by
  intro ac u w' h1 h2 h3 h4 h5;have hne: ∀y∈l,¬dP (listed.setIfInBounds x.i true) y.i-> ¬dP listed y.i/\y≠x:=by grind[sA]
  refine⟨h1,h2,by simp[d.lsz],?_,?_,d.dm,d.eg,d.rl,d.rd,?_,?_,?_⟩
  intro y hy hl;rcases(sA hsz).1 hl with hh|hh
  exact d.cd y hy hh;grind
  intro y hy hl j hj;rw[sA hsz];rcases(sA hsz).1 hl with hh|hh
  exact .inl (d.cm y hy hh j hj);have:=hp.uniq y hy x hx hh;grind;refine((d.fr.mono h3).behind x.o.dst h4).weaken ?_;rintro t ⟨⟨y,hy,g1,g2,g3,g4⟩,g5⟩;refine⟨y,hy,g1,?_,g3,g4⟩;rw[sA hsz];rintro(hh|hh);grind;have:=hp.uniq y hy x hx hh;grind;intro y hy g1 g2;obtain⟨g3,g4⟩:=hne y hy g2;exact⟨(d.fl y hy g1 g3).1,h5 y hy g1 g3 g4⟩;intro y hy z hz g1 g2 g3 g4;exact d.inj y hy z hz g1 (hne y hy g2).1 g3 (hne z hz g4).1
 unfold wpOpIn;rw[hox];simp;rcases hfs with⟨hw,hv⟩|⟨hw,v,hv,hpe,hps⟩
 rw[d.wantedX hp hx hrdy hw];refine⟨λ_ _=>trivial,?_⟩;exact hk _ _ _ (base O Go.undef w d.hr d.st (Le.refl _) (λdd e hlt=>by rw[hv dd e hlt];exact⟨#[],rfl,rfl⟩) λy hy g1 g2 _=>(d.fl y hy g1 g2).2)
 rw[d.wantedX hp hx hrdy hw];rcases hps with⟨ha,hstep⟩|⟨ha,mk,blk,hA,hvb,b1,b2,b3,b4⟩
 have hok:=bc1 hE d.hr x.o (d.opRX hp hx hrdy);have hnd: ∀c,x.o.op≠ .defer c:=by
  rcases hstep with hstep|⟨e,hstep,hd⟩
  exact QE hstep nofun nofun;exact QE hstep nofun nofun
 have hok:cO E O I K w0 w h (execOp act.eval x.o) v h:=by
  rcases hstep with hstep|⟨e,hstep,hd⟩
  rw[hstep]at hok;exact hok;rw[hstep]at hok;exact hok hd
 refine Cg hnd hok λac u w' hv' hr' hst'=>hk _ _ _ (base ac u w' hr' (d.st.trans hst') (hst'.Le d.hr) (λdd e hlt=>by grind) ?_)
 intro y hy g1 g2 _;rcases(d.fl y hy g1 g2).2 with q|⟨q1,v',q2,q3,q4⟩
 exact .inl q;refine .inr ⟨q1,v',q2,q3,BC id ?_ q4⟩;rintro⟨z1,mk,blk,z2,z3,z4,z5,z6,z7⟩;exact⟨z1,mk,blk,z2,z3,z4,z5,by rw[hst'.ext _ z5];exact z6,z7⟩
 obtain⟨mk',x',hA',-,-,hV⟩:=bV5 (O:=O) (I:=I) (ρ:=act.eval) ha (hA.step h);obtain⟨e1,e2⟩:=hA.uniq hA';subst e1;obtain⟨mkV,obj,ext,hV⟩:=hV (d.opRX hp hx hrdy);have hle:Le O (O.add (bid x.i) ⟨w.heap.size,0,ext⟩):=by intro b' M hb';simp[cj.add];grind
 have hr':=d.hr.adopt (bid x.i) obj blk ext b3 b2 b4 (hV.blk _ _ hle);have hval:VR (O.add (bid x.i) ⟨w.heap.size,0,ext⟩) I v (mkV w.heap.size):=by rw[hvb,e2];exact hV.val _ _ _ (cj.add_self _ _ _)
 have hrun:=hV.run w;refine Pc (λc hc=>by grind[gk]) hrun ?_;refine hk _ _ _ (base _ _ _ hr' ?_ hle (λdd e hlt=>by grind) ?_);refine⟨d.st.le,λb hb=> ?_,d.st.unm,d.st.wm⟩;simp[cj.add];rw[b9 (by omega)];exact d.st.ext b hb
 intro y hy g1 g2 hne;rcases(d.fl y hy g1 g2).2 with q|⟨q1,v',q2,q3,q4⟩
 exact .inl q;refine .inr ⟨q1,v',q2,q3,BC id ?_ q4⟩;rintro⟨z1,mk,blk,z2,z3,z4,z5,z6,z7⟩;refine⟨z1,mk,blk,z2,z3,z4,z5,?_,z7⟩;simp[cj.add];rw[b9];exact z6;exact d.inj y hy x hx g1 g2 hD hC z1 ha q1 hw hne
variable{E:Env}{O:cj}{I:Opq}{K:wW}{w0 w:Ac}{h h':Heap}
variable{ops:aaW}{l r:aaH}{hs:Heap}{ah:cj}
def b03{a:Fr}: ∀{pend:aaL},ue E a h pend=true-> ∀p∈pend,gk p.o=false->(∃h2,eQ E a.ev p.o h= .val p.v h2)\/ ∃e h2,p.nd=some e/\eQ E a.ev p.o h= .N e p.v h2
 | [],_,p,hp,_=>by cases hp
 |q::r,hr,p,hp,ha=>by
  obtain⟨h1,h2⟩:=W4 hr;cases hp with
  |head=>
   rw[ha,C1]at h1;unfold bT1 at h1;split at h1;rename_i v' h2 hv;exact .inl ⟨h2,by rw[hv,AV.beq_eq _ _ h1]⟩;rename_i e v' h2 hv;obtain⟨g1,g2⟩:=W4 h1;unfold ed0 at g1;split at g1;rename_i x hx;exact .inr ⟨e,h2,by rw[hx,SX.beq_eq _ _ g1],by rw[hv,AV.beq_eq _ _ g2]⟩;cases g1;grind
  |tail _ hp=>exact b03 h2 p hp ha
def aH5{a:Fr}{pend:aaL}(hr:ue E a h pend=true){y:PO}{v:AV}(hf:oS y.o=true)(ha:gk y.o=false)(hp: ∃p∈pend,p.i=y.i/\p.o=y.o/\p.v=v/\DV I p):sa E I a.ev y.o h v:=by
 obtain⟨p,hp,-,h2,h3,h4⟩:=hp;rcases b03 hr p hp (by grind)with⟨h2',e⟩|⟨x,h2',hx,e⟩
 rw[h2,h3]at e;have:=Kk hf ha (.inl e);rw[this]at e;exact .inl e;rw[h2,h3]at e;have:=Kk hf ha (.inr ⟨x,e⟩);rw[this]at e;exact .inr ⟨x,e,h4 x hx⟩
section
variable{done:Nat}{rest:aaH}{pend:aaL}{a:Fr}{bid:Nat->Nat}{listed:aaI}{act:Act}
variable{R:Type}{A:Alg R}{T:R->Prop}
def DI.doneMore(hp:PlanOk ops.toList l r){x:PO}(d:DI E I K w0 ops l hs ah done (x::rest) pend a h bid listed O act w):
 x∈l/\done.testBit x.i=false/\(∀j,x.m.testBit j=true->done.testBit j=true)/\eager (done|||2^x.i) rest=true/\
 (∀y∈rest,y∈l)/\(∀y∈l,(done|||2^x.i).testBit y.i=false->y∈rest)/\
 (∀y∈l,(done|||2^x.i).testBit y.i=true-> ∀j,y.m.testBit j=true->(done|||2^x.i).testBit j=true)/\
 (∀y∈l,dP listed y.i->(done|||2^x.i).testBit y.i=true):=by
 have hx:=d.rl x (.head _);have eg:=d.eg;simp only[eager,j8,s7]at eg;obtain⟨⟨⟨e1,e2⟩,e3⟩,e4⟩:=eg;refine⟨hx,e2,Sv e1,e4,λy hy=>d.rl y (.tail _ hy),λy hy hb=> ?_,λy hy hb j hj=> ?_,λy hy hl=>(uU _ _ _).2 (.inl (d.cd y hy hl))⟩
 .have h1:done.testBit y.i=false:=by
   cases hh:done.testBit y.i with
   |false=>rfl
   |true=>rw[(uU _ _ _).2 (.inl hh)]at hb;cases hb
  have:=d.rd y hy h1;grind
 rw[uU]at hb⊢;left;rcases hb with hb|hb
 exact d.dm y hy hb j hj;have:=hp.uniq y hy x hx hb;grind[Sv]
def DI.float(hA:AlgOk A T I)(hp:PlanOk ops.toList l r){x:PO}(hf:x.fl=true)(d:DI E I K w0 ops l hs ah done (x::rest) pend a h bid listed O act w){n:Nat}{k:Fr->Heap->R}
 (he:T (ev E (n+1) R A (.dops ops.toList (x::rest) pend a h k))):
 ∃done' rest' pend' a' h' bid',T (ev E n R A (.dops ops.toList rest' pend' a' h' k))/\DI E I K w0 ops l hs ah done' rest' pend' a' h' bid' listed O act w:=by
 obtain⟨hx,hnd,hm,eg',rl',rd',dm',cd'⟩:=d.doneMore hp;obtain⟨o,ho,ho2,hfl⟩:=hp.get x hx;have hlim:=d.fr.lim;have hfx:oS x.o=true:=by grind
 have hself: ∀t∈nr ops.toList x.o,x.o.dst≠some t:=by
  intro t ht hd;rcases hp.slots x hx t ht x hx hd with h1|⟨h1,_⟩
  rw[hm _ h1]at hnd;cases hnd;grind
 have hother: ∀y∈l,done.testBit y.i=true->(∀t∈nr ops.toList y.o,x.o.dst≠some t)/\(∀t,y.o.dst=some t->x.o.dst≠some t):=by
  intro y hy hyd;refine⟨λt ht hd=> ?_,λt h1 h2=> ?_⟩
  rcases hp.slots y hy t ht x hx hd with h1|⟨h1,_⟩
  rw[d.dm y hy hyd _ h1]at hnd;cases hnd;grind;have:=hp.once y hy x hx t h1 h2;grind
 have hCx: ¬dP listed x.i:=λhh=>by rw[d.cd x hx hh]at hnd;cases hnd
 have hcase: ∀y∈l,(done|||2^x.i).testBit y.i=true->y=x\/done.testBit y.i=true/\y≠x:=by
  intro y hy hb;rcases(uU _ _ _).1 hb with hb1|hb1
  grind;exact .inl (hp.uniq y hy x hx hb1)
 have hframe: ∀v,FrP O I (λt=> ∃y∈l,(done|||2^x.i).testBit y.i=true/\ ¬dP listed y.i/\y.o.dst=some t/\t<(a.put x.o.dst v).nt) (a.put x.o.dst v) act:=by intro v;refine(d.fr.ahead x.o.dst v).weaken ?_;grind[uU,Fr.put_nt]
 replace he:T (Bj E (ev E n) A ops.toList x rest pend a h k (eE ops.toList a x.o)):=he;have hownslot: ∀v dd,x.o.dst=some dd->dd<(a.put x.o.dst v).nt->(a.put x.o.dst v).slot dd=v:=by simp_all[Fr.put_nt,Fr.put_slot,i6]
 cases hw:eE ops.toList a x.o with
 |none=>
  rw[hw]at he;replace he:T (PV (ev E n) A ops.toList (x::rest) pend a h k (wx ops.toList a x.o)):=he;cases hs:wx ops.toList a x.o with
  |none=>rw[hs]at he;exact absurd he hA.X
  |some e=>
   rw[hs]at he;obtain⟨h1,h2⟩:=hA.J _ _ _ he;cases hd:dB I e with
   |true=>exact⟨done,x::rest,pend,_,h,bid,h1 hd,d.cond hd⟩
   |false=>exact⟨done,x::rest,pend,_,h,bid,h2 hd,d.cond hd⟩
 |some b=>
  rw[hw]at he;cases b with
  |false=>
   refine⟨_,_,pend,a.put x.o.dst .undef,h,bid,he,d.hr,d.st,d.lsz,cd',d.cm,dm',eg',rl',rd',hframe _,λy hy g1 g2=> ?_,λy hy z hz g1 g2 g3 g4 q1 q2 q3 q4 hne=> ?_⟩
   rcases hcase y hy g1 with rfl|⟨hyd,hne⟩
   exact⟨hf,.inl ⟨by grind[th],hownslot _⟩⟩;obtain⟨q1,q2⟩:=d.fl y hy hyd g2;refine⟨q1,q2.step hlim (hother y hy hyd).1 (hother y hy hyd).2 (λp hp _=>hp) (λv _ hv _=>Lr hlim (hother y hy hyd).1 hv) rfl (.refl _ _)⟩
   .have nx: ∀y∈l,(done|||2^x.i).testBit y.i=true->eE ops.toList (a.put x.o.dst .undef) y.o=some true->done.testBit y.i=true/\eE ops.toList a y.o=some true:=by
     grind[th]
    obtain⟨y1,y2⟩:=nx y hy g1 q3;obtain⟨z1,z2⟩:=nx z hz g3 q4;exact d.inj y hy z hz y1 g2 z1 g4 q1 q2 y2 z2 hne
  |true=>
   simp[Bj,hf,cond_true]at he;have plain: ∀(v:AV) (nd:aaD),gk x.o=false->sa E I a.ev x.o h v->DV I ⟨x.i,x.o,v,nd⟩->T (ev E n R A (.dops ops.toList rest (⟨x.i,x.o,v,nd⟩::pend) (a.put x.o.dst v) h k))->
    ∃done' rest' pend' a' h' bid',T (ev E n R A (.dops ops.toList rest' pend' a' h' k))/\DI E I K w0 ops l hs ah done' rest' pend' a' h' bid' listed O act w:=by
    intro v nd ha hst hnd' he2;refine⟨_,_,_,_,_,bid,he2,d.hr,d.st,d.lsz,cd',d.cm,dm',eg',rl',rd',hframe _,λy hy g1 g2=> ?_,λy hy z hz g1 g2 g3 g4 q1 q2 q3 q4 hne=> ?_⟩
    rcases hcase y hy g1 with rfl|⟨hyd,hne⟩
    exact⟨hf,.inr ⟨by grind[th],v,hownslot _,⟨_,.head _,rfl,rfl,rfl,hnd'⟩,.inl ⟨ha,Lr hlim hself hst⟩⟩⟩;obtain⟨q1,q2⟩:=d.fl y hy hyd g2;exact⟨q1,q2.step hlim (hother y hy hyd).1 (hother y hy hyd).2 (λp hp _=> .tail _ hp) (λv _ hv _=>Lr hlim (hother y hy hyd).1 hv) rfl (.refl _ _)⟩
    .have nx: ∀y∈l,(done|||2^x.i).testBit y.i=true->gk y.o=true->eE ops.toList (a.put x.o.dst v) y.o=some true->done.testBit y.i=true/\eE ops.toList a y.o=some true:=by
      grind[th]
     obtain⟨y1,y2⟩:=nx y hy g1 q1 q3;obtain⟨z1,z2⟩:=nx z hz g3 q2 q4;exact d.inj y hy z hz y1 g2 z1 g4 q1 q2 y2 z2 hne
   cases hst:eQ E a.ev x.o h with
   |N e v h1=>
    rw[hst]at he;simp[TU]at he;cases ha:gk x.o with
    |true=>rw[ha]at he;exact absurd he hA.X
    |false=>
     rw[ha]at he;obtain⟨hd,he2⟩:=hA.needA _ _ he;have hh:h1=h:=Kk hfx ha (.inr ⟨e,hst⟩);subst hh;exact plain v (some e) ha (.inr ⟨e,hst,hd⟩) (λx hx=>by grind) he2
   |val v h1=>
    rw[hst]at he;simp[TU]at he;obtain⟨hre,he2⟩:(!(gk x.o)||ue E (a.put x.o.dst v) h1 pend)=true/\T (ev E n R A (.dops ops.toList rest (⟨x.i,x.o,v,none⟩::pend) (a.put x.o.dst v) h1 k)):=by
     cases hc:(!(gk x.o)||ue E (a.put x.o.dst v) h1 pend)with
     |false=>rw[hc]at he;exact absurd he hA.X
     |true=>grind
    cases ha:gk x.o with
    |false=>
     have hh:h1=h:=Kk hfx ha (.inl hst);subst hh;exact plain v none ha (.inl hst) (λx hx=>by cases hx) he2
    |true=>
     rw[ha]at hre;obtain⟨mk,blk,hA,hv,hh,-⟩:=bV5 (O:=O) (I:=I) (ρ:=act.eval) ha hst;subst hh;have hst1:St h O (h.new blk) O:=⟨by simp,λ_ _=>rfl,λb hb _=>by left;rw[Heap.get_new,b9 (by omega)],rfl⟩;refine⟨_,_,_,_,_,λi=>if i=x.i then h.next else bid i,he2,d.hr.lay blk,d.st.trans hst1,d.lsz,cd',d.cm,dm',eg',rl',rd',hframe _,λy hy g1 g2=> ?_,λy hy z hz g1 g2 g3 g4 q1 q2 q3 q4 hne=> ?_⟩
     rcases hcase y hy g1 with rfl|⟨hyd,hne⟩
     refine⟨hf,.inr ⟨by grind[th],v,hownslot _,⟨_,.head _,rfl,rfl,rfl,λx hx=>by cases hx⟩,.inr ⟨ha,mk,blk,⟨λh2=>by rw[bW0 hlim hself];exact hA.step h2,hA.nar⟩,?_,?_,?_,?_,?_⟩⟩⟩;grind;simp;exact d.st.le;simp_all;simp;exact d.hr.fresh _ (j6 _);simp;rw[Heap.get_new,i6 rfl];grind
     obtain⟨q1,q2⟩:=d.fl y hy hyd g2;have hyi:y.i≠x.i:=λhh=>hne (hp.uniq y hy x hx hh)
     obtain⟨oy,_,hyo,hyf⟩:=hp.get y hy;refine⟨q1,q2.step hlim (hother y hy hyd).1 (hother y hy hyd).2 (λp hp _=> .tail _ hp) (λv' hna _ hpe=>aH5 hre (by grind) hna hpe) (b9 hyi) hst1⟩
     .have nx: ∀y∈l,(done|||2^x.i).testBit y.i=true->eE ops.toList (a.put x.o.dst v) y.o=some true->y=x\/y≠x/\done.testBit y.i=true/\eE ops.toList a y.o=some true:=by
       grind[th]
      have old: ∀y∈l,y≠x->done.testBit y.i=true-> ¬dP listed y.i->gk y.o=true->eE ops.toList a y.o=some true->bid y.i<h.next:=by
       intro y hy hne hyd hc hya hyw;rcases(d.fl y hy hyd hc).2 with⟨z1,_⟩|⟨_,v',_,_,z⟩
       rw[hyw]at z1;cases z1;grind
      have nei: ∀y∈l,y≠x->y.i≠x.i:=λy hy hne hh=>hne (hp.uniq y hy x hx hh)
      rcases nx y hy g1 q3 with rfl|⟨yn,y1,y2⟩
      grind
      rcases nx z hz g3 q4 with rfl|⟨zn,z1,z2⟩
      grind;rw[b9 (nei y hy yn),b9 (nei z hz zn)];exact d.inj y hy z hz y1 g2 z1 g4 q1 q2 y2 z2 hne
   |cho e v c h1=>rw[hst]at he;exact absurd he hA.X
   |enter f args=>rw[hst]at he;exact absurd he hA.X
   |choice c=>rw[hst]at he;exact absurd he hA.X
   |yield l args=>rw[hst]at he;exact absurd he hA.X
   |defer d=>rw[hst]at he;exact absurd he hA.X
   |X=>rw[hst]at he;exact absurd he hA.X
end
variable{E:Env}{O:cj}{I:Opq}{K:wW}{w0 w:Ac}{h h':Heap}
variable{ops:aaW}{l r:aaH}{hs:Heap}{ah:cj}
section
variable{done:Nat}{rest:aaH}{pend:aaL}{a:Fr}{bid:Nat->Nat}{listed:aaI}{act:Act}
variable{R:Type}{A:Alg R}{T:R->Prop}
def DI.link1(hA:AlgOk A T I)(hE:E.Ok I)(hp:PlanOk ops.toList l r){x:PO}(hf:x.fl=false)(d:DI E I K w0 ops l hs ah done (x::rest) pend a h bid listed O act w){ro:mB}{n:Nat}(hc:zz E I n){k:Fr->Heap->R}
 {b:Bool} (hw:eE ops.toList a x.o=some b) (he:T (ev E (n+1) R A (.dops ops.toList (x::rest) pend a h k))) (hrdy: ∀j,x.m.testBit j=true->dP listed j) {Q:Exit->Act->Ac->Prop} {next:Act->Ac->Prop}
 (hk: ∀pend' a' h' ac act' w',T (ev E n R A (.dops ops.toList rest pend' a' h' k))->DI E I K w0 ops l hs ah (done|||2^x.i) rest pend' a' h' bid (listed.setIfInBounds x.i true) ac act' w'->next act' w'):
 wpOpIn (fA ro) 0 E.P ops Q x.i next act w:=by
 obtain⟨hx,hnd,hm,eg',rl',rd',dm',cd'⟩:=d.doneMore hp;obtain⟨o,ho,ho2,hfl⟩:=hp.get x hx;have hlim:=d.fr.lim;have hox:ops[x.i]? =some x.o:=by grind
 have hsz:x.i<listed.size:=by rw[d.lsz];grind
 have hother: ∀y∈l,done.testBit y.i=true-> ¬dP listed y.i->(∀t∈nr ops.toList y.o,x.o.dst≠some t)/\(∀t,y.o.dst=some t->x.o.dst≠some t):=by
  intro y hy hyd hyc;refine⟨λt ht hd=> ?_,λt h1 h2=> ?_⟩
  rcases hp.slots y hy t ht x hx hd with h1|⟨_,h1⟩
  rw[d.dm y hy hyd _ h1]at hnd;cases hnd;grind;have:=hp.once y hy x hx t h1 h2;grind
 have hcase: ∀y∈l,(done|||2^x.i).testBit y.i=true-> ¬dP (listed.setIfInBounds x.i true) y.i->y≠x/\done.testBit y.i=true/\ ¬dP listed y.i:=by grind[sA,uU,absurd]
 have fin: ∀(pend':aaL) (v:AV) (u:Zl) (h':Heap) (ac:cj) (w':Ac),VR ac I v u->HR ac I K w0 h' w'->St h O h' ac->(∀p∈pend,¬x.m.testBit p.i=true->p∈pend')->
  (∀y∈l,done.testBit y.i=true-> ¬dP listed y.i-> ∀v',gk y.o=false->sa E I a.ev y.o h v'->(∃p∈pend,p.i=y.i/\p.o=y.o/\p.v=v'/\DV I p)->sa E I (a.put x.o.dst v).ev y.o h' v')->
  DI E I K w0 ops l hs ah (done|||2^x.i) rest pend' (a.put x.o.dst v) h' bid (listed.setIfInBounds x.i true) ac (act.put x.o.dst u) w':=by
  intro pend' v u h' ac w' h1 h2 h3 h4 h5;refine⟨h2,d.st.trans h3,by simp[d.lsz],?_,?_,dm',eg',rl',rd',?_,?_,?_⟩;grind[uU,sA]
  intro y hy hl j hj;rw[sA hsz];rcases(sA hsz).1 hl with hh|hh
  exact .inl (d.cm y hy hh j hj);have:=hp.uniq y hy x hx hh;grind;refine((d.fr.mono (h3.Le d.hr)).put x.o.dst h1).weaken ?_;grind[uU,Fr.put_nt,sA];intro y hy g1 g2;obtain⟨yn,y1,y2⟩:=hcase y hy g1 g2;obtain⟨q1,q2⟩:=d.fl y hy y1 y2;exact⟨q1,q2.step hlim (hother y hy y1 y2).1 (hother y hy y1 y2).2 (λp hp hpi=>h4 p hp (λhh=>y2 (hrdy _ (hpi▸hh)))) (h5 y hy y1 y2) rfl h3⟩;intro y hy z hz g1 g2 g3 g4 q1 q2 q3 q4 hne;obtain⟨yn,y1,y2⟩:=hcase y hy g1 g2;obtain⟨zn,z1,z2⟩:=hcase z hz g3 g4;rw[th hlim (hother y hy y1 y2).1]at q3;rw[th hlim (hother z hz z1 z2).1]at q4;exact d.inj y hy z hz y1 y2 z1 z2 q1 q2 q3 q4 hne
 replace he:T (Bj E (ev E n) A ops.toList x rest pend a h k (eE ops.toList a x.o)):=he;unfold wpOpIn;rw[hox];simp
 rw[hw]at he;rw[d.wantedX hp hx hrdy hw];cases b with
 |false=>
  refine⟨λ_ _=>trivial,?_⟩;exact hk _ _ _ _ _ _ he (fin pend .undef Go.undef h O w ⟨#[],rfl,rfl⟩ d.hr (.refl _ _) (λp hp _=>hp) λy hy y1 y2 v' _ hv _=>Lr hlim (hother y hy y1 y2).1 hv)
 |true=>
  simp[Bj,hf,cond_false]at he;refine dL2 hA hc d.hr rfl (bc1 hE d.hr x.o (d.opRX hp hx hrdy)) he ?_;intro ac v u h' w' hkd hv hr' hst';simp[ed2]at hkd;obtain⟨hre,he2⟩:ue E (a.put x.o.dst v) h' (pend.filter λp=> !(x.m.testBit p.i))=true/\T (ev E n R A (.dops ops.toList rest (pend.filter λp=> !(x.m.testBit p.i)) (a.put x.o.dst v) h' k)):=by
   cases hcc:ue E (a.put x.o.dst v) h' (pend.filter λp=> !(x.m.testBit p.i))with
   |false=>rw[hcc]at hkd;exact absurd hkd hA.X
   |true=>rw[hcc]at hkd;exact⟨rfl,hkd⟩
  refine hk _ _ _ _ _ _ he2 (fin _ v u h' ac w' hv hr' hst' (λp hp hn=>l7.2 ⟨hp,by simpa using hn⟩) λy hy y1 y2 v' hna _ hpe=> ?_);obtain⟨oy,_,hyo,hyf⟩:=hp.get y hy;obtain⟨p,hpm,p1,p2,p3,p4⟩:=hpe;refine aH5 hre (by rw[hyo,<-hyf];exact(d.fl y hy y1 y2).1) hna ⟨p,l7.2 ⟨hpm,?_⟩,p1,p2,p3,p4⟩;grind
theorem DI.link(hA:AlgOk A T I)(hE:E.Ok I)(hp:PlanOk ops.toList l r){x:PO}(hf:x.fl=false){k:Fr->Heap->R}(hrdy: ∀j,x.m.testBit j=true->dP listed j){Q:Exit->Act->Ac->Prop}{next:Act->Ac->Prop}{ro:mB}:
 ∀(n:Nat) (a:Fr),(∀m,m<n->zz E I m)->DI E I K w0 ops l hs ah done (x::rest) pend a h bid listed O act w->T (ev E n R A (.dops ops.toList (x::rest) pend a h k))->
 (∀m pend' a' h' ac act' w',m<n->T (ev E m R A (.dops ops.toList rest pend' a' h' k))->DI E I K w0 ops l hs ah (done|||2^x.i) rest pend' a' h' bid (listed.setIfInBounds x.i true) ac act' w'->next act' w')->
 wpOpIn (fA ro) 0 E.P ops Q x.i next act w
 |0,a,hc,d,he,hk=>absurd he hA.X
 |n+1,a,hc,d,he,hk=>by
  cases hw:eE ops.toList a x.o with
  |some b=>exact d.link1 hA hE hp hf (hc n (by omega)) hw he hrdy λpend' a' h' ac act' w' g1 g2=>hk n pend' a' h' ac act' w' (by omega) g1 g2
  |none=>
   replace he:T (Bj E (ev E n) A ops.toList x rest pend a h k (eE ops.toList a x.o)):=he;rw[hw]at he;replace he:T (PV (ev E n) A ops.toList (x::rest) pend a h k (wx ops.toList a x.o)):=he;cases hs:wx ops.toList a x.o with
   |none=>rw[hs]at he;exact absurd he hA.X
   |some e=>
    rw[hs]at he;obtain⟨h1,h2⟩:=hA.J _ _ _ he;cases hd:dB I e with
    |true=>exact DI.link hA hE hp hf hrdy n _ (λm hm=>hc m (by omega)) (d.cond hd) (h1 hd) λm pend' a' h' ac act' w' g0 g1 g2=>hk m pend' a' h' ac act' w' (by omega) g1 g2
    |false=>exact DI.link hA hE hp hf hrdy n _ (λm hm=>hc m (by omega)) (d.cond hd) (h2 hd) λm pend' a' h' ac act' w' g0 g1 g2=>hk m pend' a' h' ac act' w' (by omega) g1 g2
end
theorem OW{listed:aaI}{i:Nat}:i∈Region.ready .any ops listed↔i<ops.size/\listed.getD i true=false/\ ∃o,ops[i]? =some o/\ ∀e∈o.after.toList,rP e=true->dP listed e.on:=by
 unfold Region.ready;rw[l7,o7];refine and_congr_right λhi=> ?_
 rw[j8,s7];refine and_congr_right λ_=> ?_
 have eK:ops[i]? =some ops[i]:=B3 hi;rw[eK];simp only[Option.map_some,Option.getD_some,j5,exists_eq_left'];rw[<-Array.all_toList,l5];refine forall_congr' λe=>forall_congr' λ_=> ?_
 have hb:Region.binds .any e=rP e:=by rfl
 rw[hb,t7,s7];constructor;rintro(h1|h1) h2;grind;exact h1
 intro h1;cases hh:rP e with
 |false=>grind
 |true=>exact .inr (h1 hh)
def left(listed:aaI):Nat:=(listed.toList.filter (λb=> !b)).length
def cW7{listed:aaI}{i:Nat}(h:listed.getD i true=false):left (listed.setIfInBounds i true)+1=left listed:=by
 have hi:i<listed.size:=by
  rcases k8 i listed.size with hh|hh
  exact hh;simp[x6,D7 hh]at h
 have hv:listed.toList[i]? =some false:=by rw[x6,B3 hi]at h;simp at h;simp[hi,h]
 unfold left;have main: ∀(xs:List Bool) (i:Nat),xs[i]? =some false->((xs.set i true).filter (λb=> !b)).length+1=(xs.filter (λb=> !b)).length:=by
  intro xs;induction xs with
  |nil=>intro i h;simp at h
  |cons b r ih=>
   intro i h;cases i with
   |zero=>simp at h;subst h;simp
   |succ i=>
    have:=ih i h;cases b<;>simp[B0]<;>omega
 grind
variable{Q:Exit->Act->Ac->Prop}
variable{E:Env}{I:Opq}{K:wW}{w0:Ac}
variable{ops:aaW}{l r:aaH}{hs:Heap}{ah:cj}
variable{R:Type}{A:Alg R}{T:R->Prop}
def TA(hA:AlgOk A T I)(hp:PlanOk ops.toList l r){k:Fr->Heap->R}{listed:aaI}{O:cj}{act:Act}{w:Ac}: ∀(n:Nat) (rest:aaH) (done:Nat) (pend:aaL) (a:Fr) (h:Heap) (bid:Nat->Nat),
 T (ev E n R A (.dops ops.toList rest pend a h k))->DI E I K w0 ops l hs ah done rest pend a h bid listed O act w->
 ∃n2 done2 rest2 pend2 a2 h2 bid2,n2<=n/\T (ev E n2 R A (.dops ops.toList rest2 pend2 a2 h2 k))/\DI E I K w0 ops l hs ah done2 rest2 pend2 a2 h2 bid2 listed O act w/\(rest2=[]\/ ∃x r',rest2=x::r'/\x.fl=false)
 |n,[],done,pend,a,h,bid,he,d=>⟨n,done,[],pend,a,h,bid,j6 _,he,d,.inl rfl⟩
 |0,x::rest,done,pend,a,h,bid,he,d=>absurd he hA.X
 |n+1,x::rest,done,pend,a,h,bid,he,d=>by
  cases hf:x.fl with
  |false=>exact⟨n+1,done,x::rest,pend,a,h,bid,j6 _,he,d,.inr ⟨x,rest,rfl,hf⟩⟩
  |true=>
   obtain⟨done',rest',pend',a',h',bid',he',d'⟩:=d.float hA hp hf he;obtain⟨n2,done2,rest2,pend2,a2,h2,bid2,g1,g2⟩:=TA hA hp n rest' _ pend' a' h' bid' he' d';exact⟨n2,done2,rest2,pend2,a2,h2,bid2,N4 g1,g2⟩
def ct5{listed:aaI}(h:left listed=0){i:Nat}(hi:i<listed.size):dP listed i:=by
 unfold left at h;have hm:listed[i]∈listed.toList:=by simp
 unfold dP;rw[x6,B3 hi];grind[List.filter_eq_nil_iff]
def DI.finish(hA:AlgOk A T I)(hp:PlanOk ops.toList l r){k:Fr->Heap->R}
 (hQ: ∀a h O act w,T (k a h)->cS O I a act->HR O I K w0 h w->St hs ah h O->Q .normal act w)
 {n done:Nat} {rest:aaH} {pend:aaL} {a:Fr} {h:Heap} {bid:Nat->Nat} {listed:aaI} {O:cj} {act:Act} {w:Ac}
 (he:T (ev E n R A (.dops ops.toList rest pend a h k))) (d:DI E I K w0 ops l hs ah done rest pend a h bid listed O act w) (hall: ∀x∈l,dP listed x.i):Q .normal act w:=by
 cases rest with
 |cons x rest=>
  have:=RT _ _ d.eg x (.head _);rw[d.cd x (d.rl x (.head _)) (hall x (d.rl x (.head _)))]at this;cases this
 |nil=>
  cases n with
  |zero=>exact absurd he hA.X
  |succ n=>
   exact hQ a h O act w he (d.fr.weaken λt ⟨y,hy,_,g2,_⟩=>g2 (hall y hy)) d.hr d.st
def dp5(hA:AlgOk A T I)(hE:E.Ok I)(hp:PlanOk ops.toList l r){N:Nat}{ro:mB}(hc: ∀m,m<N->zz E I m){k:Fr->Heap->R}
 (hQ: ∀a h O act w,T (k a h)->cS O I a act->HR O I K w0 h w->St hs ah h O->Q .normal act w):
 ∀(fuel n done:Nat) (rest:aaH) (pend:aaL) (a:Fr) (h:Heap) (bid:Nat->Nat) (listed:aaI) (O:cj) (act:Act) (w:Ac),n<=N->
  T (ev E n R A (.dops ops.toList rest pend a h k))->DI E I K w0 ops l hs ah done rest pend a h bid listed O act w->left listed<=fuel->wpAnyIn (fA ro) 0 E.P .any ops Q fuel listed act w:=by
 intro fuel;induction fuel with
 |zero=>
  intro n done rest pend a h bid listed O act w hn he d hle;have hall: ∀i,i<ops.size->dP listed i:=λi hi=>ct5 (by omega) (by rw[d.lsz];exact hi)
  have hall2: ∀x∈l,dP listed x.i:=by
   intro x hx;obtain⟨o,ho,-⟩:=hp.get x hx;refine hall _ ?_;rcases k8 x.i ops.size with hh|hh
   exact hh;rw[v8 (by simpa using hh)]at ho;cases ho
  obtain⟨n2,done2,rest2,pend2,a2,h2,bid2,g1,g2,g3,g4⟩:=TA hA hp n rest done pend a h bid he d;refine⟨?_,g3.finish hA hp hQ g2 hall2⟩;apply V0.2;grind[OW,dP,Array.getD_eq_getD_getElem?]
 |succ fuel ih=>
  intro n done rest pend a h bid listed O act w hn he d hle;obtain⟨n2,done2,rest2,pend2,a2,h2,bid2,g1,g2,g3,g4⟩:=TA hA hp n rest done pend a h bid he d;have getEq: ∀i,i<ops.size->(¬dP listed i↔listed.getD i true=false):=by
   intro i hi;have hi':i<listed.size:=by rw[d.lsz];exact hi
   grind[dP,Array.getD_eq_getD_getElem?,Array.getElem?_eq_getElem]
  refine⟨λhnil=> ?_,λi hi=> ?_⟩
  refine g3.finish hA hp hQ g2 ?_;have main: ∀m,∀x∈l,x.i=m->dP listed x.i:=by
   intro m;induction m using Nat.strongRecOn with
   |_ m ihm=>
    intro x hx hm;obtain⟨o,ho,ho2,-⟩:=hp.get x hx;have hlt:x.i<ops.size:=by
     rcases k8 x.i ops.size with hh|hh
     exact hh;rw[v8 (by simpa using hh)]at ho;cases ho
    refine Classical.byContradiction λhno=> ?_
    have:x.i∈Region.ready .any ops listed:=by
     refine OW.2 ⟨hlt,(getEq _ hlt).1 hno,x.o,by rw[ho2,<-ho];simp,λe he hb=> ?_⟩;have hbk:=hp.back x hx e he hb;have hel:e.on<ops.toList.length:=by simp;omega
     obtain⟨y,hy,hyi⟩:=hp.at_ e.on _ (m7 hel);rw[<-hyi];exact ihm y.i (by omega) y hy rfl
    rw[hnil]at this;cases this
  grind
  obtain⟨h1,h2',o,ho,hdeps⟩:=OW.1 hi;obtain⟨x,hx,rfl⟩:=hp.at_ i o (by grind);obtain⟨o',ho',ho2,-⟩:=hp.get x hx;have hxo:x.o=o:=by grind
  have hrdy: ∀j,x.m.testBit j=true->dP listed j:=by
   intro j hj;obtain⟨e,he,hb,hh⟩:=(hp.mask x hx j).1 hj;have hl:=hdeps e (hxo▸he) hb;rcases hh with rfl|⟨y,hy,hy1,hy2⟩
   exact hl;exact d.cm y hy (by grind) j hy2
  have hC: ¬dP listed x.i:=(getEq _ h1).2 h2';have hleft:=cW7 h2';cases hD:done2.testBit x.i with
  |true=>
   exact g3.late hE hp hx hrdy hD hC λac act' w' d'=>ih n2 done2 rest2 pend2 a2 h2 bid2 _ ac act' w' (p9 g1 hn) g2 d' (by omega)
  |false=>
   rcases g4 with rfl|⟨c,r',rfl,hcf⟩
   have:=g3.rd x hx hD;cases this
   have hxc:x=c:=by
    have hmem:=g3.rd x hx hD;have hcl:=g3.rl c (.head _);have hcD:=RT _ _ g3.eg c (.head _);have eg:=g3.eg;simp only[eager,j8,s7]at eg;obtain⟨⟨⟨e1,e2⟩,e3⟩,e4⟩:=eg;have hmD: ∀j,x.m.testBit j=true->done2.testBit j=true:=by intro j hj;obtain⟨y,hy,rfl⟩:=hp.dom x.i x hx rfl j hj;exact g3.cd y hy (hrdy _ hj)
    cases hmem with
    |head=>rfl
    |tail _ hm=>
     cases hxf:x.fl with
     |true=>
      rw[hcf,C1]at e3;have:=l5.1 e3 x hm;rw[hxf,cW4 hmD]at this;cases this
     |false=>
      rcases G9 x.i c.i with hlt|heq|hgt
      have:=hp.chain c hcl x hx hcf hxf hlt;rw[Sv e1 _ this]at hD;cases hD;exact hp.uniq x hx c hcl heq;have:=hp.chain x hx c hcl hxf hcf hgt;rw[hmD _ this]at hcD;cases hcD
   grind[DI.link]
