import Derived.Test.YtcmjiepodnicoaaGreatE17
import Derived.OrdersIn
import Derived.RangeFuncIn
import Derived.RangeFuncRecord
set_option linter.unusedSimpArgs false
set_option linter.unusedVariables false
namespace Go.Ev
open Go
variable{o:Oper}{a:Fr}{e:SX}{ro:Option Nat}{Q:Exit->Act->World->Prop}{act:Act}{v:AV}{R:Type}{next:Act->World->Prop}{dst:Option Tmp}{ρ:Operand->Option AV}{done:Nat}{pend:List Pend}{bid:Nat->Nat}
variable{E:Env}{O:cq}{I:Opq}{K:Nat->Prop}{w0 w:World}{h h':Heap}
structure AlgOk {R:Type} (A:Alg R) (T:R->Prop) (I:Opq):Prop where
 bad: ¬T A.bad
 amb: ∀l f,T (A.amb l f)-> ∀x∈l,T (f x)
 ite: ∀e x y,T (A.ite e x y)->(dB I e=true->T x)/\(dB I e=false->T y)
 need: ∀e x,T (A.need e x)->dB I e=true/\T x
 loop: ∀hd body ks,T (A.loop hd body ks)-> ∃r x,cO (λvs=>Z0 body (I.upd hd.v0 vs)) (ck I hd.s0)=some r/\I.f hd.id (ck I (hd.s0++hd.fv))=cA r/\ks[r.1]? =some x/\T x
 mloop: ∀hd l body ks,T (A.mloop hd l body ks)-> ∃D x,Dv (λvs=>Z0 body (I.upd hd.v0 vs)) (dL I l).length (ck I hd.s0) D/\I.f hd.id (ck I (hd.s0++hd.fv))=cA (0,[.vi D.length,.vl D])/\ks[0]? =some x/\T x
theorem cH3{I:Opq}{p:Prim}{l:List SX}(h:SP p l=true):dB I (.op p l)=true:=by
 unfold SP at h;split at h
 .rfl
 .rfl
 .rename_i a b;refine c9 (show a<=b from ?_);grind[lO,vR,of_decide_eq_false]
 .trivial
 .cases h
theorem ZI{I:Opq}(h:Gk e=true):dB I e=true:=by
 unfold Gk at h;split at h
 .exact h
 .exact cH3 h
 .cases h
theorem bs9{I:Opq}(h:HI e=true):dB I e=true:=by
 unfold HI at h;split at h
 .show(dB I _&&dB I _)=true;grind[ZI]
 .exact ZI h
theorem bP9{I:Opq}(h:DQ e=true):dB I e=true:=by
 unfold DQ at h;split at h
 .show(dB I _&&dB I _)=true;grind[bs9]
 .exact bs9 h
theorem d78{I:Opq}{p:Prim}{l:List SX}(h:Mb p l=true):dB I (.op p l)=true:=by
 unfold Mb at h;split at h
 .trivial
 .trivial
 .rfl
 .cases h
theorem KP{I:Opq}: ∀(n:Nat) {e:SX},dB I (Hj n e)=true->dB I e=true
 |0,_,h=>h
 |n+1,e,h=>by
  unfold Hj at h;split at h
  .obtain⟨h1,h2⟩:=DS h;show(dB I _&&dB I _)=true;rw[KP n h1,KP n h2];rfl
  .grind[WN,Mb,d78]
  .exact h
theorem AlgOk.needA{A:Alg R}{T:R->Prop}{I:Opq}(hA:AlgOk A T I)(e:SX)(x:R)(h:T (needA A e x)):dB I e=true/\T x:=by
 unfold Go.Ev.needA at h;cases hs:DQ e with
 |true=>grind[bP9]
 |false=>
  rw[hs]at h;cases hl:WI e with
  |false=>rw[hl]at h;exact hA.need e x h
  |true=>
   rw[hl]at h;unfold ds2 at h;split at h
   .rename_i ht;exact⟨KP 30 (by rw[ht];rfl),h⟩
   .obtain⟨h1,h2⟩:=hA.need _ _ h;grind[KP]
theorem OT: ∀{ks:List VT} {n:Nat} {I:Opq} {r:Nat×List Val},sh ks n I=some r-> ∃x,ks[n]? =some x/\Z0 x I=some r
 | [],n,I,r,h=>by trivial
 |k::ks,0,I,r,h=>⟨k,rfl,by trivial⟩
 |k::ks,n+1,I,r,h=>by
  obtain⟨x,h1,h2⟩:=OT (ks:=ks) (n:=n) (by trivial);grind
theorem Xo(I:Opq):AlgOk wL (· =true) I:=
 ⟨by trivial,λl f h=>k8.1 h,λe x y h=>by simp_all[wL,j6],λe x h=>(by cases h),λ_ _ _ h=>(by cases h),λ_ _ _ _ h=>(by cases h)⟩
def QD(E:Env)(I:Opq)(n:Nat):Prop:= ∀(R:Type) (A:Alg R) (T:R->Prop),AlgOk A T I-> ∀(f:FuncId) (args:List AV) (h:Heap) (k:AV->Heap->R),T (ev E n R A (.call f args h k))->
 ∀(K:Nat->Prop) (w0:World) (O:cq) (w:World) (us:List Value),HR O I K w0 h w->ct O I args us->
  Calls E.P f us.toArray w (λe w'=> ∃u ac v h',e= .returned u/\T (k v h')/\VR ac I v u/\HR ac I K w0 h' w'/\St h O h' ac)
def gT(ro:Option Nat):Fence:={Fence.wide with round:=ro}
def yg(O:cq):Option Nat->Option Nat->Prop
 |none,r=>r=none
 |some l,r=> ∃L,O l=some L/\r=some L.blk
theorem yg.mono{ac:cq}(hl:Le O ac): ∀{l r:Option Nat},yg O l r->yg ac l r
 |none,_,h=>h
 |some _,_,⟨L,h1,h2⟩=>⟨L,hl _ _ h1,h2⟩
theorem cH4{n:Nat}{f:FuncId}{args:Array Value}{R:Ending->World->Prop}:CallsIn (gT ro) n E.P f args w R↔Calls E.P f args w R:=
 callsIn_wide (n:=n)
def TX:Ex->Exit
 | .norm=> .normal
 | .exit id=> .exit id
 | .ret=> .ret
def tM{R:Type}(T:R->Prop)(I:Opq)(K:Nat->Prop)(w0:World)(hs:Heap)(ah:cq)(r0:Option Nat)(k:Ex->Fr->Heap->R)(Q:Exit->Act->World->Prop):Prop:=
 ∀e a h O act w,T (k e a h)->a.ro=r0->dU O I a act->HR O I K w0 h w->St hs ah h O->Q (TX e) act w
theorem tM.later{T:R->Prop}{K:Nat->Prop}{w0:World}{hs h:Heap}{ah O:cq}{r0:Option Nat}{k:Ex->Fr->Heap->R}(q:tM T I K w0 hs ah r0 k Q)(s:St hs ah h O):tM T I K w0 h O r0 k Q:=
 λe a h' ac act w he g f r s'=>q e a h' ac act w he g f r (s.trans s')
def oR(E:Env)(I:Opq)(n:Nat):Prop:= ∀(R:Type) (A:Alg R) (T:R->Prop),AlgOk A T I-> ∀(c:Code) (a:Fr) (h:Heap) (k:Ex->Fr->Heap->R),T (ev E n R A (.code c a h k))->
 ∀(K:Nat->Prop) (w0:World) (O:cq) (act:Act) (w:World) (ro:Option Nat) (Q:Exit->Act->World->Prop),HR O I K w0 h w->dU O I a act->yg O a.ro ro->tM T I K w0 h O a.ro k Q->c.wpIn (gT ro) 0 E.P Q act w
def yx(E:Env)(I:Opq)(n:Nat):Prop:=QD E I n/\oR E I n
theorem c44{c:Call}(hc:o.op= .defer c)(h:Heap):fQ E ρ o h= .bad\/ ∃d,fQ E ρ o h= .defer d:=by
 unfold fQ nZ rG;rw[hc];exact .inl rfl
theorem Sq{h:Heap}{r:Res}(e:fQ E ρ o h=r)(h1:r≠ .bad)(h2: ∀d,r≠ .defer d)(c:Call):o.op≠ .defer c:=by
 grind[c44]
theorem SC(ho: ∀c,o.op≠ .defer c){u:Value}{w':World}(hr:(execOp act.eval o).run E.P w= .ok (.value u) w')
 (hk:next (act.put o.dst u) w'):o.wpIn (gT ro) 0 E.P act w next Q:=by
 refine⟨λ_ _=>trivial,?_⟩;rw[Oper.semAt_eq _ _ _ ho,hr];exact hk
theorem c45(ho: ∀c,o.op≠ .defer c){w':World}(hr:(execOp act.eval o).run E.P w= .ok .skip w')
 (hk:next (act.put o.dst Go.undef) w'):o.wpIn (gT ro) 0 E.P act w next Q:=by
 refine⟨λ_ _=>trivial,?_⟩;rw[Oper.semAt_eq _ _ _ ho,hr];exact hk
theorem DX(ho: ∀c,o.op≠ .defer c)(hs:dM E O I K w0 w h (execOp act.eval o) v h')
 (hk: ∀ac u w',VR ac I v u->HR ac I K w0 h' w'->St h O h' ac->next (act.put o.dst u) w'):o.wpIn (gT ro) 0 E.P act w next Q:=by
 obtain⟨ac,u,w',hr,hv,hh,hst⟩:=hs;grind[SC,c45]
theorem du6{A:Alg R}{T:R->Prop}(hA:AlgOk A T I){n:Nat}(hc:yx E I n){k':AV->Heap->R}{res:Res}(r:HR O I K w0 h w)
 (hres:fQ E ρ o h=res) (hs:dA E O I K w0 w h (execOp act.eval o) res) (he:T (KQ (ev E n) A h k' res))
 (hk: ∀ac v u h' w',T (k' v h')->VR ac I v u->HR ac I K w0 h' w'->St h O h' ac->next (act.put o.dst u) w'):o.wpIn (gT ro) 0 E.P act w next Q:=by
 have nd:res≠ .bad->(∀d,res≠ .defer d)-> ∀c,o.op≠ .defer c:=Sq hres;cases res with
 |val v h'=>exact DX (nd nofun nofun) hs λac u w' hv hh hst=>hk ac v u h' w' he hv hh hst
 |need e v h'=>
  obtain⟨h1,h2⟩:=hA.needA _ _ he;exact DX (nd nofun nofun) (hs h1) λac u w' hv hh hst=>hk ac v u h' w' h2 hv hh hst
 |cho e v l h'=>
  obtain⟨h1,h2⟩:=hA.ite _ _ _ he;cases hd:dB I e with
  |true=>exact DX (nd nofun nofun) (hs.1 hd) λac u w' hv hh hst=>hk ac v u h' w' (h1 hd) hv hh hst
  |false=>
   obtain⟨x,hx,hv⟩:=hs.2 hd;have:=hA.amb _ _ (h2 hd) (x,h') (j7.2 ⟨x,hx,rfl⟩);exact DX (nd nofun nofun) hv λac u w' hv hh hst=>hk ac x u h' w' this hv hh hst
 |enter f args=>
  obtain⟨us,hr,ra⟩:=hs;refine⟨λ_ _=>trivial,?_⟩;rw[Oper.semAt_eq _ _ _ (nd nofun nofun),hr,Oper.uponIn_enter];refine⟨(λhh=>by cases hh),cH4.2 (Calls.mono (hc.1 R A T hA f args h k' he K w0 O w us r ra) ?_)⟩;grind
 |choice l=>
  obtain⟨x,hx,hv⟩:=hs;have:=hA.amb _ _ he x hx;exact DX (nd nofun nofun) hv λac u w' hv hh hst=>hk ac x.1 u x.2 w' this hv hh hst
 |yield l args=>exact absurd he hA.bad
 |defer d=>exact absurd he hA.bad
 |bad=>exact absurd he hA.bad
theorem ba9(hE:E.Ok I){af:Operand->Option AV}{ρ:Operand->Value}(r:HR O I K w0 h w)(o:Oper)(ro: ∀x∈o.op.operands,∀a,af x=some a->VR O I a (ρ x)):
 dA E O I K w0 w h (execOp ρ o) (fQ E af o h):=by
 classical
 rw[Tn (ρ:=af) (aw:=λx=>if x∈o.op.operands then af x else none) o (λx hx=>by simp_all) h];refine ZZ hE r (λx a e=> ?_) o;grind
theorem vn(done i j:Nat):(done|||2^i).testBit j=true↔done.testBit j=true\/j=i:=by
 grind
theorem SF{m:Nat}(h:Nat.beq (m&&&done) m=true)(j:Nat)(hj:m.testBit j=true):done.testBit j=true:=by
 rw[Z4]at h;grind
theorem cH5{m:Nat}(h: ∀j,m.testBit j=true->done.testBit j=true):Nat.beq (m&&&done) m=true:=by
 rw[Z4];apply Nat.eq_of_testBit_eq;grind
theorem Tt: ∀(rest:List PO) (done:Nat),eager done rest=true-> ∀x∈rest,done.testBit x.i=false
 | [],_,_,x,hx=>by cases hx
 |y::r,done,h,x,hx=>by
  simp[eager,j6,y6]at h;obtain⟨⟨⟨h1,h2⟩,h3⟩,h4⟩:=h;cases hx with
  |head=>exact h2
  |tail _ hx=>
   have:=Tt r _ h4 x hx;grind
section
variable(E I K w0)(ops:Array Oper)(l:List PO)(hs:Heap)(ah:cq)
def sP(ρ:Operand->Option AV)(o:Oper)(h:Heap)(v:AV):Prop:=fQ E ρ o h= .val v h\/ ∃e,fQ E ρ o h= .need e v h/\dB I e=true
def GH(p:Pend):Prop:= ∀e,p.nd=some e->dB I e=true
def FSq(a:Fr)(h:Heap)(pend:List Pend)(bid:Nat->Nat)(O:cq)(x:PO):Prop:=
 (fp ops.toList a x.o=some false/\ ∀d,x.o.dst=some d->d<a.nt->a.slot d= .undef)\/
 (fp ops.toList a x.o=some true/\ ∃v,(∀d,x.o.dst=some d->d<a.nt->a.slot d=v)/\(∃p∈pend,p.i=x.i/\p.o=x.o/\p.v=v/\GH I p)/\
  ((ia x.o=false/\sP E I a.ev x.o h v)\/
   (ia x.o=true/\ ∃mk blk,AllocA E a.ev x.o mk blk/\v=mk (bid x.i)/\hs.next<=bid x.i/\bid x.i<h.next/\O (bid x.i)=none/\(h.get (bid x.i)=some blk\/h.get (bid x.i)=none))))
def eI(listed:Array Bool)(i:Nat):Prop:=listed.getD i false=true
structure DI (done:Nat) (rest:List PO) (pend:List Pend) (a:Fr) (h:Heap) (bid:Nat->Nat) (listed:Array Bool) (O:cq) (act:Act) (w:World):Prop where
 hr:HR O I K w0 h w
 st:St hs ah h O
 lsz:listed.size=ops.size
 cd: ∀x∈l,eI listed x.i->done.testBit x.i=true
 cm: ∀x∈l,eI listed x.i-> ∀j,x.m.testBit j=true->eI listed j
 dm: ∀x∈l,done.testBit x.i=true-> ∀j,x.m.testBit j=true->done.testBit j=true
 eg:eager done rest=true
 rl: ∀x∈rest,x∈l
 rd: ∀x∈l,done.testBit x.i=false->x∈rest
 fr:FrP O I (λt=> ∃x∈l,done.testBit x.i=true/\ ¬eI listed x.i/\x.o.dst=some t/\t<a.nt) a act
 fl: ∀x∈l,done.testBit x.i=true-> ¬eI listed x.i->x.fl=true/\FSq E I ops hs a h pend bid O x
 inj: ∀x∈l,∀y∈l,done.testBit x.i=true-> ¬eI listed x.i->done.testBit y.i=true-> ¬eI listed y.i->ia x.o=true->ia y.o=true->
  fp ops.toList a x.o=some true->fp ops.toList a y.o=some true->x≠y->bid x.i≠bid y.i
end
theorem to{listed:Array Bool}{i j:Nat}(hi:i<listed.size):eI (listed.setIfInBounds i true) j↔eI listed j\/j=i:=by
 unfold eI;simp;grind
theorem VI{ops:List Oper}{t:Nat}(h:Operand.tmp t∈o.op.operands):t∈oP ops o:=by
 refine I7 _ (D7.2 ⟨.tmp t,by grind,by simp[cR5]⟩)
theorem XC{ops:List Oper}{g:Oper}{j:Nat}{want:Bool}{d:Tmp}(h:o.guard=some (j,want))(hj:ops[j]? =some g)(hd:g.dst=some d):d∈oP ops o:=by
 grind[oP,List.mem_append_right]
theorem WO(hl:a.nt<=256){x:Operand}(hx: ∀t,x= .tmp t->dst≠some t):(a.put dst v).ev x=a.ev x:=by
 cases x with
 |tmp t=>simp[Fr.ev];rw[Fr.put_slot hl,b9 (λhh=>hx t rfl hh.1)]
 |_=>rfl
theorem sX{ops:List Oper}(hl:a.nt<=256)(hx: ∀d∈oP ops o,dst≠some d):fp ops (a.put dst v) o=fp ops a o:=by
 unfold fp;split
 .rfl
 .rename_i j want hg;cases hd:(ops[j]?).bind (·.dst)with
  |none=>rfl
  |some d=>
   obtain⟨g,g1,g2⟩:=o8.1 hd;simp;rw[Fr.put_nt,Fr.put_pc,Fr.put_slot hl,b9 (λhh=>hx d (XC hg g1 g2) hh.1)]
theorem LP{ops:List Oper}(hl:a.nt<=256){v':AV}(hx: ∀d∈oP ops o,dst≠some d){h:Heap}(q:sP E I a.ev o h v'):sP E I (a.put dst v).ev o h v':=by
 grind[sP,Tn,WO,VI]
theorem Zr{ops:List Oper}(hl:a.nt<=256)(hx: ∀d∈oP ops o,dst≠some d)(h:Heap):fQ E (a.put dst v).ev o h=fQ E a.ev o h:=
 Tn o (λx hm=>WO hl λt ht=>hx t (VI (ht▸hm))) h
theorem aY6{ops:List Oper}(hp: ∀p∈a.pc,dB I p.1=p.2){c:Bool}(hc:dB I e=c){b:Bool}(h:fp ops a o=some b):fp ops (a.cond (e,c)) o=some b:=by
 unfold fp at h⊢;split
 .grind
 .rename_i j want hg;simp[hg]at h;cases hd:(ops[j]?).bind (·.dst)with
  |none=>grind
  |some d=>
   simp only[hd]at h⊢;rw[Fr.cond_nt,Fr.cond_slot];cases hlt:Nat.blt d a.nt with
   |false=>grind
   |true=>
    rw[hlt]at h;cases hs:a.slot d<;>simp only[hs]at h⊢ <;>try exact h
    rename_i e';cases hf:yX e' a.pc with
    |none=>grind
    |some b'=>
     simp[Fr.cond_pc,yX];cases hq:SX.beq e' e with
     |false=>grind
     |true=>
      grind[PP,SX.beq_eq]
variable{ops:Array Oper}{l:List PO}{hs:Heap}{ah:cq}
theorem FSq.want{x:PO}(f:FSq E I ops hs a h pend bid O x): ∃b,fp ops.toList a x.o=some b:=by
 rcases f with⟨h1,_⟩|⟨h1,_⟩
 .exact⟨_,h1⟩
 grind
theorem FSq.cond{x:PO}(f:FSq E I ops hs a h pend bid O x)(hp: ∀p∈a.pc,dB I p.1=p.2){c:Bool}(hc:dB I e=c):FSq E I ops hs (a.cond (e,c)) h pend bid O x:=by
 grind[FSq,Fr.cond_ev,Fr.cond_nt,aY6,Fr.cond_slot]
theorem DI.cond{rest:List PO}{listed:Array Bool}(d:DI E I K w0 ops l hs ah done rest pend a h bid listed O act w){c:Bool}(hc:dB I e=c):
 DI E I K w0 ops l hs ah done rest pend (a.cond (e,c)) h bid listed O act w:=by
 refine⟨d.hr,d.st,d.lsz,d.cd,d.cm,d.dm,d.eg,d.rl,d.rd,?_,λx hx g1 g2=>⟨(d.fl x hx g1 g2).1,(d.fl x hx g1 g2).2.cond d.fr.pcs hc⟩,λx hx y hy g1 g2 g3 g4 q1 q2 q3 q4 hne=> ?_⟩
 .have:=d.fr.cond (e:=e) hc;simp_all
 .have key: ∀z∈l,done.testBit z.i=true-> ¬eI listed z.i->fp ops.toList (a.cond (e,c)) z.o=some true->fp ops.toList a z.o=some true:=by
   intro z hz z1 z2 z3;obtain⟨b,hb⟩:=(d.fl z hz z1 z2).2.want;have:=aY6 d.fr.pcs hc hb;grind
  exact d.inj x hx y hy g1 g2 g3 g4 q1 q2 (key x hx g1 g2 q3) (key y hy g3 g4 q4) hne
end Go.Ev
namespace Go.Ev
open Go
variable{E:Env}{I:Opq}
def nG(I:Opq)(pc:PC):Prop:= ∀p∈pc,dB I p.1=p.2
def VC.Ok(I:Opq)(v:VC):Prop:=nG I v.pc->dB I v.cl=true
theorem bt0(a b:Bool):VG a b=(a==b):=by cases a<;>cases b<;>rfl
theorem cj2(a b:Int):decide (b<=a)= !decide (a<b):=by
 grind
theorem Yx(e:SX):dB I e=(dB I (CF e).1==(CF e).2):=by
 unfold CF;split
 .unfold cS0;split<;>simp only[dB,bZ,ck,cK,Val.toB,jt,qE,beq_true,beq_false,R6]
  .exact cj2 _ _
  grind
 .simp
theorem bQ3{e:SX}{b:Bool}: ∀{pc:PC},nG I pc->Nl e pc=some b->dB I e=b
 | [],_,h=>by cases h
 |p::r,hp,h=>by
  simp[Nl]at h;cases hc:SX.beq e p.1 with
  |true=>
   rw[hc]at h;simp at h;rw[SX.beq_eq _ _ hc,<-h];exact hp p (by simp)
  |false=>rw[hc]at h;exact bQ3 (λq hq=>hp q (by simp[hq])) h
theorem cH6{c:SX×Bool}{b:Bool}{pc:PC}(hp:nG I pc)(h:PQ c pc=some b):(dB I c.1==c.2)=b:=by
 grind[PQ,Option.some.injEq,bQ3,bt0]
theorem du8{a b:Option Bool}{x y r:Bool}(ha: ∀z,a=some z->x=z)(hb: ∀z,b=some z->y=z)(h:Ps a b=some r):(x&&y)=r:=by
 unfold Ps at h;grind
theorem UD(a b:SX):dB I (.op .or [a,b])=(dB I a||dB I b):=rfl
theorem Uw(a:SX):dB I (.op .not [a])= !dB I a:=rfl
theorem Mn(c a b:SX):dB I (.op .ite [c,a,b])=bif dB I c then dB I a else dB I b:=by
 show Val.toB (bif (bZ I c).toB then bZ I a else bZ I b)=_;grind[dB,bZ]
theorem qt{pc:PC}(hp:nG I pc): ∀(n:Nat) (e:SX) (b:Bool),pK pc n e=some b->dB I e=b
 |0,e,b,h=>by cases h
 |n+1,e,b,h=>by
  have ih:=qt hp n;have h:Rt pc (pK pc n) e=some b:=h;unfold Rt at h;split at h
  .grind[Option.some.injEq,Yx,cH6]
  .unfold cS2 at h;split at h
   .simp at h;subst h;rfl
   .unfold cS1 at h;split at h
    .rw[Uw];unfold e18 at h;grind
    .rw[uO];grind[du8]
    .trivial
    .rw[Mn];unfold YJ at h;grind
    .exact ci8 h
   .cases h
theorem zr{a b:PC}(ha:nG I a)(hb:nG I b):nG I (a++b):=by
 intro p hp;rcases z8.1 hp with h|h
 .exact ha p h
 .exact hb p h
theorem mD:nG I []:=λp hp=>by cases hp
theorem Kp: ∀(n:Nat) (e:SX) (b:Bool),dB I e=b->nG I (xe n e b)
 |0,e,b,h=>mD
 |n+1,e,b,h=>by
  have ih:=Kp n;intro p hp;rcases m8.1 hp with rfl|hp
  .grind[dr5,Yx,bt0,dB,CF]
  .refine(?_:nG I (SG (xe n) e b)) p hp;unfold SG;split
   .rename_i q l;unfold Zl;split
    .refine ih _ _ ?_;simp_all[Uw,R6]
    .cases b with
     |true=>rw[uO,j6]at h;grind[zr]
     |false=>exact mD
    .grind[mD,UD,Bool.or_eq_false_iff,zr]
    .rename_i c x;cases b with
     |true=>
      rw[Mn]at h;cases hc:dB I c with
      |true=>grind[zr]
      |false=>rw[hc]at h;cases h
     |false=>exact mD
    .rename_i c y _;cases b with
     |true=>exact mD
     |false=>
      rw[Mn]at h;cases hc:dB I c with
      |true=>rw[hc]at h;cases h
      |false=>grind[zr]
    .exact mD
   .exact mD
theorem TO{pc:PC}(hp:nG I pc): ∀(n:Nat) (e:SX),dB I (Fg pc n e)=dB I e
 |0,e=>rfl
 |n+1,e=>by
  have:Fg pc (n+1) e=Qb pc (Fg pc n) e:=rfl;rw[this];unfold Qb;split
  .have ih:=TO hp n;unfold XG;split
   .grind[Mn,qt]
   .rename_i a b;split
    .grind[uO,qt]
    .split
     .rename_i h;rw[ih,uO,qt hp 8 b _ h,E5]
     .rfl
   .rename_i a b;split
    .grind[UD,qt]
    .split
     .rename_i h;rw[ih,UD,qt hp 8 b _ h,R7]
     .rfl
   .grind[Uw]
   .rfl
  .rfl
theorem cj4(c a b:SX):bZ I (.op .ite [c,a,b])=bif dB I c then bZ I a else bZ I b:=rfl
theorem Qc{pc:PC}(hp:nG I pc): ∀(n:Nat) (e:SX),bZ I (II pc n e)=bZ I e
 |0,e=>rfl
 |n+1,e=>by
  have:II pc (n+1) e=Qj pc (II pc n) e:=rfl;rw[this];unfold Qj;split
  .unfold Xd;split
   .rename_i c a b;split
    .rename_i h;rw[Qc hp n,cj4,qt hp 8 c _ h];rfl
    .rename_i h;rw[Qc hp n,cj4,qt hp 8 c _ h];rfl
    .rfl
   .rfl
  .rfl
def oH(I:Opq)(r:Nat×List Val)(t:iP):Prop:= ∃pc,nG I pc/\Z0 (t pc) I=some r
theorem Pd{pc:PC}: ∀{ks:List iP} {n:Nat} {x:VT},(wV pc ks)[n]? =some x-> ∃k,ks[n]? =some k/\x=k pc
 | [],n,x,h=>by trivial
 |k::r,0,x,h=>by simp only[wV,List.getElem?_cons_zero,j0]at h;exact⟨k,rfl,h.symm⟩
 |k::r,n+1,x,h=>by
  simp only[wV,List.getElem?_cons_succ]at h;obtain⟨k',h1,h2⟩:=Pd h;exact⟨k',by trivial,h2⟩
theorem vC(I:Opq)(r:Nat×List Val):AlgOk lJ (oH I r) I:=by
 refine⟨λh=> ?_,λl f h=> ?_,λe x y h=> ?_,λe x h=> ?_,λhd body ks h=> ?_,λhd l body ks h=> ?_⟩
 .obtain⟨pc,_,h⟩:=h;trivial
 .obtain⟨pc,hp,h⟩:=h;have h:Z0 (Qs l f pc) I=some r:=h;unfold Qs at h;split at h
  .intro x hx;simp at hx;subst hx;exact⟨pc,hp,h⟩
  .rename_i a b;simp only[Z0]at h;split at h
   .rename_i he;intro x hx;simp at hx;rcases hx with rfl|rfl
    .exact⟨pc,hp,h⟩
    .exact⟨pc,hp,he▸h⟩
   .cases h
  grind[Z0]
 .obtain⟨pc,hp,h⟩:=h;have h:Z0 (RP e x y pc (pK pc 8 e)) I=some r:=h;unfold RP at h;split at h
  .rename_i hk;have:=qt hp 8 e _ hk;exact⟨λ_=>⟨pc,hp,h⟩,λhf=>by grind⟩
  .rename_i hk;have:=qt hp 8 e _ hk;exact⟨λhf=>by grind,λ_=>⟨pc,hp,h⟩⟩
  .simp[Z0,TO hp]at h;refine⟨λhd=> ?_,λhd=> ?_⟩
   .rw[e8 hd]at h;exact⟨_,zr (Kp 8 e _ hd) hp,h⟩
   .rw[b9 (by grind)]at h;exact⟨_,zr (Kp 8 e _ hd) hp,h⟩
 .obtain⟨pc,hp,h⟩:=h;have h:Z0 (SM e x pc (pK pc 8 e)) I=some r:=h;unfold SM at h;split at h
  .rename_i hk;exact⟨qt hp 8 e _ hk,pc,hp,h⟩
  .simp only[Z0,TO hp]at h;split at h
   .rename_i hd;exact⟨hd,_,zr (Kp 8 e _ hd) hp,h⟩
   .cases h
 .obtain⟨pc,hp,h⟩:=h;have h:Z0 (.loop hd body (wV pc ks)) I=some r:=h;simp[Z0]at h;split at h
  .rename_i q hq;split at h
   .rename_i hf;obtain⟨x,h1,h2⟩:=OT h;obtain⟨k,h3,rfl⟩:=Pd h1;exact⟨q,k,hq,hf,h3,pc,hp,h2⟩
   .cases h
  .cases h
 .obtain⟨pc,hp,h⟩:=h;have h:Z0 (.mloop hd l body (wV pc ks)) I=some r:=h;simp only[Z0]at h;split at h
  .rename_i hq;obtain⟨D,h1,h2⟩:=hq;obtain⟨x,h3,h4⟩:=OT h;obtain⟨k,h5,rfl⟩:=Pd h3;exact⟨D,k,h1,h2,h5,pc,hp,h4⟩
  .cases h
end Go.Ev
namespace Go.Ev
open Go
variable{a:Fr}{pend:List Pend}{bid:Nat->Nat}{done:Nat}{rest:List PO}{listed:Array Bool}{act:Act}
variable{E:Env}{O:cq}{I:Opq}{K:Nat->Prop}{w0 w:World}{h h':Heap}
variable{ops:Array Oper}{l r:List PO}{hs:Heap}{ah:cq}
theorem FSq.step{pend':List Pend}{bid':Nat->Nat}{ac:cq}{y:PO}{dst:Option Tmp}{v0:AV}(f:FSq E I ops hs a h pend bid O y)(hl:a.nt<=256)(hr: ∀d∈oP ops.toList y.o,dst≠some d)
 (hd: ∀d,y.o.dst=some d->dst≠some d) (hpend: ∀p∈pend,p.i=y.i->p∈pend')
 (hna: ∀v,ia y.o=false->sP E I a.ev y.o h v->(∃p∈pend,p.i=y.i/\p.o=y.o/\p.v=v/\GH I p)->sP E I (a.put dst v0).ev y.o h' v)
 (hb:bid' y.i=bid y.i) (hst:St h O h' ac):FSq E I ops hs (a.put dst v0) h' pend' bid' ac y:=by
 have hslot: ∀d,y.o.dst=some d->(a.put dst v0).slot d=a.slot d:=λd h1=>by simp_all[Fr.put_slot,b9]
 rcases f with⟨h1,h2⟩|⟨h1,v,h2,⟨p,hp,p1,p2,p3,p4⟩,h4⟩
 .left;grind[sX,Fr.put_nt]
 .right;rw[sX hl hr];refine⟨h1,v,λd e hlt=>by grind[Fr.put_nt],⟨p,hpend p hp p1,p1,p2,p3,p4⟩,?_⟩;rcases h4 with⟨g1,g2⟩|⟨g1,mk,blk,g2,g3,g4,g5,g6,g7⟩
  .grind
  .right;refine⟨g1,mk,blk,⟨λh2=>by rw[Zr hl hr];exact g2.step h2,g2.nar⟩,by grind,by omega,by rw[hb];exact x9 g5 hst.le,by rw[hb,hst.ext _ g5];exact g6,?_⟩;rcases hst.unm _ g5 g6 with hu|hu|hu
   .grind
   .grind
   .rcases g7 with g7|g7
    .rw[g7]at hu;have:=g2.nar;cases hu<;>cases this
    .rw[g7]at hu;cases hu
theorem DI.noX(hp:PlanOk ops.toList l r)
 (d:DI E I K w0 ops l hs ah done rest pend a h bid listed O act w) {x:PO} (hx:x∈l) (hrdy: ∀j,x.m.testBit j=true->eI listed j):
 ∀t∈oP ops.toList x.o,¬(∃y∈l,done.testBit y.i=true/\ ¬eI listed y.i/\y.o.dst=some t/\t<a.nt):=by
 rintro t ht ⟨y,hy,h1,h2,h3,h4⟩;rcases hp.slots x hx t ht y hy h3 with h5|⟨h5,h6⟩
 .grind
 .have:=(d.fl y hy h1 h2).1;grind
theorem DI.opRX(hp:PlanOk ops.toList l r)
 (d:DI E I K w0 ops l hs ah done rest pend a h bid listed O act w) {x:PO} (hx:x∈l) (hrdy: ∀j,x.m.testBit j=true->eI listed j):
 ∀y∈x.o.op.operands,∀v,a.ev y=some v->VR O I v (act.eval y):=
 λy hy v e=>d.fr.evs y (λt ht=>d.noX hp hx hrdy t (VI (ht▸hy))) v e
theorem DI.wantedX(hp:PlanOk ops.toList l r)
 (d:DI E I K w0 ops l hs ah done rest pend a h bid listed O act w) {x:PO} (hx:x∈l) (hrdy: ∀j,x.m.testBit j=true->eI listed j) {b:Bool} (e:fp ops.toList a x.o=some b):
 Region.wanted x.o (yielded ops act.tmps)=b:=
 bs5 d.fr rfl e λj want g dd h1 h2 h3=>d.noX hp hx hrdy dd (XC h1 h2 h3)
theorem DI.late(hE:E.Ok I)(hp:PlanOk ops.toList l r){Q:Exit->Act->World->Prop}{next:Act->World->Prop}
 (d:DI E I K w0 ops l hs ah done rest pend a h bid listed O act w) {x:PO} (hx:x∈l) (hrdy: ∀j,x.m.testBit j=true->eI listed j) (hD:done.testBit x.i=true) (hC: ¬eI listed x.i)
 (hk: ∀ac act' w',DI E I K w0 ops l hs ah done rest pend a h bid (listed.setIfInBounds x.i true) ac act' w'->next act' w') {ro:Option Nat}:wpOpIn (gT ro) 0 E.P ops Q x.i next act w:=by
 obtain⟨o,ho,ho2,hfl⟩:=hp.get x hx;have hox:ops[x.i]? =some x.o:=by grind
 have hsz:x.i<listed.size:=by
  rw[d.lsz];grind
 obtain⟨hf,hfs⟩:=d.fl x hx hD hC;have base: ∀(ac:cq) (u:Value) (w':World),HR ac I K w0 h w'->St hs ah h ac->Le O ac->(∀dd,x.o.dst=some dd->dd<a.nt->VR ac I (a.slot dd) u)->
  (∀y∈l,done.testBit y.i=true-> ¬eI listed y.i->y≠x->FSq E I ops hs a h pend bid ac y)->
  DI E I K w0 ops l hs ah done rest pend a h bid (listed.setIfInBounds x.i true) ac (act.put x.o.dst u) w':=by
  intro ac u w' h1 h2 h3 h4 h5;have hne: ∀y∈l,¬eI (listed.setIfInBounds x.i true) y.i-> ¬eI listed y.i/\y≠x:=by
   grind[to]
  refine⟨h1,h2,by simp[d.lsz],?_,?_,d.dm,d.eg,d.rl,d.rd,?_,?_,?_⟩
  .intro y hy hl;rcases(to hsz).1 hl with hh|hh
   .exact d.cd y hy hh
   grind
  .intro y hy hl j hj;rw[to hsz];rcases(to hsz).1 hl with hh|hh
   .exact .inl (d.cm y hy hh j hj)
   .have:=hp.uniq y hy x hx hh;grind
  .refine((d.fr.mono h3).behind x.o.dst h4).weaken ?_;rintro t ⟨⟨y,hy,g1,g2,g3,g4⟩,g5⟩;refine⟨y,hy,g1,?_,g3,g4⟩;rw[to hsz];rintro(hh|hh)
   .grind
   .have:=hp.uniq y hy x hx hh;grind
  .intro y hy g1 g2;obtain⟨g3,g4⟩:=hne y hy g2;exact⟨(d.fl y hy g1 g3).1,h5 y hy g1 g3 g4⟩
  .intro y hy z hz g1 g2 g3 g4;exact d.inj y hy z hz g1 (hne y hy g2).1 g3 (hne z hz g4).1
 unfold wpOpIn;rw[hox];simp;rcases hfs with⟨hw,hv⟩|⟨hw,v,hv,hpe,hps⟩
 .rw[d.wantedX hp hx hrdy hw];refine⟨λ_ _=>trivial,?_⟩;exact hk _ _ _ (base O Go.undef w d.hr d.st (Le.refl _) (λdd e hlt=>by rw[hv dd e hlt];exact⟨#[],rfl,rfl⟩) λy hy g1 g2 _=>(d.fl y hy g1 g2).2)
 .rw[d.wantedX hp hx hrdy hw];rcases hps with⟨ha,hstep⟩|⟨ha,mk,blk,hA,hvb,b1,b2,b3,b4⟩
  .have hok:=ba9 hE d.hr x.o (d.opRX hp hx hrdy);have hnd: ∀c,x.o.op≠ .defer c:=by
    rcases hstep with hstep|⟨e,hstep,hd⟩
    .exact Sq hstep nofun nofun
    .exact Sq hstep nofun nofun
   have hok:dM E O I K w0 w h (execOp act.eval x.o) v h:=by
    rcases hstep with hstep|⟨e,hstep,hd⟩
    .rw[hstep]at hok;exact hok
    .rw[hstep]at hok;exact hok hd
   refine DX hnd hok λac u w' hv' hr' hst'=>hk _ _ _ (base ac u w' hr' (d.st.trans hst') (hst'.Le d.hr) (λdd e hlt=>by grind) ?_)
   intro y hy g1 g2 _;rcases(d.fl y hy g1 g2).2 with q|⟨q1,v',q2,q3,q4⟩
   .exact .inl q
   .refine .inr ⟨q1,v',q2,q3,BN id ?_ q4⟩;rintro⟨z1,mk,blk,z2,z3,z4,z5,z6,z7⟩;exact⟨z1,mk,blk,z2,z3,z4,z5,by rw[hst'.ext _ z5];exact z6,z7⟩
  .obtain⟨mk',x',hA',-,-,hV⟩:=bP7 (O:=O) (I:=I) (ρ:=act.eval) ha (hA.step h);obtain⟨e1,e2⟩:=hA.uniq hA';subst e1;obtain⟨mkV,obj,ext,hV⟩:=hV (d.opRX hp hx hrdy);have hle:Le O (O.add (bid x.i) ⟨w.heap.size,0,ext⟩):=by
    intro b' M hb';simp[cq.add];grind
   have hr':=d.hr.adopt (bid x.i) obj blk ext b3 b2 b4 (hV.blk _ _ hle);have hval:VR (O.add (bid x.i) ⟨w.heap.size,0,ext⟩) I v (mkV w.heap.size):=by
    rw[hvb,e2];exact hV.val _ _ _ (cq.add_self _ _ _)
   have hrun:=hV.run w;refine SC (λc hc=>by grind[ia]) hrun ?_;refine hk _ _ _ (base _ _ _ hr' ?_ hle (λdd e hlt=>by grind) ?_)
   .refine⟨d.st.le,λb hb=> ?_,d.st.unm,d.st.wm⟩;simp[cq.add];rw[b9 (by omega)];exact d.st.ext b hb
   .intro y hy g1 g2 hne;rcases(d.fl y hy g1 g2).2 with q|⟨q1,v',q2,q3,q4⟩
    .exact .inl q
    .refine .inr ⟨q1,v',q2,q3,BN id ?_ q4⟩;rintro⟨z1,mk,blk,z2,z3,z4,z5,z6,z7⟩;refine⟨z1,mk,blk,z2,z3,z4,z5,?_,z7⟩;simp[cq.add];rw[b9]
     .exact z6
     .exact d.inj y hy x hx g1 g2 hD hC z1 ha q1 hw hne
end Go.Ev
namespace Go.Ev
open Go
variable{E:Env}{O:cq}{I:Opq}{K:Nat->Prop}{w0 w:World}{h h':Heap}
variable{ops:Array Oper}{l r:List PO}{hs:Heap}{ah:cq}
theorem YZ{a:Fr}: ∀{pend:List Pend},tZ E a h pend=true-> ∀p∈pend,ia p.o=false->(∃h2,fQ E a.ev p.o h= .val p.v h2)\/ ∃e h2,p.nd=some e/\fQ E a.ev p.o h= .need e p.v h2
 | [],_,p,hp,_=>by cases hp
 |q::r,hr,p,hp,ha=>by
  obtain⟨h1,h2⟩:=Z1 hr;cases hp with
  |head=>
   rw[ha,B2]at h1;unfold bN7 at h1;split at h1
   .rename_i v' h2 hv;exact .inl ⟨h2,by rw[hv,AV.beq_eq _ _ h1]⟩
   .rename_i e v' h2 hv;obtain⟨g1,g2⟩:=Z1 h1;unfold e24 at g1;split at g1
    .rename_i x hx;exact .inr ⟨e,h2,by rw[hx,SX.beq_eq _ _ g1],by rw[hv,AV.beq_eq _ _ g2]⟩
    .cases g1
   grind
  |tail _ hp=>exact YZ h2 p hp ha
theorem aH1{a:Fr}{pend:List Pend}(hr:tZ E a h pend=true){y:PO}{v:AV}(hf:oX y.o=true)(ha:ia y.o=false)(hp: ∃p∈pend,p.i=y.i/\p.o=y.o/\p.v=v/\GH I p):sP E I a.ev y.o h v:=by
 obtain⟨p,hp,-,h2,h3,h4⟩:=hp;rcases YZ hr p hp (by grind)with⟨h2',e⟩|⟨x,h2',hx,e⟩
 .rw[h2,h3]at e;have:=Nv hf ha (.inl e);rw[this]at e;exact .inl e
 .rw[h2,h3]at e;have:=Nv hf ha (.inr ⟨x,e⟩);rw[this]at e;exact .inr ⟨x,e,h4 x hx⟩
section
variable{done:Nat}{rest:List PO}{pend:List Pend}{a:Fr}{bid:Nat->Nat}{listed:Array Bool}{act:Act}
variable{R:Type}{A:Alg R}{T:R->Prop}
theorem DI.doneMore(hp:PlanOk ops.toList l r){x:PO}(d:DI E I K w0 ops l hs ah done (x::rest) pend a h bid listed O act w):
 x∈l/\done.testBit x.i=false/\(∀j,x.m.testBit j=true->done.testBit j=true)/\eager (done|||2^x.i) rest=true/\
 (∀y∈rest,y∈l)/\(∀y∈l,(done|||2^x.i).testBit y.i=false->y∈rest)/\
 (∀y∈l,(done|||2^x.i).testBit y.i=true-> ∀j,y.m.testBit j=true->(done|||2^x.i).testBit j=true)/\
 (∀y∈l,eI listed y.i->(done|||2^x.i).testBit y.i=true):=by
 have hx:=d.rl x (.head _);have eg:=d.eg;simp only[eager,j6,y6]at eg;obtain⟨⟨⟨e1,e2⟩,e3⟩,e4⟩:=eg;refine⟨hx,e2,SF e1,e4,λy hy=>d.rl y (.tail _ hy),λy hy hb=> ?_,λy hy hb j hj=> ?_,λy hy hl=>(vn _ _ _).2 (.inl (d.cd y hy hl))⟩
 .have h1:done.testBit y.i=false:=by
   cases hh:done.testBit y.i with
   |false=>rfl
   |true=>rw[(vn _ _ _).2 (.inl hh)]at hb;cases hb
  have:=d.rd y hy h1;grind
 .rw[vn]at hb⊢;left;rcases hb with hb|hb
  .exact d.dm y hy hb j hj
  .have:=hp.uniq y hy x hx hb;grind[SF]
theorem DI.float(hA:AlgOk A T I)(hp:PlanOk ops.toList l r){x:PO}(hf:x.fl=true)(d:DI E I K w0 ops l hs ah done (x::rest) pend a h bid listed O act w){n:Nat}{k:Fr->Heap->R}
 (he:T (ev E (n+1) R A (.dops ops.toList (x::rest) pend a h k))):
 ∃done' rest' pend' a' h' bid',T (ev E n R A (.dops ops.toList rest' pend' a' h' k))/\DI E I K w0 ops l hs ah done' rest' pend' a' h' bid' listed O act w:=by
 obtain⟨hx,hnd,hm,eg',rl',rd',dm',cd'⟩:=d.doneMore hp;obtain⟨o,ho,ho2,hfl⟩:=hp.get x hx;have hlim:=d.fr.lim;have hfx:oX x.o=true:=by grind
 have hself: ∀t∈oP ops.toList x.o,x.o.dst≠some t:=by
  intro t ht hd;rcases hp.slots x hx t ht x hx hd with h1|⟨h1,_⟩
  .rw[hm _ h1]at hnd;cases hnd
  grind
 have hother: ∀y∈l,done.testBit y.i=true->(∀t∈oP ops.toList y.o,x.o.dst≠some t)/\(∀t,y.o.dst=some t->x.o.dst≠some t):=by
  intro y hy hyd;refine⟨λt ht hd=> ?_,λt h1 h2=> ?_⟩
  .rcases hp.slots y hy t ht x hx hd with h1|⟨h1,_⟩
   .rw[d.dm y hy hyd _ h1]at hnd;cases hnd
   grind
  .have:=hp.once y hy x hx t h1 h2;grind
 have hCx: ¬eI listed x.i:=λhh=>by rw[d.cd x hx hh]at hnd;cases hnd
 have hcase: ∀y∈l,(done|||2^x.i).testBit y.i=true->y=x\/done.testBit y.i=true/\y≠x:=by
  intro y hy hb;rcases(vn _ _ _).1 hb with hb1|hb1
  .grind
  .exact .inl (hp.uniq y hy x hx hb1)
 have hframe: ∀v,FrP O I (λt=> ∃y∈l,(done|||2^x.i).testBit y.i=true/\ ¬eI listed y.i/\y.o.dst=some t/\t<(a.put x.o.dst v).nt) (a.put x.o.dst v) act:=by
  intro v;refine(d.fr.ahead x.o.dst v).weaken ?_;grind[vn,Fr.put_nt]
 replace he:T (BJ E (ev E n) A ops.toList x rest pend a h k (fp ops.toList a x.o)):=he;have hownslot: ∀v dd,x.o.dst=some dd->dd<(a.put x.o.dst v).nt->(a.put x.o.dst v).slot dd=v:=by
  simp_all[Fr.put_nt,Fr.put_slot,e8]
 cases hw:fp ops.toList a x.o with
 |none=>
  rw[hw]at he;replace he:T (Sa (ev E n) A ops.toList (x::rest) pend a h k (vP ops.toList a x.o)):=he;cases hs:vP ops.toList a x.o with
  |none=>rw[hs]at he;exact absurd he hA.bad
  |some e=>
   rw[hs]at he;obtain⟨h1,h2⟩:=hA.ite _ _ _ he;cases hd:dB I e with
   |true=>exact⟨done,x::rest,pend,_,h,bid,h1 hd,d.cond hd⟩
   |false=>exact⟨done,x::rest,pend,_,h,bid,h2 hd,d.cond hd⟩
 |some b=>
  rw[hw]at he;cases b with
  |false=>
   refine⟨_,_,pend,a.put x.o.dst .undef,h,bid,he,d.hr,d.st,d.lsz,cd',d.cm,dm',eg',rl',rd',hframe _,λy hy g1 g2=> ?_,λy hy z hz g1 g2 g3 g4 q1 q2 q3 q4 hne=> ?_⟩
   .rcases hcase y hy g1 with rfl|⟨hyd,hne⟩
    .exact⟨hf,.inl ⟨by grind[sX],hownslot _⟩⟩
    .obtain⟨q1,q2⟩:=d.fl y hy hyd g2;refine⟨q1,q2.step hlim (hother y hy hyd).1 (hother y hy hyd).2 (λp hp _=>hp) (λv _ hv _=>LP hlim (hother y hy hyd).1 hv) rfl (.refl _ _)⟩
   .have nx: ∀y∈l,(done|||2^x.i).testBit y.i=true->fp ops.toList (a.put x.o.dst .undef) y.o=some true->done.testBit y.i=true/\fp ops.toList a y.o=some true:=by
     grind[sX]
    obtain⟨y1,y2⟩:=nx y hy g1 q3;obtain⟨z1,z2⟩:=nx z hz g3 q4;exact d.inj y hy z hz y1 g2 z1 g4 q1 q2 y2 z2 hne
  |true=>
   simp[BJ,hf,cond_true]at he;have plain: ∀(v:AV) (nd:Option SX),ia x.o=false->sP E I a.ev x.o h v->GH I ⟨x.i,x.o,v,nd⟩->T (ev E n R A (.dops ops.toList rest (⟨x.i,x.o,v,nd⟩::pend) (a.put x.o.dst v) h k))->
    ∃done' rest' pend' a' h' bid',T (ev E n R A (.dops ops.toList rest' pend' a' h' k))/\DI E I K w0 ops l hs ah done' rest' pend' a' h' bid' listed O act w:=by
    intro v nd ha hst hnd' he2;refine⟨_,_,_,_,_,bid,he2,d.hr,d.st,d.lsz,cd',d.cm,dm',eg',rl',rd',hframe _,λy hy g1 g2=> ?_,λy hy z hz g1 g2 g3 g4 q1 q2 q3 q4 hne=> ?_⟩
    .rcases hcase y hy g1 with rfl|⟨hyd,hne⟩
     .exact⟨hf,.inr ⟨by grind[sX],v,hownslot _,⟨_,.head _,rfl,rfl,rfl,hnd'⟩,.inl ⟨ha,LP hlim hself hst⟩⟩⟩
     .obtain⟨q1,q2⟩:=d.fl y hy hyd g2;exact⟨q1,q2.step hlim (hother y hy hyd).1 (hother y hy hyd).2 (λp hp _=> .tail _ hp) (λv _ hv _=>LP hlim (hother y hy hyd).1 hv) rfl (.refl _ _)⟩
    .have nx: ∀y∈l,(done|||2^x.i).testBit y.i=true->ia y.o=true->fp ops.toList (a.put x.o.dst v) y.o=some true->done.testBit y.i=true/\fp ops.toList a y.o=some true:=by
      grind[sX]
     obtain⟨y1,y2⟩:=nx y hy g1 q1 q3;obtain⟨z1,z2⟩:=nx z hz g3 q2 q4;exact d.inj y hy z hz y1 g2 z1 g4 q1 q2 y2 z2 hne
   cases hst:fQ E a.ev x.o h with
   |need e v h1=>
    rw[hst]at he;simp[Rk]at he;cases ha:ia x.o with
    |true=>rw[ha]at he;exact absurd he hA.bad
    |false=>
     rw[ha]at he;obtain⟨hd,he2⟩:=hA.needA _ _ he;have hh:h1=h:=Nv hfx ha (.inr ⟨e,hst⟩);subst hh;exact plain v (some e) ha (.inr ⟨e,hst,hd⟩) (λx hx=>by grind) he2
   |val v h1=>
    rw[hst]at he;simp[Rk]at he;obtain⟨hre,he2⟩:(!(ia x.o)||tZ E (a.put x.o.dst v) h1 pend)=true/\T (ev E n R A (.dops ops.toList rest (⟨x.i,x.o,v,none⟩::pend) (a.put x.o.dst v) h1 k)):=by
     cases hc:(!(ia x.o)||tZ E (a.put x.o.dst v) h1 pend)with
     |false=>rw[hc]at he;exact absurd he hA.bad
     |true=>grind
    cases ha:ia x.o with
    |false=>
     have hh:h1=h:=Nv hfx ha (.inl hst);subst hh;exact plain v none ha (.inl hst) (λx hx=>by cases hx) he2
    |true=>
     rw[ha]at hre;obtain⟨mk,blk,hA,hv,hh,-⟩:=bP7 (O:=O) (I:=I) (ρ:=act.eval) ha hst;subst hh;have hst1:St h O (h.new blk) O:=⟨by simp,λ_ _=>rfl,λb hb _=>by left;rw[Heap.get_new,b9 (by omega)],rfl⟩;refine⟨_,_,_,_,_,λi=>if i=x.i then h.next else bid i,he2,d.hr.lay blk,d.st.trans hst1,d.lsz,cd',d.cm,dm',eg',rl',rd',hframe _,λy hy g1 g2=> ?_,λy hy z hz g1 g2 g3 g4 q1 q2 q3 q4 hne=> ?_⟩
     .rcases hcase y hy g1 with rfl|⟨hyd,hne⟩
      .refine⟨hf,.inr ⟨by grind[sX],v,hownslot _,⟨_,.head _,rfl,rfl,rfl,λx hx=>by cases hx⟩,.inr ⟨ha,mk,blk,⟨λh2=>by rw[Zr hlim hself];exact hA.step h2,hA.nar⟩,?_,?_,?_,?_,?_⟩⟩⟩
       .grind
       .simp;exact d.st.le
       .simp_all
       .simp;exact d.hr.fresh _ (e9 _)
       .simp;rw[Heap.get_new,e8 rfl];grind
      .obtain⟨q1,q2⟩:=d.fl y hy hyd g2;have hyi:y.i≠x.i:=λhh=>hne (hp.uniq y hy x hx hh)
       obtain⟨oy,_,hyo,hyf⟩:=hp.get y hy;refine⟨q1,q2.step hlim (hother y hy hyd).1 (hother y hy hyd).2 (λp hp _=> .tail _ hp) (λv' hna _ hpe=>aH1 hre (by grind) hna hpe) (b9 hyi) hst1⟩
     .have nx: ∀y∈l,(done|||2^x.i).testBit y.i=true->fp ops.toList (a.put x.o.dst v) y.o=some true->y=x\/y≠x/\done.testBit y.i=true/\fp ops.toList a y.o=some true:=by
       grind[sX]
      have old: ∀y∈l,y≠x->done.testBit y.i=true-> ¬eI listed y.i->ia y.o=true->fp ops.toList a y.o=some true->bid y.i<h.next:=by
       intro y hy hne hyd hc hya hyw;rcases(d.fl y hy hyd hc).2 with⟨z1,_⟩|⟨_,v',_,_,z⟩
       .rw[hyw]at z1;cases z1
       grind
      have nei: ∀y∈l,y≠x->y.i≠x.i:=λy hy hne hh=>hne (hp.uniq y hy x hx hh)
      rcases nx y hy g1 q3 with rfl|⟨yn,y1,y2⟩
      .grind
      .rcases nx z hz g3 q4 with rfl|⟨zn,z1,z2⟩
       .grind
       .rw[b9 (nei y hy yn),b9 (nei z hz zn)];exact d.inj y hy z hz y1 g2 z1 g4 q1 q2 y2 z2 hne
   |cho e v c h1=>rw[hst]at he;exact absurd he hA.bad
   |enter f args=>rw[hst]at he;exact absurd he hA.bad
   |choice c=>rw[hst]at he;exact absurd he hA.bad
   |yield l args=>rw[hst]at he;exact absurd he hA.bad
   |defer d=>rw[hst]at he;exact absurd he hA.bad
   |bad=>rw[hst]at he;exact absurd he hA.bad
end
end Go.Ev
namespace Go.Ev
open Go
variable{E:Env}{O:cq}{I:Opq}{K:Nat->Prop}{w0 w:World}{h h':Heap}
variable{ops:Array Oper}{l r:List PO}{hs:Heap}{ah:cq}
section
variable{done:Nat}{rest:List PO}{pend:List Pend}{a:Fr}{bid:Nat->Nat}{listed:Array Bool}{act:Act}
variable{R:Type}{A:Alg R}{T:R->Prop}
theorem DI.link1(hA:AlgOk A T I)(hE:E.Ok I)(hp:PlanOk ops.toList l r){x:PO}(hf:x.fl=false)(d:DI E I K w0 ops l hs ah done (x::rest) pend a h bid listed O act w){ro:Option Nat}{n:Nat}(hc:yx E I n){k:Fr->Heap->R}
 {b:Bool} (hw:fp ops.toList a x.o=some b) (he:T (ev E (n+1) R A (.dops ops.toList (x::rest) pend a h k))) (hrdy: ∀j,x.m.testBit j=true->eI listed j) {Q:Exit->Act->World->Prop} {next:Act->World->Prop}
 (hk: ∀pend' a' h' ac act' w',T (ev E n R A (.dops ops.toList rest pend' a' h' k))->DI E I K w0 ops l hs ah (done|||2^x.i) rest pend' a' h' bid (listed.setIfInBounds x.i true) ac act' w'->next act' w'):
 wpOpIn (gT ro) 0 E.P ops Q x.i next act w:=by
 obtain⟨hx,hnd,hm,eg',rl',rd',dm',cd'⟩:=d.doneMore hp;obtain⟨o,ho,ho2,hfl⟩:=hp.get x hx;have hlim:=d.fr.lim;have hox:ops[x.i]? =some x.o:=by grind
 have hsz:x.i<listed.size:=by
  rw[d.lsz];grind
 have hother: ∀y∈l,done.testBit y.i=true-> ¬eI listed y.i->(∀t∈oP ops.toList y.o,x.o.dst≠some t)/\(∀t,y.o.dst=some t->x.o.dst≠some t):=by
  intro y hy hyd hyc;refine⟨λt ht hd=> ?_,λt h1 h2=> ?_⟩
  .rcases hp.slots y hy t ht x hx hd with h1|⟨_,h1⟩
   .rw[d.dm y hy hyd _ h1]at hnd;cases hnd
   grind
  .have:=hp.once y hy x hx t h1 h2;grind
 have hcase: ∀y∈l,(done|||2^x.i).testBit y.i=true-> ¬eI (listed.setIfInBounds x.i true) y.i->y≠x/\done.testBit y.i=true/\ ¬eI listed y.i:=by
  grind[to,vn,absurd]
 have fin: ∀(pend':List Pend) (v:AV) (u:Value) (h':Heap) (ac:cq) (w':World),VR ac I v u->HR ac I K w0 h' w'->St h O h' ac->(∀p∈pend,¬x.m.testBit p.i=true->p∈pend')->
  (∀y∈l,done.testBit y.i=true-> ¬eI listed y.i-> ∀v',ia y.o=false->sP E I a.ev y.o h v'->(∃p∈pend,p.i=y.i/\p.o=y.o/\p.v=v'/\GH I p)->sP E I (a.put x.o.dst v).ev y.o h' v')->
  DI E I K w0 ops l hs ah (done|||2^x.i) rest pend' (a.put x.o.dst v) h' bid (listed.setIfInBounds x.i true) ac (act.put x.o.dst u) w':=by
  intro pend' v u h' ac w' h1 h2 h3 h4 h5;refine⟨h2,d.st.trans h3,by simp[d.lsz],?_,?_,dm',eg',rl',rd',?_,?_,?_⟩
  .grind[vn,to]
  .intro y hy hl j hj;rw[to hsz];rcases(to hsz).1 hl with hh|hh
   .exact .inl (d.cm y hy hh j hj)
   .have:=hp.uniq y hy x hx hh;grind
  .refine((d.fr.mono (h3.Le d.hr)).put x.o.dst h1).weaken ?_;grind[vn,Fr.put_nt,to]
  .intro y hy g1 g2;obtain⟨yn,y1,y2⟩:=hcase y hy g1 g2;obtain⟨q1,q2⟩:=d.fl y hy y1 y2;exact⟨q1,q2.step hlim (hother y hy y1 y2).1 (hother y hy y1 y2).2 (λp hp hpi=>h4 p hp (λhh=>y2 (hrdy _ (hpi▸hh)))) (h5 y hy y1 y2) rfl h3⟩
  .intro y hy z hz g1 g2 g3 g4 q1 q2 q3 q4 hne;obtain⟨yn,y1,y2⟩:=hcase y hy g1 g2;obtain⟨zn,z1,z2⟩:=hcase z hz g3 g4;rw[sX hlim (hother y hy y1 y2).1]at q3;rw[sX hlim (hother z hz z1 z2).1]at q4;exact d.inj y hy z hz y1 y2 z1 z2 q1 q2 q3 q4 hne
 replace he:T (BJ E (ev E n) A ops.toList x rest pend a h k (fp ops.toList a x.o)):=he;unfold wpOpIn;rw[hox];simp
 .rw[hw]at he;rw[d.wantedX hp hx hrdy hw];cases b with
  |false=>
   refine⟨λ_ _=>trivial,?_⟩;exact hk _ _ _ _ _ _ he (fin pend .undef Go.undef h O w ⟨#[],rfl,rfl⟩ d.hr (.refl _ _) (λp hp _=>hp) λy hy y1 y2 v' _ hv _=>LP hlim (hother y hy y1 y2).1 hv)
  |true=>
   simp[BJ,hf,cond_false]at he;refine du6 hA hc d.hr rfl (ba9 hE d.hr x.o (d.opRX hp hx hrdy)) he ?_;intro ac v u h' w' hkd hv hr' hst';simp[e26]at hkd;obtain⟨hre,he2⟩:tZ E (a.put x.o.dst v) h' (pend.filter λp=> !(x.m.testBit p.i))=true/\T (ev E n R A (.dops ops.toList rest (pend.filter λp=> !(x.m.testBit p.i)) (a.put x.o.dst v) h' k)):=by
    cases hcc:tZ E (a.put x.o.dst v) h' (pend.filter λp=> !(x.m.testBit p.i))with
    |false=>rw[hcc]at hkd;exact absurd hkd hA.bad
    |true=>rw[hcc]at hkd;trivial
   refine hk _ _ _ _ _ _ he2 (fin _ v u h' ac w' hv hr' hst' (λp hp hn=>l6.2 ⟨hp,by simpa using hn⟩) λy hy y1 y2 v' hna _ hpe=> ?_);obtain⟨oy,_,hyo,hyf⟩:=hp.get y hy;obtain⟨p,hpm,p1,p2,p3,p4⟩:=hpe;refine aH1 hre (by rw[hyo,<-hyf];exact(d.fl y hy y1 y2).1) hna ⟨p,l6.2 ⟨hpm,?_⟩,p1,p2,p3,p4⟩;grind
theorem DI.link(hA:AlgOk A T I)(hE:E.Ok I)(hp:PlanOk ops.toList l r){x:PO}(hf:x.fl=false){k:Fr->Heap->R}(hrdy: ∀j,x.m.testBit j=true->eI listed j){Q:Exit->Act->World->Prop}{next:Act->World->Prop}{ro:Option Nat}:
 ∀(n:Nat) (a:Fr),(∀m,m<n->yx E I m)->DI E I K w0 ops l hs ah done (x::rest) pend a h bid listed O act w->T (ev E n R A (.dops ops.toList (x::rest) pend a h k))->
 (∀m pend' a' h' ac act' w',m<n->T (ev E m R A (.dops ops.toList rest pend' a' h' k))->DI E I K w0 ops l hs ah (done|||2^x.i) rest pend' a' h' bid (listed.setIfInBounds x.i true) ac act' w'->next act' w')->
 wpOpIn (gT ro) 0 E.P ops Q x.i next act w
 |0,a,hc,d,he,hk=>absurd he hA.bad
 |n+1,a,hc,d,he,hk=>by
  cases hw:fp ops.toList a x.o with
  |some b=>exact d.link1 hA hE hp hf (hc n (by omega)) hw he hrdy λpend' a' h' ac act' w' g1 g2=>hk n pend' a' h' ac act' w' (by omega) g1 g2
  |none=>
   replace he:T (BJ E (ev E n) A ops.toList x rest pend a h k (fp ops.toList a x.o)):=he;rw[hw]at he;replace he:T (Sa (ev E n) A ops.toList (x::rest) pend a h k (vP ops.toList a x.o)):=he;cases hs:vP ops.toList a x.o with
   |none=>rw[hs]at he;exact absurd he hA.bad
   |some e=>
    rw[hs]at he;obtain⟨h1,h2⟩:=hA.ite _ _ _ he;cases hd:dB I e with
    |true=>exact DI.link hA hE hp hf hrdy n _ (λm hm=>hc m (by omega)) (d.cond hd) (h1 hd) λm pend' a' h' ac act' w' g0 g1 g2=>hk m pend' a' h' ac act' w' (by omega) g1 g2
    |false=>exact DI.link hA hE hp hf hrdy n _ (λm hm=>hc m (by omega)) (d.cond hd) (h2 hd) λm pend' a' h' ac act' w' g0 g1 g2=>hk m pend' a' h' ac act' w' (by omega) g1 g2
end
theorem QV{listed:Array Bool}{i:Nat}:i∈Region.ready .any ops listed↔i<ops.size/\listed.getD i true=false/\ ∃o,ops[i]? =some o/\ ∀e∈o.after.toList,qc e=true->eI listed e.on:=by
 unfold Region.ready;rw[l6,r9];refine and_congr_right λhi=> ?_
 rw[j6,y6];refine and_congr_right λ_=> ?_
 have gf:ops[i]? =some ops[i]:=A2 hi;rw[gf];simp only[Option.map_some,Option.getD_some,j0,exists_eq_left'];rw[<-Array.all_toList,k8];refine forall_congr' λe=>forall_congr' λ_=> ?_
 have hb:Region.binds .any e=qc e:=by
  rfl
 rw[hb,u9,y6];constructor
 .rintro(h1|h1) h2
  .grind
  .exact h1
 .intro h1;cases hh:qc e with
  |false=>grind
  |true=>exact .inr (h1 hh)
def left(listed:Array Bool):Nat:=(listed.toList.filter (λb=> !b)).length
theorem cH7{listed:Array Bool}{i:Nat}(h:listed.getD i true=false):left (listed.setIfInBounds i true)+1=left listed:=by
 have hi:i<listed.size:=by
  rcases j9 i listed.size with hh|hh
  .exact hh
  .simp[x7,E4 hh]at h
 have hv:listed.toList[i]? =some false:=by
  rw[x7,A2 hi]at h;simp at h;simp[hi,h]
 unfold left;have main: ∀(xs:List Bool) (i:Nat),xs[i]? =some false->((xs.set i true).filter (λb=> !b)).length+1=(xs.filter (λb=> !b)).length:=by
  intro xs;induction xs with
  |nil=>intro i h;simp at h
  |cons b r ih=>
   intro i h;cases i with
   |zero=>simp at h;subst h;simp
   |succ i=>
    have:=ih i h;cases b<;>simp[A0]<;>omega
 grind
end Go.Ev
namespace Go.Ev
open Go
variable{Q:Exit->Act->World->Prop}
variable{E:Env}{I:Opq}{K:Nat->Prop}{w0:World}
variable{ops:Array Oper}{l r:List PO}{hs:Heap}{ah:cq}
variable{R:Type}{A:Alg R}{T:R->Prop}
theorem RX(hA:AlgOk A T I)(hp:PlanOk ops.toList l r){k:Fr->Heap->R}{listed:Array Bool}{O:cq}{act:Act}{w:World}: ∀(n:Nat) (rest:List PO) (done:Nat) (pend:List Pend) (a:Fr) (h:Heap) (bid:Nat->Nat),
 T (ev E n R A (.dops ops.toList rest pend a h k))->DI E I K w0 ops l hs ah done rest pend a h bid listed O act w->
 ∃n2 done2 rest2 pend2 a2 h2 bid2,n2<=n/\T (ev E n2 R A (.dops ops.toList rest2 pend2 a2 h2 k))/\DI E I K w0 ops l hs ah done2 rest2 pend2 a2 h2 bid2 listed O act w/\(rest2=[]\/ ∃x r',rest2=x::r'/\x.fl=false)
 |n,[],done,pend,a,h,bid,he,d=>⟨n,done,[],pend,a,h,bid,e9 _,he,d,.inl rfl⟩
 |0,x::rest,done,pend,a,h,bid,he,d=>absurd he hA.bad
 |n+1,x::rest,done,pend,a,h,bid,he,d=>by
  cases hf:x.fl with
  |false=>exact⟨n+1,done,x::rest,pend,a,h,bid,e9 _,he,d,.inr ⟨x,rest,rfl,hf⟩⟩
  |true=>
   obtain⟨done',rest',pend',a',h',bid',he',d'⟩:=d.float hA hp hf he;obtain⟨n2,done2,rest2,pend2,a2,h2,bid2,g1,g2⟩:=RX hA hp n rest' _ pend' a' h' bid' he' d';exact⟨n2,done2,rest2,pend2,a2,h2,bid2,M6 g1,g2⟩
theorem cj5{listed:Array Bool}(h:left listed=0){i:Nat}(hi:i<listed.size):eI listed i:=by
 unfold left at h;have hm:listed[i]∈listed.toList:=by simp
 unfold eI;rw[x7,A2 hi];grind[List.filter_eq_nil_iff]
theorem DI.finish(hA:AlgOk A T I)(hp:PlanOk ops.toList l r){k:Fr->Heap->R}
 (hQ: ∀a h O act w,T (k a h)->dU O I a act->HR O I K w0 h w->St hs ah h O->Q .normal act w)
 {n done:Nat} {rest:List PO} {pend:List Pend} {a:Fr} {h:Heap} {bid:Nat->Nat} {listed:Array Bool} {O:cq} {act:Act} {w:World}
 (he:T (ev E n R A (.dops ops.toList rest pend a h k))) (d:DI E I K w0 ops l hs ah done rest pend a h bid listed O act w) (hall: ∀x∈l,eI listed x.i):Q .normal act w:=by
 cases rest with
 |cons x rest=>
  have:=Tt _ _ d.eg x (.head _);rw[d.cd x (d.rl x (.head _)) (hall x (d.rl x (.head _)))]at this;cases this
 |nil=>
  cases n with
  |zero=>exact absurd he hA.bad
  |succ n=>
   exact hQ a h O act w he (d.fr.weaken λt ⟨y,hy,_,g2,_⟩=>g2 (hall y hy)) d.hr d.st
theorem d82(hA:AlgOk A T I)(hE:E.Ok I)(hp:PlanOk ops.toList l r){N:Nat}{ro:Option Nat}(hc: ∀m,m<N->yx E I m){k:Fr->Heap->R}
 (hQ: ∀a h O act w,T (k a h)->dU O I a act->HR O I K w0 h w->St hs ah h O->Q .normal act w):
 ∀(fuel n done:Nat) (rest:List PO) (pend:List Pend) (a:Fr) (h:Heap) (bid:Nat->Nat) (listed:Array Bool) (O:cq) (act:Act) (w:World),n<=N->
  T (ev E n R A (.dops ops.toList rest pend a h k))->DI E I K w0 ops l hs ah done rest pend a h bid listed O act w->left listed<=fuel->wpAnyIn (gT ro) 0 E.P .any ops Q fuel listed act w:=by
 intro fuel;induction fuel with
 |zero=>
  intro n done rest pend a h bid listed O act w hn he d hle;have hall: ∀i,i<ops.size->eI listed i:=λi hi=>cj5 (by omega) (by rw[d.lsz];exact hi)
  have hall2: ∀x∈l,eI listed x.i:=by
   intro x hx;obtain⟨o,ho,-⟩:=hp.get x hx;refine hall _ ?_;rcases j9 x.i ops.size with hh|hh
   .exact hh
   .rw[t7 (by trivial)]at ho;cases ho
  obtain⟨n2,done2,rest2,pend2,a2,h2,bid2,g1,g2,g3,g4⟩:=RX hA hp n rest done pend a h bid he d;refine⟨?_,g3.finish hA hp hQ g2 hall2⟩;apply List.eq_nil_iff_forall_not_mem.2;grind[QV,eI,Array.getD_eq_getD_getElem?]
 |succ fuel ih=>
  intro n done rest pend a h bid listed O act w hn he d hle;obtain⟨n2,done2,rest2,pend2,a2,h2,bid2,g1,g2,g3,g4⟩:=RX hA hp n rest done pend a h bid he d;have getEq: ∀i,i<ops.size->(¬eI listed i↔listed.getD i true=false):=by
   intro i hi;have hi':i<listed.size:=by rw[d.lsz];exact hi
   grind[eI,Array.getD_eq_getD_getElem?,Array.getElem?_eq_getElem]
  refine⟨λhnil=> ?_,λi hi=> ?_⟩
  .refine g3.finish hA hp hQ g2 ?_;have main: ∀m,∀x∈l,x.i=m->eI listed x.i:=by
    intro m;induction m using Nat.strongRecOn with
    |_ m ihm=>
     intro x hx hm;obtain⟨o,ho,ho2,-⟩:=hp.get x hx;have hlt:x.i<ops.size:=by
      rcases j9 x.i ops.size with hh|hh
      .exact hh
      .rw[t7 (by trivial)]at ho;cases ho
     refine Classical.byContradiction λhno=> ?_
     have:x.i∈Region.ready .any ops listed:=by
      refine QV.2 ⟨hlt,(getEq _ hlt).1 hno,x.o,by rw[ho2,<-ho];simp,λe he hb=> ?_⟩;have hbk:=hp.back x hx e he hb;have hel:e.on<ops.toList.length:=by simp;omega
      obtain⟨y,hy,hyi⟩:=hp.at_ e.on _ (l7 hel);rw[<-hyi];exact ihm y.i (by omega) y hy rfl
     rw[hnil]at this;cases this
   grind
  .obtain⟨h1,h2',o,ho,hdeps⟩:=QV.1 hi;obtain⟨x,hx,rfl⟩:=hp.at_ i o (by grind);obtain⟨o',ho',ho2,-⟩:=hp.get x hx;have hxo:x.o=o:=by
    grind
   have hrdy: ∀j,x.m.testBit j=true->eI listed j:=by
    intro j hj;obtain⟨e,he,hb,hh⟩:=(hp.mask x hx j).1 hj;have hl:=hdeps e (hxo▸he) hb;rcases hh with rfl|⟨y,hy,hy1,hy2⟩
    .exact hl
    .exact d.cm y hy (by grind) j hy2
   have hC: ¬eI listed x.i:=(getEq _ h1).2 h2';have hleft:=cH7 h2';cases hD:done2.testBit x.i with
   |true=>
    exact g3.late hE hp hx hrdy hD hC λac act' w' d'=>ih n2 done2 rest2 pend2 a2 h2 bid2 _ ac act' w' (m7 g1 hn) g2 d' (by omega)
   |false=>
    rcases g4 with rfl|⟨c,r',rfl,hcf⟩
    .have:=g3.rd x hx hD;cases this
    .have hxc:x=c:=by
      have hmem:=g3.rd x hx hD;have hcl:=g3.rl c (.head _);have hcD:=Tt _ _ g3.eg c (.head _);have eg:=g3.eg;simp only[eager,j6,y6]at eg;obtain⟨⟨⟨e1,e2⟩,e3⟩,e4⟩:=eg;have hmD: ∀j,x.m.testBit j=true->done2.testBit j=true:=by
       intro j hj;obtain⟨y,hy,rfl⟩:=hp.dom x.i x hx rfl j hj;exact g3.cd y hy (hrdy _ hj)
      cases hmem with
      |head=>rfl
      |tail _ hm=>
       cases hxf:x.fl with
       |true=>
        rw[hcf,B2]at e3;have:=k8.1 e3 x hm;rw[hxf,cH5 hmD]at this;cases this
       |false=>
        rcases G9 x.i c.i with hlt|heq|hgt
        .have:=hp.chain c hcl x hx hcf hxf hlt;rw[SF e1 _ this]at hD;cases hD
        .exact hp.uniq x hx c hcl heq
        .have:=hp.chain x hx c hcl hxf hcf hgt;rw[hmD _ this]at hcD;cases hcD
     grind[DI.link]
end Go.Ev
