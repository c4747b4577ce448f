import Derived.Test.YtcmjiepodnicoaaGreatE16y
import Derived.Orders
set_option linter.unusedSimpArgs false
set_option linter.unusedVariables false
namespace Go.Ev
open Go
variable{a:Fr}{act:Act}{X:Nat->Prop}{b:Bool}
variable{E:Env}{O:cq}{I:Opq}{K:Nat->Prop}{w0 w:World}{h h':Heap}
structure FrP (O:cq) (I:Opq) (X:Nat->Prop) (a:Fr) (act:Act):Prop where
 size:act.tmps.size=a.nt
 lim:a.nt<=256
 slot: ∀t,¬X t->VR O I (a.slot t) (act.tmps.getD t Go.undef)
 defers:lg O I a.ds act.defers
 pcs: ∀p∈a.pc,dB I p.1=p.2
abbrev dU(O:cq)(I:Opq)(a:Fr)(act:Act):Prop:=FrP O I (λ_=>False) a act
theorem FrP.mono{ac:cq}(hl:Le O ac)(f:FrP O I X a act):FrP ac I X a act:=
 ⟨f.size,f.lim,λt ht=>VR.mono hl _ _ (f.slot t ht),f.defers.mono hl,f.pcs⟩
theorem FrP.weaken{Y:Nat->Prop}(f:FrP O I X a act)(hx: ∀t,X t->Y t):FrP O I Y a act:=
 ⟨f.size,f.lim,λt ht=>f.slot t (λhh=>ht (hx t hh)),f.defers,f.pcs⟩
theorem Fr.put_nt(a:Fr)(dst:Option Tmp)(v:AV):(a.put dst v).nt=a.nt:=by
 cases a with
 |mk tm nt pc fn ds ro=>
  cases dst with
  |none=>rfl
  |some d=>
   show(rS d v tm nt pc fn ds ro).nt=nt;grind[rS,Nat.blt]
theorem Fr.put_pc(a:Fr)(dst:Option Tmp)(v:AV):(a.put dst v).pc=a.pc:=by
 cases a with
 |mk tm nt pc fn ds ro=>
  cases dst with
  |none=>rfl
  |some d=>
   show(rS d v tm nt pc fn ds ro).pc=pc;grind[rS,Nat.blt]
theorem Fr.put_ds(a:Fr)(dst:Option Tmp)(v:AV):(a.put dst v).ds=a.ds:=by
 cases a with
 |mk tm nt pc fn ds ro=>
  cases dst with
  |none=>rfl
  |some d=>
   show(rS d v tm nt pc fn ds ro).ds=ds;grind[rS,Nat.blt]
theorem Fr.put_ro(a:Fr)(dst:Option Tmp)(v:AV):(a.put dst v).ro=a.ro:=by
 cases a with
 |mk tm nt pc fn ds ro=>
  cases dst with
  |none=>rfl
  |some d=>
   show(rS d v tm nt pc fn ds ro).ro=ro;grind[rS,Nat.blt]
@[simp]theorem Fr.clear_ds(a:Fr):a.clear.ds=a.ds:=by rfl
@[simp]theorem Fr.clear_ro(a:Fr):a.clear.ro=a.ro:=by rfl
@[simp]theorem Fr.cond_ds(a:Fr)(p:SX×Bool):(a.cond p).ds=a.ds:=by rfl
@[simp]theorem Fr.cond_ro(a:Fr)(p:SX×Bool):(a.cond p).ro=a.ro:=by rfl
@[simp]theorem Fr.back_nt(a:Fr)(r:Option Nat):(a.back r).nt=a.nt:=by rfl
@[simp]theorem Fr.back_slot(a:Fr)(r:Option Nat)(t:Nat):(a.back r).slot t=a.slot t:=by rfl
@[simp]theorem Fr.back_pc(a:Fr)(r:Option Nat):(a.back r).pc=a.pc:=by rfl
@[simp]theorem Fr.back_ds(a:Fr)(r:Option Nat):(a.back r).ds=a.ds:=by rfl
@[simp]theorem Fr.back_ro(a:Fr)(r:Option Nat):(a.back r).ro=r:=by rfl
@[simp]theorem Fr.mark_nt(a:Fr)(r:List ADef):(a.mark r).nt=a.nt:=by rfl
@[simp]theorem Fr.mark_slot(a:Fr)(r:List ADef)(t:Nat):(a.mark r).slot t=a.slot t:=by rfl
@[simp]theorem Fr.mark_pc(a:Fr)(r:List ADef):(a.mark r).pc=a.pc:=by rfl
@[simp]theorem Fr.mark_ds(a:Fr)(r:List ADef):(a.mark r).ds=r++a.ds:=by rfl
@[simp]theorem Fr.mark_ro(a:Fr)(r:List ADef):(a.mark r).ro=a.ro:=by rfl
@[simp]theorem Fr.clear_nt(a:Fr):a.clear.nt=a.nt:=by rfl
@[simp]theorem Fr.clear_slot(a:Fr)(t:Nat):a.clear.slot t=a.slot t:=by rfl
@[simp]theorem Fr.clear_pc(a:Fr):a.clear.pc=[]:=by rfl
@[simp]theorem Fr.cond_nt(a:Fr)(p:SX×Bool):(a.cond p).nt=a.nt:=by rfl
@[simp]theorem Fr.cond_slot(a:Fr)(p:SX×Bool)(t:Nat):(a.cond p).slot t=a.slot t:=by rfl
@[simp]theorem Fr.cond_pc(a:Fr)(p:SX×Bool):(a.cond p).pc=p::a.pc:=by rfl
@[simp]theorem Fr.cond_ev(a:Fr)(p:SX×Bool):(a.cond p).ev=a.ev:=by
 rfl
theorem FrP.cond(f:FrP O I X a act){e:SX}(h:dB I e=b):FrP O I X (a.cond (e,b)) act:=
 ⟨by simpa using f.size,by simpa using f.lim,λt ht=>by simpa using f.slot t ht,by exact f.defers,λp hp=>by
  simp at hp;rcases hp with rfl|hp
  .exact h
  .exact f.pcs p hp⟩
theorem ci8{e:SX}(h:Nb e=some b):dB I e=b:=by
 unfold Nb at h;split at h
 .unfold ca3 at h;split at h
  .unfold ca2 at h;split at h
   .trivial
   .cases h
  .cases h
 .cases h
theorem PP{pc:List (SX×Bool)}(h: ∀p∈pc,dB I p.1=p.2){e:SX}(hf:yX e pc=some b):dB I e=b:=by
 induction pc with
 |nil=>exact ci8 hf
 |cons p r ih=>
  simp[yX]at hf;cases hc:SX.beq e p.1 with
  |true=>
   grind[SX.beq_eq]
  |false=>grind
theorem Fr.put_slot(hl:a.nt<=256)(dst:Option Tmp)(v:AV)(t:Nat):(a.put dst v).slot t=if dst=some t/\t<a.nt then v else a.slot t:=by
 cases a with
 |mk tm nt pc fn ds ro=>
  cases dst with
  |none=>rfl
  |some d=>
   show(rS d v tm nt pc fn ds ro).slot t=_;unfold rS;by_cases hd:d<nt
   .rw[jm hd];show(TF.set tm d v).get t=_;rw[TF.get_set tm d t v (x9 hd hl)];by_cases ht:t=d
    .grind
    .rw[b9 ht,b9 (by grind)];rfl
   .rw[jv hd];grind
theorem Act.put_tmps(act:Act)(dst:Option Tmp)(u:Value)(t:Nat):(act.put dst u).tmps.getD t Go.undef=if dst=some t/\t<act.tmps.size then u else act.tmps.getD t Go.undef:=by
 cases dst with
 |none=>rfl
 |some d=>
  simp[Act.put,x7,O0];grind
theorem Act.put_size(act:Act)(dst:Option Tmp)(u:Value):(act.put dst u).tmps.size=act.tmps.size:=by cases dst<;>simp[Act.put]
theorem Act.put_def(act:Act)(dst:Option Tmp)(u:Value):(act.put dst u).defers=act.defers:=by cases dst<;>rfl
theorem FrP.put(f:FrP O I X a act)(dst:Option Tmp){v:AV}{u:Value}(r:VR O I v u):FrP O I (λt=>X t/\ ¬(dst=some t/\t<a.nt)) (a.put dst v) (act.put dst u):=by
 refine⟨by rw[Act.put_size,Fr.put_nt];exact f.size,by rw[Fr.put_nt];exact f.lim,λt ht=> ?_,by rw[Act.put_def,Fr.put_ds];exact f.defers,by rw[Fr.put_pc];exact f.pcs⟩;rw[Fr.put_slot f.lim,Act.put_tmps,f.size];by_cases hc:dst=some t/\t<a.nt
 .grind
 .rw[b9 hc,b9 hc];exact f.slot t (λhx=>ht ⟨hx,hc⟩)
theorem FrP.back(f:FrP O I X a act)(r:Option Nat):FrP O I X (a.back r) act:=
 ⟨by simpa using f.size,by simpa using f.lim,λt ht=>by simpa using f.slot t ht,by simpa using f.defers,λp hp=>f.pcs p (by simp_all)⟩
theorem lg.cons{a:ADef}{d:Deferred}{as:List ADef}{ds:List Deferred}(h:DR O I a d)(q:lg O I as ds):lg O I (a::as) (d::ds):=⟨d,ds,rfl,h,q⟩
theorem FrP.ahead(f:FrP O I X a act)(dst:Option Tmp)(v:AV):FrP O I (λt=>X t\/dst=some t/\t<a.nt) (a.put dst v) act:=by
 refine⟨by rw[Fr.put_nt];exact f.size,by rw[Fr.put_nt];exact f.lim,λt ht=> ?_,by rw[Fr.put_ds];exact f.defers,by rw[Fr.put_pc];exact f.pcs⟩;rw[Fr.put_slot f.lim,b9 (λhh=>ht (.inr hh))];exact f.slot t (λhx=>ht (.inl hx))
theorem FrP.behind(f:FrP O I X a act)(dst:Option Tmp){u:Value}(r: ∀t,dst=some t->t<a.nt->VR O I (a.slot t) u):
 FrP O I (λt=>X t/\ ¬(dst=some t/\t<a.nt)) a (act.put dst u):=by
 refine⟨by rw[Act.put_size];exact f.size,f.lim,λt ht=> ?_,by rw[Act.put_def];exact f.defers,f.pcs⟩;rw[Act.put_tmps,f.size];by_cases hc:dst=some t/\t<a.nt
 .grind
 .rw[b9 hc];exact f.slot t (λhx=>ht ⟨hx,hc⟩)
theorem FrP.evs(f:FrP O I X a act)(x:Operand)(hx: ∀t,x= .tmp t-> ¬X t)(v:AV)(e:a.ev x=some v):VR O I v (act.eval x):=by
 cases x with
 |tmp t=>simp[Fr.ev,j0]at e;subst e;exact f.slot t (hx t rfl)
 |const c=>exact vF e
 |global g=>trivial
 |func g=>simp[Fr.ev,j0]at e;subst e;exact⟨λl hh=>(by cases hh),#[],#[],rfl,rfl,rfl⟩
theorem FrP.opR(f:dU O I a act):eY O I a.ev act.eval:=λx v e=>f.evs x (λ_ _=>id) v e
theorem bs5(f:FrP O I X a act){all:List Oper}{ops:Array Oper}(ho:ops.toList=all){o:Oper}(e:fp all a o=some b)
 (hx: ∀j want g d,o.guard=some (j,want)->all[j]? =some g->g.dst=some d-> ¬X d):Region.wanted o (yielded ops act.tmps)=b:=by
 unfold fp at e;unfold Region.wanted;split at e
 .grind
 .rename_i j want hg;rw[hg];simp only[];have hj:all[j]? =ops[j]? :=by grind
  unfold yielded;rw[<-hj];split at e
  .grind
  .rename_i d hd;rw[hd];simp only[Option.bind_some];obtain⟨g,hg1,hg2⟩:=o8.1 hd;by_cases hlt:d<a.nt
   .rw[jm hlt]at e;simp only[cond_true]at e;have hs:=f.slot d (hx j want g d hg hg1 hg2);have hsz:d<act.tmps.size:=by rw[f.size];exact hlt
    rw[x7,A2 hsz]at hs;simp only[Option.getD_some]at hs;rw[A2 hsz];split at e
    .grind[VR,Option.some.injEq]
    .rename_i ee he;rw[he]at hs;simp only[VR]at hs;split at e
     .rename_i bb hb;simp only[j0]at e;subst e;rw[hs,PP f.pcs hb];simp
     .cases e
    .cases e
    .cases e
    .rename_i hnb hno2 hno hna;simp only[j0]at e;subst e;have: ∀bb,act.tmps[d]≠ .bool bb:=by
      intro bb hbb;rw[hbb]at hs;cases hh:a.slot d<;>rw[hh]at hs hnb hno hna hno2<;>simp only[VR]at hs<;>first
       |(cases hs;exact absurd rfl (hnb _))
       |(exact absurd rfl (hno _))
       |(exact absurd rfl (hno2 _))
       |(exact absurd rfl hna)
       |(rcases hs with⟨_,_,_,_,hs,_⟩|⟨_,_,hs,_⟩<;>(cases hs;done))
       |(rcases hs with⟨_,_,_,hs,_⟩|⟨hs,_⟩<;>cases hs)
       |(rcases hs with⟨_,_,_,_,hs,_⟩|⟨hs,_⟩<;>cases hs)
       |((cases hs;done))
       |(obtain⟨_,_,_,_,hs⟩:=hs;(cases hs;done))
       |(obtain⟨_,_,_,_,hs,_⟩:=hs;(cases hs;done))
       |(obtain⟨_,_,_,hs,_⟩:=hs;(cases hs;done))
       |(obtain⟨_,_,hs⟩:=hs;(cases hs;done))
       |(obtain⟨_,hs,_⟩:=hs;(cases hs;done))
       |(obtain⟨_,hs⟩:=hs;(cases hs;done))
     grind
   .rw[jv hlt]at e;simp only[cond_false,j0]at e;subst e;have:act.tmps[d]? =none:=E4 (by rw[f.size];exact R4 hlt);grind
theorem ba6(f:dU O I a act){all:List Oper}{ops:Array Oper}(ho:ops.toList=all){o:Oper}(e:fp all a o=some b):Region.wanted o (yielded ops act.tmps)=b:=
 bs5 f ho e (λ_ _ _ _ _ _ _=>id)
end Go.Ev
namespace Go.Ev
open Go
variable{ρ aw:Operand->Option AV}
variable{E:Env}{O:cq}{I:Opq}{K:Nat->Prop}{w0 w:World}{h h':Heap}
theorem KW{ρ aw:Operand->Option AV}: ∀{l:List Operand},(∀x∈l,ρ x=aw x)->evs ρ l=evs aw l
 | [],_=>rfl
 |x::r,h=>by
  simp[evs];rw[h x (.head _),KW λy hy=>h y (.tail _ hy)]
theorem TG{ρ aw:Operand->Option AV}: ∀{l:List (Nat×Operand)},(∀x∈l.map (·.2),ρ x=aw x)->jg ρ l=jg aw l
 | [],_=>rfl
 |(i,x)::r,h=>by
  simp[jg];rw[h x (.head _),TG λy hy=>h y (.tail _ hy)]
theorem RF{x:Option Operand}(h: ∀y∈x.toArray,ρ y=aw y):fA ρ x=fA aw x:=by
 cases x with
 |none=>rfl
 |some y=>grind[fA]
theorem bE0(o:Oper)(hh: ∀x∈o.op.operands,ρ x=aw x)(h:Heap):nZ E ρ o h=nZ E aw o h:=by
 obtain⟨dst,op,ty,pos,after,guard⟩:=o;cases op<;>simp only[Op.operands]at hh<;>simp only[nZ];case build t ps=>grind[TG]
 case buildSlice t n ps=>grind[TG]
 case makeFunc fn a b=>grind[KW]
 case makeMap t r=>rw[RF hh]
 case slice t x lo hi mx=>grind[RF]
 case call c=>
  have h1:evs ρ c.args.toList=evs aw c.args.toList:=KW λx hx=>hh x (by grind[Call.operands])
  rw[h1];cases evs aw c.args.toList with
  |none=>rfl
  |some args=>
   grind[vE,builtin,invoke,Call.operands]
 case pick c a b=>
  simp_all[yY]
 all_goals grind
theorem bE1(o:Oper)(hh: ∀x∈o.op.operands,ρ x=aw x)(h:Heap):rG E ρ o h=rG E aw o h:=by
 obtain⟨dst,op,ty,pos,after,guard⟩:=o;cases op<;>simp only[Op.operands]at hh<;>simp only[rG];case slice t x lo hi mx=>grind[RF]
 case call c=>
  grind[evs,KW,Call.operands,Mz]
 all_goals grind
theorem Tn(o:Oper)(hh: ∀x∈o.op.operands,ρ x=aw x)(h:Heap):fQ E ρ o h=fQ E aw o h:=by
 grind[fQ,bE0,bE1]
theorem bE2{o:Oper}(ha:ia o=true)(h:Heap):rG E ρ o h= .bad:=by
 obtain⟨dst,op,ty,pos,after,guard⟩:=o;cases op<;>first|rfl|trivial
theorem aO9{o:Oper}(ha:ia o=true)(h:Heap):fQ E ρ o h=nZ E ρ o h:=by
 unfold fQ;rw[bE2 ha];cases nZ E ρ o h<;>rfl
end Go.Ev
namespace Go.Ev
open Go
variable{v:AV}{ρ:Operand->Option AV}{o:Oper}{x:SX}
variable{E:Env}{O:cq}{I:Opq}{K:Nat->Prop}{w0 w:World}{h h':Heap}
theorem pb{x:Option AV}(e:ov x h= .val v h'):h'=h/\x=some v:=by
 cases x with
 |none=>cases e
 |some a=>grind[ov,Res.val.injEq]
theorem WJ{x:Option (AV×Heap)}(e:oh x= .val v h'):x=some (v,h'):=by
 cases x with
 |none=>cases e
 |some a=>grind[oh,Res.val.injEq]
theorem bf3{b:Builtin}{ts:Array TypeId}{args:List AV}{p:AV×Heap}(hb:b= .len\/b= .cap\/b= .min\/b= .max)(hp:Fm E.P b ts args h=some p):p.2=h:=by
 unfold Fm at hp;grind[Option.map_eq_some_iff,Option.some.injEq]
theorem bf4{b:Builtin}{ts:Array TypeId}{args:List AV}(hb:b= .len\/b= .cap\/b= .min\/b= .max)(e:yh E b ts h args= .val v h'):h'=h:=by
 unfold yh at e;split at e
 .grind[Res.val.injEq,bf3]
 .split at e
  .exact(pb e).1
  .exact(pb e).1
  .exact(pb e).1
  .cases e
theorem bE3(hf:oX o=true)(ha:ia o=false)(e:nZ E ρ o h= .val v h'):h'=h:=by
 obtain⟨dst,op,ty,pos,after,guard⟩:=o;have s1v: ∀{F:AV->Option AV} {a:Option AV},s1 F h a= .val v h'->h'=h:=by
  intro F a e;cases a with
  |none=>cases e
  |some a=>exact(pb e).1
 have s2v: ∀{F:AV->AV->Option AV} {a b:Option AV},s2 F h a b= .val v h'->h'=h:=by
  intro F a b e;cases a with
  |none=>cases e
  |some a=>cases b with
   |none=>cases e
   |some b=>exact(pb e).1
 cases op<;>first
  |(cases hf;done)
  |(cases ha;done)
  |(cases e;done)
  |exact(pb e).1
  |exact s1v e
  |exact s2v e
  |skip
 case pick c a b=>
  have e:yY ρ a b h (ρ c)= .val v h':=e;unfold yY at e;split at e
  .exact(pb e).1
  .cases e
 case nilCheck x=>
  have e:BD E.P h (ρ x)= .val v h':=e;unfold BD at e;split at e
  .trivial
  .exact(pb e).1
  .cases e
 case build t ps=>
  have e:LF E.P t h (jg ρ ps.toList)= .val v h':=e;cases hx:jg ρ ps.toList with
  |none=>rw[hx]at e;cases e
  |some l=>rw[hx]at e;exact(pb e).1
 case binOp op t x y yt=>
  have e:CL E op t x y h (ρ x) (ρ y)= .val v h':=e;cases hx:ρ x with
  |none=>rw[hx]at e;cases e
  |some a=>
   cases hy:ρ y with
   |none=>rw[hx,hy]at e;cases e
   |some b=>
    rw[hx,hy]at e;simp[CL]at e;cases hg:xW E.P op t x y a b with
    |false=>grind
    |true=>rw[hg]at e;exact(pb e).1
 case convert s d x=>
  have e:Dc E s d h (ρ x)= .val v h':=e;cases hx:ρ x with
  |none=>rw[hx]at e;cases e
  |some a=>
   rw[hx]at e;simp[Dc]at e;cases hc:Ca E.P s d a h with
   |none=>
    rw[hc]at e;cases hc2:QN E.P s d a h with
    |none=>rw[hc2]at e;exact(pb e).1
    |some p=>grind
   |some p=>
    rw[hc]at e;simp at e;unfold Ca at hc;split at hc
    .simp at hc;subst hc;exact e.2.symm
    .trivial
    .trivial
    .trivial
    .trivial
    grind
 case makeInterface t x=>
  have e:Ci E.P t h (ρ x)= .val v h':=e;cases hx:ρ x with
  |none=>rw[hx]at e;cases e
  |some l=>
   grind[Ci,Res.val.injEq]
 case makeFunc fn a b=>
  have e:Cy fn h (evs ρ a.toList) (evs ρ b.toList)= .val v h':=e;unfold Cy at e;grind
 case slice t x lo hi mx=>
  have e:CQ E t h (ρ x) (fA ρ lo) (fA ρ hi) (fA ρ mx)= .val v h':=e;cases hx:ρ x with
  |none=>rw[hx]at e;cases e
  |some a=>
   cases h1:fA ρ lo with
   |none=>rw[hx,h1]at e;cases e
   |some vl=>
    cases h2:fA ρ hi with
    |none=>rw[hx,h1,h2]at e;cases e
    |some vh=>
     cases h3:fA ρ mx with
     |none=>rw[hx,h1,h2,h3]at e;cases e
     |some vm=>
      rw[hx,h1,h2,h3]at e;simp[CQ]at e;cases hc:(vh.isNone&&vm.isSome)with
      |true=>grind
      |false=>rw[hc]at e;exact(pb e).1
 case call c=>
  have e:vE E ρ c h (evs ρ c.args.toList)= .val v h':=e;obtain⟨callee,args,ats⟩:=c;cases hx:evs ρ args.toList with
  |none=>rw[hx]at e;cases e
  |some l=>
   rw[hx]at e;cases callee with
   |builtin b=>
    have hb:b= .len\/b= .cap\/b= .min\/b= .max:=by cases b<;>first|trivial|simp
    exact bf4 hb e
   |_=>cases hf
def Hg(h:Heap):Res->Prop
 | .val _ h'=>h'=h
 | .need _ _ h'=>h'=h
 | .cho _ _ _ _=>True
 | .enter _ _=>False
 | .choice _=>True
 | .yield _ _=>False
 | .defer _=>False
 | .bad=>True
theorem cj0{c:Bool}{r s:Res}(hr:Hg h r)(hs:Hg h s):Hg h (bif c then r else s):=by grind
theorem bE4(hf:oX o=true):Hg h (rG E ρ o h):=by
 obtain⟨dst,op,ty,pos,after,guard⟩:=o;cases op<;>first|(cases hf;done)|skip
 case call c=>
  obtain⟨callee,args,ats⟩:=c;cases callee with
  |builtin b=>
   show Hg h (Jw E.P b ats h (evs ρ args.toList));all_goals simp only[Jw,MR,Kj]
   all_goals repeat' split
   all_goals trivial
  |_=>cases hf
 all_goals simp only[rG,JV,VF,NH,MQ,Qv,Ku,LI,Lg,NY,d09,cC6,cC7,d14,NV,Rd,Oz,Np,GA,NR,Jv,Zf,Kt,Ta,Ni,dq6,dq7,Re]
 all_goals repeat' split
 all_goals first
  |trivial
  |rfl
  |skip
 all_goals repeat' (first|apply cj0|split)
 all_goals trivial
theorem bE5(hf:oX o=true)(ha:ia o=false)(e:rG E ρ o h= .val v h'\/ ∃x,rG E ρ o h= .need x v h'):h'=h:=by
 have:=bE4 (E:=E) (h:=h) (ρ:=ρ) hf;rcases e with e|⟨x,e⟩<;>rw[e]at this<;>exact this
theorem bP5{c:Bool}{r s:Res}(hr:r≠ .need x v h')(hs:s≠ .need x v h'):(bif c then r else s)≠ .need x v h':=by grind
theorem IV{y:Option AV}:ov y h≠ .need x v h':=by cases y<;>simp[ov]
theorem d74{y:Option (AV×Heap)}:oh y≠ .need x v h':=by
 cases y with
 |none=>simp[oh]
 |some p=>simp[oh]
theorem d75{y:Option Heap}:os y≠ .need x v h':=by cases y<;>simp[os]
theorem c43(hf:oX o=true):nZ E ρ o h≠ .need x v h':=by
 obtain⟨dst,op,ty,pos,after,guard⟩:=o;cases op<;>first|(cases hf;done)|skip
 case call c=>
  obtain⟨callee,args,ats⟩:=c;cases callee with
  |builtin b=>
   show vE E ρ {callee:= .builtin b,args:=args,argTypes:=ats} h (evs ρ args.toList)≠ .need x v h';cases evs ρ args.toList with
   |none=>simp[vE]
   |some l=>
    simp[vE,yh];repeat' split
    all_goals first
     |exact IV
     |(simp;done)
  |_=>cases hf
 all_goals simp only[nZ,yY,vu,LF,DE,Sm,Qg,BD,d06,CL,Qw,Dc,Ci,Cy,we,c13,CQ,dq1,Yl,s2,Vu,s2h,RS,Fi,s1]
 all_goals repeat' split
 all_goals first
  |exact IV
  |exact d74
  |exact d75
  |(simp;done)
  |skip
 .exact bP5 IV (by simp)
 simp_all[bP5,IV]
theorem Nv(hf:oX o=true)(ha:ia o=false)(e:fQ E ρ o h= .val v h'\/ ∃x,fQ E ρ o h= .need x v h'):h'=h:=by
 unfold fQ at e;grind[nZ,dq8,Res.val.injEq,bE3,absurd,c43,bE5]
structure AllocA (E:Env) (ρ:Operand->Option AV) (o:Oper) (mk:Nat->AV) (x:Blk):Prop where
 step: ∀h2,fQ E ρ o h2= .val (mk h2.next) (h2.new x)
 nar:x.isArr=false
theorem AllocA.uniq{mk mk':Nat->AV}{x x':Blk}(a:AllocA E ρ o mk x)(b:AllocA E ρ o mk' x'):x=x'/\ ∀n,mk n=mk' n:=by
 constructor
 .have:=(a.step Heap.empty).symm.trans (b.step Heap.empty);simp at this;have h2:(Heap.empty.new x).get 0=(Heap.empty.new x').get 0:=by rw[this.2]
  rw[Heap.get_new,Heap.get_new,show Heap.empty.next=0 from rfl,e8 rfl,e8 rfl,e8 (by omega),e8 (by omega)]at h2;grind
 .intro n;have:=(a.step ⟨Heap.empty.t,n,0⟩).symm.trans (b.step ⟨Heap.empty.t,n,0⟩);grind
end Go.Ev
namespace Go.Ev
open Go
variable{v:AV}{t:TypeId}
variable{E:Env}{O:cq}{I:Opq}{K:Nat->Prop}{w0 w:World}{h h':Heap}
theorem bE6{z:AV}(e:Iw t z h=some (v,h')):z.cells.all AV.one=true/\v= .ptr h.next 0/\h'=h.new (.cells t 0 z.cells):=by
 unfold Iw at e;grind
theorem bs6{z:Option AV}(e:vu t h z= .val v h'): ∃z0,z=some z0/\z0.cells.all AV.one=true/\v= .ptr h.next 0/\h'=h.new (.cells t 0 z0.cells)/\ ∀h2,vu t h2 z= .val (.ptr h2.next 0) (h2.new (.cells t 0 z0.cells)):=by
 cases z with
 |none=>cases e
 |some z0=>
  obtain⟨h1,h2,h3⟩:=bE6 (WJ e);exact⟨z0,rfl,h1,h2,h3,λh2=>by simp[vu,Iw,h1,cond_true,oh]⟩
structure AllocV (E:Env) (O:cq) (I:Opq) (m:Sem Next) (mk:Nat->AV) (x:Blk) (mkV:Nat->Value) (obj:Obj) (ext:Nat):Prop where
 run: ∀w,m.run E.P w= .ok (.value (mkV w.heap.size)) (w.alloc obj)
 blk: ∀(ac:cq) n,Le O ac->BR ac I ⟨n,0,ext⟩ (some obj) x
 val: ∀(ac:cq) b n,ac b=some ⟨n,0,ext⟩->VR ac I (mk b) (mkV n)
theorem ZA{m:Sem Next}{z:AV}{zv:Value}(rz:VR O I z zv)(ho:z.cells.all AV.one=true)(hrun: ∀w,m.run E.P w= .ok (.value (.pointer (some ⟨w.heap.size,0,none⟩))) (w.alloc (.cells zv.cells t))):
 AllocV E O I m (λb=> .ptr b 0) (.cells t 0 z.cells) (λn=> .pointer (some ⟨n,0,none⟩)) (.cells zv.cells t) zv.cells.size:=by
 refine⟨hrun,λac n hle=> ?_,λac b n hb=>⟨_,hb,rfl⟩⟩;have rc:=VR.cells' rz (d47 ho);have hl:=rc.length;exact⟨zv.cells,0,0,zv.cells.toList,rfl,by simp,by grind,pM ho,ct.mono hle _ _ rc,λi hi=>by simp,λi _ _=>by omega,λ_=>rfl⟩
theorem d76{m:Sem Next}{elem l c:Nat}{cs:List AV}{us:Array Value}(rv:ct O I cs us.toList)(ho:cs.all AV.one=true)
 (hrun: ∀w,m.run E.P w= .ok (.value (.slice (some ⟨w.heap.size,0,none⟩) l c)) (w.alloc (.cells us elem))):
 AllocV E O I m (λb=> .sl b 0 l c) (.cells elem 0 cs) (λn=> .slice (some ⟨n,0,none⟩) l c) (.cells us elem) us.size:=by
 refine⟨hrun,λac n hle=> ?_,λac b n hb=>⟨_,hb,rfl⟩⟩;have hl:=rv.length;exact⟨us,0,0,us.toList,rfl,by simp,by grind,pM ho,ct.mono hle _ _ rv,λi hi=>by simp,λi _ _=>by omega,λ_=>rfl⟩
theorem aY4{t n:Nat}{parts:List (Nat×AV)}(e:yz E.P t n parts h=some (v,h')):
 ∃elem cs,v= .sl h.next 0 n n/\h'=h.new (.cells elem 0 cs)/\(∀h2,yz E.P t n parts h2=some (.sl h2.next 0 n n,h2.new (.cells elem 0 cs)))/\
  ∀(O:cq) (I:Opq) (vparts:Array (Nat×Value)),parts.map (·.1)=vparts.toList.map (·.1)->ct O I (parts.map (·.2)) (vparts.toList.map (·.2))->
   ∃us:Array Value,ct O I cs us.toList/\cs.all AV.one=true/\ ∀w,(Instr.buildSlice t n vparts).run E.P w= .ok (.slice (some ⟨w.heap.size,0,none⟩) n n) (w.alloc (.cells us elem)):=by
 unfold yz at e;split at e
 .rename_i elem ht;split at e
  .rename_i s z hs hz;replace e:=Z2 e;obtain⟨hc,e⟩:=e;split at e
   .rename_i cs hf;replace e:=Z2 e;obtain⟨ho,e⟩:=e;obtain⟨rfl,rfl⟩:=e;refine⟨elem,cs,rfl,rfl,λh2=> ?_,λO I vparts hm hv=> ?_⟩
    .unfold yz;grind
    .obtain⟨hc,c3⟩:=Z1 hc;obtain⟨c1,c2⟩:=Z1 hc;rw[Z4]at c1;rw[fc]at c2;rw[cW]at c3;obtain⟨zv,hzv,hzr⟩:=Ck hz;have rz:ct O I z.cells zv.cells.toList:=VR.cells' (vF hzv) (JW hzv);have hzs:zv.cells.size=s:=by have:=rz.length;grind
     have rr:=MX rz (by omega) n;rw[hzs]at rr;obtain⟨cells',e1,e2,e3⟩:=He (placeV:=λi=>some (i*s,s)) (λi x hx=>hx) parts vparts.toList _ cs _ hf rr hm hv;refine⟨cells',e2,ho,λw=> ?_⟩;have h1: ¬(n*s>2^24):=by omega
     by_cases hn0:n*s=0
     .simp[hzs,hn0]at e1;simp[Instr.buildSlice,Sem.run_bind,Z3 ht,fB hs,Result.andThen_ok,hn0,if_true,b9 (show¬(0>2^24) by omega),Sem.run_pure];rw[bq6]at e1⊢;rw[e1];rfl
     .simp[Instr.buildSlice,Sem.run_bind,Z3 ht,fB hs,Result.andThen_ok,b9 h1,b9 hn0,hzr,Sem.run_pure,hzs,e1];rfl
   .cases e
  .cases e
 .cases e
theorem bP7{af:Operand->Option AV}{ρ:Operand->Value}{o:Oper}(ha:ia o=true)(e:fQ E af o h= .val v h'):
 ∃mk x,AllocA E af o mk x/\v=mk h.next/\h'=h.new x/\((∀y∈o.op.operands,∀a,af y=some a->VR O I a (ρ y))-> ∃mkV obj ext,AllocV E O I (execOp ρ o) mk x mkV obj ext):=by
 rw[aO9 ha]at e;have hA: ∀{mk:Nat->AV} {x:Blk},(∀h2,nZ E af o h2= .val (mk h2.next) (h2.new x))->x.isArr=false->AllocA E af o mk x:=λhh hn=>⟨λh2=>(aO9 ha h2).trans (hh h2),hn⟩
 obtain⟨dst,op,ty,pos,after,guard⟩:=o;cases op<;>first|(cases ha;done)|skip
 case alloc t=>
  obtain⟨z0,hz,ho,rfl,rfl,hall⟩:=bs6 (t:=t) (z:=jk E.P t) e;refine⟨λb=> .ptr b 0,_,hA hall rfl,rfl,rfl,λ_=> ?_⟩;obtain⟨zv,z1,z2⟩:=FG hz;exact⟨_,_,_,ZA (z1 O I) ho λw=>by
   show(do pure (.value (<-Instr.alloc t true (.tuple #[]))):Sem Next).run E.P w=_;simp[Instr.alloc,Sem.run_bind,z2,Result.andThen_ok];rfl⟩
 case box t y=>
  obtain⟨z0,hz,ho,rfl,rfl,hall⟩:=bs6 (t:=t) (z:=af y) e;refine⟨λb=> .ptr b 0,_,hA hall rfl,rfl,rfl,λhr=> ?_⟩;exact⟨_,_,_,ZA (hr y (by simp[Op.operands]) z0 hz) ho λw=>rfl⟩
 case buildSlice t n ps=>
  have e:DE E.P t n h (jg af ps.toList)= .val v h':=e;cases hx:jg af ps.toList with
  |none=>rw[hx]at e;cases e
  |some l=>
   rw[hx]at e;obtain⟨elem,cs,rfl,rfl,hall,hrun⟩:=aY4 (WJ e);refine⟨λb=> .sl b 0 n n,_,hA (λh2=>by show DE E.P t n h2 (jg af ps.toList)=_;grind[DE,oh]) rfl,rfl,rfl,λhr=> ?_⟩;have hops: ∃q1:l.map (·.1)=((ps.map λ(i,x)=>(i,ρ x)).toList.map (·.1)),ct O I (l.map (·.2)) ((ps.map λ(i,x)=>(i,ρ x)).toList.map (·.2)):=by
    have main: ∀(qs:List (Nat×Operand)) (l:List (Nat×AV)),(∀y∈qs.map (·.2),∀a,af y=some a->VR O I a (ρ y))->jg af qs=some l->
     l.map (·.1)=(qs.map λp=>(p.1,ρ p.2)).map (·.1)/\ct O I (l.map (·.2)) ((qs.map λp=>(p.1,ρ p.2)).map (·.2)):=by
     intro qs;induction qs with
     |nil=>intro l _ hl;simp[jg,j0]at hl;subst hl;trivial
     |cons q r ih=>
      intro l hq hl;obtain⟨i,y⟩:=q;simp[jg]at hl;split at hl
      .rename_i v vs h1 h2;simp at hl;subst hl;obtain⟨g1,g2⟩:=ih vs (λy hy=>hq y (.tail _ hy)) h2;exact⟨by simpa using g1,.cons (hq y (.head _) v h1) g2⟩
      .cases hl
    obtain⟨g1,g2⟩:=main ps.toList l (λy hy=>hr y (by simpa[Op.operands]using hy)) hx;simp_all
   obtain⟨q1,q2⟩:=hops;obtain⟨us,u1,u2,u3⟩:=hrun O I _ q1 q2;exact⟨_,_,_,d76 u1 u2 λw=>by
    show(do pure (.value (<-Instr.buildSlice t n (ps.map λ(i,x)=>(i,ρ x)))):Sem Next).run E.P w=_;simp_all⟩
 case makeMap t y=>
  have e:we E.P t h (fA af y)= .val v h':=e;unfold we at e;split at e
  .rename_i kt et ht;have fin: ∀m:Sem Next,(∀w,m.run E.P w= .ok (.value (.map (some w.heap.size))) (w.alloc (.map #[] 0)))->AllocV E O I m (λb=> .map b) (.map [] 0) (λn=> .map (some n)) (.map #[] 0) 0:=
    λm hm=>⟨hm,λac n _=>⟨#[],rfl,.nil⟩,λac b n hb=>⟨_,hb,rfl⟩⟩
   split at e
   .obtain⟨rfl,rfl⟩:=e;refine⟨λb=> .map b,_,hA (λh2=>by show we E.P t h2 (fA af y)=_;grind[we]) rfl,rfl,rfl,λhr=>⟨_,_,_,fin _ λw=> ?_⟩⟩;cases y with
    |none=>rfl
    |some y=>grind[fA,Option.map_eq_some_iff]
   .trivial
   .cases e
  .cases e
 trivial
end Go.Ev
namespace Go.Ev
open Go
variable{E:Env}{O:cq}{I:Opq}{K:Nat->Prop}{w0 w:World}{h h':Heap}
theorem HR.adopt(r:HR O I K w0 h w)(b:Nat)(obj:Obj)(x:Blk)(ext:Nat)(hb:O b=none)(hlt:b<h.next)(hg:h.get b=some x\/h.get b=none)
 (hx:BR (O.add b ⟨w.heap.size,0,ext⟩) I ⟨w.heap.size,0,ext⟩ (some obj) x):HR (O.add b ⟨w.heap.size,0,ext⟩) I K w0 h (w.alloc obj):=by
 have hle:Le O (O.add b ⟨w.heap.size,0,ext⟩):=by
  intro b' M hb';simp[cq.add];grind
 have hold: ∀i,i<w.heap.size->(w.alloc obj).heap[i]? =w.heap[i]? :=λi hi=>RowKit.Below.heap_alloc _ _ _ hi
 have kL:(w.alloc obj).heap[w.heap.size]? =some obj:=by show(w.heap.push obj)[w.heap.size]? =_;simp
 refine⟨?_,?_,?_,r.fget,?_,r.kin,?_,?_,?_,r.os,r.tape,r.out,r.dr⟩
 .intro b' y L hg' hb';simp[cq.add]at hb';by_cases e:b'=b
  .grind
  .rw[b9 e]at hb';rw[hold _ (r.lt b' L hb')];exact(r.blk b' y L hg' hb').mono hle
 .intro b1 b2 y y' L L' g1 g2 m1 m2 hne hw;simp[cq.add]at m1 m2;by_cases e1:b1=b
  .rw[e8 e1]at m1;simp at m1;subst m1;by_cases e2:b2=b
   .omega
   .rw[b9 e2]at m2;exact Nat.ne_of_gt (r.lt b2 L' m2)
  .rw[b9 e1]at m1;by_cases e2:b2=b
   .rw[e8 e2]at m2;simp at m2;subst m2;exact P6 (r.lt b1 L m1)
   .rw[b9 e2]at m2;exact r.sep b1 b2 y y' L L' g1 g2 m1 m2 hne hw
 .intro b' hb';simp[cq.add];rw[b9 (by omega)];exact r.fresh b' hb'
 .intro b' L hb';rw[World.size_alloc];simp[cq.add]at hb';split at hb'
  .grind
  .exact Nat.lt_succ_of_lt (r.lt b' L hb')
 .intro i hi;rw[hold i (x9 (r.kin i hi) r.size)];exact r.keep i hi
 .intro b' y L hg' hw' hb';simp[cq.add]at hb';split at hb'
  .simp at hb';subst hb';intro hk;exact absurd (r.kin _ hk) (C8.2 r.size)
  .exact r.free b' y L hg' hw' hb'
 .rw[World.size_alloc];exact M6 r.size
theorem ba7(acc:List Nat)(j:Nat): ∀(es:List Edge),(xV acc es).testBit j=true↔ ∃e∈es,qc e=true/\(e.on=j\/(acc.getD e.on 0).testBit j=true)
 | []=>by simp[xV]
 |e::r=>by
  have ih:=ba7 acc j r;simp[xV];grind
theorem bP8: ∀(ops:List Oper) (acc ms:List Nat),JH ops acc=some ms->ms.length=acc.length+ops.length/\(∀i,i<acc.length->ms[i]? =acc[i]?)/\
 ∀i (o:Oper),ops[i]? =some o->(∀e∈o.after.toList,qc e=true->e.on<acc.length+i)/\
  ∀j,(ms.getD (acc.length+i) 0).testBit j=true↔ ∃e∈o.after.toList,qc e=true/\(e.on=j\/(ms.getD e.on 0).testBit j=true)
 | [],acc,ms,h=>by
   simp[JH,j0]at h;subst h;exact⟨by simp,λ_ _=>rfl,λi o ho=>by simp at ho⟩
 |o::r,acc,ms,h=>by
  obtain⟨hc,h⟩:=Z2 h;obtain⟨h1,h2,h3⟩:=bP8 r _ ms h;have hall: ∀e∈o.after.toList,qc e=true->e.on<acc.length:=by
   intro e he hb;have:=k8.1 hc e he;simp only[hb,E9,B2]at this;exact fc.1 this
  simp only[k5,List.length_cons,List.length_nil]at h1 h2 h3;have hpre: ∀i,i<acc.length->ms[i]? =acc[i]? :=λi hi=>by rw[h2 i (by omega),x6 hi]
  refine⟨by simp;omega,hpre,λi o' ho=> ?_⟩;cases i with
  |zero=>
   simp at ho;subst ho;refine⟨λe he hb=>hall e he hb,λj=> ?_⟩;have hm:ms.getD (acc.length+0) 0=xV acc o.after.toList:=by
    rw[j8,Nat.add_zero,h2 acc.length (by omega)];simp
   rw[hm,ba7];constructor
   .rintro⟨e,he,hb,hh⟩;refine⟨e,he,hb,?_⟩;rw[j8]at hh⊢;rw[hpre _ (hall e he hb)];exact hh
   .rintro⟨e,he,hb,hh⟩;refine⟨e,he,hb,?_⟩;rw[j8]at hh⊢;rw[hpre _ (hall e he hb)]at hh;exact hh
  |succ i=>
   obtain⟨g1,g2⟩:=h3 i o' ho;refine⟨λe he hb=>by have:=g1 e he hb;omega,λj=> ?_⟩;have:=g2 j;rw[show acc.length+1+i=acc.length+(i+1) by omega]at this;exact this
theorem bs7: ∀(ops:List Oper) (ms:List Nat) (k:Nat),ops.length<=ms.length-> ∀i,(sm ops ms k)[i]? =(ops[i]?).map λo=>(⟨k+i,o,ms.getD i 0,oX o⟩:PO)
 | [],ms,k,_,i=>by rfl
 |o::r,[],k,hl,i=>by simp at hl
 |o::r,m::ms,k,hl,i=>by
  simp at hl;cases i with
  |zero=>rfl
  |succ i=>
   simp[sm,List.getElem?_cons_succ];rw[bs7 r ms (k+1) (by omega) i];grind
structure PlanOk (ops:List Oper) (l r:List PO):Prop where
 get: ∀x∈l,∃o,ops[x.i]? =some o/\x.o=o/\x.fl=oX o
 at_: ∀i o,ops[i]? =some o-> ∃x∈l,x.i=i
 uniq: ∀x∈l,∀y∈l,x.i=y.i->x=y
 back: ∀x∈l,∀e∈x.o.after.toList,qc e=true->e.on<x.i
 mask: ∀x∈l,∀j,x.m.testBit j=true↔ ∃e∈x.o.after.toList,qc e=true/\(e.on=j\/ ∃y∈l,y.i=e.on/\y.m.testBit j=true)
 slots: ∀x∈l,∀t∈oP ops x.o,∀y∈l,y.o.dst=some t->x.m.testBit y.i=true\/y.fl=false/\y.m.testBit x.i=true
 once: ∀x∈l,∀y∈l,∀d,x.o.dst=some d->y.o.dst=some d->x=y
 chain: ∀x∈l,∀y∈l,x.fl=false->y.fl=false->y.i<x.i->x.m.testBit y.i=true
 rl: ∀x∈r,x∈l
 lr: ∀x∈l,x∈r
 eager:eager 0 r=true
theorem d77{ops:List Oper}{r:List PO}(h:HV ops=some r): ∃l,PlanOk ops l r:=by
 unfold HV at h;split at h
 .cases h
 .rename_i ms hms;obtain⟨hc,h⟩:=Z2 h;obtain⟨hc,c4⟩:=Z1 hc;obtain⟨hc,c3⟩:=Z1 hc;obtain⟨c1,c2⟩:=Z1 hc;simp at h;obtain⟨m1,m2,m3⟩:=bP8 ops [] ms hms;simp only[List.length_nil,m9]at m1 m3;have zg:=bs7 ops ms 0 (by omega);generalize hl:sm ops ms 0=l at*
  have mem: ∀x,x∈l↔ ∃i o,ops[i]? =some o/\x=⟨i,o,ms.getD i 0,oX o⟩:=by
   intro x;rw[List.mem_iff_getElem?];constructor
   .rintro⟨i,hi⟩;rw[zg,o9]at hi;obtain⟨o,ho,rfl⟩:=hi;exact⟨i,o,ho,by simp⟩
   .rintro⟨i,o,ho,rfl⟩;exact⟨i,by rw[zg,ho];simp⟩
  have rl: ∀x∈r,x∈l:=by
   intro x hx;rw[<-h]at hx;obtain⟨y,_,hy⟩:=List.mem_filterMap.1 hx;exact I1 hy
  have uniq: ∀x∈l,∀y∈l,x.i=y.i->x=y:=by
   intro x hx y hy e;obtain⟨i,o,ho,rfl⟩:=(mem x).1 hx;obtain⟨j,o',ho',rfl⟩:=(mem y).1 hy;subst e;rw[ho]at ho';simp at ho';subst ho';rfl
  refine⟨l,⟨?_,?_,uniq,?_,?_,?_,?_,?_,rl,?_,h▸c3⟩⟩
  .intro x hx;obtain⟨i,o,ho,rfl⟩:=(mem x).1 hx;exact⟨o,ho,rfl,rfl⟩
  .intro i o ho;exact⟨_,(mem _).2 ⟨i,o,ho,rfl⟩,rfl⟩
  .intro x hx;obtain⟨i,o,ho,rfl⟩:=(mem x).1 hx;exact(m3 i o ho).1
  .intro x hx j;obtain⟨i,o,ho,rfl⟩:=(mem x).1 hx;have:=(m3 i o ho).2 j;rw[this];constructor
   .rintro⟨e,he,hb,hh⟩;refine⟨e,he,hb,BN id (λhh=> ?_) hh⟩;have hlt:=(m3 i o ho).1 e he hb;have hio:i<ops.length:=by
     rcases j9 i ops.length with h1|h1
     .exact h1
     .rw[t7 h1]at ho;cases ho
    have hel:e.on<ops.length:=by omega
    exact⟨⟨e.on,ops[e.on],ms.getD e.on 0,oX ops[e.on]⟩,(mem _).2 ⟨e.on,ops[e.on],l7 hel,rfl⟩,rfl,hh⟩
   .rintro⟨e,he,hb,hh⟩;refine⟨e,he,hb,BN id (λ⟨y,hy,h1,h2⟩=> ?_) hh⟩;obtain⟨k,o',ho',rfl⟩:=(mem y).1 hy;subst h1;exact h2
  .intro x hx t ht y hy hd;have:=k8.1 c1 x hx;obtain⟨h1,-⟩:=Z1 this;have:=k8.1 (k8.1 h1 t ht) y hy;have hdi:CD y.o t=true:=by simp[CD,hd]
   simp[hdi,E9,B2,u9,j6,y6]at this;exact this
  .intro x hx y hy d h1 h2;have:=k8.1 c1 x hx;obtain⟨-,h3⟩:=Z1 this;rw[h1]at h3;have:=k8.1 h3 y hy;have hdi:CD y.o d=true:=by simp[CD,h2]
   simp only[hdi,E9,B2]at this;exact uniq x hx y hy (Z4.1 this)
  .intro x hx y hy h1 h2 hlt;have:=k8.1 c2 x hx;simp only[h1,B2]at this;have:=k8.1 this y hy;simp[h2,jm hlt,E9,B2]at this;exact this
  grind[List.all_eq_true,List.any_eq_true,Z4]
theorem PlanOk.dom{ops:List Oper}{l r:List PO}(p:PlanOk ops l r): ∀(n:Nat) (x:PO),x∈l->x.i=n-> ∀j,x.m.testBit j=true-> ∃y∈l,y.i=j:=by
 intro n;induction n using Nat.strongRecOn with
 |_ n ih=>
  intro x hx hn j hj;obtain⟨e,he,hb,hh⟩:=(p.mask x hx j).1 hj;have hlt:=p.back x hx e he hb;rcases hh with rfl|⟨y,hy,h1,h2⟩
  .obtain⟨o,ho,-⟩:=p.get x hx;have:x.i<ops.length:=by
    rcases j9 x.i ops.length with hh|hh
    .exact hh
    .rw[t7 hh]at ho;cases ho
   exact p.at_ e.on _ (l7 (show e.on<ops.length by omega))
  grind
mutual
theorem AV.beq_eq: ∀(a b:AV),AV.beq a b=true->a=b
 | .bool a,b,h=>by cases b<;>simp[AV.beq]at h;subst h;rfl
 | .int k a,b,h=>by cases b<;>simp[AV.beq,ui]at h;obtain⟨rfl,rfl⟩:=h;rfl
 | .str a,b,h=>by cases b<;>simp[AV.beq,uQ]at h;subst h;rfl
 | .nilp,b,h=>by cases b<;>simp[AV.beq]at h;rfl
 | .ptr a o,b,h=>by cases b<;>simp[AV.beq]at h;obtain⟨rfl,rfl⟩:=h;rfl
 | .glob a,b,h=>by cases b<;>simp[AV.beq]at h;subst h;rfl
 | .nils,b,h=>by cases b<;>simp[AV.beq]at h;rfl
 | .sl a o l c,b,h=>by cases b<;>simp[AV.beq]at h;obtain⟨⟨⟨rfl,rfl⟩,rfl⟩,rfl⟩:=h;rfl
 | .us a o l c,b,h=>by cases b<;>simp[AV.beq]at h;obtain⟨⟨⟨rfl,rfl⟩,rfl⟩,rfl⟩:=h;rfl
 | .es a o s,b,h=>by cases b<;>simp[AV.beq]at h
 | .es0,b,h=>by cases b<;>simp[AV.beq]at h;rfl
 | .nilm,b,h=>by cases b<;>simp[AV.beq]at h;rfl
 | .map a,b,h=>by cases b<;>simp[AV.beq]at h;subst h;rfl
 | .nilf,b,h=>by cases b<;>simp[AV.beq]at h;rfl
 | .func f x y,b,h=>by
   cases b<;>simp[AV.beq]at h;obtain⟨⟨rfl,h1⟩,h2⟩:=h;rw[AV.beqs_eq x _ h1,AV.beqs_eq y _ h2]
 | .yield a,b,h=>by trivial
 | .nili,b,h=>by cases b<;>simp[AV.beq]at h;rfl
 | .iface t v,b,h=>by
   cases b<;>simp[AV.beq]at h
 | .agg x,b,h=>by
   cases b<;>simp[AV.beq]at h;rw[AV.beqs_eq x _ h]
 | .tup x,b,h=>by
   cases b<;>simp[AV.beq]at h;rw[AV.beqs_eq x _ h]
 | .opq a,b,h=>by cases b<;>simp[AV.beq]at h;subst h;rfl
 | .oint k a,b,h=>by cases b<;>simp[AV.beq]at h;obtain⟨rfl,h⟩:=h;rw[SX.beq_eq _ _ h]
 | .ostr a,b,h=>by cases b<;>simp[AV.beq]at h;rw[SX.beq_eq _ _ h]
 | .obool a,b,h=>by cases b<;>simp[AV.beq]at h;rw[SX.beq_eq _ _ h]
 | .osl a1 a2 a3 a4,b,h=>by cases b<;>simp[AV.beq]at h;obtain⟨⟨⟨rfl,h2⟩,h3⟩,rfl⟩:=h;rw[SX.beq_eq _ _ h2,SX.beq_eq _ _ h3]
 | .optr a1 a2 a3 a4,b,h=>by cases b<;>simp[AV.beq]at h;obtain⟨⟨⟨rfl,h2⟩,rfl⟩,rfl⟩:=h;rw[SX.beq_eq _ _ h2]
 | .ous a1 a2 a3,b,h=>by cases b<;>simp[AV.beq]at h;obtain⟨⟨rfl,h2⟩,rfl⟩:=h;rw[SX.beq_eq _ _ h2]
 | .atl a,b,h=>by cases b<;>simp[AV.beq]at h
 | .any,b,h=>by cases b<;>simp[AV.beq]at h
theorem AV.beqs_eq: ∀(a b:List AV),AV.beqs a b=true->a=b
 | [],[],_=>rfl
 | [],_::_,h=>by trivial
 |_::_,[],h=>by trivial
 |x::a,y::b,h=>by
  simp[AV.beqs,j6]at h;rw[AV.beq_eq x y h.1,AV.beqs_eq a b h.2]
end
end Go.Ev
