import Derived.Test.YtbfbcanipfnfeaaE16
import Derived.Orders
set_option linter.unusedVariables false
set_option linter.unusedSimpArgs false
namespace Go.Ev
open Go
variable{E:Env}{β:Bij}{ω:Opq}{K:Nat→Prop}{w0 w:World}{h h':Heap}
structure FrP (β:Bij) (ω:Opq) (X:Nat→Prop) (a:Fr) (act:Act):Prop where
 size:act.tmps.size=a.nt
 lim:a.nt≤256
 slot: ∀t,¬X t→VR β ω (a.slot t) (act.tmps.getD t Go.undef)
 defers:DsR β ω a.ds act.defers
 pcs: ∀p∈a.pc,dB ω p.1=p.2
abbrev FrR(β:Bij)(ω:Opq)(a:Fr)(act:Act):Prop:=FrP β ω (fun _=>False) a act
theorem FrP.mono{β':Bij}{X:Nat→Prop}{a:Fr}{act:Act}(hl:Le β β')(f:FrP β ω X a act):FrP β' ω X a act:=
 ⟨f.size,f.lim,fun t ht=>VR.mono hl _ _ (f.slot t ht),f.defers.mono hl,f.pcs⟩
theorem FrP.weaken{X Y:Nat→Prop}{a:Fr}{act:Act}(f:FrP β ω X a act)(hx: ∀t,X t→Y t):FrP β ω Y a act:=
 ⟨f.size,f.lim,fun t ht=>f.slot t (fun hh=>ht (hx t hh)),f.defers,f.pcs⟩
theorem Fr.put_nt(a:Fr)(dst:Option Tmp)(v:AV):(a.put dst v).nt=a.nt:=by
 cases a with
 |mk tm nt pc fn ds ro=>
  cases dst with
  |none=>rfl
  |some d=>
   show(bO1 d v tm nt pc fn ds ro).nt=nt
   unfold bO1
   cases Nat.blt d nt<;>rfl
theorem Fr.put_pc(a:Fr)(dst:Option Tmp)(v:AV):(a.put dst v).pc=a.pc:=by
 cases a with
 |mk tm nt pc fn ds ro=>
  cases dst with
  |none=>rfl
  |some d=>
   show(bO1 d v tm nt pc fn ds ro).pc=pc
   unfold bO1
   cases Nat.blt d nt<;>rfl
theorem Fr.put_ds(a:Fr)(dst:Option Tmp)(v:AV):(a.put dst v).ds=a.ds:=by
 cases a with
 |mk tm nt pc fn ds ro=>
  cases dst with
  |none=>rfl
  |some d=>
   show(bO1 d v tm nt pc fn ds ro).ds=ds
   unfold bO1
   cases Nat.blt d nt<;>rfl
theorem Fr.put_ro(a:Fr)(dst:Option Tmp)(v:AV):(a.put dst v).ro=a.ro:=by
 cases a with
 |mk tm nt pc fn ds ro=>
  cases dst with
  |none=>rfl
  |some d=>
   show(bO1 d v tm nt pc fn ds ro).ro=ro
   unfold bO1
   cases Nat.blt d nt<;>rfl
@[simp]theorem Fr.clear_ds(a:Fr):a.clear.ds=a.ds:=by cases a;rfl
@[simp]theorem Fr.clear_ro(a:Fr):a.clear.ro=a.ro:=by cases a;rfl
@[simp]theorem Fr.cond_ds(a:Fr)(p:SX×Bool):(a.cond p).ds=a.ds:=by cases a;rfl
@[simp]theorem Fr.cond_ro(a:Fr)(p:SX×Bool):(a.cond p).ro=a.ro:=by cases a;rfl
@[simp]theorem Fr.back_nt(a:Fr)(r:Option Nat):(a.back r).nt=a.nt:=by cases a;rfl
@[simp]theorem Fr.back_slot(a:Fr)(r:Option Nat)(t:Nat):(a.back r).slot t=a.slot t:=by cases a;rfl
@[simp]theorem Fr.back_pc(a:Fr)(r:Option Nat):(a.back r).pc=a.pc:=by cases a;rfl
@[simp]theorem Fr.back_ds(a:Fr)(r:Option Nat):(a.back r).ds=a.ds:=by cases a;rfl
@[simp]theorem Fr.back_ro(a:Fr)(r:Option Nat):(a.back r).ro=r:=by cases a;rfl
@[simp]theorem Fr.mark_nt(a:Fr)(r:List ADef):(a.mark r).nt=a.nt:=by cases a;rfl
@[simp]theorem Fr.mark_slot(a:Fr)(r:List ADef)(t:Nat):(a.mark r).slot t=a.slot t:=by cases a;rfl
@[simp]theorem Fr.mark_pc(a:Fr)(r:List ADef):(a.mark r).pc=a.pc:=by cases a;rfl
@[simp]theorem Fr.mark_ds(a:Fr)(r:List ADef):(a.mark r).ds=r++a.ds:=by cases a;rfl
@[simp]theorem Fr.mark_ro(a:Fr)(r:List ADef):(a.mark r).ro=a.ro:=by cases a;rfl
@[simp]theorem Fr.clear_nt(a:Fr):a.clear.nt=a.nt:=by cases a;rfl
@[simp]theorem Fr.clear_slot(a:Fr)(t:Nat):a.clear.slot t=a.slot t:=by cases a;rfl
@[simp]theorem Fr.clear_pc(a:Fr):a.clear.pc=[]:=by cases a;rfl
@[simp]theorem Fr.cond_nt(a:Fr)(p:SX×Bool):(a.cond p).nt=a.nt:=by cases a;rfl
@[simp]theorem Fr.cond_slot(a:Fr)(p:SX×Bool)(t:Nat):(a.cond p).slot t=a.slot t:=by cases a;rfl
@[simp]theorem Fr.cond_pc(a:Fr)(p:SX×Bool):(a.cond p).pc=p::a.pc:=by cases a;rfl
@[simp]theorem Fr.cond_ev(a:Fr)(p:SX×Bool):(a.cond p).ev=a.ev:=by
 funext x;cases x<;>simp[Fr.ev]
theorem FrP.cond{X:Nat→Prop}{a:Fr}{act:Act}(f:FrP β ω X a act){e:SX}{b:Bool}(h:dB ω e=b):FrP β ω X (a.cond (e,b)) act:=
 ⟨by simpa using f.size,by simpa using f.lim,fun t ht=>by simpa using f.slot t ht,by rw[Fr.cond_ds];exact f.defers,fun p hp=>by
   simp only[Fr.cond_pc,l5]at hp
   rcases hp with rfl|hp
   ·exact h
   ·exact f.pcs p hp⟩
theorem bZ4{e:SX}{b:Bool}(h:d29 e=some b):dB ω e=b:=by
 unfold d29 at h
 split at h
 ·unfold bO3 at h
  split at h
  ·unfold bO2 at h
   split at h
   ·rename_i a c
    cases hc:aF5 c _ with
    |false=>rw[hc]at h;cases h
    |true=>
     rw[hc]at h
     cases h
     rw[a69,decide_eq_true_eq]at hc
     simp only[dB,den,N2,Q9,Val.toB,Val.toI,b02,decide_eq_true_eq]
     exact decide_eq_true (Int.lt_of_le_of_lt (Int.min_le_right _ _) hc)
   ·cases h
  ·cases h
 ·cases h
theorem aK9{pc:List (SX×Bool)}(h: ∀p∈pc,dB ω p.1=p.2){e:SX}{b:Bool}(hf:aF7 e pc=some b):dB ω e=b:=by
 induction pc with
 |nil=>exact bZ4 hf
 |cons p r ih=>
  simp only[aF7]at hf
  cases hc:SX.beq e p.1 with
  |true=>
   rw[hc]at hf
   simp only[cond_true,a8]at hf
   rw[SX.beq_eq _ _ hc,←hf]
   exact h p (by simp)
  |false=>rw[hc]at hf;exact ih (fun q hq=>h q (by simp[hq])) hf
theorem Fr.put_slot{a:Fr}(hl:a.nt≤256)(dst:Option Tmp)(v:AV)(t:Nat):(a.put dst v).slot t=if dst=some t∧t<a.nt then v else a.slot t:=by
 cases a with
 |mk tm nt pc fn ds ro=>
  cases dst with
  |none=>simp[Fr.put]
  |some d=>
   show(bO1 d v tm nt pc fn ds ro).slot t=_
   simp only[]at hl
   unfold bO1
   by_cases hd:d<nt
   ·rw[a40 hd]
    show(TF.set tm d v).get t=_
    rw[TF.get_set tm d t v (o7 hd hl)]
    by_cases ht:t=d
    ·subst ht;simp[hd]
    ·rw[if_neg ht,if_neg (by simp;intro hh;exact absurd hh.symm ht)];rfl
   ·rw[a89 hd]
    rw[if_neg]
    ·rfl
    ·simp only[a8];rintro⟨rfl,hh⟩;exact hd hh
theorem Act.put_tmps(act:Act)(dst:Option Tmp)(u:Value)(t:Nat):(act.put dst u).tmps.getD t Go.undef=if dst=some t∧t<act.tmps.size then u else act.tmps.getD t Go.undef:=by
 cases dst with
 |none=>simp[Act.put]
 |some d=>
  simp only[Act.put,k7,A4]
  by_cases hd:d=t
  ·subst hd
   by_cases hs:d<act.tmps.size
   ·simp[hs]
   ·simp[hs]
  ·rw[if_neg hd,if_neg (by simp[hd])]
theorem Act.put_size(act:Act)(dst:Option Tmp)(u:Value):(act.put dst u).tmps.size=act.tmps.size:=by cases dst<;>simp[Act.put]
theorem Act.put_def(act:Act)(dst:Option Tmp)(u:Value):(act.put dst u).defers=act.defers:=by cases dst<;>rfl
theorem FrP.put{X:Nat→Prop}{a:Fr}{act:Act}(f:FrP β ω X a act)(dst:Option Tmp){v:AV}{u:Value}(r:VR β ω v u):FrP β ω (fun t=>X t∧ ¬(dst=some t∧t<a.nt)) (a.put dst v) (act.put dst u):=by
 refine⟨by rw[Act.put_size,Fr.put_nt];exact f.size,by rw[Fr.put_nt];exact f.lim,fun t ht=> ?_,by rw[Act.put_def,Fr.put_ds];exact f.defers,by rw[Fr.put_pc];exact f.pcs⟩
 rw[Fr.put_slot f.lim,Act.put_tmps,f.size]
 by_cases hc:dst=some t∧t<a.nt
 ·rw[if_pos hc,if_pos hc];exact r
 ·rw[if_neg hc,if_neg hc]
  exact f.slot t (fun hx=>ht ⟨hx,hc⟩)
theorem FrP.back{X:Nat→Prop}{a:Fr}{act:Act}(f:FrP β ω X a act)(r:Option Nat):FrP β ω X (a.back r) act:=
 ⟨by simpa using f.size,by simpa using f.lim,fun t ht=>by simpa using f.slot t ht,by simpa using f.defers,fun p hp=>f.pcs p (by simpa using hp)⟩
theorem DsR.cons{a:ADef}{d:Deferred}{as:List ADef}{ds:List Deferred}(h:DR β ω a d)(q:DsR β ω as ds):DsR β ω (a::as) (d::ds):=⟨d,ds,rfl,h,q⟩
theorem FrP.mark1{X:Nat→Prop}{a:Fr}{act:Act}(f:FrP β ω X a act){x:ADef}{d:Deferred}(h:DR β ω x d):FrP β ω X (a.mark [x]) {act with defers:=d::act.defers}:=
 ⟨by simpa using f.size,by simpa using f.lim,fun t ht=>by simpa using f.slot t ht,by rw[Fr.mark_ds];exact .cons h f.defers,fun p hp=>f.pcs p (by simpa using hp)⟩
theorem FrP.ahead{X:Nat→Prop}{a:Fr}{act:Act}(f:FrP β ω X a act)(dst:Option Tmp)(v:AV):FrP β ω (fun t=>X t∨dst=some t∧t<a.nt) (a.put dst v) act:=by
 refine⟨by rw[Fr.put_nt];exact f.size,by rw[Fr.put_nt];exact f.lim,fun t ht=> ?_,by rw[Fr.put_ds];exact f.defers,by rw[Fr.put_pc];exact f.pcs⟩
 rw[Fr.put_slot f.lim,if_neg (fun hh=>ht (.inr hh))]
 exact f.slot t (fun hx=>ht (.inl hx))
theorem FrP.behind{X:Nat→Prop}{a:Fr}{act:Act}(f:FrP β ω X a act)(dst:Option Tmp){u:Value}(r: ∀t,dst=some t→t<a.nt→VR β ω (a.slot t) u):
 FrP β ω (fun t=>X t∧ ¬(dst=some t∧t<a.nt)) a (act.put dst u):=by
 refine⟨by rw[Act.put_size];exact f.size,f.lim,fun t ht=> ?_,by rw[Act.put_def];exact f.defers,f.pcs⟩
 rw[Act.put_tmps,f.size]
 by_cases hc:dst=some t∧t<a.nt
 ·rw[if_pos hc];exact r t hc.1 hc.2
 ·rw[if_neg hc];exact f.slot t (fun hx=>ht ⟨hx,hc⟩)
theorem FrP.evs{X:Nat→Prop}{a:Fr}{act:Act}(f:FrP β ω X a act)(x:Operand)(hx: ∀t,x= .tmp t→ ¬X t)(v:AV)(e:a.ev x=some v):VR β ω v (act.eval x):=by
 cases x with
 |tmp t=>simp only[Fr.ev,a8]at e;subst e;exact f.slot t (hx t rfl)
 |const c=>exact a19 e
 |global g=>simp only[Fr.ev,a8]at e;subst e;rfl
 |func g=>simp only[Fr.ev,a8]at e;subst e;exact⟨fun l hh=>(by cases hh),#[],#[],rfl,rfl,rfl⟩
theorem FrP.opR{a:Fr}{act:Act}(f:FrR β ω a act):OpR β ω a.ev act.eval:=fun x v e=>f.evs x (fun _ _=>id) v e
theorem bc4{X:Nat→Prop}{a:Fr}{act:Act}(f:FrP β ω X a act){all:List Oper}{ops:Array Oper}(ho:ops.toList=all){o:Oper}{b:Bool}(e:P6 all a o=some b)
 (hx: ∀j want g d,o.guard=some (j,want)→all[j]? =some g→g.dst=some d→ ¬X d):Region.wanted o (yielded ops act.tmps)=b:=by
 unfold P6 at e
 unfold Region.wanted
 split at e
 ·rename_i hg;rw[hg];simpa using e
 ·rename_i j want hg
  rw[hg]
  simp only[]
  have hj:all[j]? =ops[j]? :=by rw[←ho];simp
  unfold yielded
  rw[←hj]
  split at e
  ·rename_i hd;rw[hd];simp only[a8]at e;subst e;rfl
  ·rename_i d hd
   rw[hd]
   simp only[Option.bind_some]
   obtain⟨g,hg1,hg2⟩:=j6.1 hd
   by_cases hlt:d<a.nt
   ·rw[a40 hlt]at e
    simp only[cond_true]at e
    have hs:=f.slot d (hx j want g d hg hg1 hg2)
    have hsz:d<act.tmps.size:=by rw[f.size];exact hlt
    rw[k7,p7 hsz]at hs
    simp only[Option.getD_some]at hs
    rw[p7 hsz]
    split at e
    ·rename_i bb hb
     rw[hb]at hs
     simp only[VR]at hs
     simp only[a8]at e;subst e
     rw[hs];simp
    ·rename_i ee he
     rw[he]at hs
     simp only[VR]at hs
     split at e
     ·rename_i bb hb
      simp only[a8]at e;subst e
      rw[hs,aK9 f.pcs hb];simp
     ·cases e
    ·cases e
    ·cases e
    ·rename_i hnb hno2 hno hna
     simp only[a8]at e;subst e
     have: ∀bb,act.tmps[d]≠ .bool bb:=by
      intro bb hbb
      rw[hbb]at hs
      cases hh:a.slot d<;>rw[hh]at hs hnb hno hna hno2<;>simp only[VR]at hs<;>first
       |(cases hs;exact absurd rfl (hnb _))
       |(exact absurd rfl (hno _))
       |(exact absurd rfl (hno2 _))
       |(exact absurd rfl hna)
       |(rcases hs with⟨_,_,_,_,hs,_⟩|⟨_,_,hs,_⟩<;>(cases hs;done))
       |(rcases hs with⟨_,_,_,hs,_⟩|⟨hs,_⟩<;>cases hs)
       |(rcases hs with⟨_,_,_,_,hs,_⟩|⟨hs,_⟩<;>cases hs)
       |((cases hs;done))
       |(obtain⟨_,_,_,_,hs⟩:=hs;(cases hs;done))
       |(obtain⟨_,_,_,_,hs,_⟩:=hs;(cases hs;done))
       |(obtain⟨_,_,_,hs,_⟩:=hs;(cases hs;done))
       |(obtain⟨_,_,hs⟩:=hs;(cases hs;done))
       |(obtain⟨_,hs,_⟩:=hs;(cases hs;done))
       |(obtain⟨_,hs⟩:=hs;(cases hs;done))
     cases hv:act.tmps[d]<;>first|rfl|exact absurd hv (this _)
   ·rw[a89 hlt]at e
    simp only[cond_false,a8]at e;subst e
    have:act.tmps[d]? =none:=s6 (by rw[f.size];exact A8 hlt)
    rw[this];rfl
theorem aW0{a:Fr}{act:Act}(f:FrR β ω a act){all:List Oper}{ops:Array Oper}(ho:ops.toList=all){o:Oper}{b:Bool}(e:P6 all a o=some b):Region.wanted o (yielded ops act.tmps)=b:=
 bc4 f ho e (fun _ _ _ _ _ _ _=>id)
end Go.Ev
