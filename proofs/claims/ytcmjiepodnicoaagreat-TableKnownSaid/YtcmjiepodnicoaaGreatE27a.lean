import Derived.Test.YtcmjiepodnicoaaGreatE26b
import Derived.Scope
import Derived.RangeFuncLeaves
import Derived.Maps.RangeRun
set_option linter.unusedSimpArgs false
set_option linter.unusedVariables false
namespace Go.Ev
open Go
variable{O:cq}{c:Code}{act:Act}{h:Heap}{Q:Exit->Act->World->Prop}{K:Nat->Prop}{w0:World}
variable{E:Env}{I:Opq}
def rW(F:Fence)(P:Program)(c:Code)(Q:Exit->Act->World->Prop)(a:Act)(w:World):Prop:=
 ∀(b:Frame) (k:List Item) (cs:List Frame),b.roundOf=F.round->F.fn b.fn->F.room (cs.length+1+0)->
  ∃e a' w',Q e a' w'/\ArrivesIn (Machine.fenced P F) P (lone (b.atR a (.code c:: .inLoop c::k)) cs w) b k cs e a' w'
theorem ck7{F:Fence}{P:Program}{a:Act}{w:World}(h:rW F P c Q a w):(Code.loop c).wpIn F 0 P Q a w:=by
 intro b k cs hro hb hr;obtain⟨e,a',w',hq,harr⟩:=h b k cs hro hb hr;exact⟨e,a',w',hq,.of_steps (.one (fenced_calm hb hr rfl) stepR_loop) harr⟩
theorem JC{F:Fence}{P:Program}{a:Act}{w:World}(h:c.wpIn F 0 P (Exit.then (rW F P c Q) Q) a w):rW F P c Q a w:=by
 intro b k cs hro hb hr;obtain⟨e,a₁,w₁,hq,harr⟩:=h b (.inLoop c::k) cs hro hb hr;cases e with
 |normal=>
  obtain⟨e₂,a₂,w₂,hq₂,harr₂⟩:=hq b k cs hro hb hr;exact⟨e₂,a₂,w₂,hq₂,.of_steps (StepsIn.trans harr (.one (fenced_calm hb hr rfl) stepR_inLoop)) harr₂⟩
 |exit id=>exact⟨_,a₁,w₁,hq,.pass (x:= .inLoop c) rfl (λ_ _=> .inl (by simp)) harr⟩
 |goto l=>exact⟨_,a₁,w₁,hq,.pass (x:= .inLoop c) rfl (λ_ _=> .inl (by simp)) harr⟩
 |ret=>exact⟨_,a₁,w₁,hq,.pass (x:= .inLoop c) rfl (λ_ _=> .inl (by simp)) harr⟩
 |panic ch=>exact⟨_,a₁,w₁,hq,.pass (x:= .inLoop c) rfl (λ_ _=> .inl (by simp)) harr⟩
 |outgrown=>exact⟨_,a₁,w₁,hq,.pass (x:= .inLoop c) rfl (λ_ _=> .inl (by simp)) harr⟩
section scope
variable{P:Program}{b:Frame}{a:Act}{k:List Item}{cs:List Frame}{w:World}
theorem Cf:step P (lone (b.atR a (.code (.scope c)::k)) cs w)= .next (lone (b.atR a (.code c:: .inScope c::k)) cs w):=
 step_lone_go (by rfl)
theorem bg2:step P (lone (b.atR a (.inScope c::k)) cs w)= .next (lone (b.atR a k) cs w):=
 step_lone_go (by rfl)
theorem c47{F:Fence}{n:Nat}(h:c.wpIn F n P (Exit.noGoto Q) a w):(Code.scope c).wpIn F n P Q a w:=by
 intro b k cs hro hb hr;have h0:(lone (b.atR a (.code (.scope c)::k)) cs w).fenced P F:=fenced_calm hb hr rfl;obtain⟨e,a₁,w₁,hq,harr⟩:=h b (.inScope c::k) cs hro hb hr;cases e with
 |normal=>exact⟨.normal,a₁,w₁,hq,.head h0 Cf (StepsIn.trans harr (.one (fenced_calm hb hr rfl) bg2))⟩
 |exit id=>
  have hx:exitTo id (.inScope c::k)=exitTo id k:=by rfl
  exact⟨.exit id,a₁,w₁,hq,λk' hk=> .head h0 Cf (harr.1 k' (by grind)),
   λhr' hk=>let ⟨k₁,h1,h2⟩:=harr.2 hr' (by grind);⟨k₁,h1,.head h0 Cf h2⟩⟩
 |goto l=>trivial
 |ret=>exact⟨_,a₁,w₁,hq,.of_steps (.one h0 Cf) harr⟩
 |panic ch=>exact⟨_,a₁,w₁,hq,.of_steps (.one h0 Cf) harr⟩
 |outgrown=>exact⟨_,a₁,w₁,hq,.of_steps (.one h0 Cf) harr⟩
end scope
def ML(E:Env)(I:Opq)(n:Nat):Prop:= ∀(R:Type) (A:Alg R) (T:R->Prop),AlgOk A T I-> ∀(c:Code) (a:Fr) (h:Heap) (k:Ex->Fr->Heap->R),T (ev E n R A (.loop c a h k))->
 ∀(K:Nat->Prop) (w0:World) (O:cq) (act:Act) (w:World) (ro:Option Nat) (Q:Exit->Act->World->Prop),HR O I K w0 h w->dU O I a act->yg O a.ro ro->tM T I K w0 h O a.ro k Q->rW (gT ro) E.P c Q act w
def wp(E:Env)(I:Opq)(n:Nat):Prop:= ∀(R:Type) (A:Alg R) (T:R->Prop),AlgOk A T I-> ∀(ops:Array Oper) (rest:List Oper) (i:Nat) (a:Fr) (h:Heap) (k:Fr->Heap->R),ops.toList.drop i=rest->T (ev E n R A (.ops ops.toList rest a h k))->
 ∀(K:Nat->Prop) (w0:World) (O:cq) (act:Act) (w:World) (ro:Option Nat) (Q:Exit->Act->World->Prop),HR O I K w0 h w->dU O I a act->yg O a.ro ro->
  (∀a' h' ac act' w',T (k a' h')->dU ac I a' act'->HR ac I K w0 h' w'->St h O h' ac->Q .normal act' w')->wpOpsIn (gT ro) 0 E.P ops Q (List.range' i rest.length) act w
def ED(E:Env)(I:Opq)(n:Nat):Prop:= ∀(R:Type) (A:Alg R) (T:R->Prop),AlgOk A T I-> ∀(f:FuncId) (args:List AV) (h:Heap) (k:AV->Heap->R),T (ev E n R A (.body f args h k))->
 ∀(K:Nat->Prop) (w0:World) (O:cq) (w:World) (us:List Value),HR O I K w0 h w->ct O I args us->
  Calls E.P f us.toArray w (λe w'=> ∃u ac v h',e= .returned u/\T (k v h')/\VR ac I v u/\HR ac I K w0 h' w'/\St h O h' ac)
def SJ(E:Env)(I:Opq)(n:Nat):Prop:= ∀(R:Type) (A:Alg R) (T:R->Prop),AlgOk A T I-> ∀(f:FuncId) (args:List AV) (h:Heap) (k:AV->Heap->R),T (ev E n R A (.dbody f args h k))->
 ∀(K:Nat->Prop) (w0:World) (O:cq) (w:World) (us:List Value) (m:FrameMode),HR O I K w0 h w->ct O I args us->
  CallsDIn Fence.wide 0 E.P f us.toArray m w (λe m' w'=>m'=m/\ ∃u ac v h',e= .returned u/\T (k v h')/\VR ac I v u/\HR ac I K w0 h' w'/\St h O h' ac)
def JQ(E:Env)(I:Opq)(n:Nat):Prop:= ∀(R:Type) (A:Alg R) (T:R->Prop),AlgOk A T I-> ∀(fn:Func) (a:Fr) (ds:List ADef) (h:Heap) (k:AV->Heap->R),T (ev E n R A (.leave fn.results.toList a ds h k))->
 ∀(K:Nat->Prop) (w0:World) (O:cq) (act:Act) (w:World) (dd:List Deferred),HR O I K w0 h w->dU O I a act->lg O I ds dd->
  LeavesInM Fence.wide 0 E.P fn act.tmps (λe w'=> ∃u ac v h',e= .returned u/\T (k v h')/\VR ac I v u/\HR ac I K w0 h' w'/\St h O h' ac) dd .returning w
theorem FrP.put'{a:Fr}(f:dU O I a act)(dst:Option Tmp){v:AV}{u:Value}(r:VR O I v u):dU O I (a.put dst v) (act.put dst u):=
 (FrP.put f dst r).weaken λ_ hh=>hh.1
theorem cI4(hE:E.Ok I){n:Nat}(hc:yx E I n)(ho:wp E I n):wp E I (n+1):=by
 intro R A T hA ops rest i a h k hdrop he K w0 O act w ro Q r f hR hk;cases rest with
 |nil=>exact hk a h O act w he f r (.refl _ _)
 |cons o rest=>
  have hlt:i<ops.toList.length:=by
   grind[Nat.lt_or_ge,List.drop_eq_nil_of_le]
  have hcons:=O1 hlt;rw[hdrop]at hcons;obtain⟨e1,e2⟩:=R1 hcons;have hoi:ops[i]? =some o:=by grind
  have hd2:ops.toList.drop (i+1)=rest:=e2.symm;have he:T (dt0 E (ev E n) A ops.toList rest o a h k (fp ops.toList a o)):=he;cases hw:fp ops.toList a o with
  |none=>
   rw[hw]at he;replace he:T (cd8 (ev E n) A ops.toList (o::rest) a h k (vP ops.toList a o)):=he;cases hs:vP ops.toList a o with
   |none=>rw[hs]at he;exact absurd he hA.bad
   |some e=>
    rw[hs]at he;obtain⟨h1,h2⟩:=hA.ite _ _ _ he;cases hd:dB I e with
    |true=>exact ho R A T hA ops (o::rest) i _ h k hdrop (h1 hd) K w0 O act w ro Q r (f.cond hd) (by trivial) hk
    |false=>exact ho R A T hA ops (o::rest) i _ h k hdrop (h2 hd) K w0 O act w ro Q r (f.cond hd) (by trivial) hk
  |some b=>
   rw[hw]at he;show(match ops[i]? with
    |none=>_
    |some o=>_)
   rw[hoi];simp;rw[ba6 f rfl hw];cases b with
   |false=>
    exact⟨λ_ _=>trivial,ho R A T hA ops rest (i+1) _ h k hd2 he K w0 O _ w ro Q r (f.put' o.dst ⟨#[],rfl,rfl⟩) (by grind[Fr.put_ro]) hk⟩
   |true=>
    have fin: ∀res,fQ E a.ev o h=res->dA E O I K w0 w h (execOp act.eval o) res->T (KQ (ev E n) A h (kOp (ev E n) A ops.toList rest o.dst a k) res)->
     o.wpIn (gT ro) 0 E.P act w (wpOpsIn (gT ro) 0 E.P ops Q (List.range' (i+1) rest.length)) Q:=by
     intro res hres hs he;refine du6 hA hc r hres hs he ?_;intro ac v u h' w' hkk hv hr' hst';exact ho R A T hA ops rest (i+1) _ h' k hd2 hkk K w0 ac _ w' ro Q hr' ((f.mono (hst'.Le r)).put' o.dst hv) (by rw[Fr.put_ro];exact hR.mono (hst'.Le r)) λa2 h2 ap act2 w2 g1 g2 g3 g4=>hk a2 h2 ap act2 w2 g1 g2 g3 (hst'.trans g4)
    replace he:T (TJ (ev E n) A ops.toList rest o.dst a h k (fQ E a.ev o h)):=he;have hs:=ZZ hE r f.opR o;generalize hres:fQ E a.ev o h=res at he hs;cases res with
    |defer d=>
     obtain⟨dd,hrun,hd⟩:=hs;simp[TJ]at he;cases hro:a.ro with
     |some l=>rw[hro]at he;exact absurd he hA.bad
     |none=>
      rw[hro]at he hR;exact absurd (by assumption) hA.bad
    |val v h'=>exact fin _ hres hs he
    |need e v h'=>exact fin _ hres hs he
    |cho e v l h'=>exact fin _ hres hs he
    |enter g args=>exact fin _ hres hs he
    |choice l=>exact fin _ hres hs he
    |yield l args=>exact fin _ hres hs he
    |bad=>exact fin _ hres hs he
theorem QO(I:Opq)(v0:Nat)(a b:List Val):(I.upd v0 a).upd v0 b=I.upd v0 b:=by
 simp_all[Opq.upd,e8,b9]
theorem xM: ∀(l:List (Nat×Option Blk)) (h:Heap) (n:Nat),(∀p∈l,p.1<n)->(∀b,n<=b->h.get b=none)-> ∀b,n<=b->(il h l).get b=none
 | [],h,n,_,hh,b,hb=>hh b hb
 |(t,v)::r,h,n,hl,hh,b,hb=>by
  refine xM r _ n (λp hp=>hl p (.tail _ hp)) (λb hb=> ?_) b hb;have:=hl (t,v) (.head _);rw[Heap.get_put,b9 (by omega)];grind
theorem bt4{O:cq}{a:Fr}{act:Act}(f:dU O I a act){b:Nat}: ∀(n:Nat),Kv a b n=true->O b≠none
 |0,h=>by cases h
 |n+1,h=>by
  simp[Kv,u9]at h;rcases h with h|h
  .have r:=f.slot n id;split at h
   .rename_i b' o hs;rw[hs]at r;obtain⟨L,hL,_⟩:=r;simp_all
   .rename_i b' hs;rw[hs]at r;obtain⟨L,hL,_⟩:=r;simp_all
   .cases h
  .exact bt4 f n h
theorem WR{O:cq}{q:AV->Bool}: ∀{as:List AV} {us:List Value},ct O I as us->as.any q=true-> ∃a u,q a=true/\VR O I a u
 | [],_,_,h=>by cases h
 |a::as,_,hr,h=>by
  obtain⟨u,ur,rfl,h1,h2⟩:=hr;rw[List.any_cons,u9]at h;rcases h with h|h
  .grind
  .exact WR h2 h
theorem bF1{w:World}(r:HR O I K w0 h w){b:Nat}{av:AV}{u:Value}(h1:TM b h av=true)(h2:VR O I av u):O b≠none:=by
 unfold TM at h1;split at h1
 .rename_i c o;obtain⟨L,hL,_⟩:=h2;unfold dr4 at h1;split at h1
  .rename_i e0 fz cs hg;obtain⟨C,lo,hi,vs,q1,q2,q3,q4,q5,q6⟩:=r.blk c _ L hg hL;obtain⟨m,v,h3,h4⟩:=WR q5 h1;unfold XI at h3;split at h3
   .obtain⟨M,hM,_⟩:=h4
    (intros;simp_all)
   .cases h3
  .cases h1
 grind
theorem Zj{O:cq}{K:Nat->Prop}{w0 w:World}{a:Fr}{h:Heap}{act:Act}(r:HR O I K w0 h w)(f:dU O I a act){b:Nat}: ∀(n:Nat),MF a h b n=true->O b≠none
 |0,e=>by cases e
 |n+1,e=>by
  simp[MF,u9]at e;rcases e with e|e
  .have rs:=f.slot n id;split at e
   .trivial
   .grind[bF1]
   .cases e
  .exact Zj r f n e
theorem LG{w:World}{a:Fr}{n0:Nat}(r:HR O I K w0 h w)(f:dU O I a act){next:Nat}{l:List (Nat×Option Blk)}(e:Ob a h n0 next l=true):(∀p∈l,p.1<next)/\ ∀p∈l,p.1<n0->O p.1≠none\/ ∃e sig x,h.get p.1=some (.arr e sig x):=by
 unfold Ob at e;rw[k8]at e;refine⟨λp hp=> ?_,λp hp hlt=> ?_⟩
 ·(simp_all;grind)
 .have:=(Z1 (e p hp)).2;rw[u9,u9,u9,cW]at this;grind[bt4,dr2,Zj]
theorem OH{v0 nb:Nat}{a:Fr}: ∀{n:Nat},Bz v0 nb a n=true-> ∀s,s<n->hI v0 nb (a.slot s)=true
 |0,_,s,hs=>by omega
 |n+1,h,s,hs=>by
  simp[Bz,j6]at h;by_cases e:s=n
  .grind
  .exact OH h.2 s (by omega)
theorem YL{v0 nb:Nat}{h0:Heap}: ∀{n:Nat},Mk v0 nb h0 n=true-> ∀s,s<n->AB v0 nb (h0.get s)=true
 |0,_,s,hs=>by omega
 |n+1,h,s,hs=>by
  simp[Mk,j6]at h;by_cases e:s=n
  .grind
  .exact YL h.2 s (by omega)
theorem VM{ac:cq}{I aa:Opq}{v0 nb:Nat}(g:Agr v0 I aa)(hb: ∀b,b<nb->ac b=O b){L:Loc}{o:Option Obj}{x:Blk}(h:AB v0 nb (some x)=true)(r:BR O I L o x):BR ac aa L o x:=by
 cases x with
 |cells e fz cs=>
  obtain⟨C,lo,hi,vs,q1,q2,q3,q4,q5,q6,q7,q8⟩:=r;exact⟨C,lo,hi,vs,q1,q2,q3,q4,Dy g hb cs vs h q5,q6,q7,by rw[g.fix];exact q8⟩
 |arr e sig l=>
  obtain⟨C,e',lo,hi,q1,q0,q2,q3,q4,q5⟩:=r;have hd:dL aa l=dL I l:=by unfold dL;rw[qy g l h]
  exact⟨C,e',lo,hi,q1,q0,q2,by grind,by grind,q5⟩
 |map es c=>
  obtain⟨Es,q1,q2⟩:=r;exact⟨Es,q1,UI g hb h q2⟩
 |marr d ks vs l=>
  obtain⟨Es,c,q1,q2,q3⟩:=r;exact⟨Es,c,q1,by rw[show dL aa l=dL I l by unfold dL;rw[qy g l h]];exact q2,q3⟩
 |bag e sig l=>
  obtain⟨D,q,r⟩:=r;exact⟨D,by rw[show dL aa l=dL I l by unfold dL;rw[qy g l h]];exact q,r⟩
 |_=>cases h
theorem Lo{sp:LSpec}{a a':Fr}{h h':Heap}{e:Ex}{m:Nat}{p:List Val}: ∀(l:List (Ex×StP)) (j:Nat),Z0 (tX sp a h e a' h' l j) I=some (m,p)->
 ∃i x es,m=j+i+1/\l[i]? =some x/\DJ x.1 e=true/\sN sp.v0 (im sp a h x.2).a (im sp a h x.2).h a' h'=some es/\p=ck I es
 | [],j,he=>by trivial
 |x::r,j,he=>by
  have tail:Z0 (tX sp a h e a' h' r (j+1)) I=some (m,p)-> ∃i y es,m=j+i+1/\(x::r)[i]? =some y/\DJ y.1 e=true/\sN sp.v0 (im sp a h y.2).a (im sp a h y.2).h a' h'=some es/\p=ck I es:=by
   intro hh;obtain⟨i,y,es,h1,h2,h3⟩:=Lo r (j+1) hh
   (simp_all;grind)
  simp[tX]at he;cases hx:DJ x.1 e with
  |false=>grind
  |true=>
   rw[hx]at he;simp at he;split at he
   .rename_i es hes;simp[Z0,j0,A3]at he;exact⟨0,x,es,by omega,rfl,hx,hes,he.2.symm⟩
   grind
theorem cI5: ∀{a b:Ex},DJ a b=true->a=b
 | .norm,.norm,_=>rfl
 | .ret,.ret,_=>rfl
 | .exit a,.exit b,h=>by grind[DJ,Z4]
 | .norm,.ret,h=>by cases h
 | .norm,.exit _,h=>by cases h
 | .ret,.norm,h=>by cases h
 | .ret,.exit _,h=>by cases h
 | .exit _,.norm,h=>by cases h
 | .exit _,.ret,h=>by cases h
theorem dU.norm1{I:Opq}{o:OwnP}{a:Fr}(f:dU O I a act)(hd:dB I (pI o a h).1=true):dU O I (pI o a h).2 act/\(pI o a h).2.nt=a.nt/\(pI o a h).2.pc=a.pc/\(pI o a h).2.ds=a.ds/\(pI o a h).2.ro=a.ro:=by
 unfold pI at hd⊢;split
 .rename_i r len s ho hs;simp_all;split
  .rename_i e sig l hg;simp_all;cases hq:(Nat.beq r o.blk||SX.beq len (.op .llen [l]))with
   |true=>trivial
   |false=>
    rw[hq]at hd;simp at hd⊢;have hlen:dI I len=dI I (.op .llen [l]):=j5 hd;refine⟨⟨by rw[Fr.put_nt];exact f.size,by rw[Fr.put_nt];exact f.lim,λt w=> ?_,by rw[Fr.put_ds];exact f.defers,λp hp=>f.pcs p (by rw[Fr.put_pc]at hp;exact hp)⟩,Fr.put_nt _ _ _,Fr.put_pc _ _ _,Fr.put_ds _ _ _,Fr.put_ro _ _ _⟩;have:=f.slot t w;rw[Fr.put_slot f.lim];by_cases ht:some o.slot=some t/\t<a.nt
    .rw[e8 ht];obtain⟨e1,_⟩:=ht;simp at e1;subst e1;rw[hs]at this;simp[VR]at this⊢;rw[<-hlen];exact this
    .rw[b9 ht];exact this
  trivial
 grind
theorem dU.norms{I:Opq}{O:cq}{h:Heap}{act:Act}: ∀{os:List OwnP} {a:Fr},dU O I a act->dB I (fH os a h).1=true->dU O I (fH os a h).2 act/\(fH os a h).2.nt=a.nt/\(fH os a h).2.pc=a.pc/\(fH os a h).2.ds=a.ds/\(fH os a h).2.ro=a.ro
 | [],a,f,_=>⟨f,rfl,rfl,rfl,rfl⟩
 |o::r,a,f,hd=>by
  simp[fH]at hd⊢;have hd2:dB I (pI o a h).1=true/\dB I (fH r (pI o a h).2 h).1=true:=by
   unfold jf at hd;split at hd
   .rename_i e1;rw[e1];trivial
   .split at hd
    .rename_i e2;rw[e2];trivial
    .have:dB I (.op .and [(pI o a h).1,(fH r (pI o a h).2 h).1])=true:=hd;exact Z1 this
  obtain⟨f1,e1,e2,e3,e4⟩:=f.norm1 hd2.1;obtain⟨f2,g1,g2,g3,g4⟩:=dU.norms f1 hd2.2
  (intros;simp_all)
theorem Hs{I:Opq}{e:SX}{x:VT}{p:Nat×List Val}(h:Z0 (IM e x) I=some p):dB I e=true/\Z0 x I=some p:=by
 unfold IM at h;cases hs:DQ e with
 |true=>grind[bP9]
 |false=>
  rw[hs]at h;simp[cond_false,Z0]at h;grind
theorem ZJ{a:Fr}{hs:Heap}{n0:Nat}(hn0:n0=hs.next){sp:LSpec}(hok:xY sp a h n0=true){ah:cq}{w:World}(r:HR O I K w0 h w)(f:dU O I a act)(st0:St hs ah h O)
 {s0:List SX} {xp:Ex×StP} (hxm:xp∈sp.exits) {i:Nat} {p:List Val} (hlink:I.f sp.id (ck I (s0++sp.fv))=cA (i,p)):
 ∀(vs:List Val) (ac:cq) (a':Fr) (h':Heap) (act':Act) (w':World) (es:List SX),sN sp.v0 (im sp a h xp.2).a (im sp a h xp.2).h a' h'=some es->ck (I.upd sp.v0 vs) es=p->
  dU ac (I.upd sp.v0 vs) a' act'->HR ac (I.upd sp.v0 vs) K w0 h' w'->(∀b,b<n0->ac b=O b)->
  (kF sp (gD sp.id (s0++sp.fv)) a h xp.2).a.ro=none/\dU (ac.cut xp.2.next) I (kF sp (gD sp.id (s0++sp.fv)) a h xp.2).a act'/\HR (ac.cut xp.2.next) I K w0 (kF sp (gD sp.id (s0++sp.fv)) a h xp.2).h w'/\St hs ah (kF sp (gD sp.id (s0++sp.fv)) a h xp.2).h (ac.cut xp.2.next):=by
 obtain⟨hok,o5⟩:=Z1 hok;obtain⟨hok,o4⟩:=Z1 hok;obtain⟨hok,o6⟩:=Z1 hok;obtain⟨hds,hro⟩:=Dr o6;obtain⟨hok,o3⟩:=Z1 hok;obtain⟨hok,o2⟩:=Z1 hok;obtain⟨o0,o1⟩:=Z1 hok;have hnn:n0<=h.next:=by rw[hn0];exact st0.le
 rw[k8]at o2;have hlim:=f.lim;have hb1:=LG r f o1;have hbase: ∀s,a.nt<=s->((fR sp a h).a.slot s=a.slot s):=by
  intro s hs;show(layDead (layDead a sp.dead) _).slot s=_;rw[GO _ _ (by rw[rj];exact hlim) s (by rw[rj];exact hs),GO _ _ hlim s hs]
 have hundef: ∀s,a.nt<=s->VR O I (a.slot s) Go.undef:=by
  intro s hs;have:=f.slot s id;rw[x7,E4 (by rw[f.size];exact hs)]at this;exact this
 have hXpc:(im sp a h xp.2).a.pc=[]:=Fr.clear_pc _;have hBnt:(fR sp a h).a.nt=a.nt:=by
  show(layDead (layDead a sp.dead) _).nt=_;rw[rj,rj]
 have hXnt:(im sp a h xp.2).a.nt=a.nt:=by
  show((fw (fR sp a h).a xp.2.slots).clear).nt=_;rw[Fr.clear_nt,HZ,hBnt]
 have hBds:(fR sp a h).a.ds=[]:=by
  show(layDead (layDead a sp.dead) _).ds=_;rw[JS,JS];exact hds
 have hBro:(fR sp a h).a.ro=none:=by
  show(layDead (layDead a sp.dead) _).ro=_;rw[Hq,Hq];exact hro
 have hXds:(im sp a h xp.2).a.ds=[]:=by
  show((fw (fR sp a h).a xp.2.slots).clear).ds=_;rw[Fr.clear_ds,JF,hBds]
 have hXhi: ∀s,a.nt<=s->(im sp a h xp.2).a.slot s=a.slot s:=by
  intro s hs;show((fw (fR sp a h).a xp.2.slots).clear).slot s=_;rw[Fr.clear_slot,Ic _ _ (by(intros;grind)) s (by rw[hBnt];exact hs),hbase s hs]
 have o2x:=Z1 (o2 xp hxm);have hnx:h.next<=xp.2.next:=cW.1 o2x.1
 have hb2:=LG r f o2x.2;have hBfg: ∀b,h.next<=b->(fR sp a h).h.get b=none:=by
  intro b hb;refine xM _ _ h.next (λp hp=> ?_) (λb hb=>r.fget b hb) b hb
  (intros;grind)
 have hXfg: ∀b,(im sp a h xp.2).h.next<=b->(im sp a h xp.2).h.get b=none:=by
  intro b hb;exact xM _ _ xp.2.next hb2.1 (λb hb=>hBfg b (by omega)) b hb
 intro vs ac a' h' act' w' es hes hp hf hr ao;have m:=FW hes;have hnt':a'.nt=a.nt:=by rw[<-m.nt,hXnt]
 have g1:=m.fr hXpc (λs hs=>⟨_,rfl,by rw[hXhi s (by(intros;simp_all))];exact yC (hundef s (by(intros;simp_all)))⟩) hf;have g2:=m.hr hXfg hr;rw[hp,QO]at g1 g2;have hXn:(im sp a h xp.2).h.next=xp.2.next:=Heap.next_upto _ _
 have ag:Agr sp.v0 I (I.upd sp.v0 p):=EE I sp.v0 p;have hq: ∀j e,es[j]? =some e->bZ I (gD sp.id (s0++sp.fv) (0+j))=(I.upd sp.v0 p).w (sp.v0+(0+j)):=by
  intro j e hj;have hlt:j<p.length:=by
   rw[<-hp,XN]
   (intros;grind)
  rw[m9,vO (l7 hlt)];show co (I.f sp.id (ck I (s0++sp.fv))).toL 1 j=_;rw[hlink];simp[cA,co,Val.toL,j8,l7 hlt]
 refine⟨?_,?_,?_,?_⟩
 .show(fw (fR sp a h).a _).ro=none;rw[Kw,hBro]
 .
  have hOnt:(kF sp (gD sp.id (s0++sp.fv)) a h xp.2).a.nt=a.nt:=by
   show(fw (fR sp a h).a _).nt=_;rw[HZ,hBnt]
  refine⟨by rw[hOnt,<-hXnt];exact g1.size,by(intros;grind),λt _=> ?_,?_,λpp hpp=> ?_⟩
  .have gt:=g1.slot t id;by_cases ht:t<a.nt
   .have hXs:(im sp a h xp.2).a.slot t=(fw (fR sp a h).a xp.2.slots).slot t:=Fr.clear_slot _ _;rcases bb0 (pP sp.v0 (gD sp.id (s0++sp.fv))) xp.2.slots (fR sp a h).a (fR sp a h).a t (by(intros;grind)) rfl (by rw[hBnt];exact ht) (.inr rfl)with e|⟨e1,e2⟩
    .show VR _ I ((fw (fR sp a h).a (xp.2.slots.map λp=>(p.1,pP sp.v0 (gD sp.id (s0++sp.fv)) p.2))).slot t) _;rw[e,<-hXs];obtain⟨n',es',z1,z2⟩:=m.sl (λj e=>bZ I (gD sp.id (s0++sp.fv) j)=(I.upd sp.v0 p).w (sp.v0+j)) hq t (by rw[hnt'];exact ht);exact XA ag n' _ _ es' _ z1 z2 gt
    .show VR _ I ((fw (fR sp a h).a (xp.2.slots.map λp=>(p.1,pP sp.v0 (gD sp.id (s0++sp.fv)) p.2))).slot t) _;rw[e1];rw[hXs,e2]at gt;exact Di (ac:=ac.cut xp.2.next) ag.symm (λ_ _=>rfl) _ _ (OH o4 t ht) gt
   .have ht:=R4 ht;have e:(kF sp (gD sp.id (s0++sp.fv)) a h xp.2).a.slot t=a.slot t:=by
     show(fw (fR sp a h).a _).slot t=_;rw[Ic _ _ (by(intros;grind)) t (by rw[hBnt];exact ht),hbase t ht]
    rw[e,x7,E4 (by rw[g1.size,hXnt];exact ht)];exact yC (hundef t ht)
  .have:=g1.defers;rw[hXds]at this;show lg _ I (fw (fR sp a h).a _).ds act'.defers;rw[JF,hBds];exact this
  .have e:(kF sp (gD sp.id (s0++sp.fv)) a h xp.2).a.pc=a.pc:=by
    show(fw (layDead (layDead a sp.dead) _) _).pc=_;rw[bQ7,Qx,Qx]
   rw[e]at hpp;exact f.pcs pp hpp
 .
  have hOn:(kF sp (gD sp.id (s0++sp.fv)) a h xp.2).h.next=xp.2.next:=Heap.next_upto _ _
  have hOwm:(kF sp (gD sp.id (s0++sp.fv)) a h xp.2).h.wm=(im sp a h xp.2).h.wm:=by
   show((il (fR sp a h).h _).upto _).wm=((il (fR sp a h).h _).upto _).wm;rw[Heap.wm_upto,Heap.wm_upto,BZ,BZ]
  have key: ∀b y,(kF sp (gD sp.id (s0++sp.fv)) a h xp.2).h.get b=some y-> ∃z,(im sp a h xp.2).h.get b=some z/\(∀L o,BR (ac.cut xp.2.next) (I.upd sp.v0 p) L o z->BR (ac.cut xp.2.next) I L o y)/\z.isArr=y.isArr:=by
   intro b y hy;have hXs:(im sp a h xp.2).h.get b=(il (fR sp a h).h xp.2.blks).get b:=Heap.get_upto _ _ _;have hOs:(kF sp (gD sp.id (s0++sp.fv)) a h xp.2).h.get b=(il (fR sp a h).h (xp.2.blks.map λp=>(p.1,zN sp.v0 (gD sp.id (s0++sp.fv)) p.2))).get b:=Heap.get_upto _ _ _;rw[hOs]at hy;have hblt:b<xp.2.next:=by
    rcases j9 b xp.2.next with hh|hh
    .exact hh
    .rw[xM _ _ xp.2.next (λp hp=>by
      (intros;grind)) (λb hb=>hBfg b (by omega)) b hh]at hy
     cases hy
   rcases Ya (zN sp.v0 (gD sp.id (s0++sp.fv))) rfl xp.2.blks (fR sp a h).h (fR sp a h).h b (.inr rfl)with e|⟨e1,e2⟩
   .rw[e,<-hXs]at hy;cases hz:(im sp a h xp.2).h.get b with
    |none=>rw[hz]at hy;cases hy
    |some z=>
     refine⟨z,rfl,λL o hbr=> ?_,c46 (by(simp_all;omega))⟩;obtain⟨n',es',z1,z2⟩:=m.hp (λj e=>bZ I (gD sp.id (s0++sp.fv) j)=(I.upd sp.v0 p).w (sp.v0+j)) hq b (by exact hblt);rw[hz]at z1 hy;simp[sH]at z1;split at z1
     .obtain⟨p',z3,z4⟩:=cH9 (O:=ac.cut xp.2.next) ag z1 z2 hbr
      (intros;simp_all)
     .cases z1
   .rw[e1]at hy;refine⟨y,by(intros;grind),λL o hbr=> ?_,rfl⟩;have hb:b<h.next:=by
     (intros;grind)
    have:=YL o5 b hb;rw[hy]at this;exact VM ag.symm (λ_ _=>rfl) this hbr
  refine⟨λb y L hg hb=> ?_,λb b1 y y1 L L1 hg hg1 hb hb1 hne hw=> ?_,λb hb=>g2.fresh b (by exact hb),λb hb=> ?_,g2.lt,g2.kin,g2.keep,λb y L hg hw hb=> ?_,g2.size,g2.os,g2.tape,g2.out,g2.dr⟩
  .obtain⟨z,z1,z2,_⟩:=key b y hg;exact z2 L _ (g2.blk b z L z1 hb)
  .obtain⟨z,z1,_,k1⟩:=key b y hg;obtain⟨z',z1',_,k2⟩:=key b1 y1 hg1;exact g2.sep b b1 z z' L L1 z1 z1' hb hb1 hne (by(intros;simp_all))
  .refine xM _ _ xp.2.next (λp hp=> ?_) (λb hb=>hBfg b (by omega)) b hb
   (intros;grind)
  .obtain⟨z,z1,_⟩:=key b y hg;exact g2.free b z L z1 (by(intros;simp_all)) hb
 .have hun: ∀b,b<n0->ah b=none->O b=none:=λb hb hn=>(st0.ext b (by omega)).trans hn
  refine⟨by show hs.next<=((il (fR sp a h).h _).upto xp.2.next).next;(simp at*;omega),λb hb=>by simp[cq.cut];rw[e8 (by omega)];exact(ao b (by omega)).trans (st0.ext b hb),λb hb hn=> ?_,?_⟩
  .have hb:b<n0:=by omega
   have hst:=st0.unm b (by omega) hn;by_cases har: ∃e sig x,h.get b=some (.arr e sig x)
   .obtain⟨e,sg,x,har⟩:=har;right;right;rcases hst with q|q|q
    .rw[<-q,har];exact .arr _ _ _
    .rw[q]at har;cases har
    .exact q
   have no: ∀p':Nat×Option Blk,p'.1=b->(O p'.1≠none\/ ∃e sig x,h.get p'.1=some (.arr e sig x))->False:=by
    rintro p' rfl (q|q)
    .exact q (hun _ hb hn)
    trivial
   have e:((il (fR sp a h).h (xp.2.blks.map λp=>(p.1,zN sp.v0 (gD sp.id (s0++sp.fv)) p.2))).upto xp.2.next).get b=h.get b:=by
    rw[Heap.get_upto,OL _ _ _ λp hp e=>by
     obtain⟨p',hp',rfl⟩:=j7.1 hp;exact no p' e (hb2.2 p' hp' (by rw[e];exact hb))]
    exact OL _ _ _ λp hp e=>by
     obtain⟨p',hp',rfl⟩:=j7.1 hp;exact no p' e (hb1.2 p' hp' (by rw[e];exact hb))
   rcases hst with q|q|q
   .exact .inl (e.trans q)
   .exact .inr (.inl (e.trans q))
   (intros;grind)
  .show((il (fR sp a h).h _).upto _).wm=_;rw[Heap.wm_upto,BZ];exact(BZ _ _).trans st0.wm
theorem cI6{Ω:Opq->Prop}(an: ∀I v0 l,Ω I->Ω (I.upd v0 l))(ae:Ω I){n:Nat}(hk: ∀aa,Ω aa->oR E aa n){R:Type}{A:Alg R}{T:R->Prop}(hA:AlgOk A T I){a:Fr}{hs:Heap}{n0:Nat}(hn0:n0=hs.next){k:Ex->Fr->Heap->R}{sp:LSpec}
 (he:T (LX (ev E n) A c n0 k sp a h)) {ah:cq} {w:World} (r:HR O I K w0 h w) (f:dU O I a act) (st0:St hs ah h O) (q:tM T I K w0 hs ah none k Q):rW (gT none) E.P c Q act w:=by
 unfold LX at he;cases hok:xY sp a h n0 with
 |false=>rw[hok]at he;exact absurd he hA.bad
 |true=>
  rw[hok]at he;have hokA:=hok;obtain⟨hok,o5⟩:=Z1 hok;obtain⟨hok,o4⟩:=Z1 hok;obtain⟨hok,o6⟩:=Z1 hok;obtain⟨hds,hro⟩:=Dr o6;obtain⟨hok,o3⟩:=Z1 hok;obtain⟨hok,o2⟩:=Z1 hok;obtain⟨o0,o1⟩:=Z1 hok;have hnn:n0<=h.next:=by rw[hn0];exact st0.le
  have hown: ∀b,b<n0-> ¬ ∃o∈sp.owns,b=o.blk:=by
   grind[cW]
  rw[k8]at o2;split at he
  .rename_i s0 hs0;obtain⟨⟨i,p⟩,x,hloop,hlink,hks,hx⟩:=hA.loop _ _ _ he;rw[nJ]at hloop;rw[B0,o9]at hks;obtain⟨xp,hxp,rfl⟩:=hks;have hlim:=f.lim;have hb1:=LG r f o1;have hJn:(dQ sp a h).h.next=h.next:=PJ _ _
   have hJfg: ∀b,(dQ sp a h).h.next<=b->(dQ sp a h).h.get b=none:=by
    intro b hb;rw[hJn]at hb;exact xM _ _ h.next hb1.1 (λb hb=>r.fget b hb) b hb
   have hhiA: ∀(g:Fr),g.nt=a.nt-> ∀s,a.nt<=s->g.slot s=a.slot s-> ∃x,g.slot s=x/\VR O I x Go.undef:=by
    intro g _ s hs e;refine⟨a.slot s,e,?_⟩;have:=f.slot s id;rw[x7,E4 (by rw[f.size];exact hs)]at this;exact this
   have hJhi: ∀s,a.nt<=s->(dQ sp a h).a.slot s=a.slot s:=by
    intro s hs;show((fw (layDead a sp.dead) sp.head.slots).clear).slot s=_;grind[Fr.clear_slot,Ic,rj,GO]
   have hJnt:(dQ sp a h).a.nt=a.nt:=by
    show((fw (layDead a sp.dead) sp.head.slots).clear).nt=_;rw[Fr.clear_nt,HZ,rj]
   have hJpc:(dQ sp a h).a.pc=[]:=Fr.clear_pc _;have hJro:(dQ sp a h).a.ro=none:=by
    show((fw (layDead a sp.dead) sp.head.slots).clear).ro=none;grind[Fr.clear_ro,Kw,Hq]
   have hundef: ∀s,a.nt<=s->VR O I (a.slot s) Go.undef:=by
    grind
   have hxm:xp∈sp.exits:=I1 hxp;have back: ∀(vs:List Val) (ac:cq) (a':Fr) (h':Heap) (act':Act) (w':World) (es:List SX),sN sp.v0 (im sp a h xp.2).a (im sp a h xp.2).h a' h'=some es->ck (I.upd sp.v0 vs) es=p->
    dU ac (I.upd sp.v0 vs) a' act'->HR ac (I.upd sp.v0 vs) K w0 h' w'->(∀b,b<n0->ac b=O b)->Q (TX xp.1) act' w':=by
    intro vs ac a' h' act' w' es hes hp hf hr ao;obtain⟨b1,b2,b3,b4⟩:=ZJ hn0 hokA r f st0 hxm hlink vs ac a' h' act' w' es hes hp hf hr ao;exact q xp.1 _ _ _ act' w' hx b1 b2 b3 b4
   have main: ∀vs j p',Iter (λvs=>Z0 (ev E n iP lJ (.code c (dQ sp a h).a (dQ sp a h).h (wn sp a h)) []) (I.upd sp.v0 vs)) vs j p'->j=i->p'=p->
    ∀(ak:cq) (act1:Act) (w1:World),dU ak (I.upd sp.v0 vs) (dQ sp a h).a act1->HR ak (I.upd sp.v0 vs) K w0 (dQ sp a h).h w1->(∀b,b<n0->ak b=O b)->rW (gT none) E.P c Q act1 w1:=by
    intro vs j p' hit;induction hit with
    | @out vs p' j hstep=>
      rintro rfl rfl ak act1 w1 f1 r1 s1;refine JC (hk _ (an _ _ _ ae) iP lJ _ (vC _ (j+1,p')) c _ _ _ ⟨[],mD,hstep⟩ K w0 ak act1 w1 none _ r1 f1 (by rw[hJro];rfl) ?_);rintro e a' h' ac act' w' ⟨_,_,hke⟩ _ hf hr hst;have aF: ∀b,b<n0->ac b=O b:=λb hb=>(hst.ext b (by omega)).trans (s1 b hb)
      obtain⟨hnd,hke⟩:dB (I.upd sp.v0 vs) (fH sp.owns a' h').1=true/\Z0 (match e with| .norm=>DV sp a h (iZ sp (fH sp.owns a' h').2 h')|e=>UE sp a h e (iZ sp (fH sp.owns a' h').2 h')) (I.upd sp.v0 vs)=_:=by
       cases e<;>exact Hs hke
      obtain⟨hf,hnnt,_⟩:=hf.norms hnd;obtain⟨ap,cv⟩:=KA (sp:=sp) hf hr;have az: ∀b,b<n0->ap b=O b:=λb hb=>(cv.bij b (hown b hb)).trans (aF b hb)
      have fin: ∀e',e=e'->Z0 (tX sp a h e' (iZ sp (fH sp.owns a' h').2 h').1 (iZ sp (fH sp.owns a' h').2 h').2 sp.exits 0) (I.upd sp.v0 vs)=some (j+1,p')->Q (TX e) act' w':=by
       rintro e' rfl hh;obtain⟨i',x',es,q1,q2,q3,q4,q5⟩:=Lo _ _ hh;obtain rfl:i'=j:=by omega
       rw[hxp,j0]at q2;subst q2;rw[<-cI5 q3];exact back vs ap _ _ act' w' es q4 q5.symm cv.fr cv.hr az
      cases e with
      |norm=>
       grind[DV,Z0]
      |exit id=>exact fin (.exit id) rfl hke
      |ret=>exact fin .ret rfl hke
    | @more vs vs' p' j hstep hit ih=>
      rintro rfl rfl ak act1 w1 f1 r1 s1;refine JC (hk _ (an _ _ _ ae) iP lJ _ (vC _ (0,vs')) c _ _ _ ⟨[],mD,hstep⟩ K w0 ak act1 w1 none _ r1 f1 (by rw[hJro];rfl) ?_);rintro e a' h' ac act' w' ⟨_,_,hke⟩ _ hf hr hst;have aF: ∀b,b<n0->ac b=O b:=λb hb=>(hst.ext b (by omega)).trans (s1 b hb)
      obtain⟨hnd,hke⟩:dB (I.upd sp.v0 vs) (fH sp.owns a' h').1=true/\Z0 (match e with| .norm=>DV sp a h (iZ sp (fH sp.owns a' h').2 h')|e=>UE sp a h e (iZ sp (fH sp.owns a' h').2 h')) (I.upd sp.v0 vs)=_:=by
       cases e<;>exact Hs hke
      obtain⟨hf,hnnt,_⟩:=hf.norms hnd;obtain⟨ap,cv⟩:=KA (sp:=sp) hf hr;have az: ∀b,b<n0->ap b=O b:=λb hb=>(cv.bij b (hown b hb)).trans (aF b hb)
      have no: ∀e',Z0 (tX sp a h e' (iZ sp (fH sp.owns a' h').2 h').1 (iZ sp (fH sp.owns a' h').2 h').2 sp.exits 0) (I.upd sp.v0 vs)=some (0,vs')->False:=by
       grind[Lo]
      cases e with
      |norm=>
       simp[DV]at hke;split at hke
       .rename_i es hes;simp[Z0,j0,A3,true_and]at hke;have m:=FW hes;have hnt':(iZ sp (fH sp.owns a' h').2 h').1.nt=a.nt:=by rw[<-m.nt,hJnt]
        have g1:=m.fr hJpc (λs hs=>⟨_,rfl,by rw[hJhi s (by(intros;simp_all))];exact yC (hundef s (by(intros;simp_all)))⟩) cv.fr;have g2:=m.hr hJfg cv.hr;rw[hke,QO]at g1 g2;exact ih rfl rfl _ act' w' g1 g2 λb hb=>by simp[cq.cut];(split<;>grind)
       grind[Z0]
      |exit id=>exact(no _ hke).elim
      |ret=>exact(no _ hke).elim
   have m:=FW hs0;refine main _ _ _ hloop rfl rfl (O.cut (dQ sp a h).h.next) act w ?_ ?_ ?_
   .exact m.fr hJpc (λs hs=>hhiA _ hJnt s hs (hJhi s hs)) f
   .exact m.hr hJfg r
   .exactλb hb=>by simp[cq.cut];grind
  .exact absurd he hA.bad
end Go.Ev
namespace Go.Ev
open Go
variable{a:Fr}{act:Act}{v0 n i n0 nb ob:Nat}{sp:LSpec}{c:Code}{Q:Exit->Act->World->Prop}{step:List Val->Option (Nat×List Val)}
variable{E:Env}{O ac:cq}{I aa:Opq}{K:Nat->Prop}{w0 w w':World}{h h':Heap}
theorem HR.freeze{K':Nat->Prop}(r:HR O I K w0 h w)(hK: ∀i,K' i->i<w.heap.size)(hf: ∀b x L,h.get b=some x->h.wm<=b->O b=some L-> ¬K' L.blk):HR O I K' w h w:=
 ⟨r.blk,r.sep,r.fresh,r.fget,r.lt,hK,λ_ _=>rfl,hf,e9 _,rfl,rfl,rfl,e9 _⟩
theorem HR.thaw{K':Nat->Prop}{w1:World}{h1:Heap}{ak:cq}{aj:Opq}(r1:HR ak aj K w0 h1 w1)(hs: ∀i,K i->K' i)(r:HR ac aa K' w1 h' w'):HR ac aa K w0 h' w':=
 ⟨r.blk,r.sep,r.fresh,r.fget,r.lt,r1.kin,λi hi=>(r.keep i (hs i hi)).trans (r1.keep i hi),λb x L a c d hk=>r.free b x L a c d (hs _ hk),m7 r1.size r.size,r.os.trans r1.os,r.tape.trans r1.tape,r.out.trans r1.out,m7 r1.dr r.dr⟩
theorem HR.turn(r:HR O I K w0 h w)(hn:h'.next=h.next)(hw:h'.wm=h.wm)(hnone: ∀b,h.get b=none->h'.get b=none)
 (key: ∀b y,h'.get b=some y-> ∃z,h.get b=some z/\(∀L o,BR O I L o z->BR O aa L o y)/\z.isArr=y.isArr):HR O aa K w0 h' w:=by
 refine⟨λb y L hg hb=> ?_,λb b1 y y1 L L1 hg hg1 hb hb1 hne hc=> ?_,λb hb=>r.fresh b (by omega),λb hb=>hnone b (r.fget b (by omega)),r.lt,r.kin,r.keep,λb y L hg hc hb=> ?_,r.size,r.os,r.tape,r.out,r.dr⟩
 .obtain⟨z,z1,z2,_⟩:=key b y hg;exact z2 L _ (r.blk b z L z1 hb)
 .obtain⟨z,z1,_,k1⟩:=key b y hg;obtain⟨z',z1',_,k2⟩:=key b1 y1 hg1;exact r.sep b b1 z z' L L1 z1 z1' hb hb1 hne (by grind)
 .obtain⟨z,z1,_⟩:=key b y hg;exact r.free b z L z1 (by omega) hb
theorem HR.putBack(r:HR O I K w0 h w){m:Nat}{L:Loc}{y:Blk}(hm:m<h.next)(hlim:m<65536)(hL:O m=some L)(hbr:BR O I L w.heap[L.blk]? y)(hsep: ∀b x M,h.get b=some x->b≠m->O b=some M->M.blk≠L.blk)(hf:h.wm<=m-> ¬K L.blk):HR O I K w0 (h.put m (some y)) w:=by
 have hg: ∀b,(h.put m (some y)).get b=if b=m then some y else h.get b:=λb=>by rw[Heap.get_put,e8 hlim]
 refine⟨λb x M hx hb=> ?_,λb b1 x x1 M M1 hx hx1 hb hb1 hne hc=> ?_,r.fresh,λb hb=> ?_,r.lt,r.kin,r.keep,λb x M hx hc hb=> ?_,r.size,r.os,r.tape,r.out,r.dr⟩
 .rw[hg]at hx;by_cases e:b=m
  .grind
  .rw[b9 e]at hx;exact r.blk b x M hx hb
 .rw[hg]at hx hx1;by_cases e:b=m
  .grind
  .rw[b9 e]at hx;by_cases e1:b1=m
   .grind
   .rw[b9 e1]at hx1;exact r.sep b b1 x x1 M M1 hx hx1 hb hb1 hne hc
 .have hb:h.next<=b:=hb
  rw[hg,b9 (by omega)];exact r.fget b hb
 .rw[hg]at hx;by_cases e:b=m
  .simp_all
  .rw[b9 e]at hx;exact r.free b x M hx hc hb
theorem Ep{ops:Array Oper}{o:Oper}{rest:List Oper}(hdrop:ops.toList.drop i=o::rest){u:Value}{ro:Option Nat}(f:dU O I a act)(hg:wz o=true)(hd: ∀c,o.op≠ .defer c)
 (hr:(execOp act.eval o).run E.P w= .ok (.value u) w') (hk:wpOpsIn (gT ro) 0 E.P ops Q (List.range' (i+1) rest.length) (act.put o.dst u) w'):wpOpsIn (gT ro) 0 E.P ops Q (List.range' i (rest.length+1)) act w:=by
 have hlt:i<ops.toList.length:=by
  rcases j9 i ops.toList.length with hh|hh
  .exact hh
  .rw[J8 hh]at hdrop;cases hdrop
 have hcons:=O1 hlt;rw[hdrop]at hcons;obtain⟨e1,e2⟩:=R1 hcons;have hoi:ops[i]? =some o:=by rw[e1];simp[hlt]
 have hw:fp ops.toList a o=some true:=by
  unfold fp;unfold wz at hg;split at hg
  .rename_i hh;rw[hh]
  .cases hg
 show(match ops[i]? with
  |none=>_
  |some o=>_)
 rw[hoi];simp;rw[ba6 f rfl hw];grind[SC]
structure HeadF (sp:LSpec) (a:Fr) (h:Heap):Prop where
 n:(dQ sp a h).h.next=h.next
 wm:(dQ sp a h).h.wm=h.wm
 fg: ∀b,(dQ sp a h).h.next<=b->(dQ sp a h).h.get b=none
 nt:(dQ sp a h).a.nt=a.nt
 pc:(dQ sp a h).a.pc=[]
 ro:(dQ sp a h).a.ro=none
 ds:(dQ sp a h).a.ds=[]
 hi: ∀s,a.nt<=s->(dQ sp a h).a.slot s=a.slot s
 lim:a.nt<=256
 un: ∀s,a.nt<=s->VR O I (a.slot s) Go.undef
theorem d86(hok:xY sp a h n0=true)(r:HR O I K w0 h w)(f:dU O I a act):HeadF (O:=O) (I:=I) sp a h:=by
 obtain⟨hok,o5⟩:=Z1 hok;obtain⟨hok,o4⟩:=Z1 hok;obtain⟨hok,o6⟩:=Z1 hok;obtain⟨hds,hro⟩:=Dr o6;obtain⟨hok,o3⟩:=Z1 hok;obtain⟨hok,o2⟩:=Z1 hok;obtain⟨o0,o1⟩:=Z1 hok;have hlim:=f.lim;have hb1:=LG r f o1;have hJn:(dQ sp a h).h.next=h.next:=PJ _ _
 refine⟨hJn,BZ _ _,λb hb=> ?_,?_,Fr.clear_pc _,?_,?_,λs hs=> ?_,hlim,λs hs=> ?_⟩
 .rw[hJn]at hb;exact xM _ _ h.next hb1.1 (λb hb=>r.fget b hb) b hb
 .show((fw (layDead a sp.dead) sp.head.slots).clear).nt=_;rw[Fr.clear_nt,HZ,rj]
 .show((fw (layDead a sp.dead) sp.head.slots).clear).ro=none;grind[Fr.clear_ro,Kw,Hq]
 .show((fw (layDead a sp.dead) sp.head.slots).clear).ds=[];grind[Fr.clear_ds,JF,JS]
 .show((fw (layDead a sp.dead) sp.head.slots).clear).slot s=_;grind[Fr.clear_slot,Ic,rj,GO]
 .have:=f.slot s id;rw[x7,E4 (by rw[f.size];exact hs)]at this;exact this
theorem Tu{r:List Nat}{s t:List Val}(h:iY step (i::r) s=some t): ∃a b s',s=[a,b]/\step [a,b,.vi i]=some (0,s')/\iY step r s'=some t:=by
 rcases s with _|⟨a,_|⟨b,_|⟨c,s⟩⟩⟩
 .cases h
 .cases h
 .have h:(match step [a,b,.vi i]with
   |some (0,s')=>iY step r s'
   |_=>none)=some t:=h
  grind
 .cases h
theorem Qt{r:List Nat}{a b:Val}{s':List Val}(h:step [a,b,.vi i]=some (0,s')):iY step (i::r) [a,b]=iY step r s':=by
 grind[iY]
theorem PA{step:List Val->Option (Nat×List Val)}: ∀{p q:List Nat} {s t:List Val},iY step (p++q) s=some t-> ∃u,iY step p s=some u/\iY step q u=some t
 | [],q,s,t,h=>⟨s,rfl,h⟩
 |i::p,q,s,t,h=>by
  obtain⟨a,b,s',rfl,h1,h2⟩:=Tu (r:=p++q) h;obtain⟨u,h3,h4⟩:=PA h2;grind[Qt]
theorem YW{step:List Val->Option (Nat×List Val)}{i:Nat}{x y:Val}{s':List Val}(hs:step [x,y,.vi i]=some (0,s')): ∀{p:List Nat} {s:List Val},iY step p s=some [x,y]->iY step (p++[i]) s=some s'
 | [],s,h=>by
   obtain rfl:s=[x,y]:=by simpa[iY]using h
   show iY step [i] _=_;rw[Qt hs];rfl
 |j::p,s,h=>by
  obtain⟨a,b,s1,rfl,h1,h2⟩:=Tu h;show iY step (j::(p++[i])) _=_;rw[Qt h1];exact YW hs h2
theorem cI7{p:List Nat}(hn:p.Nodup)(hp: ∀i∈p,i<n): ∃q,(p++q).Perm (List.range n):=by
 refine⟨(List.range n).filter λi=>decide (i∉p),(I8 ?_ O2).2 λi=> ?_⟩
 .refine R9.2 ⟨hn,O2.filter _,λa ha b hb=> ?_⟩;rintro rfl;have:=(l6.1 hb).2;simp at this;trivial
 grind
theorem cl3{p:List Nat}(hn:p.Nodup)(hp: ∀i∈p,i<n)(ha: ∀i,i<n->i∈p):p.Perm (List.range n):=
 (I8 hn O2).2 λi=>⟨λhi=>r9.2 (hp i hi),λhi=>ha i (r9.1 hi)⟩
theorem dv1{ks vs:List CT}{l idx:SX}{r:Val}(hi:dI I idx=(i:Int))(hr:(dL I l)[i]? =some r):VR O I (Fy ks vs l idx) (.tuple #[(qY ks vs r).1,(qY ks vs r).2]):=by
 have hg: ∀t:Nat,co (dL I l) (dI I idx) t=r.toL.getD t default:=by
  intro t;show((dL I l).getD (dI I idx).toNat (.vl [])).toL.getD (Int.toNat t) default=_;grind
 have hrow:ej (ks++vs) r=(List.range' 0 (ks++vs).length).map λj=>gX ((ks++vs).getD j .bool) (r.toL.getD j default):=by
  grind[ej,List.range_eq_range']
 have e1:(ej (ks++vs) r).take ks.length=(List.range' 0 ks.length).map λj=>gX ((ks++vs).getD j .bool) (r.toL.getD j default):=by
  rw[hrow,<-Q7];grind
 have e2:(ej (ks++vs) r).drop ks.length=(List.range' ks.length vs.length).map λj=>gX ((ks++vs).getD j .bool) (r.toL.getD j default):=by
  rw[hrow,<-Q8];grind
 refine⟨_,rfl,.cons ?_ (.one ?_)⟩
 .have:=IK (O:=O) (I:=I) (ks++vs) l idx ks.length 0;show VR O I _ (kV ((ej (ks++vs) r).take ks.length));grind[Gy]
 .have:=IK (O:=O) (I:=I) (ks++vs) l idx vs.length ks.length;show VR O I _ (kV ((ej (ks++vs) r).drop ks.length));grind[Gy]
structure MOk (mc:MC) (a:Fr) (mo:MO) (t:Nat):Prop where
 o1:mc.o1.op= .next (.tmp t) false
 e1:mc.o1.dst=some mo.d1
 o2:mc.o2.op= .extract (.tmp mo.d1) 0
 e2:mc.o2.dst=some mo.d2
 tk:mc.tok= .tmp mo.d2
 o3:mc.o3.op= .entry (.tmp t)
 e3:mc.o3.dst=some mo.d3
 n1:t≠mo.d1
 n2:t≠mo.d2
 sl:a.slot t= .ptr mo.it 0
 p1:wz mc.o1=true
 p2:wz mc.o2=true
 p3:wz mc.o3=true
 l1:mo.d1<a.nt
 l2:mo.d2<a.nt
theorem d87{mc:MC}{mo:MO}(e:NK mc a=some mo): ∃t,MOk mc a mo t:=by
 unfold NK at e;split at e
 .rename_i t d1 d1' d2 d2' t' d3 h1 h2 h3 h4 h5 h6 h7;replace e:=Z2 e;obtain⟨hc,e1⟩:=e;obtain⟨hc1,c5⟩:=Z1 hc;obtain⟨hc2,c4⟩:=Z1 hc1;obtain⟨hc3,c3⟩:=Z1 hc2;obtain⟨c1,c2⟩:=Z1 hc3;obtain rfl:=Z4.1 c1;obtain rfl:=Z4.1 c2;obtain rfl:=Z4.1 c3;split at e1
  .rename_i it hs;obtain⟨hz,e2⟩:=Z2 e1;obtain⟨hz1,z6⟩:=Z1 hz;obtain⟨hz2,z5⟩:=Z1 hz1;obtain⟨hz3,z4⟩:=Z1 hz2;obtain⟨hz4,z3⟩:=Z1 hz3;obtain⟨z1,z2⟩:=Z1 hz4;simp at e2;subst e2;refine⟨t,h1,h2,h3,h4,h5,h6,h7,?_,?_,hs,z1,z2,z3,fc.1 z4,fc.1 z5⟩
   .rintro rfl;simp at c4
   .rintro rfl;simp at c5
  grind
 .cases e
theorem cI8{mc:MC}(e:BY c=some mc): ∃i1 i2,c= .seq (.region i1 mc.ops1 false) (.seq (.cond mc.tok .skip (.exit mc.xid)) (.block mc.bid (.seq (.region i2 mc.ops2 false) mc.rest)))/\mc.ops1.toList=[mc.o1,mc.o2]/\mc.ops2.toList=mc.o3::mc.r3:=by
 unfold BY at e;grind
theorem cl4{x:Option Blk}(h:GD x=true):x=none:=by
 cases x with
 |none=>rfl
 |some _=>cases h
theorem cI9{es:List SX}(h:Po v0 es=true):es=[.va v0,.va (v0+1)]:=by
 unfold Po at h;split at h
 .simp_all
 .cases h
theorem Lc{v0 nb ob:Nat}{h0:Heap}: ∀{n:Nat},DO v0 nb ob h0 n=true-> ∀s,s<n->Nm v0 nb ob s (h0.get s)=true
 |0,_,s,hs=>by omega
 |n+1,h,s,hs=>by
  simp[DO,j6]at h;by_cases e:s=n
  .grind
  .exact Lc h.2 s (by omega)
theorem bR4{h1 h2:Heap}: ∀{n:Nat},EM h1 h2 n=true-> ∀s,s<n-> ∀x,h1.get s=some x-> ∃y,h2.get s=some y
 |0,_,s,hs,_,_=>by omega
 |n+1,h,s,hs,x,hx=>by
  simp only[EM,j6]at h;by_cases e:s=n
  .subst e;have:=h.1;rw[hx]at this;cases hy:h2.get s with
   |none=>rw[hy]at this;cases this
   |some y=>grind
  .exact bR4 h.2 s (by omega) x hx
theorem Pc{b:Nat}{x:Blk}(h:Nm v0 nb ob b (some x)=true):(b=ob/\ ∃e sig,x= .arr e sig (.va (v0+1)))\/(b≠ob/\AB (v0+1) nb (some x)=true):=by
 unfold Nm at h;cases hb:Nat.beq b ob with
 |true=>
  grind[Z4]
 |false=>
  rw[hb]at h;exact .inr ⟨λhh=>by simp_all,h⟩
theorem Nk{a:Val}{r r':List Val}:Agr (v0+1) (I.upd v0 (a::r)) (I.upd v0 (a::r')):=by
 refine⟨λn hn=> ?_,rfl,rfl,rfl,rfl⟩;simp[Opq.upd];grind
theorem Wk(g:Agr v0 I aa)(hb:Bz v0 nb a a.nt=true)(hpc:a.pc=[])(hds:a.ds=[])(f:dU O I a act):dU O aa a act:=by
 refine⟨f.size,f.lim,λt _=> ?_,?_,λp hp=>by grind⟩
 .have:=f.slot t id;by_cases ht:t<a.nt
  .exact Di g (λ_ _=>rfl) _ _ (OH hb t ht) this
  .rw[x7,E4 (by rw[f.size];omega)]at this⊢;exact yC this
 .have:=f.defers;rw[hds]at this⊢;exact this
theorem dv2{a:Val}{r r':List Val}{b':Val}(hs:DO v0 nb ob h h.next=true)(rr:HR O (I.upd v0 (a::b'::r)) K w0 h w):HR O (I.upd v0 (a::b'::r')) K w0 h w:=by
 refine rr.turn rfl rfl (λ_ hh=>hh) λb y hy=>⟨y,hy,λL o hbr=> ?_,rfl⟩
 have hlt:b<h.next:=by
  rcases j9 b h.next with q|q
  .exact q
  .rw[rr.fget b q]at hy;cases hy
 have:=Lc hs b hlt;rw[hy]at this;rcases Pc this with⟨_,e,sig,rfl⟩|⟨_,hk⟩
 .have e1: ∀q:List Val,dL (I.upd v0 (a::b'::q)) (.va (v0+1))=b'.toL:=λq=>by
   show((I.upd v0 (a::b'::q)).w (v0+1)).toL=_;rw[vO (j:=1) (x:=b') rfl]
  grind[BR]
 .exact VM Nk (λ_ _=>rfl) hk hbr
theorem dv3{a:Val}{D D':List Val}(hp:D'.Perm D)(hs:DO v0 nb ob h h.next=true)(rr:HR O (I.upd v0 [a,.vl D']) K w0 h w):HR O (I.upd v0 [a,.vl D]) K w0 (h.put ob (Hh (h.get ob))) w:=by
 have hg: ∀b,(h.put ob (Hh (h.get ob))).get b=if b=ob then(if ob<65536 then Hh (h.get ob)else none)else h.get b:=λb=>Heap.get_put _ _ _ _
 refine rr.turn rfl rfl (λb hh=> ?_) λb y hy=> ?_
 .rw[hg];by_cases e:b=ob
  .subst e;rw[e8 rfl,hh];split<;>rfl
  grind
 rw[hg]at hy;by_cases e:b=ob
 .subst e;rw[e8 rfl]at hy;split at hy
  .cases hx:h.get b with
   |none=>rw[hx]at hy;cases hy
   |some x=>
    have hob:b<h.next:=by
     rcases j9 b h.next with q|q
     .exact q
     .rw[rr.fget b q]at hx;cases hx
    have:=Lc hs b hob;rw[hx]at this hy;rcases Pc this with⟨_,e,sig,rfl⟩|⟨hne,_⟩
    .simp[Hh,j0]at hy;subst hy;refine⟨_,rfl,λL o hbr=> ?_,rfl⟩;have e1: ∀q:List Val,dL (I.upd v0 [a,.vl q]) (.va (v0+1))=q:=λq=>by
      show((I.upd v0 [a,.vl q]).w (v0+1)).toL=_;rw[vO (j:=1) (x:= .vl q) rfl];rfl
     simp[BR]at hbr⊢;rw[e1]at hbr⊢;exact⟨D',hp,hbr⟩
    trivial
  grind
 .rw[b9 e]at hy;refine⟨y,hy,λL o hbr=> ?_,rfl⟩;have hlt:b<h.next:=by
   rcases j9 b h.next with q|q
   .exact q
   .rw[rr.fget b q]at hy;cases hy
  have:=Lc hs b hlt;rw[hy]at this;rcases Pc this with⟨q,_⟩|⟨_,hk⟩
  .omega
  .exact VM Nk (λ_ _=>rfl) hk hbr
theorem Qq{d:Nat}{v:Value}(h:d<act.tmps.size):(act.put (some d) v).eval (.tmp d)=v:=by
 show(act.tmps.setIfInBounds d v).getD d Go.undef=v;simp_all
theorem aZ7{d t:Nat}{v:Value}(h:t≠d):(act.put (some d) v).eval (.tmp t)=act.eval (.tmp t):=by
 show(act.tmps.setIfInBounds d v).getD t Go.undef=act.tmps.getD t Go.undef;simp_all[x7,O0,b9,Ne.symm]
theorem c48{Es:Array MapEntry}{seen:Array Nat}(h:(leftOf Es seen).size=0): ∀e∈Es.toList,e.born∈seen.toList:=by
 grind[leftOf,Array.eq_empty_of_size_eq_zero,Array.filter_eq_empty_iff]
theorem cJ0{Es:Array MapEntry}{seen:Array Nat}{e:MapEntry}(h:e∈(leftOf Es seen).toList):e∈Es.toList/\e.born∉seen.toList:=by
 unfold leftOf at h;simp only[Array.toList_filter,l6]at h;refine⟨h.1,?_⟩;have:=h.2;simpa using this
set_option maxHeartbeats 1000000 in
theorem cl6{Ω:Opq->Prop}(an: ∀I v0 l,Ω I->Ω (I.upd v0 l))(ae:Ω I)(hk: ∀aa,Ω aa->oR E aa n)(ho: ∀aa,Ω aa->wp E aa n){R:Type}{A:Alg R}{T:R->Prop}(hA:AlgOk A T I)
 {mc:MC} (hmc:BY c=some mc) {h hs:Heap} (hn0:n0=hs.next) {k:Ex->Fr->Heap->R} {mo:MO} {m:Nat} {d:Bool} {ks vs:List CT} {lm:SX} {x:Ex×StP}
 (hmo:NK mc (dQ sp a h).a=some mo) (hg1:h.get mo.it=some (.mit m)) (hg2:h.get m=some (.mrg mo.it d ks vs lm)) (hxs:x∈sp.exits)
 (he:T (KZ (ev E n) A n0 k sp a h mc mo m ob d ks vs lm x)) {K:Nat->Prop} {w0:World} {O ah:cq} {w:World} (r:HR O I K w0 h w) (f:dU O I a act) (st0:St hs ah h O) (q:tM T I K w0 hs ah none k Q):rW (gT none) E.P c Q act w:=by
 unfold KZ at he;split at he
 rotate_left
 .exact absurd he hA.bad
 rename_i xid hx1;cases hcnd:(Nat.beq xid mc.xid&&Ka sp a h n0 mo m ob lm&&Nat.blt m x.2.next&&MB sp mo ob a h x.2)with
 |false=>rw[hcnd]at he;exact absurd he hA.bad
 |true=>
 rw[hcnd]at he;obtain⟨hc3,hend⟩:=Z1 hcnd;obtain⟨hc2,hmx⟩:=Z1 hc3;obtain⟨hc1,hlive⟩:=Z1 hc2;obtain rfl:=Z4.1 hc1;rw[fc]at hmx;split at he
 rotate_left
 .exact absurd he hA.bad
 rename_i s0 s1 hs0;cases hsub:EM (kF sp (gD sp.id (s0::s1::sp.fv)) a h x.2).h (dQ sp a h).h x.2.next with
 |false=>rw[hsub]at he;exact absurd he hA.bad
 |true=>
 rw[hsub]at he;obtain⟨D,xk,hmap,hlink,hk0,hT⟩:=hA.mloop _ _ _ _ he;simp at hk0;subst hk0;obtain⟨hl1,g12⟩:=Z1 hlive;obtain⟨hl2,g11⟩:=Z1 hl1;obtain⟨hl3,g10⟩:=Z1 hl2;obtain⟨hl4,g9⟩:=Z1 hl3;obtain⟨hl5,g8⟩:=Z1 hl4;obtain⟨hl6,g7⟩:=Z1 hl5;obtain⟨hl7,g6⟩:=Z1 hl6;obtain⟨hl8,g5⟩:=Z1 hl7;obtain⟨hl9,g4⟩:=Z1 hl8;obtain⟨hl10,g3⟩:=Z1 hl9;obtain⟨g1,g2⟩:=Z1 hl10;rw[cW]at g2 g3 g5;rw[fc]at g4 g6;replace g7:=cl4 g7;replace g8:=cl4 g8;have hd:=d86 g1 r f;rw[<-hd.n]at g10 g12;have m0:=FW hs0;have f1:=m0.fr hd.pc (λs hs=>⟨_,rfl,by rw[hd.hi s hs];exact hd.un s hs⟩) f;have r1:=m0.hr hd.fg r;obtain⟨t,mk⟩:=d87 hmo;obtain⟨i1,i2,rfl,hop1,hop2⟩:=cI8 hmc;have hnn:n0<=h.next:=by rw[hn0];exact st0.le
 have hsl:=f1.slot t id;rw[mk.sl]at hsl;obtain⟨L,hLc,_⟩:=hsl;have hL:O mo.it=some L:=by
  simp only[cq.cut]at hLc;split at hLc
  .exact hLc
  .cases hLc
 obtain⟨hoff,Lm,hLm,hobj⟩:=r.blk mo.it _ L hg1 hL;obtain⟨Es,cl,Li,hmobj,hLi,hext,hrows,hborn⟩:=r.blk m _ Lm hg2 hLm;rw[hL,j0]at hLi;subst hLi;subst hext;have hne:Lm.blk≠L.blk:=by intro e;rw[e,hobj]at hmobj;cases hmobj
 have hKL: ¬K L.blk:=r.free mo.it _ L hg1 g3 hL;have hpre: ∀b y,(dQ sp a h).h.get b=some y-> ∃z,h.get b=some z:=by
  intro b y hy;have hb:b<(dQ sp a h).h.next:=by
   rcases j9 b (dQ sp a h).h.next with hh|hh
   .exact hh
   .rw[hd.fg b hh]at hy;cases hy
  obtain⟨n',es',h1,_⟩:=m0.hp (λ_ _=>True) (λ_ _ _=>trivial) b hb;rw[hy]at h1;simp[sH]at h1;split at h1
  .rename_i z hz;exact⟨z,hz⟩
  .cases h1
 have hsep0: ∀b y M,(dQ sp a h).h.get b=some y->O b=some M->M.blk≠L.blk/\M.blk≠Lm.blk:=by
  intro b y M hy hb;obtain⟨z,hz⟩:=hpre b y hy;exact⟨r.sep b mo.it z _ M L hz hg1 hb hL (by rintro rfl;rw[g7]at hy;cases hy) (.inr (.inr (.inr rfl))),
   r.sep b m z _ M Lm hz hg2 hb hLm (by rintro rfl;rw[g8]at hy;cases hy) (.inr (.inr (.inr rfl)))⟩
 have hlen:Es.toList.length=(dL I lm).length:=by
  have:=congrArg List.length hrows;simpa using this
 have hnd:(Es.toList.map (·.born)).Nodup:=hborn.1.imp (λh=>P6 h);have hold: ∀y∈Es.toList,y.born<L.ext:=hborn.2.1;have hlm: ∀l,dL (I.upd sp.v0 l) lm=dL I lm:=λl=>by unfold dL;rw[qy (EE I sp.v0 l) lm g9]
 have hbi: ∀i,i<(dL I lm).length-> ∃e,Es.toList[i]? =some e/\(Es.toList.map (·.born)).getD i 0=e.born:=by
  intro i hi;have hi':i<Es.toList.length:=by rw[hlen];exact hi
  refine⟨Es.toList[i],l7 hi',?_⟩;rw[j8,B0,l7 hi'];rfl
 have hinj: ∀i j,i<(dL I lm).length->j<(dL I lm).length->(Es.toList.map (·.born)).getD i 0=(Es.toList.map (·.born)).getD j 0->i=j:=by
  intro i j hi hj hh;have hi':i<(Es.toList.map (·.born)).length:=by rw[k6,hlen];exact hi
  have hj':j<(Es.toList.map (·.born)).length:=by rw[k6,hlen];exact hj
  rw[j8,j8,l7 hi',l7 hj']at hh;exact(List.getElem_inj hnd).1 hh
 obtain⟨hm1,hm2⟩:=hmap;have main: ∀(j:Nat) (p:List Nat) (s:List Val),(dL I lm).length<=p.length+j->p.Nodup->(∀i∈p,i<(dL I lm).length)->
  iY (λus=>Z0 (ds4 (ev E n) sp mc a h ((((dQ sp a h).a.put (some mo.d1) .any).put (some mo.d2) (.bool true)).put (some mo.d3) (Fy ks vs lm (.va (sp.v0+2))))) (I.upd sp.v0 us)) p (ck I [s0,s1])=some s->
  ∀(ak:cq) (act1:Act) (w1:World) (seen:Array Nat),dU ak (I.upd sp.v0 s) (dQ sp a h).a act1->HR ak (I.upd sp.v0 s) K w0 (dQ sp a h).h w1->(∀b,b<n0->ak b=O b)->
   (∀b y M,(dQ sp a h).h.get b=some y->ak b=some M->M.blk≠L.blk/\M.blk≠Lm.blk)->w1.heap[L.blk]? =some (.mapIter (some Lm.blk) L.ext seen L.ext)->w1.heap[Lm.blk]? =some (.map Es L.ext)->
   seen.toList=p.map (λi=>(Es.toList.map (·.born)).getD i 0)->rW (gT none) E.P (.seq (.region i1 mc.ops1 false) (.seq (.cond mc.tok .skip (.exit mc.xid)) (.block mc.bid (.seq (.region i2 mc.ops2 false) mc.rest)))) Q act1 w1:=by
  intro j;induction j using Nat.strongRecOn with
  |ind j ih=>
  intro p s hj hpn hpl hrun ak act1 w1 seen f1 r1 aB hsep1 hit hmp hseen;have aG:ak mo.it=some L:=(aB _ g6).trans hL;have hLm1:ak m=some Lm:=(aB _ g4).trans hLm;have hval:act1.eval (.tmp t)= .pointer (some ⟨L.blk,0,none⟩):=by
   have:=f1.slot t id;rw[mk.sl]at this;obtain⟨L',hL',hv⟩:=this;rw[aG,j0]at hL';subst hL';show act1.tmps.getD t Go.undef=_;rw[hv,hoff]
  have nd1: ∀c,mc.o1.op≠ .defer c:=λc hc=>by rw[mk.o1]at hc;cases hc
  have nd2: ∀c,mc.o2.op≠ .defer c:=λc hc=>by rw[mk.o2]at hc;cases hc
  have nd3: ∀c,mc.o3.op≠ .defer c:=λc hc=>by rw[mk.o3]at hc;cases hc
  refine JC (wpIn_seq (wpIn_region ?_));rw[J7,show mc.ops1.size=[mc.o2].length+1 by rw[<-Array.length_toList,hop1];rfl];rcases run_next_at (P:=E.P) w1 mc.o1.type L.blk Lm.blk L.ext L.ext seen Es L.ext hit hmp hold (e9 _)with⟨hz,hnx⟩|⟨e,hem,w2,hw2,hnx⟩
  .
   have hr1:(execOp act1.eval mc.o1).run E.P w1= .ok (.value (.tuple #[.bool false])) w1:=by
    unfold execOp;rw[mk.o1];simp only[Sem.run_bind,hval,hnx];rfl
   have f2:=FrP.put' f1 (some mo.d1) (v:= .tup [.bool false]) (u:= .tuple #[.bool false]) ⟨_,rfl,.one rfl⟩;refine Ep (i:=0) (by trivial) f1 mk.p1 nd1 hr1 ?_;rw[mk.e1];have hx1v:(act1.put (some mo.d1) (.tuple #[.bool false])).eval (.tmp mo.d1)= .tuple #[.bool false]:=by
    have:=f2.slot mo.d1 id;rw[Fr.put_slot f1.lim,e8 ⟨rfl,mk.l1⟩]at this;obtain⟨xs,hxs,hv⟩:=this;show(act1.put (some mo.d1) (.tuple #[.bool false])).tmps.getD mo.d1 Go.undef=_;rw[hxs];obtain⟨v1,vr,hv1,hv2,hv3⟩:=hv;obtain rfl:vr=[]:=hv3;subst hv2;congr 1;exact Array.ext' (by trivial)
   have hr2:(execOp (act1.put (some mo.d1) (.tuple #[.bool false])).eval mc.o2).run E.P w1= .ok (.value (.bool false)) w1:=by
    unfold execOp;rw[mk.o2];simp only[Sem.run_bind,hx1v];rfl
   have f3:=FrP.put' f2 (some mo.d2) (v:= .bool false) (u:= .bool false) rfl;refine Ep (i:=1) (rest:=[]) (by rw[hop1];rfl) f2 mk.p2 nd2 hr2 ?_;rw[mk.e2];refine wpIn_seq (wpIn_cond_false ?_ (wpIn_exit ?_))
   .rw[mk.tk];exact Qq (by rw[f2.size,Fr.put_nt];exact mk.l2)
   have hfull:p.Perm (List.range (dL I lm).length):=cl3 hpn hpl λi hi=>by
    obtain⟨e,he1,he2⟩:=hbi i hi;have:=c48 hz e (I1 he1);rw[hseen]at this;obtain⟨i',hi',hh⟩:=j7.1 this;rw[<-he2]at hh;rw[<-hinj i' i (hpl i' hi') hi hh];exact hi'
   obtain⟨D',hD1,hD2⟩:=hm2 p hfull;obtain rfl:=S0 (hrun.symm.trans hD1);have hlenD:D'.length=D.length:=hD2.length_eq;rw[hlenD]at f3 r1;have hpcA:(uk sp mo a h).pc=[]:=by unfold uk;rw[Fr.put_pc,Fr.put_pc,hd.pc]
   have hdsA:(uk sp mo a h).ds=[]:=by unfold uk;rw[Fr.put_ds,Fr.put_ds,hd.ds]
   have hntA:(uk sp mo a h).nt=a.nt:=by unfold uk;rw[Fr.put_nt,Fr.put_nt,hd.nt]
   have f4:=Wk (a:=uk sp mo a h) (aa:=I.upd sp.v0 [.vi D.length,.vl D]) (v0:=sp.v0+1) Nk (by rw[hntA];exact g11) hpcA hdsA f3;have r4:=dv3 hD2 g12 r1;unfold MB at hend;split at hend
   rotate_left
   .cases hend
   rename_i es hes;obtain rfl:=cI9 hend;obtain⟨b1,b2,b3,b4⟩:=ZJ hn0 g1 r f st0 hxs (s0:=[s0,s1]) (i:=0) (p:=[.vi D.length,.vl D]) hlink [.vi D.length,.vl D] ak _ _ _ w1 _ hes (by
    simp only[ck,bZ];rw[show(I.upd sp.v0 [Val.vi D.length,.vl D]).w sp.v0= .vi D.length from vO (j:=0) rfl,vO (j:=1) (x:= .vl D) rfl]) f4 r4 aB
   rw[hx1]at hT;have hon:(kF sp (gD sp.id ([s0,s1]++sp.fv)) a h x.2).h.next=x.2.next:=Heap.next_upto _ _
   refine q (.exit mc.xid) _ _ (ak.cut x.2.next) _ w1 hT b1 b2 (b3.putBack (L:=Lm) (by exact hmx) (Heap.get_lim _ _ _ hg2) (by simp only[cq.cut];rw[e8 hmx];exact hLm1) ⟨Es,_,hmp,hrows,hborn⟩ (λb y M hy hbm hb=> ?_) (λhw=> ?_)) ⟨b4.le,b4.ext,λb hb hn=> ?_,b4.wm⟩
   .simp only[cq.cut]at hb;split at hb
    .rename_i hlt;obtain⟨z,hz⟩:=bR4 hsub b hlt y hy;exact(hsep1 b z M hz hb).2
    .cases hb
   .exact r.free m _ Lm hg2 (by rw[st0.wm,<-b4.wm];exact hw) hLm
   .have:b≠m:=by
     rintro rfl;rw[<-st0.ext b hb,hLm]at hn;cases hn
    rw[Heap.get_put,b9 this];exact b4.unm b hb hn
  .
   obtain⟨heE,heS⟩:=cJ0 hem;obtain⟨i,hi,hei⟩:=B3 heE;have hiN:i<(dL I lm).length:=by rw[<-hlen];exact hi
   have hbe:(Es.toList.map (·.born)).getD i 0=e.born:=by
    obtain⟨e',he1,he2⟩:=hbi i hiN;rw[l7 hi,j0]at he1;rw[he2,<-he1,hei]
   have hip:i∉p:=λhh=>heS (by rw[hseen];exact j7.2 ⟨i,hh,hbe⟩)
   have hpn':(p++[i]).Nodup:=by
    refine R9.2 ⟨hpn,by simp,λx hx y hy=> ?_⟩;rintro rfl;rw[n5]at hy;subst hy;exact hip hx
   have hpl': ∀x∈p++[i],x<(dL I lm).length:=λx hx=>by
    rcases z8.1 hx with hh|hh
    .exact hpl x hh
    .rw[n5]at hh;subst hh;exact hiN
   obtain⟨q',hq'⟩:=cI7 hpn' hpl';have hj1:1<=j:=by
    have:=hq'.length_eq;simp at this;omega
   obtain⟨Dq,hDq,_⟩:=hm2 _ hq';obtain⟨u1,hu1,_⟩:=PA hDq;obtain⟨u0,hu0,hu3⟩:=PA hu1;obtain rfl:=S0 (hrun.symm.trans hu0);obtain⟨xa,xb,s2,rfl,hstep,_⟩:=Tu hu3;have hw2h:w2.heap=w1.heap:=by rcases hw2 with rfl|rfl<;>rfl
   have hLlt:L.blk<w1.heap.size:=r1.lt _ _ aG;generalize hw3:ChangeMaps.setBlock w2 L.blk (.mapIter (some Lm.blk) L.ext (seen.push e.born) L.ext)=w3 at hnx;have hw3L:w3.heap[L.blk]? =some (.mapIter (some Lm.blk) L.ext (seen.push e.born) L.ext):=by
    rw[<-hw3];show(w2.heap.setIfInBounds L.blk _)[L.blk]? =_;rw[O0,e8 rfl,e8 (by rw[hw2h];exact hLlt)]
   have hw3o: ∀b,b≠L.blk->w3.heap[b]? =w1.heap[b]? :=by
    intro b hb;rw[<-hw3];show(w2.heap.setIfInBounds L.blk _)[b]? =_;rw[O0,b9 (Ne.symm hb),hw2h]
   have hw3s:w3.heap.size=w1.heap.size:=by
    rw[<-hw3];show(w2.heap.setIfInBounds L.blk _).size=_;rw[Array.size_setIfInBounds,hw2h]
   have hw3d:w3.os=w1.os/\w3.tape=w1.tape/\w3.output=w1.output/\w1.drawn<=w3.drawn:=by
    rw[<-hw3];rcases hw2 with rfl|rfl
    .exact⟨rfl,rfl,rfl,e9 _⟩
    .exact⟨rfl,rfl,rfl,Nat.le_succ _⟩
   have r2:HR ak (I.upd sp.v0 [xa,xb]) K w0 (dQ sp a h).h w3:=by
    refine⟨λb y M hg hb=> ?_,r1.sep,r1.fresh,r1.fget,λb M hb=>by rw[hw3s];exact r1.lt b M hb,r1.kin,λz hz=> ?_,r1.free,by rw[hw3s];exact r1.size,hw3d.1.trans r1.os,hw3d.2.1.trans r1.tape,hw3d.2.2.1.trans r1.out,m7 r1.dr hw3d.2.2.2⟩
    .rw[hw3o _ (hsep1 b y M hg hb).1];exact r1.blk b y M hg hb
    .rw[hw3o z (by rintro rfl;exact hKL hz)];exact r1.keep z hz
   have r3:=dv2 (r:=[]) (r':=[.vi i]) g12 r2;have r4:HR ak (I.upd sp.v0 [xa,xb,.vi i]) (λz=>K z\/z=L.blk\/z=Lm.blk) w3 (dQ sp a h).h w3:=by
    refine r3.freeze (λz hz=> ?_) (λb y M hg hw hb hz=> ?_)
    .rcases hz with hz|rfl|rfl
     .exact x9 (r3.kin z hz) r3.size
     .exact r3.lt _ _ aG
     .exact r3.lt _ _ hLm1
    .rcases hz with hz|hz|hz
     .exact r3.free b y M hg hw hb hz
     .exact(hsep1 b y M hg hb).1 hz
     .exact(hsep1 b y M hg hb).2 hz
   have f2:=Wk (aa:=I.upd sp.v0 [xa,xb,.vi i]) (v0:=sp.v0+1) Nk (by rw[hd.nt];exact g10) hd.pc hd.ds f1;have hr1:(execOp act1.eval mc.o1).run E.P w1= .ok (.value (.tuple #[.bool true,e.key,e.val])) w3:=by
    unfold execOp;rw[mk.o1];simp only[Sem.run_bind,hval,hnx];rfl
   have f3:=FrP.put' f2 (some mo.d1) (v:= .any) (u:= .tuple #[.bool true,e.key,e.val]) trivial;refine Ep (i:=0) (by trivial) f1 mk.p1 nd1 hr1 ?_;rw[mk.e1];have hr2:(execOp (act1.put (some mo.d1) (.tuple #[.bool true,e.key,e.val])).eval mc.o2).run E.P w3= .ok (.value (.bool true)) w3:=by
    unfold execOp;rw[mk.o2];simp[Sem.run_bind,Qq (act:=act1) (d:=mo.d1) (v:= .tuple #[.bool true,e.key,e.val]) (by rw[f1.size];exact mk.l1)];rfl
   have f4:=FrP.put' f3 (some mo.d2) (v:= .bool true) (u:= .bool true) rfl;refine Ep (i:=1) (rest:=[]) (by rw[hop1];rfl) f3 mk.p2 nd2 hr2 ?_;rw[mk.e2];refine wpIn_seq (wpIn_cond_true ?_ (wpIn_skip ?_))
   .rw[mk.tk];exact Qq (by rw[f3.size,Fr.put_nt];exact mk.l2)
   refine wpIn_block (wpIn_seq (wpIn_region ?_));rw[J7,show mc.ops2.size=mc.r3.length+1 by rw[<-Array.length_toList,hop2];rfl];have hev:((act1.put (some mo.d1) (.tuple #[.bool true,e.key,e.val])).put (some mo.d2) (.bool true)).eval (.tmp t)= .pointer (some ⟨L.blk,0,none⟩):=by
    rw[aZ7 mk.n2,aZ7 mk.n1];exact hval
   have hr3:(execOp ((act1.put (some mo.d1) (.tuple #[.bool true,e.key,e.val])).put (some mo.d2) (.bool true)).eval mc.o3).run E.P w3= .ok (.value (.tuple #[e.key,e.val])) w3:=by
    unfold execOp;rw[mk.o3];simp[Sem.run_bind,hev];rw[run_entry_at w3 L.blk Lm.blk L.ext seen Es L.ext e hw3L ((hw3o _ hne).trans hmp) heE hnd];rfl
   have hrow: ∃row,(dL I lm)[i]? =some row/\qY ks vs row=(e.key,e.val):=by
    have h1:=congrArg (λl=>l[i]?) hrows;simp[B0,l7 hi,hei,Option.map_some]at h1;cases hh:(dL I lm)[i]? with
    |none=>rw[hh]at h1;cases h1
    |some row=>
     rw[hh,Option.map_some,j0]at h1;exact⟨row,rfl,h1.symm⟩
   obtain⟨row,Nr,Jt⟩:=hrow;have hvE:VR ak (I.upd sp.v0 [xa,xb,.vi i]) (Fy ks vs lm (.va (sp.v0+2))) (.tuple #[e.key,e.val]):=by
    have:=dv1 (O:=ak) (I:=I.upd sp.v0 [xa,xb,.vi i]) (ks:=ks) (vs:=vs) (l:=lm) (idx:= .va (sp.v0+2)) (i:=i) (by
     show((I.upd sp.v0 [xa,xb,.vi i]).w (sp.v0+2)).toI=_;rw[vO (j:=2) (x:= .vi i) rfl];rfl) (by rw[hlm];exact Nr)
    rw[Jt]at this;exact this
   have f5:=FrP.put' f4 (some mo.d3) hvE;refine Ep (i:=0) (by trivial) f4 mk.p3 nd3 hr3 ?_;rw[mk.e3];have aC:=an I sp.v0 [xa,xb,.vi i] ae;have hro3:((((dQ sp a h).a.put (some mo.d1) .any).put (some mo.d2) (.bool true)).put (some mo.d3) (Fy ks vs lm (.va (sp.v0+2)))).ro=none:=by
    rw[Fr.put_ro,Fr.put_ro,Fr.put_ro,hd.ro]
   refine ho _ aC iP lJ (oH (I.upd sp.v0 [xa,xb,.vi i]) (0,s2)) (vC _ _) mc.ops2 mc.r3 (0+1) _ _ _ (by rw[hop2];rfl) ⟨[],mD,hstep⟩ _ w3 ak _ w3 none _ r4 f5 (by rw[hro3];exact rfl) ?_;intro a4 h4 aJ act4 w4 hT4 hf4 hr4' hst4;refine hk _ aC iP lJ (oH (I.upd sp.v0 [xa,xb,.vi i]) (0,s2)) (vC _ _) mc.rest (a4.back none) h4 (Lb mc.bid (wn sp a h)) hT4 _ w3 aJ act4 w4 none _ hr4' (hf4.back none) (by exact rfl) ?_;intro e5 a5 h5 aL act5 w5 hT5 _ hf5 hr5 hst5;have fin:oH (I.upd sp.v0 [xa,xb,.vi i]) (0,s2) (wn sp a h .norm a5 h5)->rW (gT none) E.P (.seq (.region i1 mc.ops1 false) (.seq (.cond mc.tok .skip (.exit mc.xid)) (.block mc.bid (.seq (.region i2 mc.ops2 false) mc.rest)))) Q act5 w5:=by
    rintro⟨_,_,hke⟩;obtain⟨hnd5,hke⟩:=Hs hke;obtain⟨hf6,_,_⟩:=hf5.norms hnd5;obtain⟨ap,cv⟩:=KA (sp:=sp) hf6 hr5;simp[DV]at hke;split at hke
    .rename_i es hes;simp[Z0,j0,A3,true_and]at hke;have mm:=FW hes;have hnt':(iZ sp (fH sp.owns a5 h5).2 h5).1.nt=a.nt:=by rw[<-mm.nt,hd.nt]
     have k1:=mm.fr hd.pc (λs hs=>⟨_,rfl,by rw[hd.hi s (by rw[<-hnt'];exact hs)];exact yC (hd.un s (by rw[<-hnt'];exact hs))⟩) cv.fr;have k2:=mm.hr hd.fg cv.hr;rw[hke,QO]at k1 k2;have hown: ∀b,b<n0-> ¬ ∃o∈sp.owns,b=o.blk:=by
      rintro b hb ⟨o,hm,rfl⟩;have g1':=g1;obtain⟨g1',_⟩:=Z1 g1';obtain⟨g1',_⟩:=Z1 g1';obtain⟨g1',_⟩:=Z1 g1';obtain⟨g1',_⟩:=Z1 g1';obtain⟨g1',_⟩:=Z1 g1';obtain⟨o0,_⟩:=Z1 g1';rw[k8]at o0;have:=cW.1 (o0 o hm);omega
     have az: ∀b,b<n0->ap b=O b:=λb hb=>by
      have hbn:b<(dQ sp a h).h.next:=by rw[hd.n];omega
      exact((cv.bij b (hown b hb)).trans (hst5.ext b (x9 hbn hst4.le))).trans ((hst4.ext b hbn).trans (aB b hb))
     have aH: ∀b,b<n0->(ap.cut (dQ sp a h).h.next) b=O b:=λb hb=>by
      simp[cq.cut];rw[e8 (by rw[hd.n];omega)];exact az b hb
     refine ih (j-1) (by omega) (p++[i]) s2 (by simp;omega) hpn' hpl' (YW hstep hrun) _ act5 w5 (seen.push e.born) k1 (HR.thaw r3 (λz hz=> .inl hz) k2) aH (λb y M hy hb=> ?_) ((hr5.keep _ (.inr (.inl rfl))).trans hw3L) ((hr5.keep _ (.inr (.inr rfl))).trans ((hw3o _ hne).trans hmp)) (by rw[N3,hseen,n8];simp only[l9,O3];rw[hbe]);by_cases hbn:b<n0
     .rw[aH b hbn]at hb;exact hsep0 b y M hy hb
     .have:=k2.free b y M hy (by rw[hd.wm];omega) hb;exact⟨λe=>this (.inr (.inl e)),λe=>this (.inr (.inr e))⟩
    trivial
   have bad: ∀ex,ex≠ .norm-> ¬oH (I.upd sp.v0 [xa,xb,.vi i]) (0,s2) (wn sp a h ex a5 h5):=by
    rintro ex hex ⟨_,_,hke⟩;have no: ∀e',Z0 (tX sp a h e' (iZ sp (fH sp.owns a5 h5).2 h5).1 (iZ sp (fH sp.owns a5 h5).2 h5).2 sp.exits 0) (I.upd sp.v0 [xa,xb,.vi i])=some (0,s2)->False:=by
     intro e' hh;obtain⟨i',x',es,q1,_⟩:=Lo _ _ hh;omega
    cases ex with
    |norm=>trivial
    |exit id=>exact no _ (Hs hke).2
    |ret=>exact no _ (Hs hke).2
   cases e5 with
   |norm=>exact fin hT5
   |ret=>exact absurd hT5 (bad .ret (by intro hh;cases hh))
   |exit i5=>
    replace hT5:oH _ _ (bif Nat.beq i5 mc.bid then wn sp a h .norm a5 h5 else wn sp a h (.exit i5) a5 h5):=hT5;show if i5=mc.bid then _ else _
    by_cases hi5:i5=mc.bid
    .rw[e8 hi5];rw[Z4.2 hi5]at hT5;exact fin hT5
    .rw[Bp hi5]at hT5;exact absurd hT5 (bad (.exit i5) (by intro hh;cases hh))
 refine main _ [] _ (S1 (m9 _).symm) .nil (λi hi=>(by cases hi)) rfl (O.cut (dQ sp a h).h.next) act w #[] f1 r1 (λb hb=>by simp only[cq.cut];rw[e8 (by rw[hd.n];omega)]) (λb y M hy hb=>hsep0 b y M hy (by
  simp only[cq.cut]at hb;split at hb
  .exact hb
  .cases hb)) hobj hmobj rfl
theorem cl7{R:Type}{A:Alg R}{T:R->Prop}(hA:AlgOk A T I){h:Heap}{k:Ex->Fr->Heap->R}(he:T (Fe (ev E n) A n0 k sp a h (BY c))): ∀o∈sp.owns,n0<=o.blk:=by
 unfold Fe at he;split at he
 .rename_i mc hmc;unfold Si at he;split at he
  .rename_i mo hmo;split at he
   .rename_i m hg1;unfold OD at he;split at he
    .rename_i it' d ks vs lm o hg2 hown;cases hit:Nat.beq it' mo.it with
     |false=>rw[hit]at he;exact absurd he hA.bad
     |true=>
      rw[hit]at he;split at he
      .rename_i x hex;intro o' ho';rw[hown,n5]at ho';subst ho';unfold KZ at he;split at he
       .rename_i xid _;cases hcnd:(Nat.beq xid mc.xid&&Ka (Ee sp mo.it m o'.blk lm) a h n0 mo m o'.blk lm&&Nat.blt m x.2.next&&MB (Ee sp mo.it m o'.blk lm) mo o'.blk a h x.2)with
        |false=>rw[hcnd]at he;exact absurd he hA.bad
        |true=>
         have h1:=(Z1 (Z1 (Z1 hcnd).1).1).2;unfold Ka at h1;simp_all
       .exact absurd he hA.bad
      .exact absurd he hA.bad
    .exact absurd he hA.bad
   .exact absurd he hA.bad
  .exact absurd he hA.bad
 .exact absurd he hA.bad
theorem cJ1{Ω:Opq->Prop}(an: ∀I v0 l,Ω I->Ω (I.upd v0 l))(ae:Ω I)(hk: ∀aa,Ω aa->oR E aa n)(ho: ∀aa,Ω aa->wp E aa n){R:Type}{A:Alg R}{T:R->Prop}(hA:AlgOk A T I)
 {h hs:Heap} (hn0:n0=hs.next) {k:Ex->Fr->Heap->R}
 (he:T (Fe (ev E n) A n0 k sp a h (BY c))) {K:Nat->Prop} {w0:World} {O ah:cq} {w:World} (r:HR O I K w0 h w) (f:dU O I a act) (st0:St hs ah h O) (q:tM T I K w0 hs ah none k Q):rW (gT none) E.P c Q act w:=by
 unfold Fe at he;split at he
 .rename_i mc hmc;unfold Si at he;split at he
  .rename_i mo hmo;split at he
   .rename_i m hg1;unfold OD at he;split at he
    .rename_i it' d ks vs lm o hg2 hown;cases hit:Nat.beq it' mo.it with
     |false=>rw[hit]at he;exact absurd he hA.bad
     |true=>
      rw[hit]at he;obtain rfl:=Z4.1 hit;split at he
      .rename_i x hex;exact cl6 an ae hk ho hA hmc hn0 (sp:=Ee sp mo.it m o.blk lm) (x:=x) hmo hg1 hg2 (by grind) he r f st0 q
      .exact absurd he hA.bad
    .exact absurd he hA.bad
   .exact absurd he hA.bad
  .exact absurd he hA.bad
 .exact absurd he hA.bad
end Go.Ev
namespace Go.Ev
open Go
variable{n:Nat}{O:cq}{Ω:Opq->Prop}{K:Nat->Prop}{w0:World}{ro:Option Nat}{Q:Exit->Act->World->Prop}
variable{E:Env}{I:Opq}
theorem bF4(an: ∀I v0 l,Ω I->Ω (I.upd v0 l))(ae:Ω I)(hk: ∀aa,Ω aa->oR E aa n)(hops: ∀aa,Ω aa->wp E aa n){R:Type}{A:Alg R}{T:R->Prop}(hA:AlgOk A T I){c:Code}{a:Fr}{h:Heap}{k:Ex->Fr->Heap->R}{sp:LSpec}
 (he:T (Su (ev E n) A c a h k sp)) {act:Act} {w:World} (r:HR O I K w0 h w) (f:dU O I a act) (hR:yg O a.ro ro) (q:tM T I K w0 h O a.ro k Q):rW (gT ro) E.P c Q act w:=by
 obtain⟨hpl,hnd,he⟩:sS a=true/\dB I (fH sp.owns a h).1=true/\T (Ua (ev E n) A c h.next k sp (iZ sp (fH sp.owns a h).2 (h.upto (Nat.add h.next sp.owns.length)))):=by
  unfold Su at he;cases hp:sS a with
  |false=>rw[hp]at he;exact absurd he hA.bad
  |true=>rw[hp]at he;exact⟨rfl,hA.needA _ _ he⟩
 obtain⟨_,hro⟩:=Dr hpl;rw[hro]at hR q;obtain rfl:ro=none:=hR;obtain⟨f,-⟩:=f.norms hnd;generalize (fH sp.owns a h).2=a at he f;obtain⟨ac,cv⟩:=KA (sp:=sp) f (r.upto (n:=Nat.add h.next sp.owns.length) (E6 _ _));unfold Ua at he;cases hmp:sp.mapr with
 |true=>
  rw[hmp]at he;have ho:=cl7 hA he;refine cJ1 an ae hk hops hA rfl he cv.hr cv.fr ⟨?_,λb hb=>cv.bij b ?_,λb hb hn=> ?_,?_⟩ q
  .rw[cv.next,Heap.next_upto];grind
  .grind
  .rcases cv.get b with e|e|⟨o,hm,rfl⟩|e
   .exact .inl (e.trans (Heap.get_upto _ _ _))
   .exact .inr (.inl e)
   .have:=ho o hm;omega
   grind
  .rw[cv.wm,Heap.wm_upto]
 |false=>
 rw[hmp]at he;have ho: ∀o∈sp.owns,h.next<=o.blk:=by
  have he':=he;unfold LX at he';cases hok:xY sp (iZ sp a (h.upto (Nat.add h.next sp.owns.length))).1 (iZ sp a (h.upto (Nat.add h.next sp.owns.length))).2 h.next with
  |false=>rw[hok]at he';exact absurd he' hA.bad
  |true=>
   unfold xY at hok;simp_all
 refine(cI6 an ae hk hA rfl he cv.hr cv.fr ⟨?_,λb hb=>cv.bij b ?_,λb hb hn=> ?_,?_⟩ q)
 .rw[cv.next,Heap.next_upto];grind
 .grind
 .rcases cv.get b with e|e|⟨o,hm,rfl⟩|e
  .exact .inl (e.trans (Heap.get_upto _ _ _))
  .exact .inr (.inl e)
  .have:=ho o hm;omega
  grind
 .rw[cv.wm,Heap.wm_upto]
theorem lg.append{as:List ADef}{ds:List Deferred}: ∀{bs:List ADef} {es:List Deferred} {O:cq},lg O I bs es->lg O I as ds->lg O I (bs++as) (es++ds)
 | [],es,O,h,q=>by rw[show es=[]from h];exact q
 |b::bs,es,O,⟨d,dr,e,h1,h2⟩,q=>by rw[e];exact⟨d,dr++ds,rfl,h1,lg.append h2 q⟩
theorem cl8(an: ∀I v0 l,Ω I->Ω (I.upd v0 l))(ae:Ω I)(hE:E.Ok I)(hm:E.P.follows .mixedOrders=true)(hc: ∀m,m<=n->yx E I m)(hk2: ∀aa,Ω aa->oR E aa n)(hl:ML E I n)(ho:wp E I n):oR E I (n+1):=by
 intro R A T hA c a h k he K w0 O act w ro Q r f hR q;have hk1:oR E I n:=hk2 I ae;cases c with
 |skip=>exact wpIn_skip (q .norm a h O act w he rfl f r (.refl _ _))
 |label l=>exact wpIn_label (q .norm a h O act w he rfl f r (.refl _ _))
 |ret=>exact wpIn_ret (q .ret a h O act w he rfl f r (.refl _ _))
 |exit id=>exact wpIn_exit (q (.exit id) a h O act w he rfl f r (.refl _ _))
 |rangeFunc g ps assign body=>exact absurd (by assumption) hA.bad
 |seq x y=>
  refine wpIn_seq (hk1 R A T hA x a h _ he K w0 O act w ro _ r f hR ?_);intro e a' h' ac act' w' hke hro hf hr hst;cases e with
  |norm=>exact hk1 R A T hA y a' h' k hke K w0 ac act' w' ro Q hr hf (by rw[hro];exact hR.mono (hst.Le r)) (by rw[hro];exact q.later hst)
  |exit id=>exact q (.exit id) a' h' ac act' w' hke hro hf hr hst
  |ret=>exact q .ret a' h' ac act' w' hke hro hf hr hst
 |cond c x y=>
  have he:T (PL (ev E n) A x y a h k (a.ev c)):=he;have go: ∀(b:Bool) (a':Fr),a'.ro=a.ro->dU O I a' act->act.eval c= .bool b->T (ev E n R A (.code (bif b then x else y) a' h k))->(Code.cond c x y).wpIn (gT ro) 0 E.P Q act w:=by
   intro b a' hro f' hv he';refine wpIn_cond hv ?_;have:=hk1 R A T hA _ a' h k he' K w0 O act w ro Q r f' (by rw[hro];exact hR) (by rw[hro];exact q);grind
  unfold PL at he;split at he
  .rename_i b hb;have hv:=f.opR c _ hb;simp[VR]at hv;grind
  .rename_i e hb;have hv:=f.opR c _ hb;simp[VR]at hv;unfold YH at he;split at he
   .rename_i b hp;exact go b a rfl f (by rw[hv,PP f.pcs hp]) he
   .obtain⟨h1,h2⟩:=hA.ite _ _ _ he;cases hd:dB I e with
    |true=>exact go true _ (Fr.cond_ro _ _) (f.cond hd) (by grind) (h1 hd)
    |false=>exact go false _ (Fr.cond_ro _ _) (f.cond hd) (by grind) (h2 hd)
  .exact absurd he hA.bad
 |block id b=>
  refine wpIn_block (hk1 R A T hA b a h _ he K w0 O act w ro _ r f hR ?_);intro e a' h' ac act' w' hke hro hf hr hst;cases e with
  |norm=>exact q .norm a' h' ac act' w' hke hro hf hr hst
  |ret=>exact q .ret a' h' ac act' w' hke hro hf hr hst
  |exit i=>
   simp[Lb]at hke;show if i=id then _ else _
   by_cases hi:i=id
   .rw[e8 hi];rw[Z4.2 hi]at hke;exact q .norm a' h' ac act' w' hke hro hf hr hst
   .rw[b9 hi];rw[Bp hi]at hke;exact q (.exit i) a' h' ac act' w' hke hro hf hr hst
 |loop b=>
  exact ck7 (hl R A T hA b a h k he K w0 O act w ro Q r f hR q)
 |scope b=>
  refine c47 (hk1 R A T hA b a h k he K w0 O act w ro _ r f hR ?_);intro e a' h' ac act' w' hke hro hf hr hst;cases e<;>exact q _ a' h' ac act' w' hke hro hf hr hst
 |region id ops draw=>
  cases draw with
  |false=>
   refine wpIn_region ?_;have:=ho R A T hA ops ops.toList 0 a h (EL a.ro k) rfl he K w0 O act w ro Q r f hR (λa' h' ac act' w' g1 g2 g3 g4=>q .norm _ h' ac act' w' g1 (Fr.back_ro _ _) (g2.back _) g3 g4);grind[List.range_eq_range']
  |true=>
   have he:T (ds8 (ev E n) A ops.toList a h k (HV ops.toList)):=he;cases hp:HV ops.toList with
   |none=>rw[hp]at he;exact absurd he hA.bad
   |some rr=>
    rw[hp]at he;obtain⟨l,pk⟩:=d77 hp;refine wpIn_region_any hm ?_;have hno: ∀i,¬eI (Array.replicate ops.size false) i:=by
     intro i hi;unfold eI at hi;simp[x7,U9]at hi;split at hi<;>simp at hi
    refine d82 hA (hs:=h) (ah:=O) hE pk (N:=n) (λm hmn=>hc m (by omega)) (k:=EL a.ro k) (λa' h' ac act' w' g1 g2 g3 g4=>q .norm _ h' ac act' w' g1 (Fr.back_ro _ _) (g2.back _) g3 g4)
     ops.size n 0 rr [] a h (λ_=>0) _ O act _ (e9 _) he ?_ ?_
    .refine⟨r.drew,.refl _ _,by simp,λx _ hx=>absurd hx (hno _),λx _ hx=>absurd hx (hno _),λx _ hx=>by simp at hx,pk.eager,pk.rl,λx hx _=>pk.lr x hx,?_,λx _ hx=>by simp at hx,λx _ y _ hx=>by simp at hx⟩;exact f.weaken λ_ hh=>hh.elim
    grind[left,Nat.le_trans,List.length_filter_le]
 |_=>exact absurd he hA.bad
theorem cl9(an: ∀I v0 l,Ω I->Ω (I.upd v0 l))(ae:Ω I)(hk2: ∀aa,Ω aa->oR E aa n)(hops: ∀aa,Ω aa->wp E aa n)(hk1:oR E I n)(hl:ML E I n):ML E I (n+1):=by
 intro R A T hA c a h k he K w0 O act w ro Q r f hR q;have he:T (ds7 (ev E n) A c a h k (E.lspec a.fn (Ai c) a h)):=he;cases hsp:E.lspec a.fn (Ai c) a h with
 |some sp=>
  rw[hsp]at he;exact bF4 an ae hk2 hops hA he r f hR q
 |none=>
  rw[hsp]at he;refine JC (hk1 R A T hA c a h _ he K w0 O act w ro _ r f hR ?_);intro e a' h' ac act' w' hke hro hf hr hst;cases e with
  |norm=>exact hl R A T hA c a' h' k hke K w0 ac act' w' ro Q hr hf (by rw[hro];exact hR.mono (hst.Le r)) (by rw[hro];exact q.later hst)
  |exit id=>exact q (.exit id) a' h' ac act' w' hke hro hf hr hst
  |ret=>exact q .ret a' h' ac act' w' hke hro hf hr hst
end Go.Ev
