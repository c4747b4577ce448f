import Derived.Test.YtipefnncbnbliaaGreatE26b
import Derived.Scope
import Derived.RangeFuncLeaves
import Derived.Maps.RangeRun
set_option linter.unusedSimpArgs false
set_option linter.unusedVariables false
namespace Go.Ev
open Go
variable{O:bY}{c:Code}{act:Act}{h:Heap}{Q:Exit->Act->World->Prop}{K:Nat->Prop}{w0:World}
variable{E:Env}{I:Opq}
def pC(F:Fence)(P:Program)(c:Code)(Q:Exit->Act->World->Prop)(a:Act)(w:World):Prop:=
 ∀(b:Frame) (k:List Item) (cs:List Frame),b.roundOf=F.round->F.fn b.fn->F.room (cs.length+1+0)->
  ∃e a' w',Q e a' w'/\ArrivesIn (Machine.fenced P F) P (lone (b.atR a (.code c:: .inLoop c::k)) cs w) b k cs e a' w'
theorem cp8{F:Fence}{P:Program}{a:Act}{w:World}(h:pC F P c Q a w):(Code.loop c).wpIn F 0 P Q a w:=by
 intro b k cs hro hb hr;obtain⟨e,a',w',hq,harr⟩:=h b k cs hro hb hr;exact⟨e,a',w',hq,.of_steps (.one (fenced_calm hb hr rfl) stepR_loop) harr⟩
theorem Jb{F:Fence}{P:Program}{a:Act}{w:World}(h:c.wpIn F 0 P (Exit.then (pC F P c Q) Q) a w):pC F P c Q a w:=by
 intro b k cs hro hb hr;obtain⟨e,a₁,w₁,hq,harr⟩:=h b (.inLoop c::k) cs hro hb hr;cases e with
 |normal=>
  obtain⟨e₂,a₂,w₂,hq₂,harr₂⟩:=hq b k cs hro hb hr;exact⟨e₂,a₂,w₂,hq₂,.of_steps (StepsIn.trans harr (.one (fenced_calm hb hr rfl) stepR_inLoop)) harr₂⟩
 |exit id=>exact⟨_,a₁,w₁,hq,.pass (x:= .inLoop c) rfl (λ_ _=> .inl (by simp)) harr⟩
 |goto l=>exact⟨_,a₁,w₁,hq,.pass (x:= .inLoop c) rfl (λ_ _=> .inl (by simp)) harr⟩
 |ret=>exact⟨_,a₁,w₁,hq,.pass (x:= .inLoop c) rfl (λ_ _=> .inl (by simp)) harr⟩
 |panic ch=>exact⟨_,a₁,w₁,hq,.pass (x:= .inLoop c) rfl (λ_ _=> .inl (by simp)) harr⟩
 |outgrown=>exact⟨_,a₁,w₁,hq,.pass (x:= .inLoop c) rfl (λ_ _=> .inl (by simp)) harr⟩
section scope
variable{P:Program}{b:Frame}{a:Act}{k:List Item}{cs:List Frame}{w:World}
theorem Ay:step P (lone (b.atR a (.code (.scope c)::k)) cs w)= .next (lone (b.atR a (.code c:: .inScope c::k)) cs w):=
 step_lone_go (by rfl)
theorem bh5:step P (lone (b.atR a (.inScope c::k)) cs w)= .next (lone (b.atR a k) cs w):=
 step_lone_go (by rfl)
theorem c77{F:Fence}{n:Nat}(h:c.wpIn F n P (Exit.noGoto Q) a w):(Code.scope c).wpIn F n P Q a w:=by
 intro b k cs hro hb hr;have h0:(lone (b.atR a (.code (.scope c)::k)) cs w).fenced P F:=fenced_calm hb hr rfl;obtain⟨e,a₁,w₁,hq,harr⟩:=h b (.inScope c::k) cs hro hb hr;cases e with
 |normal=>exact⟨.normal,a₁,w₁,hq,.head h0 Ay (StepsIn.trans harr (.one (fenced_calm hb hr rfl) bh5))⟩
 |exit id=>
  have hx:exitTo id (.inScope c::k)=exitTo id k:=by rfl
  exact⟨.exit id,a₁,w₁,hq,λk' hk=> .head h0 Ay (harr.1 k' (by grind)),
   λhr' hk=>let ⟨k₁,h1,h2⟩:=harr.2 hr' (by grind);⟨k₁,h1,.head h0 Ay h2⟩⟩
 |goto l=>exact hq.elim
 |ret=>exact⟨_,a₁,w₁,hq,.of_steps (.one h0 Ay) harr⟩
 |panic ch=>exact⟨_,a₁,w₁,hq,.of_steps (.one h0 Ay) harr⟩
 |outgrown=>exact⟨_,a₁,w₁,hq,.of_steps (.one h0 Ay) harr⟩
end scope
def MP(E:Env)(I:Opq)(n:Nat):Prop:= ∀(R:Type) (A:Alg R) (T:R->Prop),AlgOk A T I-> ∀(c:Code) (a:Fr) (h:Heap) (k:Ex->Fr->Heap->R),T (ev E n R A (.loop c a h k))->
 ∀(K:Nat->Prop) (w0:World) (O:bY) (act:Act) (w:World) (ro:Option Nat) (Q:Exit->Act->World->Prop),HR O I K w0 h w->du O I a act->uf O a.ro ro->rI T I K w0 h O a.ro k Q->pC (fL ro) E.P c Q act w
def uF(E:Env)(I:Opq)(n:Nat):Prop:= ∀(R:Type) (A:Alg R) (T:R->Prop),AlgOk A T I-> ∀(ops:Array Oper) (rest:List Oper) (i:Nat) (a:Fr) (h:Heap) (k:Fr->Heap->R),ops.toList.drop i=rest->T (ev E n R A (.ops ops.toList rest a h k))->
 ∀(K:Nat->Prop) (w0:World) (O:bY) (act:Act) (w:World) (ro:Option Nat) (Q:Exit->Act->World->Prop),HR O I K w0 h w->du O I a act->uf O a.ro ro->
  (∀a' h' ac act' w',T (k a' h')->du ac I a' act'->HR ac I K w0 h' w'->St h O h' ac->Q .normal act' w')->wpOpsIn (fL ro) 0 E.P ops Q (List.range' i rest.length) act w
def DZ(E:Env)(I:Opq)(n:Nat):Prop:= ∀(R:Type) (A:Alg R) (T:R->Prop),AlgOk A T I-> ∀(f:FuncId) (args:List AV) (h:Heap) (k:AV->Heap->R),T (ev E n R A (.body f args h k))->
 ∀(K:Nat->Prop) (w0:World) (O:bY) (w:World) (us:List Value),HR O I K w0 h w->cj O I args us->
  Calls E.P f us.toArray w (λe w'=> ∃u ac v h',e= .returned u/\T (k v h')/\VR ac I v u/\HR ac I K w0 h' w'/\St h O h' ac)
def TN(E:Env)(I:Opq)(n:Nat):Prop:= ∀(R:Type) (A:Alg R) (T:R->Prop),AlgOk A T I-> ∀(f:FuncId) (args:List AV) (h:Heap) (k:AV->Heap->R),T (ev E n R A (.dbody f args h k))->
 ∀(K:Nat->Prop) (w0:World) (O:bY) (w:World) (us:List Value) (m:FrameMode),HR O I K w0 h w->cj O I args us->
  CallsDIn Fence.wide 0 E.P f us.toArray m w (λe m' w'=>m'=m/\ ∃u ac v h',e= .returned u/\T (k v h')/\VR ac I v u/\HR ac I K w0 h' w'/\St h O h' ac)
def Ih(E:Env)(I:Opq)(n:Nat):Prop:= ∀(R:Type) (A:Alg R) (T:R->Prop),AlgOk A T I-> ∀(fn:Func) (a:Fr) (ds:List ADef) (h:Heap) (k:AV->Heap->R),T (ev E n R A (.leave fn.results.toList a ds h k))->
 ∀(K:Nat->Prop) (w0:World) (O:bY) (act:Act) (w:World) (dd:List Deferred),HR O I K w0 h w->du O I a act->jw O I ds dd->
  LeavesInM Fence.wide 0 E.P fn act.tmps (λe w'=> ∃u ac v h',e= .returned u/\T (k v h')/\VR ac I v u/\HR ac I K w0 h' w'/\St h O h' ac) dd .returning w
theorem FrP.put'{a:Fr}(f:du O I a act)(dst:Option Tmp){v:AV}{u:Value}(r:VR O I v u):du O I (a.put dst v) (act.put dst u):=
 (FrP.put f dst r).weaken λ_ hh=>hh.1
theorem cN5(hE:E.Ok I){n:Nat}(hc:yo E I n)(ho:uF E I n):uF E I (n+1):=by
 intro R A T hA ops rest i a h k hdrop he K w0 O act w ro Q r f hR hk;cases rest with
 |nil=>exact hk a h O act w he f r (.refl _ _)
 |cons o rest=>
  have hlt:i<ops.toList.length:=by
   grind[Nat.lt_or_ge,List.drop_eq_nil_of_le]
  have hcons:=R6 hlt;rw[hdrop]at hcons;obtain⟨e1,e2⟩:=N7 hcons;have hoi:ops[i]? =some o:=by grind
  have hd2:ops.toList.drop (i+1)=rest:=e2.symm;have he:T (dx4 E (ev E n) A ops.toList rest o a h k (eF ops.toList a o)):=he;cases hw:eF ops.toList a o with
  |none=>
   rw[hw]at he;replace he:T (ci4 (ev E n) A ops.toList (o::rest) a h k (uJ ops.toList a o)):=he;cases hs:uJ ops.toList a o with
   |none=>rw[hs]at he;exact absurd he hA.bad
   |some e=>
    rw[hs]at he;obtain⟨h1,h2⟩:=hA.ite _ _ _ he;cases hd:dB I e with
    |true=>exact ho R A T hA ops (o::rest) i _ h k hdrop (h1 hd) K w0 O act w ro Q r (f.cond hd) (by grind[Fr.cond_ro]) hk
    |false=>exact ho R A T hA ops (o::rest) i _ h k hdrop (h2 hd) K w0 O act w ro Q r (f.cond hd) (by grind[Fr.cond_ro]) hk
  |some b=>
   rw[hw]at he;show(match ops[i]? with
    |none=>_
    |some o=>_)
   rw[hoi];simp;rw[bb1 f rfl hw];cases b with
   |false=>
    exact⟨λ_ _=>trivial,ho R A T hA ops rest (i+1) _ h k hd2 he K w0 O _ w ro Q r (f.put' o.dst ⟨#[],rfl,rfl⟩) (by grind[Fr.put_ro]) hk⟩
   |true=>
    have fin: ∀res,fa E a.ev o h=res->cO E O I K w0 w h (execOp act.eval o) res->T (KM (ev E n) A h (kOp (ev E n) A ops.toList rest o.dst a k) res)->
     o.wpIn (fL ro) 0 E.P act w (wpOpsIn (fL ro) 0 E.P ops Q (List.range' (i+1) rest.length)) Q:=by
     intro res hres hs he;refine ZE hA hc r hres hs he ?_;intro ac v u h' w' hkk hv hr' hst';exact ho R A T hA ops rest (i+1) _ h' k hd2 hkk K w0 ac _ w' ro Q hr' ((f.mono (hst'.Le r)).put' o.dst hv) (by rw[Fr.put_ro];exact hR.mono (hst'.Le r)) λa2 h2 an act2 w2 g1 g2 g3 g4=>hk a2 h2 an act2 w2 g1 g2 g3 (hst'.trans g4)
    replace he:T (QA (ev E n) A ops.toList rest o.dst a h k (fa E a.ev o h)):=he;have hs:=bt7 hE r f.opR o;generalize hres:fa E a.ev o h=res at he hs;cases res with
    |defer d=>
     obtain⟨dd,hrun,hd⟩:=hs;simp[QA]at he;cases hro:a.ro with
     |some l=>rw[hro]at he;exact absurd he hA.bad
     |none=>
      rw[hro]at he hR;obtain rfl:ro=none:=hR;refine⟨λ_ _=>trivial,?_⟩;show Oper.uponIn (fL none) 0 E.P o act _ Q ((execOp act.eval o).run E.P w);rw[hrun,Oper.uponIn_defer];exact ho R A T hA ops rest (i+1) _ h k hd2 he K w0 O _ w none Q r (FrP.put' (f.mark1 hd) o.dst ⟨#[],rfl,rfl⟩) (by rw[Fr.put_ro,Fr.mark_ro,hro];rfl) hk
    |val v h'=>exact fin _ hres hs he
    |need e v h'=>exact fin _ hres hs he
    |cho e v l h'=>exact fin _ hres hs he
    |enter g args=>exact fin _ hres hs he
    |choice l=>exact fin _ hres hs he
    |yield l args=>exact fin _ hres hs he
    |bad=>exact fin _ hres hs he
theorem PI(I:Opq)(v0:Nat)(a b:List Val):(I.upd v0 a).upd v0 b=I.upd v0 b:=by
 simp_all[Opq.upd,e8,b9]
theorem xZ: ∀(l:List (Nat×Option Blk)) (h:Heap) (n:Nat),(∀p∈l,p.1<n)->(∀b,n<=b->h.get b=none)-> ∀b,n<=b->(gJ h l).get b=none
 | [],h,n,_,hh,b,hb=>hh b hb
 |(t,v)::r,h,n,hl,hh,b,hb=>by
  refine xZ r _ n (λp hp=>hl p (.tail _ hp)) (λb hb=> ?_) b hb;have:=hl (t,v) (.head _);rw[Heap.get_put,b9 (by omega)];grind
theorem Xc{O:bY}{a:Fr}{act:Act}(f:du O I a act){b:Nat}: ∀(n:Nat),Mr a b n=true->O b≠none
 |0,h=>by cases h
 |n+1,h=>by
  simp[Mr,s7]at h;rcases h with h|h
  .have r:=f.slot n id;split at h
   .rename_i b' o hs;rw[hs]at r;obtain⟨L,hL,_⟩:=r;simp_all
   .rename_i b' hs;rw[hs]at r;obtain⟨L,hL,_⟩:=r;simp_all
   .cases h
  .exact Xc f n h
theorem NF{O:bY}{q:AV->Bool}: ∀{as:List AV} {us:List Value},cj O I as us->as.any q=true-> ∃a u,q a=true/\VR O I a u
 | [],_,_,h=>by cases h
 |a::as,_,hr,h=>by
  obtain⟨u,ur,rfl,h1,h2⟩:=hr;rw[List.any_cons,s7]at h;rcases h with h|h
  .grind
  .exact NF h2 h
theorem Vw{w:World}(r:HR O I K w0 h w){b:Nat}{av:AV}{u:Value}(h1:KX b h av=true)(h2:VR O I av u):O b≠none:=by
 unfold KX at h1;split at h1
 .rename_i c o;obtain⟨L,hL,_⟩:=h2;unfold Vj at h1;split at h1
  .rename_i e0 fz cs hg;obtain⟨C,lo,hi,vs,q1,q2,q3,q4,q5,q6⟩:=r.blk c _ L hg hL;obtain⟨m,v,h3,h4⟩:=NF q5 h1;unfold Yv at h3;split at h3
   .obtain⟨M,hM,_⟩:=h4;obtain rfl:=Z1.1 h3;rw[hM];simp
   .cases h3
  .cases h1
 grind
theorem ZT{O:bY}{K:Nat->Prop}{w0 w:World}{a:Fr}{h:Heap}{act:Act}(r:HR O I K w0 h w)(f:du O I a act){b:Nat}: ∀(n:Nat),Lc a h b n=true->O b≠none
 |0,e=>by cases e
 |n+1,e=>by
  simp[Lc,s7]at e;rcases e with e|e
  .have rs:=f.slot n id;split at e
   .rename_i fn x l hs;rw[hs]at rs;obtain⟨_,_,_,_,_,hc⟩:=rs;grind[NF,Vw]
   .grind[Vw]
   .cases e
  .exact ZT r f n e
theorem Ib{w:World}{a:Fr}{n0:Nat}(r:HR O I K w0 h w)(f:du O I a act){next:Nat}{l:List (Nat×Option Blk)}(e:Lr a h n0 next l=true):(∀p∈l,p.1<next)/\ ∀p∈l,p.1<n0->O p.1≠none\/ ∃e sig x,h.get p.1=some (.arr e sig x):=by
 unfold Lr at e;rw[k6]at e;refine⟨λp hp=> ?_,λp hp hlt=> ?_⟩
 .have:=(W5 (e p hp)).1;simp_all
 .have:=(W5 (e p hp)).2;rw[s7,s7,s7,Z5]at this;grind[Xc,dv5,ZT]
theorem OU{v0 nb:Nat}{a:Fr}: ∀{n:Nat},zQ v0 nb a n=true-> ∀s,s<n->fj v0 nb (a.slot s)=true
 |0,_,s,hs=>by omega
 |n+1,h,s,hs=>by
  simp[zQ,j7]at h;by_cases e:s=n
  .grind
  .exact OU h.2 s (by omega)
theorem cq1{v0 nb:Nat}{h0:Heap}: ∀{n:Nat},Jm v0 nb h0 n=true-> ∀s,s<n->zY v0 nb (h0.get s)=true
 |0,_,s,hs=>by omega
 |n+1,h,s,hs=>by
  simp[Jm,j7]at h;by_cases e:s=n
  .grind
  .exact cq1 h.2 s (by omega)
theorem RO{ac:bY}{I aa:Opq}{v0 nb:Nat}(g:Agr v0 I aa)(hb: ∀b,b<nb->ac b=O b){L:Loc}{o:Option Obj}{x:Blk}(h:zY v0 nb (some x)=true)(r:BR O I L o x):BR ac aa L o x:=by
 cases x with
 |cells e fz cs=>
  obtain⟨C,lo,hi,vs,q1,q2,q3,q4,q5,q6,q7,q8⟩:=r;exact⟨C,lo,hi,vs,q1,q2,q3,q4,Bc g hb cs vs h q5,q6,q7,by rw[g.fix];exact q8⟩
 |arr e sig l=>
  obtain⟨C,e',lo,hi,q1,q0,q2,q3,q4,q5⟩:=r;have hd:dL aa l=dL I l:=by unfold dL;rw[qw g l h]
  exact⟨C,e',lo,hi,q1,q0,q2,by grind,by grind,q5⟩
 |map es c=>
  obtain⟨Es,q1,q2⟩:=r;exact⟨Es,q1,LY g hb h q2⟩
 |marr d ks vs l=>
  obtain⟨Es,c,q1,q2,q3⟩:=r;exact⟨Es,c,q1,by rw[show dL aa l=dL I l by unfold dL;rw[qw g l h]];exact q2,q3⟩
 |bag e sig l=>
  obtain⟨D,q,r⟩:=r;exact⟨D,by rw[show dL aa l=dL I l by unfold dL;rw[qw g l h]];exact q,r⟩
 |_=>cases h
theorem Ky{sp:LSpec}{a a':Fr}{h h':Heap}{e:Ex}{m:Nat}{p:List Val}: ∀(l:List (Ex×StP)) (j:Nat),W7 (rS sp a h e a' h' l j) I=some (m,p)->
 ∃i x es,m=j+i+1/\l[i]? =some x/\Az x.1 e=true/\sG sp.v0 (gN sp a h x.2).a (gN sp a h x.2).h a' h'=some es/\p=Z6 I es
 | [],j,he=>by grind[rS,W7]
 |x::r,j,he=>by
  have tail:W7 (rS sp a h e a' h' r (j+1)) I=some (m,p)-> ∃i y es,m=j+i+1/\(x::r)[i]? =some y/\Az y.1 e=true/\sG sp.v0 (gN sp a h y.2).a (gN sp a h y.2).h a' h'=some es/\p=Z6 I es:=by
   intro hh;obtain⟨i,y,es,h1,h2,h3⟩:=Ky r (j+1) hh;exact⟨i+1,y,es,by omega,by grind,h3⟩
  simp[rS]at he;cases hx:Az x.1 e with
  |false=>grind
  |true=>
   rw[hx]at he;simp at he;split at he
   .rename_i es hes;simp[W7,j0,A7]at he;exact⟨0,x,es,by omega,rfl,hx,hes,he.2.symm⟩
   grind
theorem cN6: ∀{a b:Ex},Az a b=true->a=b
 | .norm,.norm,_=>rfl
 | .ret,.ret,_=>rfl
 | .exit a,.exit b,h=>by grind[Az,Z1]
 | .norm,.ret,h=>by cases h
 | .norm,.exit _,h=>by cases h
 | .ret,.norm,h=>by cases h
 | .ret,.exit _,h=>by cases h
 | .exit _,.norm,h=>by cases h
 | .exit _,.ret,h=>by cases h
theorem du.norm1{I:Opq}{o:OwnP}{a:Fr}(f:du O I a act)(hd:dB I (oK o a h).1=true):du O I (oK o a h).2 act/\(oK o a h).2.nt=a.nt/\(oK o a h).2.pc=a.pc/\(oK o a h).2.ds=a.ds/\(oK o a h).2.ro=a.ro:=by
 unfold oK at hd⊢;split
 .rename_i r len s ho hs;simp_all;split
  .rename_i e sig l hg;simp_all;cases hq:(Nat.beq r o.blk||SX.beq len (.op .llen [l]))with
   |true=>exact⟨f,rfl,rfl,rfl,rfl⟩
   |false=>
    rw[hq]at hd;simp at hd⊢;have hlen:dI I len=dI I (.op .llen [l]):=j6 hd;refine⟨⟨by rw[Fr.put_nt];exact f.size,by rw[Fr.put_nt];exact f.lim,λt w=> ?_,by rw[Fr.put_ds];exact f.defers,λp hp=>f.pcs p (by rw[Fr.put_pc]at hp;exact hp)⟩,Fr.put_nt _ _ _,Fr.put_pc _ _ _,Fr.put_ds _ _ _,Fr.put_ro _ _ _⟩;have:=f.slot t w;rw[Fr.put_slot f.lim];by_cases ht:some o.slot=some t/\t<a.nt
    .rw[e8 ht];obtain⟨e1,_⟩:=ht;simp at e1;subst e1;rw[hs]at this;simp[VR]at this⊢;rw[<-hlen];exact this
    .rw[b9 ht];exact this
  .exact⟨f,rfl,rfl,rfl,rfl⟩
 grind
theorem du.norms{I:Opq}{O:bY}{h:Heap}{act:Act}: ∀{os:List OwnP} {a:Fr},du O I a act->dB I (eS os a h).1=true->du O I (eS os a h).2 act/\(eS os a h).2.nt=a.nt/\(eS os a h).2.pc=a.pc/\(eS os a h).2.ds=a.ds/\(eS os a h).2.ro=a.ro
 | [],a,f,_=>⟨f,rfl,rfl,rfl,rfl⟩
 |o::r,a,f,hd=>by
  simp[eS]at hd⊢;have hd2:dB I (oK o a h).1=true/\dB I (eS r (oK o a h).2 h).1=true:=by
   unfold gZ at hd;split at hd
   .rename_i e1;rw[e1];exact⟨rfl,hd⟩
   .split at hd
    .rename_i e2;rw[e2];exact⟨hd,rfl⟩
    .have:dB I (.op .and [(oK o a h).1,(eS r (oK o a h).2 h).1])=true:=hd;exact W5 this
  obtain⟨f1,e1,e2,e3,e4⟩:=f.norm1 hd2.1;obtain⟨f2,g1,g2,g3,g4⟩:=du.norms f1 hd2.2;exact⟨f2,g1.trans e1,g2.trans e2,g3.trans e3,g4.trans e4⟩
theorem FV{I:Opq}{e:SX}{x:VT}{p:Nat×List Val}(h:W7 (Ju e x) I=some p):dB I e=true/\W7 x I=some p:=by
 unfold Ju at h;cases hs:BG e with
 |true=>grind[VQ]
 |false=>
  rw[hs]at h;simp[cond_false,W7]at h;grind
theorem cq2{a:Fr}{hs:Heap}{n0:Nat}(hn0:n0=hs.next){sp:LSpec}(hok:ya sp a h n0=true){ah:bY}{w:World}(r:HR O I K w0 h w)(f:du O I a act)(st0:St hs ah h O)
 {s0:List SX} {xp:Ex×StP} (hxm:xp∈sp.exits) {i:Nat} {p:List Val} (hlink:I.f sp.id (Z6 I (s0++sp.fv))=cr (i,p)):
 ∀(vs:List Val) (ac:bY) (a':Fr) (h':Heap) (act':Act) (w':World) (es:List SX),sG sp.v0 (gN sp a h xp.2).a (gN sp a h xp.2).h a' h'=some es->Z6 (I.upd sp.v0 vs) es=p->
  du ac (I.upd sp.v0 vs) a' act'->HR ac (I.upd sp.v0 vs) K w0 h' w'->(∀b,b<n0->ac b=O b)->
  (ke sp (fO sp.id (s0++sp.fv)) a h xp.2).a.ro=none/\du (ac.cut xp.2.next) I (ke sp (fO sp.id (s0++sp.fv)) a h xp.2).a act'/\HR (ac.cut xp.2.next) I K w0 (ke sp (fO sp.id (s0++sp.fv)) a h xp.2).h w'/\St hs ah (ke sp (fO sp.id (s0++sp.fv)) a h xp.2).h (ac.cut xp.2.next):=by
 obtain⟨hok,o5⟩:=W5 hok;obtain⟨hok,o4⟩:=W5 hok;obtain⟨hok,o6⟩:=W5 hok;obtain⟨hds,hro⟩:=Cq o6;obtain⟨hok,o3⟩:=W5 hok;obtain⟨hok,o2⟩:=W5 hok;obtain⟨o0,o1⟩:=W5 hok;have hnn:n0<=h.next:=by rw[hn0];exact st0.le
 rw[k6]at o2;have hlim:=f.lim;have hb1:=Ib r f o1;have hbase: ∀s,a.nt<=s->((fc sp a h).a.slot s=a.slot s):=by
  intro s hs;show(layDead (layDead a sp.dead) _).slot s=_;rw[Ha _ _ (by rw[pI];exact hlim) s (by rw[pI];exact hs),Ha _ _ hlim s hs]
 have hundef: ∀s,a.nt<=s->VR O I (a.slot s) Go.undef:=by
  intro s hs;have:=f.slot s id;rw[s9,C5 (by rw[f.size];exact hs)]at this;exact this
 have hXpc:(gN sp a h xp.2).a.pc=[]:=Fr.clear_pc _;have hBnt:(fc sp a h).a.nt=a.nt:=by
  show(layDead (layDead a sp.dead) _).nt=_;rw[pI,pI]
 have hXnt:(gN sp a h xp.2).a.nt=a.nt:=by
  show((eM (fc sp a h).a xp.2.slots).clear).nt=_;rw[Fr.clear_nt,CX,hBnt]
 have hBds:(fc sp a h).a.ds=[]:=by
  show(layDead (layDead a sp.dead) _).ds=_;rw[Nf,Nf];exact hds
 have hBro:(fc sp a h).a.ro=none:=by
  show(layDead (layDead a sp.dead) _).ro=_;rw[Hv,Hv];exact hro
 have hXds:(gN sp a h xp.2).a.ds=[]:=by
  show((eM (fc sp a h).a xp.2.slots).clear).ds=_;rw[Fr.clear_ds,JH,hBds]
 have hXhi: ∀s,a.nt<=s->(gN sp a h xp.2).a.slot s=a.slot s:=by
  intro s hs;show((eM (fc sp a h).a xp.2.slots).clear).slot s=_;rw[Fr.clear_slot,Hp _ _ (by rw[hBnt];exact hlim) s (by rw[hBnt];exact hs),hbase s hs]
 have o2x:=W5 (o2 xp hxm);have hnx:h.next<=xp.2.next:=Z5.1 o2x.1
 have hb2:=Ib r f o2x.2;have hBfg: ∀b,h.next<=b->(fc sp a h).h.get b=none:=by
  intro b hb;refine xZ _ _ h.next (λp hp=> ?_) (λb hb=>r.fget b hb) b hb
  obtain⟨p',hp',rfl⟩:=j8.1 hp;exact hb1.1 p' hp'
 have hXfg: ∀b,(gN sp a h xp.2).h.next<=b->(gN sp a h xp.2).h.get b=none:=by
  intro b hb;exact xZ _ _ xp.2.next hb2.1 (λb hb=>hBfg b (by omega)) b hb
 intro vs ac a' h' act' w' es hes hp hf hr ap;have m:=Hx hes;have hnt':a'.nt=a.nt:=by rw[<-m.nt,hXnt]
 have g1:=m.fr hXpc (λs hs=>⟨_,rfl,by rw[hXhi s (by rw[<-hnt'];exact hs)];exact uT (hundef s (by rw[<-hnt'];exact hs))⟩) hf;have g2:=m.hr hXfg hr;rw[hp,PI]at g1 g2;have hXn:(gN sp a h xp.2).h.next=xp.2.next:=Heap.next_upto _ _
 have ag:Agr sp.v0 I (I.upd sp.v0 p):=Ea I sp.v0 p;have hq: ∀j e,es[j]? =some e->bU I (fO sp.id (s0++sp.fv) (0+j))=(I.upd sp.v0 p).w (sp.v0+(0+j)):=by
  intro j e hj;have hlt:j<p.length:=by
   rw[<-hp,WS];rcases k5 j es.length with hh|hh
   .exact hh
   .rw[t7 hh]at hj;cases hj
  rw[l9,uV (k9 hlt)];show bZ (I.f sp.id (Z6 I (s0++sp.fv))).toL 1 j=_;rw[hlink];simp[cr,bZ,Val.toL,j9,k9 hlt]
 refine⟨?_,?_,?_,?_⟩
 .show(eM (fc sp a h).a _).ro=none;rw[KG,hBro]
 .
  have hOnt:(ke sp (fO sp.id (s0++sp.fv)) a h xp.2).a.nt=a.nt:=by
   show(eM (fc sp a h).a _).nt=_;rw[CX,hBnt]
  refine⟨by rw[hOnt,<-hXnt];exact g1.size,by rw[hOnt];exact hlim,λt _=> ?_,?_,λpp hpp=> ?_⟩
  .have gt:=g1.slot t id;by_cases ht:t<a.nt
   .have hXs:(gN sp a h xp.2).a.slot t=(eM (fc sp a h).a xp.2.slots).slot t:=Fr.clear_slot _ _;rcases Yy (pj sp.v0 (fO sp.id (s0++sp.fv))) xp.2.slots (fc sp a h).a (fc sp a h).a t (by rw[hBnt];exact hlim) rfl (by rw[hBnt];exact ht) (.inr rfl)with e|⟨e1,e2⟩
    .show VR _ I ((eM (fc sp a h).a (xp.2.slots.map λp=>(p.1,pj sp.v0 (fO sp.id (s0++sp.fv)) p.2))).slot t) _;rw[e,<-hXs];obtain⟨n',es',z1,z2⟩:=m.sl (λj e=>bU I (fO sp.id (s0++sp.fv) j)=(I.upd sp.v0 p).w (sp.v0+j)) hq t (by rw[hnt'];exact ht);exact bU1 ag n' _ _ es' _ z1 z2 gt
    .show VR _ I ((eM (fc sp a h).a (xp.2.slots.map λp=>(p.1,pj sp.v0 (fO sp.id (s0++sp.fv)) p.2))).slot t) _;rw[e1];rw[hXs,e2]at gt;exact uK (ac:=ac.cut xp.2.next) ag.symm (λ_ _=>rfl) _ _ (OU o4 t ht) gt
   .have ht:=N9 ht;have e:(ke sp (fO sp.id (s0++sp.fv)) a h xp.2).a.slot t=a.slot t:=by
     show(eM (fc sp a h).a _).slot t=_;rw[Hp _ _ (by rw[hBnt];exact hlim) t (by rw[hBnt];exact ht),hbase t ht]
    rw[e,s9,C5 (by rw[g1.size,hXnt];exact ht)];exact uT (hundef t ht)
  .have:=g1.defers;rw[hXds]at this;show jw _ I (eM (fc sp a h).a _).ds act'.defers;rw[JH,hBds];exact this
  .have e:(ke sp (fO sp.id (s0++sp.fv)) a h xp.2).a.pc=a.pc:=by
    show(eM (layDead (layDead a sp.dead) _) _).pc=_;rw[bU2,PP,PP]
   rw[e]at hpp;exact f.pcs pp hpp
 .
  have hOn:(ke sp (fO sp.id (s0++sp.fv)) a h xp.2).h.next=xp.2.next:=Heap.next_upto _ _
  have hOwm:(ke sp (fO sp.id (s0++sp.fv)) a h xp.2).h.wm=(gN sp a h xp.2).h.wm:=by
   show((gJ (fc sp a h).h _).upto _).wm=((gJ (fc sp a h).h _).upto _).wm;rw[Heap.wm_upto,Heap.wm_upto,Bf,Bf]
  have key: ∀b y,(ke sp (fO sp.id (s0++sp.fv)) a h xp.2).h.get b=some y-> ∃z,(gN sp a h xp.2).h.get b=some z/\(∀L o,BR (ac.cut xp.2.next) (I.upd sp.v0 p) L o z->BR (ac.cut xp.2.next) I L o y)/\z.isArr=y.isArr:=by
   intro b y hy;have hXs:(gN sp a h xp.2).h.get b=(gJ (fc sp a h).h xp.2.blks).get b:=Heap.get_upto _ _ _;have hOs:(ke sp (fO sp.id (s0++sp.fv)) a h xp.2).h.get b=(gJ (fc sp a h).h (xp.2.blks.map λp=>(p.1,xY sp.v0 (fO sp.id (s0++sp.fv)) p.2))).get b:=Heap.get_upto _ _ _;rw[hOs]at hy;have hblt:b<xp.2.next:=by
    rcases k5 b xp.2.next with hh|hh
    .exact hh
    .rw[xZ _ _ xp.2.next (λp hp=>by
      obtain⟨p',hp',rfl⟩:=j8.1 hp;exact hb2.1 p' hp') (λb hb=>hBfg b (by omega)) b hh]at hy
     cases hy
   rcases bb5 (xY sp.v0 (fO sp.id (s0++sp.fv))) rfl xp.2.blks (fc sp a h).h (fc sp a h).h b (.inr rfl)with e|⟨e1,e2⟩
   .rw[e,<-hXs]at hy;cases hz:(gN sp a h xp.2).h.get b with
    |none=>rw[hz]at hy;cases hy
    |some z=>
     refine⟨z,rfl,λL o hbr=> ?_,c76 (by rw[hz]at hy;exact hy)⟩;obtain⟨n',es',z1,z2⟩:=m.hp (λj e=>bU I (fO sp.id (s0++sp.fv) j)=(I.upd sp.v0 p).w (sp.v0+j)) hq b (by exact hblt);rw[hz]at z1 hy;simp[sh]at z1;split at z1
     .obtain⟨p',z3,z4⟩:=cM8 (O:=ac.cut xp.2.next) ag z1 z2 hbr;rw[z3,j0]at hy;rw[<-hy];exact z4
     .cases z1
   .rw[e1]at hy;refine⟨y,by rw[hXs,e2];exact hy,λL o hbr=> ?_,rfl⟩;have hb:b<h.next:=by
     rcases k5 b h.next with hh|hh
     .exact hh
     .rw[hBfg b hh]at hy;cases hy
    have:=cq1 o5 b hb;rw[hy]at this;exact RO ag.symm (λ_ _=>rfl) this hbr
  refine⟨λb y L hg hb=> ?_,λb b1 y y1 L L1 hg hg1 hb hb1 hne hw=> ?_,λb hb=>g2.fresh b (by exact hb),λb hb=> ?_,g2.lt,g2.kin,g2.keep,λb y L hg hw hb=> ?_,g2.size,g2.os,g2.tape,g2.out,g2.dr⟩
  .obtain⟨z,z1,z2,_⟩:=key b y hg;exact z2 L _ (g2.blk b z L z1 hb)
  .obtain⟨z,z1,_,k1⟩:=key b y hg;obtain⟨z',z1',_,k2⟩:=key b1 y1 hg1;exact g2.sep b b1 z z' L L1 z1 z1' hb hb1 hne (by rw[k1,k2,<-hOwm];exact hw)
  .refine xZ _ _ xp.2.next (λp hp=> ?_) (λb hb=>hBfg b (by omega)) b hb
   obtain⟨p',hp',rfl⟩:=j8.1 hp;exact hb2.1 p' hp'
  .obtain⟨z,z1,_⟩:=key b y hg;exact g2.free b z L z1 (by rw[<-hOwm];exact hw) hb
 .have hun: ∀b,b<n0->ah b=none->O b=none:=λb hb hn=>(st0.ext b (by omega)).trans hn
  refine⟨by show hs.next<=((gJ (fc sp a h).h _).upto xp.2.next).next;rw[Heap.next_upto];omega,λb hb=>by simp[bY.cut];rw[e8 (by omega)];exact(ap b (by omega)).trans (st0.ext b hb),λb hb hn=> ?_,?_⟩
  .have hb:b<n0:=by omega
   have hst:=st0.unm b (by omega) hn;by_cases har: ∃e sig x,h.get b=some (.arr e sig x)
   .obtain⟨e,sg,x,har⟩:=har;right;right;rcases hst with q|q|q
    .rw[<-q,har];exact .arr _ _ _
    .rw[q]at har;cases har
    .exact q
   have no: ∀p':Nat×Option Blk,p'.1=b->(O p'.1≠none\/ ∃e sig x,h.get p'.1=some (.arr e sig x))->False:=by
    rintro p' rfl (q|q)
    .exact q (hun _ hb hn)
    .exact har q
   have e:((gJ (fc sp a h).h (xp.2.blks.map λp=>(p.1,xY sp.v0 (fO sp.id (s0++sp.fv)) p.2))).upto xp.2.next).get b=h.get b:=by
    rw[Heap.get_upto,PU _ _ _ λp hp e=>by
     obtain⟨p',hp',rfl⟩:=j8.1 hp;exact no p' e (hb2.2 p' hp' (by rw[e];exact hb))]
    exact PU _ _ _ λp hp e=>by
     obtain⟨p',hp',rfl⟩:=j8.1 hp;exact no p' e (hb1.2 p' hp' (by rw[e];exact hb))
   rcases hst with q|q|q
   .exact .inl (e.trans q)
   .exact .inr (.inl (e.trans q))
   .exact .inr (.inr q)
  .show((gJ (fc sp a h).h _).upto _).wm=_;rw[Heap.wm_upto,Bf];exact(Bf _ _).trans st0.wm
theorem cN7{Ω:Opq->Prop}(ao: ∀I v0 l,Ω I->Ω (I.upd v0 l))(ae:Ω I){n:Nat}(hk: ∀aa,Ω aa->lR E aa n){R:Type}{A:Alg R}{T:R->Prop}(hA:AlgOk A T I){a:Fr}{hs:Heap}{n0:Nat}(hn0:n0=hs.next){k:Ex->Fr->Heap->R}{sp:LSpec}
 (he:T (Jr (ev E n) A c n0 k sp a h)) {ah:bY} {w:World} (r:HR O I K w0 h w) (f:du O I a act) (st0:St hs ah h O) (q:rI T I K w0 hs ah none k Q):pC (fL none) E.P c Q act w:=by
 unfold Jr at he;cases hok:ya sp a h n0 with
 |false=>rw[hok]at he;exact absurd he hA.bad
 |true=>
  rw[hok]at he;have hokA:=hok;obtain⟨hok,o5⟩:=W5 hok;obtain⟨hok,o4⟩:=W5 hok;obtain⟨hok,o6⟩:=W5 hok;obtain⟨hds,hro⟩:=Cq o6;obtain⟨hok,o3⟩:=W5 hok;obtain⟨hok,o2⟩:=W5 hok;obtain⟨o0,o1⟩:=W5 hok;have hnn:n0<=h.next:=by rw[hn0];exact st0.le
  have hown: ∀b,b<n0-> ¬ ∃o∈sp.owns,b=o.blk:=by
   grind[Z5]
  rw[k6]at o2;split at he
  .rename_i s0 hs0;obtain⟨⟨i,p⟩,x,hloop,hlink,hks,hx⟩:=hA.loop _ _ _ he;rw[nh]at hloop;rw[B9,o9]at hks;obtain⟨xp,hxp,rfl⟩:=hks;have hlim:=f.lim;have hb1:=Ib r f o1;have hJn:(dw sp a h).h.next=h.next:=SG _ _
   have hJfg: ∀b,(dw sp a h).h.next<=b->(dw sp a h).h.get b=none:=by
    intro b hb;rw[hJn]at hb;exact xZ _ _ h.next hb1.1 (λb hb=>r.fget b hb) b hb
   have hhiA: ∀(g:Fr),g.nt=a.nt-> ∀s,a.nt<=s->g.slot s=a.slot s-> ∃x,g.slot s=x/\VR O I x Go.undef:=by
    intro g _ s hs e;refine⟨a.slot s,e,?_⟩;have:=f.slot s id;rw[s9,C5 (by rw[f.size];exact hs)]at this;exact this
   have hJhi: ∀s,a.nt<=s->(dw sp a h).a.slot s=a.slot s:=by
    intro s hs;show((eM (layDead a sp.dead) sp.head.slots).clear).slot s=_;grind[Fr.clear_slot,Hp,pI,Ha]
   have hJnt:(dw sp a h).a.nt=a.nt:=by
    show((eM (layDead a sp.dead) sp.head.slots).clear).nt=_;rw[Fr.clear_nt,CX,pI]
   have hJpc:(dw sp a h).a.pc=[]:=Fr.clear_pc _;have hJro:(dw sp a h).a.ro=none:=by
    show((eM (layDead a sp.dead) sp.head.slots).clear).ro=none;grind[Fr.clear_ro,KG,Hv]
   have hundef: ∀s,a.nt<=s->VR O I (a.slot s) Go.undef:=by
    grind
   have hxm:xp∈sp.exits:=G7 hxp;have back: ∀(vs:List Val) (ac:bY) (a':Fr) (h':Heap) (act':Act) (w':World) (es:List SX),sG sp.v0 (gN sp a h xp.2).a (gN sp a h xp.2).h a' h'=some es->Z6 (I.upd sp.v0 vs) es=p->
    du ac (I.upd sp.v0 vs) a' act'->HR ac (I.upd sp.v0 vs) K w0 h' w'->(∀b,b<n0->ac b=O b)->Q (Rz xp.1) act' w':=by
    intro vs ac a' h' act' w' es hes hp hf hr ap;obtain⟨b1,b2,b3,b4⟩:=cq2 hn0 hokA r f st0 hxm hlink vs ac a' h' act' w' es hes hp hf hr ap;exact q xp.1 _ _ _ act' w' hx b1 b2 b3 b4
   have main: ∀vs j p',Iter (λvs=>W7 (ev E n ib kG (.code c (dw sp a h).a (dw sp a h).h (vW sp a h)) []) (I.upd sp.v0 vs)) vs j p'->j=i->p'=p->
    ∀(aj:bY) (act1:Act) (w1:World),du aj (I.upd sp.v0 vs) (dw sp a h).a act1->HR aj (I.upd sp.v0 vs) K w0 (dw sp a h).h w1->(∀b,b<n0->aj b=O b)->pC (fL none) E.P c Q act1 w1:=by
    intro vs j p' hit;induction hit with
    | @out vs p' j hstep=>
      rintro rfl rfl aj act1 w1 f1 r1 s1;refine Jb (hk _ (ao _ _ _ ae) ib kG _ (uX _ (j+1,p')) c _ _ _ ⟨[],lq,hstep⟩ K w0 aj act1 w1 none _ r1 f1 (by rw[hJro];rfl) ?_);rintro e a' h' ac act' w' ⟨_,_,hke⟩ _ hf hr hst;have aG: ∀b,b<n0->ac b=O b:=λb hb=>(hst.ext b (by omega)).trans (s1 b hb)
      obtain⟨hnd,hke⟩:dB (I.upd sp.v0 vs) (eS sp.owns a' h').1=true/\W7 (match e with| .norm=>Bz sp a h (iH sp (eS sp.owns a' h').2 h')|e=>Ov sp a h e (iH sp (eS sp.owns a' h').2 h')) (I.upd sp.v0 vs)=_:=by
       cases e<;>exact FV hke
      obtain⟨hf,hnnt,_⟩:=hf.norms hnd;obtain⟨an,cv⟩:=Lp (sp:=sp) hf hr;have az: ∀b,b<n0->an b=O b:=λb hb=>(cv.bij b (hown b hb)).trans (aG b hb)
      have fin: ∀e',e=e'->W7 (rS sp a h e' (iH sp (eS sp.owns a' h').2 h').1 (iH sp (eS sp.owns a' h').2 h').2 sp.exits 0) (I.upd sp.v0 vs)=some (j+1,p')->Q (Rz e) act' w':=by
       rintro e' rfl hh;obtain⟨i',x',es,q1,q2,q3,q4,q5⟩:=Ky _ _ hh;obtain rfl:i'=j:=by omega
       rw[hxp,j0]at q2;subst q2;rw[<-cN6 q3];exact back vs an _ _ act' w' es q4 q5.symm cv.fr cv.hr az
      cases e with
      |norm=>
       grind[Bz,W7]
      |exit id=>exact fin (.exit id) rfl hke
      |ret=>exact fin .ret rfl hke
    | @more vs vs' p' j hstep hit ih=>
      rintro rfl rfl aj act1 w1 f1 r1 s1;refine Jb (hk _ (ao _ _ _ ae) ib kG _ (uX _ (0,vs')) c _ _ _ ⟨[],lq,hstep⟩ K w0 aj act1 w1 none _ r1 f1 (by rw[hJro];rfl) ?_);rintro e a' h' ac act' w' ⟨_,_,hke⟩ _ hf hr hst;have aG: ∀b,b<n0->ac b=O b:=λb hb=>(hst.ext b (by omega)).trans (s1 b hb)
      obtain⟨hnd,hke⟩:dB (I.upd sp.v0 vs) (eS sp.owns a' h').1=true/\W7 (match e with| .norm=>Bz sp a h (iH sp (eS sp.owns a' h').2 h')|e=>Ov sp a h e (iH sp (eS sp.owns a' h').2 h')) (I.upd sp.v0 vs)=_:=by
       cases e<;>exact FV hke
      obtain⟨hf,hnnt,_⟩:=hf.norms hnd;obtain⟨an,cv⟩:=Lp (sp:=sp) hf hr;have az: ∀b,b<n0->an b=O b:=λb hb=>(cv.bij b (hown b hb)).trans (aG b hb)
      have no: ∀e',W7 (rS sp a h e' (iH sp (eS sp.owns a' h').2 h').1 (iH sp (eS sp.owns a' h').2 h').2 sp.exits 0) (I.upd sp.v0 vs)=some (0,vs')->False:=by
       grind[Ky]
      cases e with
      |norm=>
       simp[Bz]at hke;split at hke
       .rename_i es hes;simp[W7,j0,A7,true_and]at hke;have m:=Hx hes;have hnt':(iH sp (eS sp.owns a' h').2 h').1.nt=a.nt:=by rw[<-m.nt,hJnt]
        have g1:=m.fr hJpc (λs hs=>⟨_,rfl,by rw[hJhi s (by rw[<-hnt'];exact hs)];exact uT (hundef s (by rw[<-hnt'];exact hs))⟩) cv.fr;have g2:=m.hr hJfg cv.hr;rw[hke,PI]at g1 g2;exact ih rfl rfl _ act' w' g1 g2 λb hb=>by simp[bY.cut];rw[e8 (by omega)];exact az b hb
       grind[W7]
      |exit id=>exact(no _ hke).elim
      |ret=>exact(no _ hke).elim
   have m:=Hx hs0;refine main _ _ _ hloop rfl rfl (O.cut (dw sp a h).h.next) act w ?_ ?_ ?_
   .exact m.fr hJpc (λs hs=>hhiA _ hJnt s hs (hJhi s hs)) f
   .exact m.hr hJfg r
   .exactλb hb=>by simp[bY.cut];grind
  .exact absurd he hA.bad
end Go.Ev
namespace Go.Ev
open Go
variable{a:Fr}{act:Act}{v0 n i n0 nb ob:Nat}{sp:LSpec}{c:Code}{Q:Exit->Act->World->Prop}{step:List Val->Option (Nat×List Val)}
variable{E:Env}{O ac:bY}{I aa:Opq}{K:Nat->Prop}{w0 w w':World}{h h':Heap}
theorem HR.freeze{K':Nat->Prop}(r:HR O I K w0 h w)(hK: ∀i,K' i->i<w.heap.size)(hf: ∀b x L,h.get b=some x->h.wm<=b->O b=some L-> ¬K' L.blk):HR O I K' w h w:=
 ⟨r.blk,r.sep,r.fresh,r.fget,r.lt,hK,λ_ _=>rfl,hf,i6 _,rfl,rfl,rfl,i6 _⟩
theorem HR.thaw{K':Nat->Prop}{w1:World}{h1:Heap}{aj:bY}{ak:Opq}(r1:HR aj ak K w0 h1 w1)(hs: ∀i,K i->K' i)(r:HR ac aa K' w1 h' w'):HR ac aa K w0 h' w':=
 ⟨r.blk,r.sep,r.fresh,r.fget,r.lt,r1.kin,λi hi=>(r.keep i (hs i hi)).trans (r1.keep i hi),λb x L a c d hk=>r.free b x L a c d (hs _ hk),n7 r1.size r.size,r.os.trans r1.os,r.tape.trans r1.tape,r.out.trans r1.out,n7 r1.dr r.dr⟩
theorem HR.turn(r:HR O I K w0 h w)(hn:h'.next=h.next)(hw:h'.wm=h.wm)(hnone: ∀b,h.get b=none->h'.get b=none)
 (key: ∀b y,h'.get b=some y-> ∃z,h.get b=some z/\(∀L o,BR O I L o z->BR O aa L o y)/\z.isArr=y.isArr):HR O aa K w0 h' w:=by
 refine⟨λb y L hg hb=> ?_,λb b1 y y1 L L1 hg hg1 hb hb1 hne hc=> ?_,λb hb=>r.fresh b (by omega),λb hb=>hnone b (r.fget b (by omega)),r.lt,r.kin,r.keep,λb y L hg hc hb=> ?_,r.size,r.os,r.tape,r.out,r.dr⟩
 .obtain⟨z,z1,z2,_⟩:=key b y hg;exact z2 L _ (r.blk b z L z1 hb)
 .obtain⟨z,z1,_,k1⟩:=key b y hg;obtain⟨z',z1',_,k2⟩:=key b1 y1 hg1;exact r.sep b b1 z z' L L1 z1 z1' hb hb1 hne (by grind)
 .obtain⟨z,z1,_⟩:=key b y hg;exact r.free b z L z1 (by omega) hb
theorem HR.putBack(r:HR O I K w0 h w){m:Nat}{L:Loc}{y:Blk}(hm:m<h.next)(hlim:m<65536)(hL:O m=some L)(hbr:BR O I L w.heap[L.blk]? y)(hsep: ∀b x M,h.get b=some x->b≠m->O b=some M->M.blk≠L.blk)(hf:h.wm<=m-> ¬K L.blk):HR O I K w0 (h.put m (some y)) w:=by
 have hg: ∀b,(h.put m (some y)).get b=if b=m then some y else h.get b:=λb=>by rw[Heap.get_put,e8 hlim]
 refine⟨λb x M hx hb=> ?_,λb b1 x x1 M M1 hx hx1 hb hb1 hne hc=> ?_,r.fresh,λb hb=> ?_,r.lt,r.kin,r.keep,λb x M hx hc hb=> ?_,r.size,r.os,r.tape,r.out,r.dr⟩
 .rw[hg]at hx;by_cases e:b=m
  .grind
  .rw[b9 e]at hx;exact r.blk b x M hx hb
 .rw[hg]at hx hx1;by_cases e:b=m
  .grind
  .rw[b9 e]at hx;by_cases e1:b1=m
   .grind
   .rw[b9 e1]at hx1;exact r.sep b b1 x x1 M M1 hx hx1 hb hb1 hne hc
 .have hb:h.next<=b:=hb
  rw[hg,b9 (by omega)];exact r.fget b hb
 .rw[hg]at hx;by_cases e:b=m
  .simp_all
  .rw[b9 e]at hx;exact r.free b x M hx hc hb
theorem CW{ops:Array Oper}{o:Oper}{rest:List Oper}(hdrop:ops.toList.drop i=o::rest){u:Value}{ro:Option Nat}(f:du O I a act)(hg:vQ o=true)(hd: ∀c,o.op≠ .defer c)
 (hr:(execOp act.eval o).run E.P w= .ok (.value u) w') (hk:wpOpsIn (fL ro) 0 E.P ops Q (List.range' (i+1) rest.length) (act.put o.dst u) w'):wpOpsIn (fL ro) 0 E.P ops Q (List.range' i (rest.length+1)) act w:=by
 have hlt:i<ops.toList.length:=by
  rcases k5 i ops.toList.length with hh|hh
  .exact hh
  .rw[K4 hh]at hdrop;cases hdrop
 have hcons:=R6 hlt;rw[hdrop]at hcons;obtain⟨e1,e2⟩:=N7 hcons;have hoi:ops[i]? =some o:=by rw[e1];simp[hlt]
 have hw:eF ops.toList a o=some true:=by
  unfold eF;unfold vQ at hg;split at hg
  .rename_i hh;rw[hh]
  .cases hg
 show(match ops[i]? with
  |none=>_
  |some o=>_)
 rw[hoi];simp;rw[bb1 f rfl hw];grind[Rc]
structure HeadF (sp:LSpec) (a:Fr) (h:Heap):Prop where
 n:(dw sp a h).h.next=h.next
 wm:(dw sp a h).h.wm=h.wm
 fg: ∀b,(dw sp a h).h.next<=b->(dw sp a h).h.get b=none
 nt:(dw sp a h).a.nt=a.nt
 pc:(dw sp a h).a.pc=[]
 ro:(dw sp a h).a.ro=none
 ds:(dw sp a h).a.ds=[]
 hi: ∀s,a.nt<=s->(dw sp a h).a.slot s=a.slot s
 lim:a.nt<=256
 un: ∀s,a.nt<=s->VR O I (a.slot s) Go.undef
theorem dd5(hok:ya sp a h n0=true)(r:HR O I K w0 h w)(f:du O I a act):HeadF (O:=O) (I:=I) sp a h:=by
 obtain⟨hok,o5⟩:=W5 hok;obtain⟨hok,o4⟩:=W5 hok;obtain⟨hok,o6⟩:=W5 hok;obtain⟨hds,hro⟩:=Cq o6;obtain⟨hok,o3⟩:=W5 hok;obtain⟨hok,o2⟩:=W5 hok;obtain⟨o0,o1⟩:=W5 hok;have hlim:=f.lim;have hb1:=Ib r f o1;have hJn:(dw sp a h).h.next=h.next:=SG _ _
 refine⟨hJn,Bf _ _,λb hb=> ?_,?_,Fr.clear_pc _,?_,?_,λs hs=> ?_,hlim,λs hs=> ?_⟩
 .rw[hJn]at hb;exact xZ _ _ h.next hb1.1 (λb hb=>r.fget b hb) b hb
 .show((eM (layDead a sp.dead) sp.head.slots).clear).nt=_;rw[Fr.clear_nt,CX,pI]
 .show((eM (layDead a sp.dead) sp.head.slots).clear).ro=none;grind[Fr.clear_ro,KG,Hv]
 .show((eM (layDead a sp.dead) sp.head.slots).clear).ds=[];grind[Fr.clear_ds,JH,Nf]
 .show((eM (layDead a sp.dead) sp.head.slots).clear).slot s=_;grind[Fr.clear_slot,Hp,pI,Ha]
 .have:=f.slot s id;rw[s9,C5 (by rw[f.size];exact hs)]at this;exact this
theorem QY{r:List Nat}{s t:List Val}(h:iA step (i::r) s=some t): ∃a b s',s=[a,b]/\step [a,b,.vi i]=some (0,s')/\iA step r s'=some t:=by
 rcases s with _|⟨a,_|⟨b,_|⟨c,s⟩⟩⟩
 .cases h
 .cases h
 .have h:(match step [a,b,.vi i]with
   |some (0,s')=>iA step r s'
   |_=>none)=some t:=h
  grind
 .cases h
theorem QO{r:List Nat}{a b:Val}{s':List Val}(h:step [a,b,.vi i]=some (0,s')):iA step (i::r) [a,b]=iA step r s':=by
 grind[iA]
theorem SC{step:List Val->Option (Nat×List Val)}: ∀{p q:List Nat} {s t:List Val},iA step (p++q) s=some t-> ∃u,iA step p s=some u/\iA step q u=some t
 | [],q,s,t,h=>⟨s,rfl,h⟩
 |i::p,q,s,t,h=>by
  obtain⟨a,b,s',rfl,h1,h2⟩:=QY (r:=p++q) h;obtain⟨u,h3,h4⟩:=SC h2;grind[QO]
theorem YK{step:List Val->Option (Nat×List Val)}{i:Nat}{x y:Val}{s':List Val}(hs:step [x,y,.vi i]=some (0,s')): ∀{p:List Nat} {s:List Val},iA step p s=some [x,y]->iA step (p++[i]) s=some s'
 | [],s,h=>by
   obtain rfl:s=[x,y]:=by simpa[iA]using h
   show iA step [i] _=_;rw[QO hs];rfl
 |j::p,s,h=>by
  obtain⟨a,b,s1,rfl,h1,h2⟩:=QY h;show iA step (j::(p++[i])) _=_;rw[QO h1];exact YK hs h2
theorem cN8{p:List Nat}(hn:p.Nodup)(hp: ∀i∈p,i<n): ∃q,(p++q).Perm (List.range n):=by
 refine⟨(List.range n).filter λi=>decide (i∉p),(I3 ?_ O3).2 λi=> ?_⟩
 .refine R7.2 ⟨hn,O3.filter _,λa ha b hb=> ?_⟩;rintro rfl;have:=(l7.1 hb).2;simp at this;exact this ha
 grind
theorem cq3{p:List Nat}(hn:p.Nodup)(hp: ∀i∈p,i<n)(ha: ∀i,i<n->i∈p):p.Perm (List.range n):=
 (I3 hn O3).2 λi=>⟨λhi=>o8.2 (hp i hi),λhi=>ha i (o8.1 hi)⟩
theorem dz5{ks vs:List CT}{l idx:SX}{r:Val}(hi:dI I idx=(i:Int))(hr:(dL I l)[i]? =some r):VR O I (Gz ks vs l idx) (.tuple #[(qi ks vs r).1,(qi ks vs r).2]):=by
 have hg: ∀t:Nat,bZ (dL I l) (dI I idx) t=r.toL.getD t default:=by
  intro t;show((dL I l).getD (dI I idx).toNat (.vl [])).toL.getD (Int.toNat t) default=_;grind
 have hrow:dG (ks++vs) r=(List.range' 0 (ks++vs).length).map λj=>gr ((ks++vs).getD j .bool) (r.toL.getD j default):=by
  grind[dG,List.range_eq_range']
 have e1:(dG (ks++vs) r).take ks.length=(List.range' 0 ks.length).map λj=>gr ((ks++vs).getD j .bool) (r.toL.getD j default):=by
  rw[hrow,<-List.map_take];grind
 have e2:(dG (ks++vs) r).drop ks.length=(List.range' ks.length vs.length).map λj=>gr ((ks++vs).getD j .bool) (r.toL.getD j default):=by
  rw[hrow,<-List.map_drop];grind
 refine⟨_,rfl,.cons ?_ (.one ?_)⟩
 .have:=Ke (O:=O) (I:=I) (ks++vs) l idx ks.length 0;show VR O I _ (kD ((dG (ks++vs) r).take ks.length));grind[EF]
 .have:=Ke (O:=O) (I:=I) (ks++vs) l idx vs.length ks.length;show VR O I _ (kD ((dG (ks++vs) r).drop ks.length));grind[EF]
structure MOk (mc:MC) (a:Fr) (mo:MO) (t:Nat):Prop where
 o1:mc.o1.op= .next (.tmp t) false
 e1:mc.o1.dst=some mo.d1
 o2:mc.o2.op= .extract (.tmp mo.d1) 0
 e2:mc.o2.dst=some mo.d2
 tk:mc.tok= .tmp mo.d2
 o3:mc.o3.op= .entry (.tmp t)
 e3:mc.o3.dst=some mo.d3
 n1:t≠mo.d1
 n2:t≠mo.d2
 sl:a.slot t= .ptr mo.it 0
 p1:vQ mc.o1=true
 p2:vQ mc.o2=true
 p3:vQ mc.o3=true
 l1:mo.d1<a.nt
 l2:mo.d2<a.nt
theorem dd6{mc:MC}{mo:MO}(e:Mt mc a=some mo): ∃t,MOk mc a mo t:=by
 unfold Mt at e;split at e
 .rename_i t d1 d1' d2 d2' t' d3 h1 h2 h3 h4 h5 h6 h7;replace e:=W6 e;obtain⟨hc,e1⟩:=e;obtain⟨hc1,c5⟩:=W5 hc;obtain⟨hc2,c4⟩:=W5 hc1;obtain⟨hc3,c3⟩:=W5 hc2;obtain⟨c1,c2⟩:=W5 hc3;obtain rfl:=Z1.1 c1;obtain rfl:=Z1.1 c2;obtain rfl:=Z1.1 c3;split at e1
  .rename_i it hs;obtain⟨hz,e2⟩:=W6 e1;obtain⟨hz1,z6⟩:=W5 hz;obtain⟨hz2,z5⟩:=W5 hz1;obtain⟨hz3,z4⟩:=W5 hz2;obtain⟨hz4,z3⟩:=W5 hz3;obtain⟨z1,z2⟩:=W5 hz4;simp at e2;subst e2;refine⟨t,h1,h2,h3,h4,h5,h6,h7,?_,?_,hs,z1,z2,z3,dQ.1 z4,dQ.1 z5⟩
   .rintro rfl;simp at c4
   .rintro rfl;simp at c5
  grind
 .cases e
theorem cN9{mc:MC}(e:CG c=some mc): ∃i1 i2,c= .seq (.region i1 mc.ops1 false) (.seq (.cond mc.tok .skip (.exit mc.xid)) (.block mc.bid (.seq (.region i2 mc.ops2 false) mc.rest)))/\mc.ops1.toList=[mc.o1,mc.o2]/\mc.ops2.toList=mc.o3::mc.r3:=by
 unfold CG at e;grind
theorem cq4{x:Option Blk}(h:GB x=true):x=none:=by
 cases x with
 |none=>rfl
 |some _=>cases h
theorem cO0{es:List SX}(h:NQ v0 es=true):es=[.va v0,.va (v0+1)]:=by
 unfold NQ at h;split at h
 .simp_all
 .cases h
theorem Ki{v0 nb ob:Nat}{h0:Heap}: ∀{n:Nat},AJ v0 nb ob h0 n=true-> ∀s,s<n->Mq v0 nb ob s (h0.get s)=true
 |0,_,s,hs=>by omega
 |n+1,h,s,hs=>by
  simp[AJ,j7]at h;by_cases e:s=n
  .grind
  .exact Ki h.2 s (by omega)
theorem bV1{h1 h2:Heap}: ∀{n:Nat},Hj h1 h2 n=true-> ∀s,s<n-> ∀x,h1.get s=some x-> ∃y,h2.get s=some y
 |0,_,s,hs,_,_=>by omega
 |n+1,h,s,hs,x,hx=>by
  simp only[Hj,j7]at h;by_cases e:s=n
  .subst e;have:=h.1;rw[hx]at this;cases hy:h2.get s with
   |none=>rw[hy]at this;cases this
   |some y=>grind
  .exact bV1 h.2 s (by omega) x hx
theorem SJ{b:Nat}{x:Blk}(h:Mq v0 nb ob b (some x)=true):(b=ob/\ ∃e sig,x= .arr e sig (.va (v0+1)))\/(b≠ob/\zY (v0+1) nb (some x)=true):=by
 unfold Mq at h;cases hb:Nat.beq b ob with
 |true=>
  grind[Z1]
 |false=>
  rw[hb]at h;exact .inr ⟨λhh=>by simp_all,h⟩
theorem Kh{a:Val}{r r':List Val}:Agr (v0+1) (I.upd v0 (a::r)) (I.upd v0 (a::r')):=by
 refine⟨λn hn=> ?_,rfl,rfl,rfl,rfl⟩;simp[Opq.upd];grind
theorem d01(g:Agr v0 I aa)(hb:zQ v0 nb a a.nt=true)(hpc:a.pc=[])(hds:a.ds=[])(f:du O I a act):du O aa a act:=by
 refine⟨f.size,f.lim,λt _=> ?_,?_,λp hp=>by grind⟩
 .have:=f.slot t id;by_cases ht:t<a.nt
  .exact uK g (λ_ _=>rfl) _ _ (OU hb t ht) this
  .rw[s9,C5 (by rw[f.size];omega)]at this⊢;exact uT this
 .have:=f.defers;rw[hds]at this⊢;exact this
theorem dz6{a:Val}{r r':List Val}{b':Val}(hs:AJ v0 nb ob h h.next=true)(rr:HR O (I.upd v0 (a::b'::r)) K w0 h w):HR O (I.upd v0 (a::b'::r')) K w0 h w:=by
 refine rr.turn rfl rfl (λ_ hh=>hh) λb y hy=>⟨y,hy,λL o hbr=> ?_,rfl⟩
 have hlt:b<h.next:=by
  rcases k5 b h.next with q|q
  .exact q
  .rw[rr.fget b q]at hy;cases hy
 have:=Ki hs b hlt;rw[hy]at this;rcases SJ this with⟨_,e,sig,rfl⟩|⟨_,hk⟩
 .have e1: ∀q:List Val,dL (I.upd v0 (a::b'::q)) (.va (v0+1))=b'.toL:=λq=>by
   show((I.upd v0 (a::b'::q)).w (v0+1)).toL=_;rw[uV (j:=1) (x:=b') rfl]
  grind[BR]
 .exact RO Kh (λ_ _=>rfl) hk hbr
theorem dz7{a:Val}{D D':List Val}(hp:D'.Perm D)(hs:AJ v0 nb ob h h.next=true)(rr:HR O (I.upd v0 [a,.vl D']) K w0 h w):HR O (I.upd v0 [a,.vl D]) K w0 (h.put ob (EL (h.get ob))) w:=by
 have hg: ∀b,(h.put ob (EL (h.get ob))).get b=if b=ob then(if ob<65536 then EL (h.get ob)else none)else h.get b:=λb=>Heap.get_put _ _ _ _
 refine rr.turn rfl rfl (λb hh=> ?_) λb y hy=> ?_
 .rw[hg];by_cases e:b=ob
  .subst e;rw[e8 rfl,hh];split<;>rfl
  grind
 rw[hg]at hy;by_cases e:b=ob
 .subst e;rw[e8 rfl]at hy;split at hy
  .cases hx:h.get b with
   |none=>rw[hx]at hy;cases hy
   |some x=>
    have hob:b<h.next:=by
     rcases k5 b h.next with q|q
     .exact q
     .rw[rr.fget b q]at hx;cases hx
    have:=Ki hs b hob;rw[hx]at this hy;rcases SJ this with⟨_,e,sig,rfl⟩|⟨hne,_⟩
    .simp[EL,j0]at hy;subst hy;refine⟨_,rfl,λL o hbr=> ?_,rfl⟩;have e1: ∀q:List Val,dL (I.upd v0 [a,.vl q]) (.va (v0+1))=q:=λq=>by
      show((I.upd v0 [a,.vl q]).w (v0+1)).toL=_;rw[uV (j:=1) (x:= .vl q) rfl];rfl
     simp[BR]at hbr⊢;rw[e1]at hbr⊢;exact⟨D',hp,hbr⟩
    .exact absurd rfl hne
  grind
 .rw[b9 e]at hy;refine⟨y,hy,λL o hbr=> ?_,rfl⟩;have hlt:b<h.next:=by
   rcases k5 b h.next with q|q
   .exact q
   .rw[rr.fget b q]at hy;cases hy
  have:=Ki hs b hlt;rw[hy]at this;rcases SJ this with⟨q,_⟩|⟨_,hk⟩
  .omega
  .exact RO Kh (λ_ _=>rfl) hk hbr
theorem PX{d:Nat}{v:Value}(h:d<act.tmps.size):(act.put (some d) v).eval (.tmp d)=v:=by
 show(act.tmps.setIfInBounds d v).getD d Go.undef=v;simp_all
theorem b06{d t:Nat}{v:Value}(h:t≠d):(act.put (some d) v).eval (.tmp t)=act.eval (.tmp t):=by
 show(act.tmps.setIfInBounds d v).getD t Go.undef=act.tmps.getD t Go.undef;simp_all[s9,K5,b9,Ne.symm]
theorem c78{Es:Array MapEntry}{seen:Array Nat}(h:(leftOf Es seen).size=0): ∀e∈Es.toList,e.born∈seen.toList:=by
 grind[leftOf,Array.eq_empty_of_size_eq_zero,Array.filter_eq_empty_iff]
theorem cO1{Es:Array MapEntry}{seen:Array Nat}{e:MapEntry}(h:e∈(leftOf Es seen).toList):e∈Es.toList/\e.born∉seen.toList:=by
 unfold leftOf at h;simp only[Array.toList_filter,l7]at h;refine⟨h.1,?_⟩;have:=h.2;simpa using this
set_option maxHeartbeats 1000000 in
theorem cq6{Ω:Opq->Prop}(ao: ∀I v0 l,Ω I->Ω (I.upd v0 l))(ae:Ω I)(hk: ∀aa,Ω aa->lR E aa n)(ho: ∀aa,Ω aa->uF E aa n){R:Type}{A:Alg R}{T:R->Prop}(hA:AlgOk A T I)
 {mc:MC} (hmc:CG c=some mc) {h hs:Heap} (hn0:n0=hs.next) {k:Ex->Fr->Heap->R} {mo:MO} {m:Nat} {d:Bool} {ks vs:List CT} {lm:SX} {x:Ex×StP}
 (hmo:Mt mc (dw sp a h).a=some mo) (hg1:h.get mo.it=some (.mit m)) (hg2:h.get m=some (.mrg mo.it d ks vs lm)) (hxs:x∈sp.exits)
 (he:T (MS (ev E n) A n0 k sp a h mc mo m ob d ks vs lm x)) {K:Nat->Prop} {w0:World} {O ah:bY} {w:World} (r:HR O I K w0 h w) (f:du O I a act) (st0:St hs ah h O) (q:rI T I K w0 hs ah none k Q):pC (fL none) E.P c Q act w:=by
 unfold MS at he;split at he
 rotate_left
 .exact absurd he hA.bad
 rename_i xid hx1;cases hcnd:(Nat.beq xid mc.xid&&Jf sp a h n0 mo m ob lm&&Nat.blt m x.2.next&&JJ sp mo ob a h x.2)with
 |false=>rw[hcnd]at he;exact absurd he hA.bad
 |true=>
 rw[hcnd]at he;obtain⟨hc3,hend⟩:=W5 hcnd;obtain⟨hc2,hmx⟩:=W5 hc3;obtain⟨hc1,hlive⟩:=W5 hc2;obtain rfl:=Z1.1 hc1;rw[dQ]at hmx;split at he
 rotate_left
 .exact absurd he hA.bad
 rename_i s0 s1 hs0;cases hsub:Hj (ke sp (fO sp.id (s0::s1::sp.fv)) a h x.2).h (dw sp a h).h x.2.next with
 |false=>rw[hsub]at he;exact absurd he hA.bad
 |true=>
 rw[hsub]at he;obtain⟨D,xk,hmap,hlink,hk0,hT⟩:=hA.mloop _ _ _ _ he;simp at hk0;subst hk0;obtain⟨hl1,g12⟩:=W5 hlive;obtain⟨hl2,g11⟩:=W5 hl1;obtain⟨hl3,g10⟩:=W5 hl2;obtain⟨hl4,g9⟩:=W5 hl3;obtain⟨hl5,g8⟩:=W5 hl4;obtain⟨hl6,g7⟩:=W5 hl5;obtain⟨hl7,g6⟩:=W5 hl6;obtain⟨hl8,g5⟩:=W5 hl7;obtain⟨hl9,g4⟩:=W5 hl8;obtain⟨hl10,g3⟩:=W5 hl9;obtain⟨g1,g2⟩:=W5 hl10;rw[Z5]at g2 g3 g5;rw[dQ]at g4 g6;replace g7:=cq4 g7;replace g8:=cq4 g8;have hd:=dd5 g1 r f;rw[<-hd.n]at g10 g12;have m0:=Hx hs0;have f1:=m0.fr hd.pc (λs hs=>⟨_,rfl,by rw[hd.hi s hs];exact hd.un s hs⟩) f;have r1:=m0.hr hd.fg r;obtain⟨t,mk⟩:=dd6 hmo;obtain⟨i1,i2,rfl,hop1,hop2⟩:=cN9 hmc;have hnn:n0<=h.next:=by rw[hn0];exact st0.le
 have hsl:=f1.slot t id;rw[mk.sl]at hsl;obtain⟨L,hLc,_⟩:=hsl;have hL:O mo.it=some L:=by
  simp only[bY.cut]at hLc;split at hLc
  .exact hLc
  .cases hLc
 obtain⟨hoff,Lm,hLm,hobj⟩:=r.blk mo.it _ L hg1 hL;obtain⟨Es,cl,Li,hmobj,hLi,hext,hrows,hborn⟩:=r.blk m _ Lm hg2 hLm;rw[hL,j0]at hLi;subst hLi;subst hext;have hne:Lm.blk≠L.blk:=by intro e;rw[e,hobj]at hmobj;cases hmobj
 have hKL: ¬K L.blk:=r.free mo.it _ L hg1 g3 hL;have hpre: ∀b y,(dw sp a h).h.get b=some y-> ∃z,h.get b=some z:=by
  intro b y hy;have hb:b<(dw sp a h).h.next:=by
   rcases k5 b (dw sp a h).h.next with hh|hh
   .exact hh
   .rw[hd.fg b hh]at hy;cases hy
  obtain⟨n',es',h1,_⟩:=m0.hp (λ_ _=>True) (λ_ _ _=>trivial) b hb;rw[hy]at h1;simp[sh]at h1;split at h1
  .rename_i z hz;exact⟨z,hz⟩
  .cases h1
 have hsep0: ∀b y M,(dw sp a h).h.get b=some y->O b=some M->M.blk≠L.blk/\M.blk≠Lm.blk:=by
  intro b y M hy hb;obtain⟨z,hz⟩:=hpre b y hy;exact⟨r.sep b mo.it z _ M L hz hg1 hb hL (by rintro rfl;rw[g7]at hy;cases hy) (.inr (.inr (.inr rfl))),
   r.sep b m z _ M Lm hz hg2 hb hLm (by rintro rfl;rw[g8]at hy;cases hy) (.inr (.inr (.inr rfl)))⟩
 have hlen:Es.toList.length=(dL I lm).length:=by
  have:=congrArg List.length hrows;simpa using this
 have hnd:(Es.toList.map (·.born)).Nodup:=hborn.1.imp (λh=>P8 h);have hold: ∀y∈Es.toList,y.born<L.ext:=hborn.2.1;have hlm: ∀l,dL (I.upd sp.v0 l) lm=dL I lm:=λl=>by unfold dL;rw[qw (Ea I sp.v0 l) lm g9]
 have hbi: ∀i,i<(dL I lm).length-> ∃e,Es.toList[i]? =some e/\(Es.toList.map (·.born)).getD i 0=e.born:=by
  intro i hi;have hi':i<Es.toList.length:=by rw[hlen];exact hi
  refine⟨Es.toList[i],k9 hi',?_⟩;rw[j9,B9,k9 hi'];rfl
 have hinj: ∀i j,i<(dL I lm).length->j<(dL I lm).length->(Es.toList.map (·.born)).getD i 0=(Es.toList.map (·.born)).getD j 0->i=j:=by
  intro i j hi hj hh;have hi':i<(Es.toList.map (·.born)).length:=by rw[l5,hlen];exact hi
  have hj':j<(Es.toList.map (·.born)).length:=by rw[l5,hlen];exact hj
  rw[j9,j9,k9 hi',k9 hj']at hh;exact(List.getElem_inj hnd).1 hh
 obtain⟨hm1,hm2⟩:=hmap;have main: ∀(j:Nat) (p:List Nat) (s:List Val),(dL I lm).length<=p.length+j->p.Nodup->(∀i∈p,i<(dL I lm).length)->
  iA (λus=>W7 (ZV (ev E n) sp mc a h ((((dw sp a h).a.put (some mo.d1) .any).put (some mo.d2) (.bool true)).put (some mo.d3) (Gz ks vs lm (.va (sp.v0+2))))) (I.upd sp.v0 us)) p (Z6 I [s0,s1])=some s->
  ∀(aj:bY) (act1:Act) (w1:World) (seen:Array Nat),du aj (I.upd sp.v0 s) (dw sp a h).a act1->HR aj (I.upd sp.v0 s) K w0 (dw sp a h).h w1->(∀b,b<n0->aj b=O b)->
   (∀b y M,(dw sp a h).h.get b=some y->aj b=some M->M.blk≠L.blk/\M.blk≠Lm.blk)->w1.heap[L.blk]? =some (.mapIter (some Lm.blk) L.ext seen L.ext)->w1.heap[Lm.blk]? =some (.map Es L.ext)->
   seen.toList=p.map (λi=>(Es.toList.map (·.born)).getD i 0)->pC (fL none) E.P (.seq (.region i1 mc.ops1 false) (.seq (.cond mc.tok .skip (.exit mc.xid)) (.block mc.bid (.seq (.region i2 mc.ops2 false) mc.rest)))) Q act1 w1:=by
  intro j;induction j using Nat.strongRecOn with
  |ind j ih=>
  intro p s hj hpn hpl hrun aj act1 w1 seen f1 r1 aB hsep1 hit hmp hseen;have aH:aj mo.it=some L:=(aB _ g6).trans hL;have hLm1:aj m=some Lm:=(aB _ g4).trans hLm;have hval:act1.eval (.tmp t)= .pointer (some ⟨L.blk,0,none⟩):=by
   have:=f1.slot t id;rw[mk.sl]at this;obtain⟨L',hL',hv⟩:=this;rw[aH,j0]at hL';subst hL';show act1.tmps.getD t Go.undef=_;rw[hv,hoff]
  have nd1: ∀c,mc.o1.op≠ .defer c:=λc hc=>by rw[mk.o1]at hc;cases hc
  have nd2: ∀c,mc.o2.op≠ .defer c:=λc hc=>by rw[mk.o2]at hc;cases hc
  have nd3: ∀c,mc.o3.op≠ .defer c:=λc hc=>by rw[mk.o3]at hc;cases hc
  refine Jb (wpIn_seq (wpIn_region ?_));rw[J9,show mc.ops1.size=[mc.o2].length+1 by rw[<-Array.length_toList,hop1];rfl];rcases run_next_at (P:=E.P) w1 mc.o1.type L.blk Lm.blk L.ext L.ext seen Es L.ext hit hmp hold (i6 _)with⟨hz,hnx⟩|⟨e,hem,w2,hw2,hnx⟩
  .
   have hr1:(execOp act1.eval mc.o1).run E.P w1= .ok (.value (.tuple #[.bool false])) w1:=by
    unfold execOp;rw[mk.o1];simp only[Sem.run_bind,hval,hnx];rfl
   have f2:=FrP.put' f1 (some mo.d1) (v:= .tup [.bool false]) (u:= .tuple #[.bool false]) ⟨_,rfl,.one rfl⟩;refine CW (i:=0) (by rw[hop1];rfl) f1 mk.p1 nd1 hr1 ?_;rw[mk.e1];have hx1v:(act1.put (some mo.d1) (.tuple #[.bool false])).eval (.tmp mo.d1)= .tuple #[.bool false]:=by
    have:=f2.slot mo.d1 id;rw[Fr.put_slot f1.lim,e8 ⟨rfl,mk.l1⟩]at this;obtain⟨xs,hxs,hv⟩:=this;show(act1.put (some mo.d1) (.tuple #[.bool false])).tmps.getD mo.d1 Go.undef=_;rw[hxs];obtain⟨v1,vr,hv1,hv2,hv3⟩:=hv;obtain rfl:vr=[]:=hv3;subst hv2;congr 1;exact Array.ext' (by simpa using hv1)
   have hr2:(execOp (act1.put (some mo.d1) (.tuple #[.bool false])).eval mc.o2).run E.P w1= .ok (.value (.bool false)) w1:=by
    unfold execOp;rw[mk.o2];simp only[Sem.run_bind,hx1v];rfl
   have f3:=FrP.put' f2 (some mo.d2) (v:= .bool false) (u:= .bool false) rfl;refine CW (i:=1) (rest:=[]) (by rw[hop1];rfl) f2 mk.p2 nd2 hr2 ?_;rw[mk.e2];refine wpIn_seq (wpIn_cond_false ?_ (wpIn_exit ?_))
   .rw[mk.tk];exact PX (by rw[f2.size,Fr.put_nt];exact mk.l2)
   have hfull:p.Perm (List.range (dL I lm).length):=cq3 hpn hpl λi hi=>by
    obtain⟨e,he1,he2⟩:=hbi i hi;have:=c78 hz e (G7 he1);rw[hseen]at this;obtain⟨i',hi',hh⟩:=j8.1 this;rw[<-he2]at hh;rw[<-hinj i' i (hpl i' hi') hi hh];exact hi'
   obtain⟨D',hD1,hD2⟩:=hm2 p hfull;obtain rfl:=R8 (hrun.symm.trans hD1);have hlenD:D'.length=D.length:=hD2.length_eq;rw[hlenD]at f3 r1;have hpcA:(tG sp mo a h).pc=[]:=by unfold tG;rw[Fr.put_pc,Fr.put_pc,hd.pc]
   have hdsA:(tG sp mo a h).ds=[]:=by unfold tG;rw[Fr.put_ds,Fr.put_ds,hd.ds]
   have hntA:(tG sp mo a h).nt=a.nt:=by unfold tG;rw[Fr.put_nt,Fr.put_nt,hd.nt]
   have f4:=d01 (a:=tG sp mo a h) (aa:=I.upd sp.v0 [.vi D.length,.vl D]) (v0:=sp.v0+1) Kh (by rw[hntA];exact g11) hpcA hdsA f3;have r4:=dz7 hD2 g12 r1;unfold JJ at hend;split at hend
   rotate_left
   .cases hend
   rename_i es hes;obtain rfl:=cO0 hend;obtain⟨b1,b2,b3,b4⟩:=cq2 hn0 g1 r f st0 hxs (s0:=[s0,s1]) (i:=0) (p:=[.vi D.length,.vl D]) hlink [.vi D.length,.vl D] aj _ _ _ w1 _ hes (by
    simp only[Z6,bU];rw[show(I.upd sp.v0 [Val.vi D.length,.vl D]).w sp.v0= .vi D.length from uV (j:=0) rfl,uV (j:=1) (x:= .vl D) rfl]) f4 r4 aB
   rw[hx1]at hT;have hon:(ke sp (fO sp.id ([s0,s1]++sp.fv)) a h x.2).h.next=x.2.next:=Heap.next_upto _ _
   refine q (.exit mc.xid) _ _ (aj.cut x.2.next) _ w1 hT b1 b2 (b3.putBack (L:=Lm) (by exact hmx) (Heap.get_lim _ _ _ hg2) (by simp only[bY.cut];rw[e8 hmx];exact hLm1) ⟨Es,_,hmp,hrows,hborn⟩ (λb y M hy hbm hb=> ?_) (λhw=> ?_)) ⟨b4.le,b4.ext,λb hb hn=> ?_,b4.wm⟩
   .simp only[bY.cut]at hb;split at hb
    .rename_i hlt;obtain⟨z,hz⟩:=bV1 hsub b hlt y hy;exact(hsep1 b z M hz hb).2
    .cases hb
   .exact r.free m _ Lm hg2 (by rw[st0.wm,<-b4.wm];exact hw) hLm
   .have:b≠m:=by
     rintro rfl;rw[<-st0.ext b hb,hLm]at hn;cases hn
    rw[Heap.get_put,b9 this];exact b4.unm b hb hn
  .
   obtain⟨heE,heS⟩:=cO1 hem;obtain⟨i,hi,hei⟩:=B0 heE;have hiN:i<(dL I lm).length:=by rw[<-hlen];exact hi
   have hbe:(Es.toList.map (·.born)).getD i 0=e.born:=by
    obtain⟨e',he1,he2⟩:=hbi i hiN;rw[k9 hi,j0]at he1;rw[he2,<-he1,hei]
   have hip:i∉p:=λhh=>heS (by rw[hseen];exact j8.2 ⟨i,hh,hbe⟩)
   have hpn':(p++[i]).Nodup:=by
    refine R7.2 ⟨hpn,by simp,λx hx y hy=> ?_⟩;rintro rfl;rw[n9]at hy;subst hy;exact hip hx
   have hpl': ∀x∈p++[i],x<(dL I lm).length:=λx hx=>by
    rcases x8.1 hx with hh|hh
    .exact hpl x hh
    .rw[n9]at hh;subst hh;exact hiN
   obtain⟨q',hq'⟩:=cN8 hpn' hpl';have hj1:1<=j:=by
    have:=hq'.length_eq;simp at this;omega
   obtain⟨Dq,hDq,_⟩:=hm2 _ hq';obtain⟨u1,hu1,_⟩:=SC hDq;obtain⟨u0,hu0,hu3⟩:=SC hu1;obtain rfl:=R8 (hrun.symm.trans hu0);obtain⟨xa,xb,s2,rfl,hstep,_⟩:=QY hu3;have hw2h:w2.heap=w1.heap:=by rcases hw2 with rfl|rfl<;>rfl
   have hLlt:L.blk<w1.heap.size:=r1.lt _ _ aH;generalize hw3:ChangeMaps.setBlock w2 L.blk (.mapIter (some Lm.blk) L.ext (seen.push e.born) L.ext)=w3 at hnx;have hw3L:w3.heap[L.blk]? =some (.mapIter (some Lm.blk) L.ext (seen.push e.born) L.ext):=by
    rw[<-hw3];show(w2.heap.setIfInBounds L.blk _)[L.blk]? =_;rw[K5,e8 rfl,e8 (by rw[hw2h];exact hLlt)]
   have hw3o: ∀b,b≠L.blk->w3.heap[b]? =w1.heap[b]? :=by
    intro b hb;rw[<-hw3];show(w2.heap.setIfInBounds L.blk _)[b]? =_;rw[K5,b9 (Ne.symm hb),hw2h]
   have hw3s:w3.heap.size=w1.heap.size:=by
    rw[<-hw3];show(w2.heap.setIfInBounds L.blk _).size=_;rw[Array.size_setIfInBounds,hw2h]
   have hw3d:w3.os=w1.os/\w3.tape=w1.tape/\w3.output=w1.output/\w1.drawn<=w3.drawn:=by
    rw[<-hw3];rcases hw2 with rfl|rfl
    .exact⟨rfl,rfl,rfl,i6 _⟩
    .exact⟨rfl,rfl,rfl,Nat.le_succ _⟩
   have r2:HR aj (I.upd sp.v0 [xa,xb]) K w0 (dw sp a h).h w3:=by
    refine⟨λb y M hg hb=> ?_,r1.sep,r1.fresh,r1.fget,λb M hb=>by rw[hw3s];exact r1.lt b M hb,r1.kin,λz hz=> ?_,r1.free,by rw[hw3s];exact r1.size,hw3d.1.trans r1.os,hw3d.2.1.trans r1.tape,hw3d.2.2.1.trans r1.out,n7 r1.dr hw3d.2.2.2⟩
    .rw[hw3o _ (hsep1 b y M hg hb).1];exact r1.blk b y M hg hb
    .rw[hw3o z (by rintro rfl;exact hKL hz)];exact r1.keep z hz
   have r3:=dz6 (r:=[]) (r':=[.vi i]) g12 r2;have r4:HR aj (I.upd sp.v0 [xa,xb,.vi i]) (λz=>K z\/z=L.blk\/z=Lm.blk) w3 (dw sp a h).h w3:=by
    refine r3.freeze (λz hz=> ?_) (λb y M hg hw hb hz=> ?_)
    .rcases hz with hz|rfl|rfl
     .exact x6 (r3.kin z hz) r3.size
     .exact r3.lt _ _ aH
     .exact r3.lt _ _ hLm1
    .rcases hz with hz|hz|hz
     .exact r3.free b y M hg hw hb hz
     .exact(hsep1 b y M hg hb).1 hz
     .exact(hsep1 b y M hg hb).2 hz
   have f2:=d01 (aa:=I.upd sp.v0 [xa,xb,.vi i]) (v0:=sp.v0+1) Kh (by rw[hd.nt];exact g10) hd.pc hd.ds f1;have hr1:(execOp act1.eval mc.o1).run E.P w1= .ok (.value (.tuple #[.bool true,e.key,e.val])) w3:=by
    unfold execOp;rw[mk.o1];simp only[Sem.run_bind,hval,hnx];rfl
   have f3:=FrP.put' f2 (some mo.d1) (v:= .any) (u:= .tuple #[.bool true,e.key,e.val]) trivial;refine CW (i:=0) (by rw[hop1];rfl) f1 mk.p1 nd1 hr1 ?_;rw[mk.e1];have hr2:(execOp (act1.put (some mo.d1) (.tuple #[.bool true,e.key,e.val])).eval mc.o2).run E.P w3= .ok (.value (.bool true)) w3:=by
    unfold execOp;rw[mk.o2];simp[Sem.run_bind,PX (act:=act1) (d:=mo.d1) (v:= .tuple #[.bool true,e.key,e.val]) (by rw[f1.size];exact mk.l1)];rfl
   have f4:=FrP.put' f3 (some mo.d2) (v:= .bool true) (u:= .bool true) rfl;refine CW (i:=1) (rest:=[]) (by rw[hop1];rfl) f3 mk.p2 nd2 hr2 ?_;rw[mk.e2];refine wpIn_seq (wpIn_cond_true ?_ (wpIn_skip ?_))
   .rw[mk.tk];exact PX (by rw[f3.size,Fr.put_nt];exact mk.l2)
   refine wpIn_block (wpIn_seq (wpIn_region ?_));rw[J9,show mc.ops2.size=mc.r3.length+1 by rw[<-Array.length_toList,hop2];rfl];have hev:((act1.put (some mo.d1) (.tuple #[.bool true,e.key,e.val])).put (some mo.d2) (.bool true)).eval (.tmp t)= .pointer (some ⟨L.blk,0,none⟩):=by
    rw[b06 mk.n2,b06 mk.n1];exact hval
   have hr3:(execOp ((act1.put (some mo.d1) (.tuple #[.bool true,e.key,e.val])).put (some mo.d2) (.bool true)).eval mc.o3).run E.P w3= .ok (.value (.tuple #[e.key,e.val])) w3:=by
    unfold execOp;rw[mk.o3];simp[Sem.run_bind,hev];rw[run_entry_at w3 L.blk Lm.blk L.ext seen Es L.ext e hw3L ((hw3o _ hne).trans hmp) heE hnd];rfl
   have hrow: ∃row,(dL I lm)[i]? =some row/\qi ks vs row=(e.key,e.val):=by
    have h1:=congrArg (λl=>l[i]?) hrows;simp[B9,k9 hi,hei,Option.map_some]at h1;cases hh:(dL I lm)[i]? with
    |none=>rw[hh]at h1;cases h1
    |some row=>
     rw[hh,Option.map_some,j0]at h1;exact⟨row,rfl,h1.symm⟩
   obtain⟨row,Ks,HK⟩:=hrow;have hvE:VR aj (I.upd sp.v0 [xa,xb,.vi i]) (Gz ks vs lm (.va (sp.v0+2))) (.tuple #[e.key,e.val]):=by
    have:=dz5 (O:=aj) (I:=I.upd sp.v0 [xa,xb,.vi i]) (ks:=ks) (vs:=vs) (l:=lm) (idx:= .va (sp.v0+2)) (i:=i) (by
     show((I.upd sp.v0 [xa,xb,.vi i]).w (sp.v0+2)).toI=_;rw[uV (j:=2) (x:= .vi i) rfl];rfl) (by rw[hlm];exact Ks)
    rw[HK]at this;exact this
   have f5:=FrP.put' f4 (some mo.d3) hvE;refine CW (i:=0) (by rw[hop2];rfl) f4 mk.p3 nd3 hr3 ?_;rw[mk.e3];have aC:=ao I sp.v0 [xa,xb,.vi i] ae;have hro3:((((dw sp a h).a.put (some mo.d1) .any).put (some mo.d2) (.bool true)).put (some mo.d3) (Gz ks vs lm (.va (sp.v0+2)))).ro=none:=by
    rw[Fr.put_ro,Fr.put_ro,Fr.put_ro,hd.ro]
   refine ho _ aC ib kG (ny (I.upd sp.v0 [xa,xb,.vi i]) (0,s2)) (uX _ _) mc.ops2 mc.r3 (0+1) _ _ _ (by rw[hop2];rfl) ⟨[],lq,hstep⟩ _ w3 aj _ w3 none _ r4 f5 (by rw[hro3];exact rfl) ?_;intro a4 h4 aJ act4 w4 hT4 hf4 hr4' hst4;refine hk _ aC ib kG (ny (I.upd sp.v0 [xa,xb,.vi i]) (0,s2)) (uX _ _) mc.rest (a4.back none) h4 (HT mc.bid (vW sp a h)) hT4 _ w3 aJ act4 w4 none _ hr4' (hf4.back none) (by exact rfl) ?_;intro e5 a5 h5 aL act5 w5 hT5 _ hf5 hr5 hst5;have fin:ny (I.upd sp.v0 [xa,xb,.vi i]) (0,s2) (vW sp a h .norm a5 h5)->pC (fL none) E.P (.seq (.region i1 mc.ops1 false) (.seq (.cond mc.tok .skip (.exit mc.xid)) (.block mc.bid (.seq (.region i2 mc.ops2 false) mc.rest)))) Q act5 w5:=by
    rintro⟨_,_,hke⟩;obtain⟨hnd5,hke⟩:=FV hke;obtain⟨hf6,_,_⟩:=hf5.norms hnd5;obtain⟨an,cv⟩:=Lp (sp:=sp) hf6 hr5;simp[Bz]at hke;split at hke
    .rename_i es hes;simp[W7,j0,A7,true_and]at hke;have mm:=Hx hes;have hnt':(iH sp (eS sp.owns a5 h5).2 h5).1.nt=a.nt:=by rw[<-mm.nt,hd.nt]
     have k1:=mm.fr hd.pc (λs hs=>⟨_,rfl,by rw[hd.hi s (by rw[<-hnt'];exact hs)];exact uT (hd.un s (by rw[<-hnt'];exact hs))⟩) cv.fr;have k2:=mm.hr hd.fg cv.hr;rw[hke,PI]at k1 k2;have hown: ∀b,b<n0-> ¬ ∃o∈sp.owns,b=o.blk:=by
      rintro b hb ⟨o,hm,rfl⟩;have g1':=g1;obtain⟨g1',_⟩:=W5 g1';obtain⟨g1',_⟩:=W5 g1';obtain⟨g1',_⟩:=W5 g1';obtain⟨g1',_⟩:=W5 g1';obtain⟨g1',_⟩:=W5 g1';obtain⟨o0,_⟩:=W5 g1';rw[k6]at o0;have:=Z5.1 (o0 o hm);omega
     have az: ∀b,b<n0->an b=O b:=λb hb=>by
      have hbn:b<(dw sp a h).h.next:=by rw[hd.n];omega
      exact((cv.bij b (hown b hb)).trans (hst5.ext b (x6 hbn hst4.le))).trans ((hst4.ext b hbn).trans (aB b hb))
     have aF: ∀b,b<n0->(an.cut (dw sp a h).h.next) b=O b:=λb hb=>by
      simp[bY.cut];rw[e8 (by rw[hd.n];omega)];exact az b hb
     refine ih (j-1) (by omega) (p++[i]) s2 (by simp;omega) hpn' hpl' (YK hstep hrun) _ act5 w5 (seen.push e.born) k1 (HR.thaw r3 (λz hz=> .inl hz) k2) aF (λb y M hy hb=> ?_) ((hr5.keep _ (.inr (.inl rfl))).trans hw3L) ((hr5.keep _ (.inr (.inr rfl))).trans ((hw3o _ hne).trans hmp)) (by rw[J7,hseen,u9];simp only[m8,O4];rw[hbe]);by_cases hbn:b<n0
     .rw[aF b hbn]at hb;exact hsep0 b y M hy hb
     .have:=k2.free b y M hy (by rw[hd.wm];omega) hb;exact⟨λe=>this (.inr (.inl e)),λe=>this (.inr (.inr e))⟩
    .simp[W7]at hke
   have bad: ∀ex,ex≠ .norm-> ¬ny (I.upd sp.v0 [xa,xb,.vi i]) (0,s2) (vW sp a h ex a5 h5):=by
    rintro ex hex ⟨_,_,hke⟩;have no: ∀e',W7 (rS sp a h e' (iH sp (eS sp.owns a5 h5).2 h5).1 (iH sp (eS sp.owns a5 h5).2 h5).2 sp.exits 0) (I.upd sp.v0 [xa,xb,.vi i])=some (0,s2)->False:=by
     intro e' hh;obtain⟨i',x',es,q1,_⟩:=Ky _ _ hh;omega
    cases ex with
    |norm=>exact hex rfl
    |exit id=>exact no _ (FV hke).2
    |ret=>exact no _ (FV hke).2
   cases e5 with
   |norm=>exact fin hT5
   |ret=>exact absurd hT5 (bad .ret (by intro hh;cases hh))
   |exit i5=>
    replace hT5:ny _ _ (bif Nat.beq i5 mc.bid then vW sp a h .norm a5 h5 else vW sp a h (.exit i5) a5 h5):=hT5;show if i5=mc.bid then _ else _
    by_cases hi5:i5=mc.bid
    .rw[e8 hi5];rw[Z1.2 hi5]at hT5;exact fin hT5
    .rw[yQ hi5]at hT5;exact absurd hT5 (bad (.exit i5) (by intro hh;cases hh))
 refine main _ [] _ (R9 (l9 _).symm) .nil (λi hi=>(by cases hi)) rfl (O.cut (dw sp a h).h.next) act w #[] f1 r1 (λb hb=>by simp only[bY.cut];rw[e8 (by rw[hd.n];omega)]) (λb y M hy hb=>hsep0 b y M hy (by
  simp only[bY.cut]at hb;split at hb
  .exact hb
  .cases hb)) hobj hmobj rfl
theorem cq7{R:Type}{A:Alg R}{T:R->Prop}(hA:AlgOk A T I){h:Heap}{k:Ex->Fr->Heap->R}(he:T (EI (ev E n) A n0 k sp a h (CG c))): ∀o∈sp.owns,n0<=o.blk:=by
 unfold EI at he;split at he
 .rename_i mc hmc;unfold UU at he;split at he
  .rename_i mo hmo;split at he
   .rename_i m hg1;unfold Nu at he;split at he
    .rename_i it' d ks vs lm o hg2 hown;cases hit:Nat.beq it' mo.it with
     |false=>rw[hit]at he;exact absurd he hA.bad
     |true=>
      rw[hit]at he;split at he
      .rename_i x hex;intro o' ho';rw[hown,n9]at ho';subst ho';unfold MS at he;split at he
       .rename_i xid _;cases hcnd:(Nat.beq xid mc.xid&&Jf (EB sp mo.it m o'.blk lm) a h n0 mo m o'.blk lm&&Nat.blt m x.2.next&&JJ (EB sp mo.it m o'.blk lm) mo o'.blk a h x.2)with
        |false=>rw[hcnd]at he;exact absurd he hA.bad
        |true=>
         have h1:=(W5 (W5 (W5 hcnd).1).1).2;unfold Jf at h1;simp_all
       .exact absurd he hA.bad
      .exact absurd he hA.bad
    .exact absurd he hA.bad
   .exact absurd he hA.bad
  .exact absurd he hA.bad
 .exact absurd he hA.bad
theorem cO2{Ω:Opq->Prop}(ao: ∀I v0 l,Ω I->Ω (I.upd v0 l))(ae:Ω I)(hk: ∀aa,Ω aa->lR E aa n)(ho: ∀aa,Ω aa->uF E aa n){R:Type}{A:Alg R}{T:R->Prop}(hA:AlgOk A T I)
 {h hs:Heap} (hn0:n0=hs.next) {k:Ex->Fr->Heap->R}
 (he:T (EI (ev E n) A n0 k sp a h (CG c))) {K:Nat->Prop} {w0:World} {O ah:bY} {w:World} (r:HR O I K w0 h w) (f:du O I a act) (st0:St hs ah h O) (q:rI T I K w0 hs ah none k Q):pC (fL none) E.P c Q act w:=by
 unfold EI at he;split at he
 .rename_i mc hmc;unfold UU at he;split at he
  .rename_i mo hmo;split at he
   .rename_i m hg1;unfold Nu at he;split at he
    .rename_i it' d ks vs lm o hg2 hown;cases hit:Nat.beq it' mo.it with
     |false=>rw[hit]at he;exact absurd he hA.bad
     |true=>
      rw[hit]at he;obtain rfl:=Z1.1 hit;split at he
      .rename_i x hex;exact cq6 ao ae hk ho hA hmc hn0 (sp:=EB sp mo.it m o.blk lm) (x:=x) hmo hg1 hg2 (by grind) he r f st0 q
      .exact absurd he hA.bad
    .exact absurd he hA.bad
   .exact absurd he hA.bad
  .exact absurd he hA.bad
 .exact absurd he hA.bad
end Go.Ev
namespace Go.Ev
open Go
variable{n:Nat}{O:bY}{Ω:Opq->Prop}{K:Nat->Prop}{w0:World}{ro:Option Nat}{Q:Exit->Act->World->Prop}
variable{E:Env}{I:Opq}
theorem bI2(ao: ∀I v0 l,Ω I->Ω (I.upd v0 l))(ae:Ω I)(hk: ∀aa,Ω aa->lR E aa n)(hops: ∀aa,Ω aa->uF E aa n){R:Type}{A:Alg R}{T:R->Prop}(hA:AlgOk A T I){c:Code}{a:Fr}{h:Heap}{k:Ex->Fr->Heap->R}{sp:LSpec}
 (he:T (NA (ev E n) A c a h k sp)) {act:Act} {w:World} (r:HR O I K w0 h w) (f:du O I a act) (hR:uf O a.ro ro) (q:rI T I K w0 h O a.ro k Q):pC (fL ro) E.P c Q act w:=by
 obtain⟨hpl,hnd,he⟩:sA a=true/\dB I (eS sp.owns a h).1=true/\T (TA (ev E n) A c h.next k sp (iH sp (eS sp.owns a h).2 (h.upto (Nat.add h.next sp.owns.length)))):=by
  unfold NA at he;cases hp:sA a with
  |false=>rw[hp]at he;exact absurd he hA.bad
  |true=>rw[hp]at he;exact⟨rfl,hA.needA _ _ he⟩
 obtain⟨_,hro⟩:=Cq hpl;rw[hro]at hR q;obtain rfl:ro=none:=hR;obtain⟨f,-⟩:=f.norms hnd;generalize (eS sp.owns a h).2=a at he f;obtain⟨ac,cv⟩:=Lp (sp:=sp) f (r.upto (n:=Nat.add h.next sp.owns.length) (B5 _ _));unfold TA at he;cases hmp:sp.mapr with
 |true=>
  rw[hmp]at he;have ho:=cq7 hA he;refine cO2 ao ae hk hops hA rfl he cv.hr cv.fr ⟨?_,λb hb=>cv.bij b ?_,λb hb hn=> ?_,?_⟩ q
  .rw[cv.next,Heap.next_upto];grind
  .grind
  .rcases cv.get b with e|e|⟨o,hm,rfl⟩|e
   .exact .inl (e.trans (Heap.get_upto _ _ _))
   .exact .inr (.inl e)
   .have:=ho o hm;omega
   grind
  .rw[cv.wm,Heap.wm_upto]
 |false=>
 rw[hmp]at he;have ho: ∀o∈sp.owns,h.next<=o.blk:=by
  have he':=he;unfold Jr at he';cases hok:ya sp (iH sp a (h.upto (Nat.add h.next sp.owns.length))).1 (iH sp a (h.upto (Nat.add h.next sp.owns.length))).2 h.next with
  |false=>rw[hok]at he';exact absurd he' hA.bad
  |true=>
   unfold ya at hok;simp_all
 refine(cN7 ao ae hk hA rfl he cv.hr cv.fr ⟨?_,λb hb=>cv.bij b ?_,λb hb hn=> ?_,?_⟩ q)
 .rw[cv.next,Heap.next_upto];grind
 .grind
 .rcases cv.get b with e|e|⟨o,hm,rfl⟩|e
  .exact .inl (e.trans (Heap.get_upto _ _ _))
  .exact .inr (.inl e)
  .have:=ho o hm;omega
  grind
 .rw[cv.wm,Heap.wm_upto]
theorem jw.append{as:List ADef}{ds:List Deferred}: ∀{bs:List ADef} {es:List Deferred} {O:bY},jw O I bs es->jw O I as ds->jw O I (bs++as) (es++ds)
 | [],es,O,h,q=>by rw[show es=[]from h];exact q
 |b::bs,es,O,⟨d,dr,e,h1,h2⟩,q=>by rw[e];exact⟨d,dr++ds,rfl,h1,jw.append h2 q⟩
theorem FrP.markL{X:Nat->Prop}{a:Fr}{act:Act}(f:FrP O I X a act){m:List ADef}{d:List Deferred}(h:jw O I m d):FrP O I X (a.mark m) {act with defers:=d++act.defers}:=
 ⟨by simpa using f.size,by simpa using f.lim,λt ht=>by simpa using f.slot t ht,by exact h.append f.defers,λp hp=>f.pcs p (by simp_all)⟩
theorem cq8{w:World}{h h1:Heap}{a:Fr}{d:Nat}{m:List ADef}(r:HR O I K w0 h w)(hR:uf O a.ro ro)(e:LI h a.ro=some (d,h1,m)):
 ∃(w1:World) (aj:bY) (Ld:Loc) (dm:List Deferred),HR aj I K w0 h1 w1/\St h O h1 aj/\aj d=some Ld/\jw aj I m dm/\
  ∀fn tmps ps assign body,(Instr.enterLoop fn tmps ps assign body ro).run E.P w= .ok (w1.heap.size,dm) (w1.alloc (.loop {state:= .ready,pending:=none,fn,tmps,params:=ps,assign,body,defers:=Ld.blk})):=by
 cases hro:a.ro with
 |none=>
  rw[hro]at e hR;obtain rfl:ro=none:=hR;obtain⟨rfl,rfl,rfl⟩:=e;obtain⟨r1,s1⟩:=r.new (.deferred (some [])) (.defd false) 0 0 rfl;refine⟨_,_,_,[{target:= .collected w.heap.size,args:= #[]}],r1,s1,bY.add_self _ _ _,⟨_,_,rfl,⟨_,bY.add_self _ _ _,rfl⟩,rfl⟩,λfn tmps ps assign body=> ?_⟩;rfl
 |some l=>
  rw[hro]at e hR;obtain⟨L,hL,rfl⟩:=hR;simp[LI]at e;split at e
  .rename_i st pend fn0 tm nt ps0 as b d0 hg;obtain⟨rfl,rfl,rfl⟩:=e;obtain⟨tmps0,f',Ld,g1,g2,g3⟩:=r.blk l _ L hg hL;refine⟨w,O,Ld,[],r,.refl _ _,g2,rfl,λfn tmps ps assign body=> ?_⟩;simp_all[Instr.enterLoop,Sem.run_bind,run_getLoop,run_newObj_alloc,Result.andThen,Sem.run_pure]
  .cases e
theorem cO3{R:Type}{A:Alg R}{T:R->Prop}(hA:AlgOk A T I)(hE:E.Ok I)(hc:LT E I n)(hk1:lR E I n){g:Operand}{ps:Array Tmp}{assign body:Code}{a:Fr}{h:Heap}{k:Ex->Fr->Heap->R}
 (he:T (QD E (ev E n) A ps assign body a k (LI h a.ro) (a.ev g))) {act:Act} {w:World} (r:HR O I K w0 h w) (f:du O I a act) (hR:uf O a.ro ro)
 (q:rI T I K w0 h O a.ro k Q):(Code.rangeFunc g ps assign body).wpIn (fL ro) 0 E.P Q act w:=by
 unfold QD at he;split at he
 .rename_i d h1 m har;split at he
  .rename_i fv hfv;obtain⟨w1,aj,Ld,dm,r1,s1,hd,hdm,hent⟩:=cq8 (E:=E) r hR har;refine wpIn_rangeFunc ?_;intro fn _;have hadd':Le aj (aj.add h1.next ⟨w1.heap.size,0,0⟩):=by
    intro b M hb;simp[bY.add];rw[b9]
    .exact hb
    .intro hh;rw[r1.fresh b (R9 hh.symm)]at hb;cases hb
   have hadd: ∀M,aj d=some M->(aj.add h1.next ⟨w1.heap.size,0,0⟩) d=some M:=λM hM=>hadd' d M hM
   obtain⟨r2,s2⟩:=r1.new (.loop {state:= .ready,pending:=none,fn:=fn,tmps:=act.tmps,params:=ps,assign:=assign,body:=body,defers:=Ld.blk}) (.loop .ready none a.fn a.tm a.nt ps assign body d) 0 0
    ⟨act.tmps,fn,Ld,rfl,hadd _ hd,f.size,f.lim,λt=>VR.mono hadd' _ _ ((f.mono (s1.Le r)).slot t id)⟩
   have s12:=s1.trans s2;have hle:=s12.Le r;have hcv:=WJ hE (args:=[.yield h1.next]) (us:=[.func (.yield w1.heap.size) #[] #[]]) r2 (VR.mono hle _ _ (f.opR g _ hfv)) ⟨_,_,rfl,⟨_,bY.add_self _ _ _,rfl⟩,rfl⟩;unfold ch8 at he;split at he
   .rename_i gf args hres;rw[hres]at hcv;obtain⟨us',hrun,ra'⟩:=hcv;rw[Sem.run_bind]at hrun;cases hdd:(Deferred.ofValue (act.eval g) ([.func (.yield w1.heap.size) #[] #[]]:List Value).toArray).run E.P (w1.alloc (.loop {state:= .ready,pending:=none,fn:=fn,tmps:=act.tmps,params:=ps,assign:=assign,body:=body,defers:=Ld.blk}))with
    |halt x w'=>simp_all
    |ok dd w1'=>
     rw[hdd,Result.andThen_ok]at hrun;refine⟨w1.heap.size,dm,_,dd,w1',gf,us'.toArray,_,hent fn act.tmps ps assign body,?_,λ_ _=>trivial,hrun,(λhh=>by cases hh),bT3.2 (Calls.mono (hc R A T hA gf args _ _ he K w0 _ _ us' r2 ra') ?_)⟩
     .have:(#[Operand.const (.func (.yield w1.heap.size) #[] #[])]:Array Operand).map act.eval=([.func (.yield w1.heap.size) #[] #[]]:List Value).toArray:=by simp[Act.eval]
      show(Deferred.ofValue (act.eval g) ((#[Operand.const (.func (.yield w1.heap.size) #[] #[])]:Array Operand).map act.eval)).run E.P _=_;grind
     .rintro e w' ⟨u,ac,v,h',rfl,hke,-,hr',hst'⟩;unfold cY8 at hke;split at hke
      .rename_i st pend fn2 tm2 nt2 ps2 as2 b2 d2 hg;obtain⟨hwm,hke⟩:Nat.ble h'.wm h1.next=true/\T (Yu (ev E n) A (a.mark m) k (h'.put h1.next (some (.loop .exhausted pend fn2 tm2 nt2 ps2 as2 b2 d2))) pend st):=by
        cases hcc:Nat.ble h'.wm h1.next with
        |false=>rw[hcc]at hke;exact absurd hke hA.bad
        |true=>grind
       rw[Z5]at hwm;have hL:ac h1.next=some ⟨w1.heap.size,0,0⟩:=by
        rw[hst'.ext _ (by simp)];exact bY.add_self _ _ _
       obtain⟨f',tmps',Ld',z1,z2,z3,z4⟩:=hr'.loopAt hg hL hwm;obtain⟨y1,y2⟩:=z4 .exhausted pend;have hst:st≠ .busy:=by
        rintro rfl;exact absurd hke hA.bad
       have hend:=run_endLoop (P:=E.P) z1 hst;have s3:=(s12.trans hst').trans y2;have hf:=(f.mono (s3.Le r)).markL (hdm.mono ((s2.trans (hst'.trans y2)).Le r1));have hke:T (MU (ev E n) A (a.mark m) k (h'.put h1.next (some (.loop .exhausted pend fn2 tm2 nt2 ps2 as2 b2 d2))) pend):=by
        cases st with
        |busy=>grind
        |_=>exact hke
       refine⟨pend,_,hend,?_⟩;cases pend with
       |none=>exact q .norm (a.mark m) _ ac _ _ hke (Fr.mark_ro _ _) hf y1 s3
       |some c=>exact hk1 R A T hA c (a.mark m) _ k hke K w0 ac _ _ ro Q y1 hf (by exact hR.mono (s3.Le r)) (by exact q.later s3)
      .exact absurd hke hA.bad
   .exact absurd he hA.bad
  .exact absurd he hA.bad
 .exact absurd he hA.bad
theorem cq9(ao: ∀I v0 l,Ω I->Ω (I.upd v0 l))(ae:Ω I)(hE:E.Ok I)(hm:E.P.follows .mixedOrders=true)(hc: ∀m,m<=n->yo E I m)(hk2: ∀aa,Ω aa->lR E aa n)(hl:MP E I n)(ho:uF E I n):lR E I (n+1):=by
 intro R A T hA c a h k he K w0 O act w ro Q r f hR q;have hk1:lR E I n:=hk2 I ae;cases c with
 |skip=>exact wpIn_skip (q .norm a h O act w he rfl f r (.refl _ _))
 |label l=>exact wpIn_label (q .norm a h O act w he rfl f r (.refl _ _))
 |ret=>exact wpIn_ret (q .ret a h O act w he rfl f r (.refl _ _))
 |exit id=>exact wpIn_exit (q (.exit id) a h O act w he rfl f r (.refl _ _))
 |rangeFunc g ps assign body=>exact cO3 hA hE (hc n (i6 _)).1 hk1 he r f hR q
 |seq x y=>
  refine wpIn_seq (hk1 R A T hA x a h _ he K w0 O act w ro _ r f hR ?_);intro e a' h' ac act' w' hke hro hf hr hst;cases e with
  |norm=>exact hk1 R A T hA y a' h' k hke K w0 ac act' w' ro Q hr hf (by rw[hro];exact hR.mono (hst.Le r)) (by rw[hro];exact q.later hst)
  |exit id=>exact q (.exit id) a' h' ac act' w' hke hro hf hr hst
  |ret=>exact q .ret a' h' ac act' w' hke hro hf hr hst
 |cond c x y=>
  have he:T (RM (ev E n) A x y a h k (a.ev c)):=he;have go: ∀(b:Bool) (a':Fr),a'.ro=a.ro->du O I a' act->act.eval c= .bool b->T (ev E n R A (.code (bif b then x else y) a' h k))->(Code.cond c x y).wpIn (fL ro) 0 E.P Q act w:=by
   intro b a' hro f' hv he';refine wpIn_cond hv ?_;have:=hk1 R A T hA _ a' h k he' K w0 O act w ro Q r f' (by rw[hro];exact hR) (by rw[hro];exact q);grind
  unfold RM at he;split at he
  .rename_i b hb;have hv:=f.opR c _ hb;simp[VR]at hv;grind
  .rename_i e hb;have hv:=f.opR c _ hb;simp[VR]at hv;unfold Ww at he;split at he
   .rename_i b hp;exact go b a rfl f (by rw[hv,Um f.pcs hp]) he
   .obtain⟨h1,h2⟩:=hA.ite _ _ _ he;cases hd:dB I e with
    |true=>exact go true _ (Fr.cond_ro _ _) (f.cond hd) (by grind) (h1 hd)
    |false=>exact go false _ (Fr.cond_ro _ _) (f.cond hd) (by grind) (h2 hd)
  .exact absurd he hA.bad
 |block id b=>
  refine wpIn_block (hk1 R A T hA b a h _ he K w0 O act w ro _ r f hR ?_);intro e a' h' ac act' w' hke hro hf hr hst;cases e with
  |norm=>exact q .norm a' h' ac act' w' hke hro hf hr hst
  |ret=>exact q .ret a' h' ac act' w' hke hro hf hr hst
  |exit i=>
   simp[HT]at hke;show if i=id then _ else _
   by_cases hi:i=id
   .rw[e8 hi];rw[Z1.2 hi]at hke;exact q .norm a' h' ac act' w' hke hro hf hr hst
   .rw[b9 hi];rw[yQ hi]at hke;exact q (.exit i) a' h' ac act' w' hke hro hf hr hst
 |loop b=>
  exact cp8 (hl R A T hA b a h k he K w0 O act w ro Q r f hR q)
 |scope b=>
  refine c77 (hk1 R A T hA b a h k he K w0 O act w ro _ r f hR ?_);intro e a' h' ac act' w' hke hro hf hr hst;cases e<;>exact q _ a' h' ac act' w' hke hro hf hr hst
 |region id ops draw=>
  cases draw with
  |false=>
   refine wpIn_region ?_;have:=ho R A T hA ops ops.toList 0 a h (GO a.ro k) rfl he K w0 O act w ro Q r f hR (λa' h' ac act' w' g1 g2 g3 g4=>q .norm _ h' ac act' w' g1 (Fr.back_ro _ _) (g2.back _) g3 g4);grind[List.range_eq_range']
  |true=>
   have he:T (Yc (ev E n) A ops.toList a h k (FM ops.toList)):=he;cases hp:FM ops.toList with
   |none=>rw[hp]at he;exact absurd he hA.bad
   |some rr=>
    rw[hp]at he;obtain⟨l,pk⟩:=dc8 hp;refine wpIn_region_any hm ?_;have hno: ∀i,¬dY (Array.replicate ops.size false) i:=by
     intro i hi;unfold dY at hi;simp[s9,U8]at hi;split at hi<;>simp at hi
    refine dd1 hA (hs:=h) (ah:=O) hE pk (N:=n) (λm hmn=>hc m (by omega)) (k:=GO a.ro k) (λa' h' ac act' w' g1 g2 g3 g4=>q .norm _ h' ac act' w' g1 (Fr.back_ro _ _) (g2.back _) g3 g4)
     ops.size n 0 rr [] a h (λ_=>0) _ O act _ (i6 _) he ?_ ?_
    .refine⟨r.drew,.refl _ _,by simp,λx _ hx=>absurd hx (hno _),λx _ hx=>absurd hx (hno _),λx _ hx=>by simp at hx,pk.eager,pk.rl,λx hx _=>pk.lr x hx,?_,λx _ hx=>by simp at hx,λx _ y _ hx=>by simp at hx⟩;exact f.weaken λ_ hh=>hh.elim
    grind[left,Nat.le_trans,List.length_filter_le]
 |_=>exact absurd he hA.bad
theorem cr0(ao: ∀I v0 l,Ω I->Ω (I.upd v0 l))(ae:Ω I)(hk2: ∀aa,Ω aa->lR E aa n)(hops: ∀aa,Ω aa->uF E aa n)(hk1:lR E I n)(hl:MP E I n):MP E I (n+1):=by
 intro R A T hA c a h k he K w0 O act w ro Q r f hR q;have he:T (VI (ev E n) A c a h k (E.lspec a.fn (Af c) a h)):=he;cases hsp:E.lspec a.fn (Af c) a h with
 |some sp=>
  rw[hsp]at he;exact bI2 ao ae hk2 hops hA he r f hR q
 |none=>
  rw[hsp]at he;refine Jb (hk1 R A T hA c a h _ he K w0 O act w ro _ r f hR ?_);intro e a' h' ac act' w' hke hro hf hr hst;cases e with
  |norm=>exact hl R A T hA c a' h' k hke K w0 ac act' w' ro Q hr hf (by rw[hro];exact hR.mono (hst.Le r)) (by rw[hro];exact q.later hst)
  |exit id=>exact q (.exit id) a' h' ac act' w' hke hro hf hr hst
  |ret=>exact q .ret a' h' ac act' w' hke hro hf hr hst
end Go.Ev
