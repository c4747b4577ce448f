import Derived.Test.YtliadehnohhngaaGreatE26b
import Derived.Scope
import Derived.RangeFuncLeaves
import Derived.Maps.RangeRun
set_option linter.all false
namespace Go.Ev
open Go
variable{O:cn}{c:Code}{act:Act}{h:Heap}{Q:Exit->Act->yM->Prop}{K:zI}{w0:yM}
variable{E:Env}{I:Opq}
def tg(F:Fence)(P:uV)(c:Code)(Q:Exit->Act->yM->Prop)(a:Act)(w:yM):Prop:=
 ∀(b:Frame) (k:List Item) (cs:List Frame),b.roundOf=F.round->F.fn b.fn->F.room (cs.length+1+0)->
  ∃e a' w',Q e a' w'/\ArrivesIn (Machine.fenced P F) P (lone (b.atR a (.code c:: .inLoop c::k)) cs w) b k cs e a' w'
def cu3{F:Fence}{P:uV}{a:Act}{w:yM}(h:tg F P c Q a w):(Code.loop c).wpIn F 0 P Q a w:=by intro b k cs hro hb hr;obtain⟨e,a',w',hq,harr⟩:=h b k cs hro hb hr;exact⟨e,a',w',hq,.of_steps (.one (fenced_calm hb hr rfl) stepR_loop) harr⟩
def MF{F:Fence}{P:uV}{a:Act}{w:yM}(h:c.wpIn F 0 P (Exit.then (tg F P c Q) Q) a w):tg F P c Q a w:=by
 intro b k cs hro hb hr;obtain⟨e,a₁,w₁,hq,harr⟩:=h b (.inLoop c::k) cs hro hb hr;cases e with
 |normal=>
  obtain⟨e₂,a₂,w₂,hq₂,harr₂⟩:=hq b k cs hro hb hr;exact⟨e₂,a₂,w₂,hq₂,.of_steps (StepsIn.trans harr (.one (fenced_calm hb hr rfl) stepR_inLoop)) harr₂⟩
 |exit id=>exact⟨_,a₁,w₁,hq,.pass (x:= .inLoop c) rfl (λ_ _=> .inl (by simp)) harr⟩
 |goto l=>exact⟨_,a₁,w₁,hq,.pass (x:= .inLoop c) rfl (λ_ _=> .inl (by simp)) harr⟩
 |ret=>exact⟨_,a₁,w₁,hq,.pass (x:= .inLoop c) rfl (λ_ _=> .inl (by simp)) harr⟩
 |panic ch=>exact⟨_,a₁,w₁,hq,.pass (x:= .inLoop c) rfl (λ_ _=> .inl (by simp)) harr⟩
 |outgrown=>exact⟨_,a₁,w₁,hq,.pass (x:= .inLoop c) rfl (λ_ _=> .inl (by simp)) harr⟩
section scope
variable{P:uV}{b:Frame}{a:Act}{k:List Item}{cs:List Frame}{w:yM}
def CN:step P (lone (b.atR a (.code (.scope c)::k)) cs w)= .next (lone (b.atR a (.code c:: .inScope c::k)) cs w):=
 step_lone_go (by rfl)
def bl5:step P (lone (b.atR a (.inScope c::k)) cs w)= .next (lone (b.atR a k) cs w):=
 step_lone_go (by rfl)
def cd6{F:Fence}{n:Nat}(h:c.wpIn F n P (Exit.noGoto Q) a w):(Code.scope c).wpIn F n P Q a w:=by
 intro b k cs hro hb hr;have h0:(lone (b.atR a (.code (.scope c)::k)) cs w).fenced P F:=fenced_calm hb hr rfl;obtain⟨e,a₁,w₁,hq,harr⟩:=h b (.inScope c::k) cs hro hb hr;cases e with
 |normal=>exact⟨.normal,a₁,w₁,hq,.head h0 CN (StepsIn.trans harr (.one (fenced_calm hb hr rfl) bl5))⟩
 |exit id=>
  have hx:exitTo id (.inScope c::k)=exitTo id k:=by rfl
  exact⟨.exit id,a₁,w₁,hq,λk' hk=> .head h0 CN (harr.1 k' (by grind)),
   λhr' hk=>let ⟨k₁,h1,h2⟩:=harr.2 hr' (by grind);⟨k₁,h1,.head h0 CN h2⟩⟩
 |goto l=>trivial
 |ret=>exact⟨_,a₁,w₁,hq,.of_steps (.one h0 CN) harr⟩
 |panic ch=>exact⟨_,a₁,w₁,hq,.of_steps (.one h0 CN) harr⟩
 |outgrown=>exact⟨_,a₁,w₁,hq,.of_steps (.one h0 CN) harr⟩
end scope
def OF(E:Env)(I:Opq)(n:Nat):Prop:= ∀(R:Type) (A:Alg R) (T:R->Prop),AlgOk A T I-> ∀(c:Code) (a:Fr) (h:Heap) (k:Ex->Fr->Heap->R),T (ev E n R A (.loop c a h k))->
 ∀(K:zI) (w0:yM) (O:cn) (act:Act) (w:yM) (ro:Bj) (Q:Exit->Act->yM->Prop),HR O I K w0 h w->dA O I a act->Af O a.ro ro->vo T I K w0 h O a.ro k Q->tg (ie ro) E.P c Q act w
def wI(E:Env)(I:Opq)(n:Nat):Prop:= ∀(R:Type) (A:Alg R) (T:R->Prop),AlgOk A T I-> ∀(ops:aaU) (rest:aay) (i:Nat) (a:Fr) (h:Heap) (k:Fr->Heap->R),ops.toList.drop i=rest->T (ev E n R A (.ops ops.toList rest a h k))->
 ∀(K:zI) (w0:yM) (O:cn) (act:Act) (w:yM) (ro:Bj) (Q:Exit->Act->yM->Prop),HR O I K w0 h w->dA O I a act->Af O a.ro ro->
  (∀a' h' ac act' w',T (k a' h')->dA ac I a' act'->HR ac I K w0 h' w'->St h O h' ac->Q .normal act' w')->wpOpsIn (ie ro) 0 E.P ops Q (List.range' i rest.length) act w
def HW(E:Env)(I:Opq)(n:Nat):Prop:= ∀(R:Type) (A:Alg R) (T:R->Prop),AlgOk A T I-> ∀(f:FuncId) (args:Fz) (h:Heap) (k:AV->Heap->R),T (ev E n R A (.body f args h k))->
 ∀(K:zI) (w0:yM) (O:cn) (w:yM) (us:List AS),HR O I K w0 h w->ct O I args us->
  Calls E.P f us.toArray w (λe w'=> ∃u ac v h',e= .returned u/\T (k v h')/\VR ac I v u/\HR ac I K w0 h' w'/\St h O h' ac)
def Ri(E:Env)(I:Opq)(n:Nat):Prop:= ∀(R:Type) (A:Alg R) (T:R->Prop),AlgOk A T I-> ∀(f:FuncId) (args:Fz) (h:Heap) (k:AV->Heap->R),T (ev E n R A (.dbody f args h k))->
 ∀(K:zI) (w0:yM) (O:cn) (w:yM) (us:List AS) (m:FrameMode),HR O I K w0 h w->ct O I args us->
  CallsDIn Fence.wide 0 E.P f us.toArray m w (λe m' w'=>m'=m/\ ∃u ac v h',e= .returned u/\T (k v h')/\VR ac I v u/\HR ac I K w0 h' w'/\St h O h' ac)
def Lk(E:Env)(I:Opq)(n:Nat):Prop:= ∀(R:Type) (A:Alg R) (T:R->Prop),AlgOk A T I-> ∀(fn:Func) (a:Fr) (ds:aaH) (h:Heap) (k:AV->Heap->R),T (ev E n R A (.leave fn.results.toList a ds h k))->
 ∀(K:zI) (w0:yM) (O:cn) (act:Act) (w:yM) (dd:aa1),HR O I K w0 h w->dA O I a act->lE O I ds dd->
  LeavesInM Fence.wide 0 E.P fn act.tmps (λe w'=> ∃u ac v h',e= .returned u/\T (k v h')/\VR ac I v u/\HR ac I K w0 h' w'/\St h O h' ac) dd .returning w
def FrP.put'{a:Fr}(f:dA O I a act)(dst:aaJ){v:AV}{u:AS}(r:VR O I v u):dA O I (a.put dst v) (act.put dst u):=
 (FrP.put f dst r).weaken λ_ hh=>hh.1
def cW9(hE:E.Ok I){n:Nat}(hc:zj E I n)(ho:wI E I n):wI E I (n+1):=by
 intro R A T hA ops rest i a h k hdrop he K w0 O act w ro Q r f hR hk;cases rest with
 |nil=>exact hk a h O act w he f r (.refl _ _)
 |cons o rest=>
  have hlt:i<ops.toList.length:=by grind[Nat.lt_or_ge,List.drop_eq_nil_of_le]
  have hcons:=R8 hlt;rw[hdrop]at hcons;obtain⟨e1,e2⟩:=R3 hcons;have hoi:ops[i]? =some o:=by grind
  have hd2:ops.toList.drop (i+1)=rest:=e2.symm;have he:T (dJ8 E (ev E n) A ops.toList rest o a h k (eS ops.toList a o)):=he;cases hw:eS ops.toList a o with
  |none=>
   rw[hw]at he;replace he:T (cn9 (ev E n) A ops.toList (o::rest) a h k (wW ops.toList a o)):=he;cases hs:wW ops.toList a o with
   |none=>rw[hs]at he;exact absurd he hA.X
   |some e=>
    rw[hs]at he;obtain⟨h1,h2⟩:=hA.J _ _ _ he;cases hd:dB I e with
    |true=>exact ho R A T hA ops (o::rest) i _ h k hdrop (h1 hd) K w0 O act w ro Q r (f.cond hd) (by trivial) hk
    |false=>exact ho R A T hA ops (o::rest) i _ h k hdrop (h2 hd) K w0 O act w ro Q r (f.cond hd) (by trivial) hk
  |some b=>
   rw[hw]at he;show(match ops[i]? with
    |none=>_
    |some o=>_)
   rw[hoi];simp;rw[bf5 f rfl hw];cases b with
   |false=>
    exact⟨λ_ _=>trivial,ho R A T hA ops rest (i+1) _ h k hd2 he K w0 O _ w ro Q r (f.put' o.dst ⟨#[],rfl,rfl⟩) (by grind[Fr.put_ro]) hk⟩
   |true=>
    have fin: ∀res,fE E a.ev o h=res->dt E O I K w0 w h (execOp act.eval o) res->T (Ou (ev E n) A h (kOp (ev E n) A ops.toList rest o.dst a k) res)->
     o.wpIn (ie ro) 0 E.P act w (wpOpsIn (ie ro) 0 E.P ops Q (List.range' (i+1) rest.length)) Q:=by
     intro res hres hs he;refine dL4 hA hc r hres hs he ?_;intro ac v u h' w' hkk hv hr' hst';exact ho R A T hA ops rest (i+1) _ h' k hd2 hkk K w0 ac _ w' ro Q hr' ((f.mono (hst'.Le r)).put' o.dst hv) (by rw[Fr.put_ro];exact hR.mono (hst'.Le r)) λa2 h2 ap act2 w2 g1 g2 g3 g4=>hk a2 h2 ap act2 w2 g1 g2 g3 (hst'.trans g4)
    replace he:T (Vp (ev E n) A ops.toList rest o.dst a h k (fE E a.ev o h)):=he;have hs:=Zu hE r f.opR o;generalize hres:fE E a.ev o h=res at he hs;cases res with
    |defer d=>
     obtain⟨dd,hrun,hd⟩:=hs;simp[Vp]at he;cases hro:a.ro with
     |some l=>rw[hro]at he;exact absurd he hA.X
     |none=>
      rw[hro]at he hR;exact absurd (by assumption) hA.X
    |val v h'=>exact fin _ hres hs he
    |N e v h'=>exact fin _ hres hs he
    |cho e v l h'=>exact fin _ hres hs he
    |enter g args=>exact fin _ hres hs he
    |choice l=>exact fin _ hres hs he
    |yield l args=>exact fin _ hres hs he
    |X=>exact fin _ hres hs he
def Xz(I:Opq)(v0:Nat)(a b:U0):(I.U v0 a).U v0 b=I.U v0 b:=by simp_all[Opq.U,c9,b9]
def Ar: ∀(l:List (Nat×sP)) (h:Heap) (n:Nat),(∀p∈l,p.1<n)->(∀b,n<=b->h.get b=none)-> ∀b,n<=b->(iy h l).get b=none
 | [],h,n,_,hh,b,hb=>hh b hb
 |(t,v)::r,h,n,hl,hh,b,hb=>by refine Ar r _ n (λp hp=>hl p (.tail _ hp)) (λb hb=> ?_) b hb;have:=hl (t,v) (.head _);rw[Heap.get_put,b9 (by omega)];grind
theorem bA9{O:cn}{a:Fr}{act:Act}(f:dA O I a act){b:Nat}: ∀(n:Nat),Lx a b n=true->O b≠none
 |0,h=>by cases h
 |n+1,h=>by
  simp[Lx,s9]at h;rcases h with h|h
  have r:=f.slot n id;split at h;rename_i b' o hs;rw[hs]at r;obtain⟨L,hL,_⟩:=r;simp_all;rename_i b' hs;rw[hs]at r;obtain⟨L,hL,_⟩:=r;simp_all;cases h;exact bA9 f n h
def cu6{O:cn}{q:AV->Bool}: ∀{as:Fz} {us:List AS},ct O I as us->as.any q=true-> ∃a u,q a=true/\VR O I a u
 | [],_,_,h=>by cases h
 |a::as,_,hr,h=>by
  obtain⟨u,ur,rfl,h1,h2⟩:=hr;rw[List.any_cons,s9]at h;rcases h with h|h
  grind;exact cu6 h2 h
theorem bN4{w:yM}(r:HR O I K w0 h w){b:Nat}{av:AV}{u:AS}(h1:WU b h av=true)(h2:VR O I av u):O b≠none:=by
 unfold WU at h1;split at h1;rename_i c o;obtain⟨L,hL,_⟩:=h2;unfold dH9 at h1;split at h1;rename_i e0 fz cs hg;obtain⟨C,lo,hi,vs,q1,q2,q3,q4,q5,q6⟩:=r.blk c _ L hg hL;obtain⟨m,v,h3,h4⟩:=cu6 q5 h1;unfold dH8 at h3;split at h3;obtain⟨M,hM,_⟩:=h4
 (intros;simp_all);cases h3;cases h1;grind
theorem b37{O:cn}{K:zI}{w0 w:yM}{a:Fr}{h:Heap}{act:Act}(r:HR O I K w0 h w)(f:dA O I a act){b:Nat}: ∀(n:Nat),Me a h b n=true->O b≠none
 |0,e=>by cases e
 |n+1,e=>by
  simp[Me,s9]at e;rcases e with e|e
  have rs:=f.slot n id;split at e;trivial;grind[bN4];cases e;exact b37 r f n e
def Ll{w:yM}{a:Fr}{n0:Nat}(r:HR O I K w0 h w)(f:dA O I a act){next:Nat}{l:List (Nat×sP)}(e:NU a h n0 next l=true):(∀p∈l,p.1<next)/\ ∀p∈l,p.1<n0->O p.1≠none\/ ∃e sig x,h.get p.1=some (.A e sig x):=by
 unfold NU at e;rw[k9]at e;refine⟨λp hp=> ?_,λp hp hlt=> ?_⟩
 ·(simp_all;grind)
 have:=(W7 (e p hp)).2;rw[s9,s9,s9,cV]at this;grind[bA9,dH7,b37]
def Yo{v0 nb:Nat}{a:Fr}: ∀{n:Nat},yz v0 nb a n=true-> ∀s,s<n->ib v0 nb (a.slot s)=true
 |0,_,s,hs=>by omega
 |n+1,h,s,hs=>by simp[yz,j8]at h;by_cases e:s=n;grind;exact Yo h.2 s (by omega)
def cu7{v0 nb:Nat}{h0:Heap}: ∀{n:Nat},MV v0 nb h0 n=true-> ∀s,s<n->AE v0 nb (h0.get s)=true
 |0,_,s,hs=>by omega
 |n+1,h,s,hs=>by simp[MV,j8]at h;by_cases e:s=n;grind;exact cu7 h.2 s (by omega)
def Xj{ac:cn}{I aa:Opq}{v0 nb:Nat}(g:Agr v0 I aa)(hb: ∀b,b<nb->ac b=O b){L:Loc}{o:aaV}{x:Blk}(h:AE v0 nb (some x)=true)(r:BR O I L o x):BR ac aa L o x:=by
 cases x with
 |cells e fz cs=>
  obtain⟨C,lo,hi,vs,q1,q2,q3,q4,q5,q6,q7,q8⟩:=r;exact⟨C,lo,hi,vs,q1,q2,q3,q4,Ez g hb cs vs h q5,q6,q7,by rw[g.fix];exact q8⟩
 |A e sig l=>
  obtain⟨C,e',lo,hi,q1,q0,q2,q3,q4,q5⟩:=r;have hd:dL aa l=dL I l:=by unfold dL;rw[sf g l h]
  exact⟨C,e',lo,hi,q1,q0,q2,by grind,by grind,q5⟩
 |map es c=>
  trivial
 |marr d ks vs l=>
  obtain⟨Es,c,q1,q2,q3⟩:=r;exact⟨Es,c,q1,by rw[show dL aa l=dL I l by unfold dL;rw[sf g l h]];exact q2,q3⟩
 |bag e sig l=>
  obtain⟨D,q,r⟩:=r;exact⟨D,by rw[show dL aa l=dL I l by unfold dL;rw[sf g l h]];exact q,r⟩
 |_=>cases h
theorem Nu{sp:LSpec}{a a':Fr}{h h':Heap}{e:Ex}{m:Nat}{p:U0}: ∀(l:List (Ex×StP)) (j:Nat),W5 (uN sp a h e a' h' l j) I=some (m,p)->
 ∃i x es,m=j+i+1/\l[i]? =some x/\DN x.1 e=true/\tQ sp.v0 (iA sp a h x.2).a (iA sp a h x.2).h a' h'=some es/\p=Y6 I es
 | [],j,he=>by trivial
 |x::r,j,he=>by
  have tail:W5 (uN sp a h e a' h' r (j+1)) I=some (m,p)-> ∃i y es,m=j+i+1/\(x::r)[i]? =some y/\DN y.1 e=true/\tQ sp.v0 (iA sp a h y.2).a (iA sp a h y.2).h a' h'=some es/\p=Y6 I es:=by
   intro hh;obtain⟨i,y,es,h1,h2,h3⟩:=Nu r (j+1) hh
   (simp_all;grind)
  simp[uN]at he;cases hx:DN x.1 e with
  |false=>grind
  |true=>
   rw[hx]at he;simp at he;split at he;rename_i es hes;simp[W5,j0,y5]at he;exact⟨0,x,es,by omega,rfl,hx,hes,he.2.symm⟩;grind
def cX0: ∀{a b:Ex},DN a b=true->a=b
 | .norm,.norm,_=>rfl
 | .ret,.ret,_=>rfl
 | .exit a,.exit b,h=>by grind[DN,Y0]
 | .norm,.ret,h=>by cases h
 | .norm,.exit _,h=>by cases h
 | .ret,.norm,h=>by cases h
 | .ret,.exit _,h=>by cases h
 | .exit _,.norm,h=>by cases h
 | .exit _,.ret,h=>by cases h
def dA.norm1{I:Opq}{o:OwnP}{a:Fr}(f:dA O I a act)(hd:dB I (pU o a h).1=true):dA O I (pU o a h).2 act/\(pU o a h).2.nt=a.nt/\(pU o a h).2.pc=a.pc/\(pU o a h).2.ds=a.ds/\(pU o a h).2.ro=a.ro:=by
 unfold pU at hd⊢;split;rename_i r len s ho hs;simp_all;split
 rename_i e sig l hg;simp_all;cases hq:(Nat.beq r o.blk||SX.beq len (.O .Y [l]))with
 |true=>trivial
 |false=>
  rw[hq]at hd;simp at hd⊢;have hlen:dI I len=dI I (.O .Y [l]):=j6 hd;refine⟨⟨by rw[Fr.put_nt];exact f.size,by rw[Fr.put_nt];exact f.lim,λt w=> ?_,by rw[Fr.put_ds];exact f.defers,λp hp=>f.pcs p (by rw[Fr.put_pc]at hp;exact hp)⟩,Fr.put_nt _ _ _,Fr.put_pc _ _ _,Fr.put_ds _ _ _,Fr.put_ro _ _ _⟩;have:=f.slot t w;rw[Fr.put_slot f.lim];by_cases ht:some o.slot=some t/\t<a.nt;rw[c9 ht];obtain⟨e1,_⟩:=ht;simp at e1;subst e1;rw[hs]at this;simp[VR]at this⊢;rw[<-hlen];exact this;rw[b9 ht];exact this
 trivial;grind
def dA.norms{I:Opq}{O:cn}{h:Heap}{act:Act}: ∀{os:aaM} {a:Fr},dA O I a act->dB I (eU os a h).1=true->dA O I (eU os a h).2 act/\(eU os a h).2.nt=a.nt/\(eU os a h).2.pc=a.pc/\(eU os a h).2.ds=a.ds/\(eU os a h).2.ro=a.ro
 | [],a,f,_=>⟨f,rfl,rfl,rfl,rfl⟩
 |o::r,a,f,hd=>by
  simp[eU]at hd⊢;have hd2:dB I (pU o a h).1=true/\dB I (eU r (pU o a h).2 h).1=true:=by unfold iC at hd;split at hd;rename_i e1;rw[e1];trivial;split at hd;rename_i e2;rw[e2];trivial;have:dB I (.O .and [(pU o a h).1,(eU r (pU o a h).2 h).1])=true:=hd;exact W7 this
  obtain⟨f1,e1,e2,e3,e4⟩:=f.norm1 hd2.1;obtain⟨f2,g1,g2,g3,g4⟩:=dA.norms f1 hd2.2
  (intros;simp_all)
def FG{I:Opq}{e:SX}{x:VT}{p:Nat×U0}(h:W5 (Qg e x) I=some p):dB I e=true/\W5 x I=some p:=by
 unfold Qg at h;cases hs:Ft e with
 |true=>grind[bZ0]
 |false=>
  rw[hs]at h;simp[cond_false,W5]at h;grind
def cu8{a:Fr}{hs:Heap}{n0:Nat}(hn0:n0=hs.next){sp:LSpec}(hok:Cb sp a h n0=true){ah:cn}{w:yM}(r:HR O I K w0 h w)(f:dA O I a act)(st0:St hs ah h O)
 {s0:Jn} {xp:Ex×StP} (hxm:xp∈sp.exits) {i:Nat} {p:U0} (hlink:I.f sp.id (Y6 I (s0++sp.fv))=cC (i,p)):
 ∀(vs:U0) (ac:cn) (a':Fr) (h':Heap) (act':Act) (w':yM) (es:Jn),tQ sp.v0 (iA sp a h xp.2).a (iA sp a h xp.2).h a' h'=some es->Y6 (I.U sp.v0 vs) es=p->
  dA ac (I.U sp.v0 vs) a' act'->HR ac (I.U sp.v0 vs) K w0 h' w'->(∀b,b<n0->ac b=O b)->
  (kU sp (gH sp.id (s0++sp.fv)) a h xp.2).a.ro=none/\dA (ac.cut xp.2.next) I (kU sp (gH sp.id (s0++sp.fv)) a h xp.2).a act'/\HR (ac.cut xp.2.next) I K w0 (kU sp (gH sp.id (s0++sp.fv)) a h xp.2).h w'/\St hs ah (kU sp (gH sp.id (s0++sp.fv)) a h xp.2).h (ac.cut xp.2.next):=by
 obtain⟨hok,o5⟩:=W7 hok;obtain⟨hok,o4⟩:=W7 hok;obtain⟨hok,o6⟩:=W7 hok;obtain⟨hds,hro⟩:=Fm o6;obtain⟨hok,o3⟩:=W7 hok;obtain⟨hok,o2⟩:=W7 hok;obtain⟨o0,o1⟩:=W7 hok;have hnn:n0<=h.next:=by rw[hn0];exact st0.le
 rw[k9]at o2;have hlim:=f.lim;have hb1:=Ll r f o1;have hbase: ∀s,a.nt<=s->((fG sp a h).a.slot s=a.slot s):=by intro s hs;show(layDead (layDead a sp.dead) _).slot s=_;rw[Kl _ _ (by rw[qy];exact hlim) s (by rw[qy];exact hs),Kl _ _ hlim s hs]
 have hundef: ∀s,a.nt<=s->VR O I (a.slot s) Go.undef:=by intro s hs;have:=f.slot s id;rw[x8,D9 (by rw[f.size];exact hs)]at this;exact this
 have hXpc:(iA sp a h xp.2).a.pc=[]:=Fr.clear_pc _;have hBnt:(fG sp a h).a.nt=a.nt:=by show(layDead (layDead a sp.dead) _).nt=_;rw[qy,qy]
 have hXnt:(iA sp a h xp.2).a.nt=a.nt:=by show((eW (fG sp a h).a xp.2.slots).clear).nt=_;rw[Fr.clear_nt,JV,hBnt]
 have hBds:(fG sp a h).a.ds=[]:=by show(layDead (layDead a sp.dead) _).ds=_;rw[PX,PX];exact hds
 have hBro:(fG sp a h).a.ro=none:=by show(layDead (layDead a sp.dead) _).ro=_;rw[Ge,Ge];exact hro
 have hXds:(iA sp a h xp.2).a.ds=[]:=by show((eW (fG sp a h).a xp.2.slots).clear).ds=_;rw[Fr.clear_ds,KP,hBds]
 have hXhi: ∀s,a.nt<=s->(iA sp a h xp.2).a.slot s=a.slot s:=by intro s hs;show((eW (fG sp a h).a xp.2.slots).clear).slot s=_;rw[Fr.clear_slot,HO _ _ (by(intros;grind)) s (by rw[hBnt];exact hs),hbase s hs]
 have o2x:=W7 (o2 xp hxm);have hnx:h.next<=xp.2.next:=cV.1 o2x.1
 have hb2:=Ll r f o2x.2;have hBfg: ∀b,h.next<=b->(fG sp a h).h.get b=none:=by
  intro b hb;refine Ar _ _ h.next (λp hp=> ?_) (λb hb=>r.fget b hb) b hb
  (intros;grind)
 have hXfg: ∀b,(iA sp a h xp.2).h.next<=b->(iA sp a h xp.2).h.get b=none:=by intro b hb;exact Ar _ _ xp.2.next hb2.1 (λb hb=>hBfg b (by omega)) b hb
 intro vs ac a' h' act' w' es hes hp hf hr ao;have m:=Kw hes;have hnt':a'.nt=a.nt:=by rw[<-m.nt,hXnt]
 have g1:=m.fr hXpc (λs hs=>⟨_,rfl,by rw[hXhi s (by(intros;simp_all))];exact ww (hundef s (by(intros;simp_all)))⟩) hf;have g2:=m.hr hXfg hr;rw[hp,Xz]at g1 g2;have hXn:(iA sp a h xp.2).h.next=xp.2.next:=Heap.next_upto _ _
 have ag:Agr sp.v0 I (I.U sp.v0 p):=GK I sp.v0 p;have hq: ∀j e,es[j]? =some e->bZ I (gH sp.id (s0++sp.fv) (0+j))=(I.U sp.v0 p).w (sp.v0+(0+j)):=by
  intro j e hj;have hlt:j<p.length:=by
   rw[<-hp,b33]
   (intros;grind)
  rw[m9,wR (m7 hlt)];show ck (I.f sp.id (Y6 I (s0++sp.fv))).L 1 j=_;rw[hlink];simp[cC,ck,Val.L,k5,m7 hlt]
 refine⟨?_,?_,?_,?_⟩;show(eW (fG sp a h).a _).ro=none;rw[Lo,hBro]
 .
  have hOnt:(kU sp (gH sp.id (s0++sp.fv)) a h xp.2).a.nt=a.nt:=by show(eW (fG sp a h).a _).nt=_;rw[JV,hBnt]
  refine⟨by rw[hOnt,<-hXnt];exact g1.size,by(intros;grind),λt _=> ?_,?_,λpp hpp=> ?_⟩
  .have gt:=g1.slot t id;by_cases ht:t<a.nt
   .have hXs:(iA sp a h xp.2).a.slot t=(eW (fG sp a h).a xp.2.slots).slot t:=Fr.clear_slot _ _;rcases bf9 (tn sp.v0 (gH sp.id (s0++sp.fv))) xp.2.slots (fG sp a h).a (fG sp a h).a t (by(intros;grind)) rfl (by rw[hBnt];exact ht) (.inr rfl)with e|⟨e1,e2⟩
    .show VR _ I ((eW (fG sp a h).a (xp.2.slots.map λp=>(p.1,tn sp.v0 (gH sp.id (s0++sp.fv)) p.2))).slot t) _;rw[e,<-hXs];obtain⟨n',es',z1,z2⟩:=m.sl (λj e=>bZ I (gH sp.id (s0++sp.fv) j)=(I.U sp.v0 p).w (sp.v0+j)) hq t (by rw[hnt'];exact ht);exact bZ7 ag n' _ _ es' _ z1 z2 gt
    .show VR _ I ((eW (fG sp a h).a (xp.2.slots.map λp=>(p.1,tn sp.v0 (gH sp.id (s0++sp.fv)) p.2))).slot t) _;rw[e1];rw[hXs,e2]at gt;exact Ei (ac:=ac.cut xp.2.next) ag.symm (λ_ _=>rfl) _ _ (Yo o4 t ht) gt
   have ht:=K1 ht;have e:(kU sp (gH sp.id (s0++sp.fv)) a h xp.2).a.slot t=a.slot t:=by show(eW (fG sp a h).a _).slot t=_;rw[HO _ _ (by(intros;grind)) t (by rw[hBnt];exact ht),hbase t ht]
   rw[e,x8,D9 (by rw[g1.size,hXnt];exact ht)];exact ww (hundef t ht)
  have:=g1.defers;rw[hXds]at this;show lE _ I (eW (fG sp a h).a _).ds act'.defers;rw[KP,hBds];exact this
  have e:(kU sp (gH sp.id (s0++sp.fv)) a h xp.2).a.pc=a.pc:=by show(eW (layDead (layDead a sp.dead) _) _).pc=_;rw[bZ8,Wp,Wp]
  rw[e]at hpp;exact f.pcs pp hpp
 .
  have hOn:(kU sp (gH sp.id (s0++sp.fv)) a h xp.2).h.next=xp.2.next:=Heap.next_upto _ _
  have hOwm:(kU sp (gH sp.id (s0++sp.fv)) a h xp.2).h.wm=(iA sp a h xp.2).h.wm:=by show((iy (fG sp a h).h _).upto _).wm=((iy (fG sp a h).h _).upto _).wm;rw[Heap.wm_upto,Heap.wm_upto,Df,Df]
  have key: ∀b y,(kU sp (gH sp.id (s0++sp.fv)) a h xp.2).h.get b=some y-> ∃z,(iA sp a h xp.2).h.get b=some z/\(∀L o,BR (ac.cut xp.2.next) (I.U sp.v0 p) L o z->BR (ac.cut xp.2.next) I L o y)/\z.isArr=y.isArr:=by
   intro b y hy;have hXs:(iA sp a h xp.2).h.get b=(iy (fG sp a h).h xp.2.blks).get b:=Heap.get_upto _ _ _;have hOs:(kU sp (gH sp.id (s0++sp.fv)) a h xp.2).h.get b=(iy (fG sp a h).h (xp.2.blks.map λp=>(p.1,BT sp.v0 (gH sp.id (s0++sp.fv)) p.2))).get b:=Heap.get_upto _ _ _;rw[hOs]at hy;have hblt:b<xp.2.next:=by
    rcases k8 b xp.2.next with hh|hh
    exact hh
    .rw[Ar _ _ xp.2.next (λp hp=>by
      (intros;grind)) (λb hb=>hBfg b (by omega)) b hh]at hy
     cases hy
   rcases bg0 (BT sp.v0 (gH sp.id (s0++sp.fv))) rfl xp.2.blks (fG sp a h).h (fG sp a h).h b (.inr rfl)with e|⟨e1,e2⟩
   .rw[e,<-hXs]at hy;cases hz:(iA sp a h xp.2).h.get b with
    |none=>rw[hz]at hy;cases hy
    |some z=>
     refine⟨z,rfl,λL o hbr=> ?_,cd4 (by(simp_all;omega))⟩;obtain⟨n',es',z1,z2⟩:=m.hp (λj e=>bZ I (gH sp.id (s0++sp.fv) j)=(I.U sp.v0 p).w (sp.v0+j)) hq b (by exact hblt);rw[hz]at z1 hy;simp[ud]at z1;split at z1
     .obtain⟨p',z3,z4⟩:=cW0 (O:=ac.cut xp.2.next) ag z1 z2 hbr
      (intros;simp_all)
     cases z1
   .rw[e1]at hy;refine⟨y,by(intros;grind),λL o hbr=> ?_,rfl⟩;have hb:b<h.next:=by
     (intros;grind)
    have:=cu7 o5 b hb;rw[hy]at this;exact Xj ag.symm (λ_ _=>rfl) this hbr
  refine⟨λb y L hg hb=> ?_,λb b1 y y1 L L1 hg hg1 hb hb1 hne hw=> ?_,λb hb=>g2.fresh b (by exact hb),λb hb=> ?_,g2.lt,g2.kin,g2.keep,λb y L hg hw hb=> ?_,g2.size,g2.os,g2.tape,g2.out,g2.dr⟩;obtain⟨z,z1,z2,_⟩:=key b y hg;exact z2 L _ (g2.blk b z L z1 hb);obtain⟨z,z1,_,k1⟩:=key b y hg;obtain⟨z',z1',_,k2⟩:=key b1 y1 hg1;exact g2.sep b b1 z z' L L1 z1 z1' hb hb1 hne (by(intros;simp_all))
  .refine Ar _ _ xp.2.next (λp hp=> ?_) (λb hb=>hBfg b (by omega)) b hb
   (intros;grind)
  obtain⟨z,z1,_⟩:=key b y hg;exact g2.free b z L z1 (by(intros;simp_all)) hb
 .have hun: ∀b,b<n0->ah b=none->O b=none:=λb hb hn=>(st0.ext b (by omega)).trans hn
  refine⟨by show hs.next<=((iy (fG sp a h).h _).upto xp.2.next).next;(simp at*;omega),λb hb=>by simp[cn.cut];rw[c9 (by omega)];exact(ao b (by omega)).trans (st0.ext b hb),λb hb hn=> ?_,?_⟩
  .have hb:b<n0:=by omega
   have hst:=st0.unm b (by omega) hn;by_cases har: ∃e sig x,h.get b=some (.A e sig x)
   obtain⟨e,sg,x,har⟩:=har;right;right;rcases hst with q|q|q
   rw[<-q,har];exact .A _ _ _;rw[q]at har;cases har;exact q
   have no: ∀p':Nat×sP,p'.1=b->(O p'.1≠none\/ ∃e sig x,h.get p'.1=some (.A e sig x))->False:=by rintro p' rfl (q|q);exact q (hun _ hb hn);trivial
   have e:((iy (fG sp a h).h (xp.2.blks.map λp=>(p.1,BT sp.v0 (gH sp.id (s0++sp.fv)) p.2))).upto xp.2.next).get b=h.get b:=by rw[Heap.get_upto,YF _ _ _ λp hp e=>by obtain⟨p',hp',rfl⟩:=j9.1 hp;exact no p' e (hb2.2 p' hp' (by rw[e];exact hb))];exact YF _ _ _ λp hp e=>by obtain⟨p',hp',rfl⟩:=j9.1 hp;exact no p' e (hb1.2 p' hp' (by rw[e];exact hb))
   rcases hst with q|q|q
   exact .inl (e.trans q);exact .inr (.inl (e.trans q))
   (intros;grind)
  show((iy (fG sp a h).h _).upto _).wm=_;rw[Heap.wm_upto,Df];exact(Df _ _).trans st0.wm
def cX1{Ω:Opq->Prop}(an: ∀I v0 l,Ω I->Ω (I.U v0 l))(ae:Ω I){n:Nat}(hk: ∀aa,Ω aa->oO E aa n){R:Type}{A:Alg R}{T:R->Prop}(hA:AlgOk A T I){a:Fr}{hs:Heap}{n0:Nat}(hn0:n0=hs.next){k:Ex->Fr->Heap->R}{sp:LSpec}
 (he:T (MK (ev E n) A c n0 k sp a h)) {ah:cn} {w:yM} (r:HR O I K w0 h w) (f:dA O I a act) (st0:St hs ah h O) (q:vo T I K w0 hs ah none k Q):tg (ie none) E.P c Q act w:=by
 unfold MK at he;cases hok:Cb sp a h n0 with
 |false=>rw[hok]at he;exact absurd he hA.X
 |true=>
  rw[hok]at he;have hokA:=hok;obtain⟨hok,o5⟩:=W7 hok;obtain⟨hok,o4⟩:=W7 hok;obtain⟨hok,o6⟩:=W7 hok;obtain⟨hds,hro⟩:=Fm o6;obtain⟨hok,o3⟩:=W7 hok;obtain⟨hok,o2⟩:=W7 hok;obtain⟨o0,o1⟩:=W7 hok;have hnn:n0<=h.next:=by rw[hn0];exact st0.le
  have hown: ∀b,b<n0-> ¬ ∃o∈sp.owns,b=o.blk:=by grind[cV]
  rw[k9]at o2;split at he
  .rename_i s0 hs0;obtain⟨⟨i,p⟩,x,hloop,hlink,hks,hx⟩:=hA.loop _ _ _ he;rw[kK]at hloop;rw[D8,u9]at hks;obtain⟨xp,hxp,rfl⟩:=hks;have hlim:=f.lim;have hb1:=Ll r f o1;have hJn:(dH sp a h).h.next=h.next:=Ws _ _
   have hJfg: ∀b,(dH sp a h).h.next<=b->(dH sp a h).h.get b=none:=by intro b hb;rw[hJn]at hb;exact Ar _ _ h.next hb1.1 (λb hb=>r.fget b hb) b hb
   have hhiA: ∀(g:Fr),g.nt=a.nt-> ∀s,a.nt<=s->g.slot s=a.slot s-> ∃x,g.slot s=x/\VR O I x Go.undef:=by intro g _ s hs e;refine⟨a.slot s,e,?_⟩;have:=f.slot s id;rw[x8,D9 (by rw[f.size];exact hs)]at this;exact this
   have hJhi: ∀s,a.nt<=s->(dH sp a h).a.slot s=a.slot s:=by intro s hs;show((eW (layDead a sp.dead) sp.head.slots).clear).slot s=_;grind[Fr.clear_slot,HO,qy,Kl]
   have hJnt:(dH sp a h).a.nt=a.nt:=by show((eW (layDead a sp.dead) sp.head.slots).clear).nt=_;rw[Fr.clear_nt,JV,qy]
   have hJpc:(dH sp a h).a.pc=[]:=Fr.clear_pc _;have hJro:(dH sp a h).a.ro=none:=by show((eW (layDead a sp.dead) sp.head.slots).clear).ro=none;grind[Fr.clear_ro,Lo,Ge]
   have hundef: ∀s,a.nt<=s->VR O I (a.slot s) Go.undef:=by grind
   have hxm:xp∈sp.exits:=G8 hxp;have back: ∀(vs:U0) (ac:cn) (a':Fr) (h':Heap) (act':Act) (w':yM) (es:Jn),tQ sp.v0 (iA sp a h xp.2).a (iA sp a h xp.2).h a' h'=some es->Y6 (I.U sp.v0 vs) es=p->
    dA ac (I.U sp.v0 vs) a' act'->HR ac (I.U sp.v0 vs) K w0 h' w'->(∀b,b<n0->ac b=O b)->Q (WG xp.1) act' w':=by
    intro vs ac a' h' act' w' es hes hp hf hr ao;obtain⟨b1,b2,b3,b4⟩:=cu8 hn0 hokA r f st0 hxm hlink vs ac a' h' act' w' es hes hp hf hr ao;exact q xp.1 _ _ _ act' w' hx b1 b2 b3 b4
   have main: ∀vs j p',Iter (λvs=>W5 (ev E n iT mq (.code c (dH sp a h).a (dH sp a h).h (xF sp a h)) []) (I.U sp.v0 vs)) vs j p'->j=i->p'=p->
    ∀(ak:cn) (act1:Act) (w1:yM),dA ak (I.U sp.v0 vs) (dH sp a h).a act1->HR ak (I.U sp.v0 vs) K w0 (dH sp a h).h w1->(∀b,b<n0->ak b=O b)->tg (ie none) E.P c Q act1 w1:=by
    intro vs j p' hit;induction hit with
    | @out vs p' j hstep=>
      rintro rfl rfl ak act1 w1 f1 r1 s1;refine MF (hk _ (an _ _ _ ae) iT mq _ (xQ _ (j+1,p')) c _ _ _ ⟨[],mB,hstep⟩ K w0 ak act1 w1 none _ r1 f1 (by rw[hJro];rfl) ?_);rintro e a' h' ac act' w' ⟨_,_,hke⟩ _ hf hr hst;have aG: ∀b,b<n0->ac b=O b:=λb hb=>(hst.ext b (by omega)).trans (s1 b hb)
      obtain⟨hnd,hke⟩:dB (I.U sp.v0 vs) (eU sp.owns a' h').1=true/\W5 (match e with| .norm=>EM sp a h (jj sp (eU sp.owns a' h').2 h')|e=>RI sp a h e (jj sp (eU sp.owns a' h').2 h')) (I.U sp.v0 vs)=_:=by cases e<;>exact FG hke
      obtain⟨hf,hnnt,_⟩:=hf.norms hnd;obtain⟨ap,cv⟩:=OK (sp:=sp) hf hr;have az: ∀b,b<n0->ap b=O b:=λb hb=>(cv.bij b (hown b hb)).trans (aG b hb)
      have fin: ∀e',e=e'->W5 (uN sp a h e' (jj sp (eU sp.owns a' h').2 h').1 (jj sp (eU sp.owns a' h').2 h').2 sp.exits 0) (I.U sp.v0 vs)=some (j+1,p')->Q (WG e) act' w':=by
       rintro e' rfl hh;obtain⟨i',x',es,q1,q2,q3,q4,q5⟩:=Nu _ _ hh;obtain rfl:i'=j:=by omega
       rw[hxp,j0]at q2;subst q2;rw[<-cX0 q3];exact back vs ap _ _ act' w' es q4 q5.symm cv.fr cv.hr az
      cases e with
      |norm=>
       grind[EM,W5]
      |exit id=>exact fin (.exit id) rfl hke
      |ret=>exact fin .ret rfl hke
    | @more vs vs' p' j hstep hit ih=>
      rintro rfl rfl ak act1 w1 f1 r1 s1;refine MF (hk _ (an _ _ _ ae) iT mq _ (xQ _ (0,vs')) c _ _ _ ⟨[],mB,hstep⟩ K w0 ak act1 w1 none _ r1 f1 (by rw[hJro];rfl) ?_);rintro e a' h' ac act' w' ⟨_,_,hke⟩ _ hf hr hst;have aG: ∀b,b<n0->ac b=O b:=λb hb=>(hst.ext b (by omega)).trans (s1 b hb)
      obtain⟨hnd,hke⟩:dB (I.U sp.v0 vs) (eU sp.owns a' h').1=true/\W5 (match e with| .norm=>EM sp a h (jj sp (eU sp.owns a' h').2 h')|e=>RI sp a h e (jj sp (eU sp.owns a' h').2 h')) (I.U sp.v0 vs)=_:=by cases e<;>exact FG hke
      obtain⟨hf,hnnt,_⟩:=hf.norms hnd;obtain⟨ap,cv⟩:=OK (sp:=sp) hf hr;have az: ∀b,b<n0->ap b=O b:=λb hb=>(cv.bij b (hown b hb)).trans (aG b hb)
      have no: ∀e',W5 (uN sp a h e' (jj sp (eU sp.owns a' h').2 h').1 (jj sp (eU sp.owns a' h').2 h').2 sp.exits 0) (I.U sp.v0 vs)=some (0,vs')->False:=by grind[Nu]
      cases e with
      |norm=>
       simp[EM]at hke;split at hke
       rename_i es hes;simp[W5,j0,y5,true_and]at hke;have m:=Kw hes;have hnt':(jj sp (eU sp.owns a' h').2 h').1.nt=a.nt:=by rw[<-m.nt,hJnt]
       have g1:=m.fr hJpc (λs hs=>⟨_,rfl,by rw[hJhi s (by(intros;simp_all))];exact ww (hundef s (by(intros;simp_all)))⟩) cv.fr;have g2:=m.hr hJfg cv.hr;rw[hke,Xz]at g1 g2;exact ih rfl rfl _ act' w' g1 g2 λb hb=>by simp[cn.cut];(split<;>grind)
       grind[W5]
      |exit id=>exact(no _ hke).elim
      |ret=>exact(no _ hke).elim
   have m:=Kw hs0;refine main _ _ _ hloop rfl rfl (O.cut (dH sp a h).h.next) act w ?_ ?_ ?_;exact m.fr hJpc (λs hs=>hhiA _ hJnt s hs (hJhi s hs)) f;exact m.hr hJfg r
   .exactλb hb=>by simp[cn.cut];grind
  exact absurd he hA.X
variable{a:Fr}{act:Act}{v0 n i n0 nb ob:Nat}{sp:LSpec}{c:Code}{Q:Exit->Act->yM->Prop}{step:U0->Option (Nat×U0)}
variable{E:Env}{O ac:cn}{I aa:Opq}{K:zI}{w0 w w':yM}{h h':Heap}
def HR.freeze{K':zI}(r:HR O I K w0 h w)(hK: ∀i,K' i->i<w.heap.size)(hf: ∀b x L,h.get b=some x->h.wm<=b->O b=some L-> ¬K' L.blk):HR O I K' w h w:=
 ⟨r.blk,r.sep,r.fresh,r.fget,r.lt,hK,λ_ _=>rfl,hf,j5 _,rfl,rfl,rfl,j5 _⟩
def HR.thaw{K':zI}{w1:yM}{h1:Heap}{ak:cn}{aj:Opq}(r1:HR ak aj K w0 h1 w1)(hs: ∀i,K i->K' i)(r:HR ac aa K' w1 h' w'):HR ac aa K w0 h' w':=
 ⟨r.blk,r.sep,r.fresh,r.fget,r.lt,r1.kin,λi hi=>(r.keep i (hs i hi)).trans (r1.keep i hi),λb x L a c d hk=>r.free b x L a c d (hs _ hk),l7 r1.size r.size,r.os.trans r1.os,r.tape.trans r1.tape,r.out.trans r1.out,l7 r1.dr r.dr⟩
def HR.turn(r:HR O I K w0 h w)(hn:h'.next=h.next)(hw:h'.wm=h.wm)(hnone: ∀b,h.get b=none->h'.get b=none)
 (key: ∀b y,h'.get b=some y-> ∃z,h.get b=some z/\(∀L o,BR O I L o z->BR O aa L o y)/\z.isArr=y.isArr):HR O aa K w0 h' w:=by
 refine⟨λb y L hg hb=> ?_,λb b1 y y1 L L1 hg hg1 hb hb1 hne hc=> ?_,λb hb=>r.fresh b (by omega),λb hb=>hnone b (r.fget b (by omega)),r.lt,r.kin,r.keep,λb y L hg hc hb=> ?_,r.size,r.os,r.tape,r.out,r.dr⟩;obtain⟨z,z1,z2,_⟩:=key b y hg;exact z2 L _ (r.blk b z L z1 hb);obtain⟨z,z1,_,k1⟩:=key b y hg;obtain⟨z',z1',_,k2⟩:=key b1 y1 hg1;exact r.sep b b1 z z' L L1 z1 z1' hb hb1 hne (by grind);obtain⟨z,z1,_⟩:=key b y hg;exact r.free b z L z1 (by omega) hb
def HR.putBack(r:HR O I K w0 h w){m:Nat}{L:Loc}{y:Blk}(hm:m<h.next)(hlim:m<65536)(hL:O m=some L)(hbr:BR O I L w.heap[L.blk]? y)(hsep: ∀b x M,h.get b=some x->b≠m->O b=some M->M.blk≠L.blk)(hf:h.wm<=m-> ¬K L.blk):HR O I K w0 (h.put m (some y)) w:=by
 have hg: ∀b,(h.put m (some y)).get b=if b=m then some y else h.get b:=λb=>by rw[Heap.get_put,c9 hlim]
 refine⟨λb x M hx hb=> ?_,λb b1 x x1 M M1 hx hx1 hb hb1 hne hc=> ?_,r.fresh,λb hb=> ?_,r.lt,r.kin,r.keep,λb x M hx hc hb=> ?_,r.size,r.os,r.tape,r.out,r.dr⟩;rw[hg]at hx;by_cases e:b=m;grind;rw[b9 e]at hx;exact r.blk b x M hx hb;rw[hg]at hx hx1;by_cases e:b=m;grind;rw[b9 e]at hx;by_cases e1:b1=m;grind;rw[b9 e1]at hx1;exact r.sep b b1 x x1 M M1 hx hx1 hb hb1 hne hc
 .have hb:h.next<=b:=hb
  rw[hg,b9 (by omega)];exact r.fget b hb
 rw[hg]at hx;by_cases e:b=m;simp_all;rw[b9 e]at hx;exact r.free b x M hx hc hb
def Jm{ops:aaU}{o:Oper}{rest:aay}(hdrop:ops.toList.drop i=o::rest){u:AS}{ro:Bj}(f:dA O I a act)(hg:xN o=true)(hd: ∀c,o.op≠ .defer c)
 (hr:(execOp act.eval o).run E.P w= .ok (.value u) w') (hk:wpOpsIn (ie ro) 0 E.P ops Q (List.range' (i+1) rest.length) (act.put o.dst u) w'):wpOpsIn (ie ro) 0 E.P ops Q (List.range' i (rest.length+1)) act w:=by
 have hlt:i<ops.toList.length:=by
  rcases k8 i ops.toList.length with hh|hh
  exact hh;rw[K0 hh]at hdrop;cases hdrop
 have hcons:=R8 hlt;rw[hdrop]at hcons;obtain⟨e1,e2⟩:=R3 hcons;have hoi:ops[i]? =some o:=by rw[e1];simp[hlt]
 have hw:eS ops.toList a o=some true:=by unfold eS;unfold xN at hg;split at hg;rename_i hh;rw[hh];cases hg
 show(match ops[i]? with
  |none=>_
  |some o=>_)
 rw[hoi];simp;rw[bf5 f rfl hw];grind[UV]
structure HeadF (sp:LSpec) (a:Fr) (h:Heap):Prop where
 n:(dH sp a h).h.next=h.next
 wm:(dH sp a h).h.wm=h.wm
 fg: ∀b,(dH sp a h).h.next<=b->(dH sp a h).h.get b=none
 nt:(dH sp a h).a.nt=a.nt
 pc:(dH sp a h).a.pc=[]
 ro:(dH sp a h).a.ro=none
 ds:(dH sp a h).a.ds=[]
 hi: ∀s,a.nt<=s->(dH sp a h).a.slot s=a.slot s
 lim:a.nt<=256
 un: ∀s,a.nt<=s->VR O I (a.slot s) Go.undef
def dn9(hok:Cb sp a h n0=true)(r:HR O I K w0 h w)(f:dA O I a act):HeadF (O:=O) (I:=I) sp a h:=by
 obtain⟨hok,o5⟩:=W7 hok;obtain⟨hok,o4⟩:=W7 hok;obtain⟨hok,o6⟩:=W7 hok;obtain⟨hds,hro⟩:=Fm o6;obtain⟨hok,o3⟩:=W7 hok;obtain⟨hok,o2⟩:=W7 hok;obtain⟨o0,o1⟩:=W7 hok;have hlim:=f.lim;have hb1:=Ll r f o1;have hJn:(dH sp a h).h.next=h.next:=Ws _ _
 refine⟨hJn,Df _ _,λb hb=> ?_,?_,Fr.clear_pc _,?_,?_,λs hs=> ?_,hlim,λs hs=> ?_⟩
 .rw[hJn]at hb;exact Ar _ _ h.next hb1.1 (λb hb=>r.fget b hb) b hb
 show((eW (layDead a sp.dead) sp.head.slots).clear).nt=_;rw[Fr.clear_nt,JV,qy];show((eW (layDead a sp.dead) sp.head.slots).clear).ro=none;grind[Fr.clear_ro,Lo,Ge];show((eW (layDead a sp.dead) sp.head.slots).clear).ds=[];grind[Fr.clear_ds,KP,PX];show((eW (layDead a sp.dead) sp.head.slots).clear).slot s=_;grind[Fr.clear_slot,HO,qy,Kl];have:=f.slot s id;rw[x8,D9 (by rw[f.size];exact hs)]at this;exact this
def YV{r:HQ}{s t:U0}(h:jg step (i::r) s=some t): ∃a b s',s=[a,b]/\step [a,b,.D i]=some (0,s')/\jg step r s'=some t:=by
 rcases s with _|⟨a,_|⟨b,_|⟨c,s⟩⟩⟩
 cases h;cases h
 have h:(match step [a,b,.D i]with
  |some (0,s')=>jg step r s'
  |_=>none)=some t:=h
 grind;cases h
theorem SQ{r:HQ}{a b:Val}{s':U0}(h:step [a,b,.D i]=some (0,s')):jg step (i::r) [a,b]=jg step r s':=by grind[jg]
def UE{step:U0->Option (Nat×U0)}: ∀{p q:HQ} {s t:U0},jg step (p++q) s=some t-> ∃u,jg step p s=some u/\jg step q u=some t
 | [],q,s,t,h=>⟨s,rfl,h⟩
 |i::p,q,s,t,h=>by obtain⟨a,b,s',rfl,h1,h2⟩:=YV (r:=p++q) h;obtain⟨u,h3,h4⟩:=UE h2;grind[SQ]
def bB0{step:U0->Option (Nat×U0)}{i:Nat}{x y:Val}{s':U0}(hs:step [x,y,.D i]=some (0,s')): ∀{p:HQ} {s:U0},jg step p s=some [x,y]->jg step (p++[i]) s=some s'
 | [],s,h=>by
   obtain rfl:s=[x,y]:=by simpa[jg]using h
   show jg step [i] _=_;rw[SQ hs];rfl
 |j::p,s,h=>by obtain⟨a,b,s1,rfl,h1,h2⟩:=YV h;show jg step (j::(p++[i])) _=_;rw[SQ h1];exact bB0 hs h2
def cX2{p:HQ}(hn:p.Nodup)(hp: ∀i∈p,i<n): ∃q,(p++q).Perm (List.range n):=by refine⟨(List.range n).filter λi=>decide (i∉p),(I1 ?_ O8).2 λi=> ?_⟩;refine O9.2 ⟨hn,O8.filter _,λa ha b hb=> ?_⟩;rintro rfl;have:=(l9.1 hb).2;simp at this;trivial;grind
def cu9{p:HQ}(hn:p.Nodup)(hp: ∀i∈p,i<n)(ha: ∀i,i<n->i∈p):p.Perm (List.range n):=
 (I1 hn O8).2 λi=>⟨λhi=>p7.2 (hp i hi),λhi=>ha i (p7.1 hi)⟩
def dL9{ks vs:zd}{l idx:SX}{r:Val}(hi:dI I idx=(i:Int))(hr:(dL I l)[i]? =some r):VR O I (JQ ks vs l idx) (.tuple #[(qS ks vs r).1,(qS ks vs r).2]):=by
 have hg: ∀t:Nat,ck (dL I l) (dI I idx) t=r.L.getD t default:=by intro t;show((dL I l).getD (dI I idx).toNat (.A [])).L.getD (Int.toNat t) default=_;grind
 have hrow:dV (ks++vs) r=(List.range' 0 (ks++vs).length).map λj=>ig ((ks++vs).getD j .bool) (r.L.getD j default):=by grind[dV,List.range_eq_range']
 have e1:(dV (ks++vs) r).take ks.length=(List.range' 0 ks.length).map λj=>ig ((ks++vs).getD j .bool) (r.L.getD j default):=by rw[hrow,<-List.map_take];grind
 have e2:(dV (ks++vs) r).drop ks.length=(List.range' ks.length vs.length).map λj=>ig ((ks++vs).getD j .bool) (r.L.getD j default):=by rw[hrow,<-List.map_drop];grind
 refine⟨_,rfl,.cons ?_ (.one ?_)⟩;have:=Qi (O:=O) (I:=I) (ks++vs) l idx ks.length 0;show VR O I _ (lq ((dV (ks++vs) r).take ks.length));grind[JH];have:=Qi (O:=O) (I:=I) (ks++vs) l idx vs.length ks.length;show VR O I _ (lq ((dV (ks++vs) r).drop ks.length));grind[JH]
structure MOk (mc:MC) (a:Fr) (mo:MO) (t:Nat):Prop where
 o1:mc.o1.op= .next (.tmp t) false
 e1:mc.o1.dst=some mo.d1
 o2:mc.o2.op= .extract (.tmp mo.d1) 0
 e2:mc.o2.dst=some mo.d2
 tk:mc.tok= .tmp mo.d2
 o3:mc.o3.op= .entry (.tmp t)
 e3:mc.o3.dst=some mo.d3
 n1:t≠mo.d1
 n2:t≠mo.d2
 sl:a.slot t= .ptr mo.it 0
 p1:xN mc.o1=true
 p2:xN mc.o2=true
 p3:xN mc.o3=true
 l1:mo.d1<a.nt
 l2:mo.d2<a.nt
def do0{mc:MC}{mo:MO}(e:Qp mc a=some mo): ∃t,MOk mc a mo t:=by unfold Qp at e;split at e;rename_i t d1 d1' d2 d2' t' d3 h1 h2 h3 h4 h5 h6 h7;replace e:=W8 e;obtain⟨hc,e1⟩:=e;obtain⟨hc1,c5⟩:=W7 hc;obtain⟨hc2,c4⟩:=W7 hc1;obtain⟨hc3,c3⟩:=W7 hc2;obtain⟨c1,c2⟩:=W7 hc3;obtain rfl:=Y0.1 c1;obtain rfl:=Y0.1 c2;obtain rfl:=Y0.1 c3;split at e1;rename_i it hs;obtain⟨hz,e2⟩:=W8 e1;obtain⟨hz1,z6⟩:=W7 hz;obtain⟨hz2,z5⟩:=W7 hz1;obtain⟨hz3,z4⟩:=W7 hz2;obtain⟨hz4,z3⟩:=W7 hz3;obtain⟨z1,z2⟩:=W7 hz4;simp at e2;subst e2;refine⟨t,h1,h2,h3,h4,h5,h6,h7,?_,?_,hs,z1,z2,z3,eH.1 z4,eH.1 z5⟩;rintro rfl;simp at c4;rintro rfl;simp at c5;grind;cases e
def cX3{mc:MC}(e:Di c=some mc): ∃i1 i2,c= .seq (.region i1 mc.ops1 false) (.seq (.cond mc.tok .skip (.exit mc.xid)) (.block mc.bid (.seq (.region i2 mc.ops2 false) mc.rest)))/\mc.ops1.toList=[mc.o1,mc.o2]/\mc.ops2.toList=mc.o3::mc.r3:=by unfold Di at e;grind
def cv0{x:sP}(h:JC x=true):x=none:=by
 cases x with
 |none=>rfl
 |some _=>cases h
def cX4{es:Jn}(h:YL v0 es=true):es=[.V v0,.V (v0+1)]:=by unfold YL at h;split at h;simp_all;cases h
def PD{v0 nb ob:Nat}{h0:Heap}: ∀{n:Nat},DH v0 nb ob h0 n=true-> ∀s,s<n->OA v0 nb ob s (h0.get s)=true
 |0,_,s,hs=>by omega
 |n+1,h,s,hs=>by simp[DH,j8]at h;by_cases e:s=n;grind;exact PD h.2 s (by omega)
def c09{h1 h2:Heap}: ∀{n:Nat},Jv h1 h2 n=true-> ∀s,s<n-> ∀x,h1.get s=some x-> ∃y,h2.get s=some y
 |0,_,s,hs,_,_=>by omega
 |n+1,h,s,hs,x,hx=>by
  simp only[Jv,j8]at h;by_cases e:s=n
  subst e;have:=h.1;rw[hx]at this;cases hy:h2.get s with
  |none=>rw[hy]at this;cases this
  |some y=>grind
  .exact c09 h.2 s (by omega) x hx
def UX{b:Nat}{x:Blk}(h:OA v0 nb ob b (some x)=true):(b=ob/\ ∃e sig,x= .A e sig (.V (v0+1)))\/(b≠ob/\AE (v0+1) nb (some x)=true):=by
 unfold OA at h;cases hb:Nat.beq b ob with
 |true=>
  grind[Y0]
 |false=>
  rw[hb]at h;exact .inr ⟨λhh=>by simp_all,h⟩
def NP{a:Val}{r r':U0}:Agr (v0+1) (I.U v0 (a::r)) (I.U v0 (a::r')):=by refine⟨λn hn=> ?_,rfl,rfl,rfl,rfl⟩;simp[Opq.U];grind
def d97(g:Agr v0 I aa)(hb:yz v0 nb a a.nt=true)(hpc:a.pc=[])(hds:a.ds=[])(f:dA O I a act):dA O aa a act:=by refine⟨f.size,f.lim,λt _=> ?_,?_,λp hp=>by grind⟩;have:=f.slot t id;by_cases ht:t<a.nt;exact Ei g (λ_ _=>rfl) _ _ (Yo hb t ht) this;rw[x8,D9 (by rw[f.size];omega)]at this⊢;exact ww this;have:=f.defers;rw[hds]at this⊢;exact this
def dM0{a:Val}{r r':U0}{b':Val}(hs:DH v0 nb ob h h.next=true)(rr:HR O (I.U v0 (a::b'::r)) K w0 h w):HR O (I.U v0 (a::b'::r')) K w0 h w:=by
 refine rr.turn rfl rfl (λ_ hh=>hh) λb y hy=>⟨y,hy,λL o hbr=> ?_,rfl⟩
 have hlt:b<h.next:=by
  rcases k8 b h.next with q|q
  exact q;rw[rr.fget b q]at hy;cases hy
 have:=PD hs b hlt;rw[hy]at this;rcases UX this with⟨_,e,sig,rfl⟩|⟨_,hk⟩
 have e1: ∀q:U0,dL (I.U v0 (a::b'::q)) (.V (v0+1))=b'.L:=λq=>by show((I.U v0 (a::b'::q)).w (v0+1)).L=_;rw[wR (j:=1) (x:=b') rfl]
 grind[BR];exact Xj NP (λ_ _=>rfl) hk hbr
def dM1{a:Val}{D D':U0}(hp:D'.Perm D)(hs:DH v0 nb ob h h.next=true)(rr:HR O (I.U v0 [a,.A D']) K w0 h w):HR O (I.U v0 [a,.A D]) K w0 (h.put ob (Jg (h.get ob))) w:=by
 have hg: ∀b,(h.put ob (Jg (h.get ob))).get b=if b=ob then(if ob<65536 then Jg (h.get ob)else none)else h.get b:=λb=>Heap.get_put _ _ _ _
 refine rr.turn rfl rfl (λb hh=> ?_) λb y hy=> ?_
 rw[hg];by_cases e:b=ob;subst e;rw[c9 rfl,hh];split<;>rfl;grind;rw[hg]at hy;by_cases e:b=ob
 .subst e;rw[c9 rfl]at hy;split at hy
  .cases hx:h.get b with
   |none=>rw[hx]at hy;cases hy
   |some x=>
    have hob:b<h.next:=by
     rcases k8 b h.next with q|q
     exact q;rw[rr.fget b q]at hx;cases hx
    have:=PD hs b hob;rw[hx]at this hy;rcases UX this with⟨_,e,sig,rfl⟩|⟨hne,_⟩
    simp[Jg,j0]at hy;subst hy;refine⟨_,rfl,λL o hbr=> ?_,rfl⟩;have e1: ∀q:U0,dL (I.U v0 [a,.A q]) (.V (v0+1))=q:=λq=>by show((I.U v0 [a,.A q]).w (v0+1)).L=_;rw[wR (j:=1) (x:= .A q) rfl];rfl
    simp[BR]at hbr⊢;rw[e1]at hbr⊢;exact⟨D',hp,hbr⟩;trivial
  grind
 .rw[b9 e]at hy;refine⟨y,hy,λL o hbr=> ?_,rfl⟩;have hlt:b<h.next:=by
   rcases k8 b h.next with q|q
   exact q;rw[rr.fget b q]at hy;cases hy
  have:=PD hs b hlt;rw[hy]at this;rcases UX this with⟨q,_⟩|⟨_,hk⟩
  omega;exact Xj NP (λ_ _=>rfl) hk hbr
def Td{d:Nat}{v:AS}(h:d<act.tmps.size):(act.put (some d) v).eval (.tmp d)=v:=by show(act.tmps.setIfInBounds d v).getD d Go.undef=v;simp_all
def b40{d t:Nat}{v:AS}(h:t≠d):(act.put (some d) v).eval (.tmp t)=act.eval (.tmp t):=by show(act.tmps.setIfInBounds d v).getD t Go.undef=act.tmps.getD t Go.undef;simp_all[x8,O5,b9,Ne.symm]
def cd7{Es:abb}{seen:Array Nat}(h:(leftOf Es seen).size=0): ∀e∈Es.toList,e.born∈seen.toList:=by grind[leftOf,Array.eq_empty_of_size_eq_zero,Array.filter_eq_empty_iff]
def cX5{Es:abb}{seen:Array Nat}{e:MapEntry}(h:e∈(leftOf Es seen).toList):e∈Es.toList/\e.born∉seen.toList:=by unfold leftOf at h;simp only[Array.toList_filter,l9]at h;refine⟨h.1,?_⟩;have:=h.2;simpa using this
set_option maxHeartbeats 1000000 in
def cv2{Ω:Opq->Prop}(an: ∀I v0 l,Ω I->Ω (I.U v0 l))(ae:Ω I)(hk: ∀aa,Ω aa->oO E aa n)(ho: ∀aa,Ω aa->wI E aa n){R:Type}{A:Alg R}{T:R->Prop}(hA:AlgOk A T I)
 {mc:MC} (hmc:Di c=some mc) {h hs:Heap} (hn0:n0=hs.next) {k:Ex->Fr->Heap->R} {mo:MO} {m:Nat} {d:Bool} {ks vs:zd} {lm:SX} {x:Ex×StP}
 (hmo:Qp mc (dH sp a h).a=some mo) (hg1:h.get mo.it=some (.mit m)) (hg2:h.get m=some (.mrg mo.it d ks vs lm)) (hxs:x∈sp.exits)
 (he:T (Qm (ev E n) A n0 k sp a h mc mo m ob d ks vs lm x)) {K:zI} {w0:yM} {O ah:cn} {w:yM} (r:HR O I K w0 h w) (f:dA O I a act) (st0:St hs ah h O) (q:vo T I K w0 hs ah none k Q):tg (ie none) E.P c Q act w:=by
 unfold Qm at he;split at he
 rotate_left
 exact absurd he hA.X
 rename_i xid hx1;cases hcnd:(Nat.beq xid mc.xid&&KA sp a h n0 mo m ob lm&&Nat.blt m x.2.next&&NR sp mo ob a h x.2)with
 |false=>rw[hcnd]at he;exact absurd he hA.X
 |true=>
 rw[hcnd]at he;obtain⟨hc3,hend⟩:=W7 hcnd;obtain⟨hc2,hmx⟩:=W7 hc3;obtain⟨hc1,hlive⟩:=W7 hc2;obtain rfl:=Y0.1 hc1;rw[eH]at hmx;split at he
 rotate_left
 exact absurd he hA.X
 rename_i s0 s1 hs0;cases hsub:Jv (kU sp (gH sp.id (s0::s1::sp.fv)) a h x.2).h (dH sp a h).h x.2.next with
 |false=>rw[hsub]at he;exact absurd he hA.X
 |true=>
 rw[hsub]at he;obtain⟨D,xk,hmap,hlink,hk0,hT⟩:=hA.mloop _ _ _ _ he;simp at hk0;subst hk0;obtain⟨hl1,g12⟩:=W7 hlive;obtain⟨hl2,g11⟩:=W7 hl1;obtain⟨hl3,g10⟩:=W7 hl2;obtain⟨hl4,g9⟩:=W7 hl3;obtain⟨hl5,g8⟩:=W7 hl4;obtain⟨hl6,g7⟩:=W7 hl5;obtain⟨hl7,g6⟩:=W7 hl6;obtain⟨hl8,g5⟩:=W7 hl7;obtain⟨hl9,g4⟩:=W7 hl8;obtain⟨hl10,g3⟩:=W7 hl9;obtain⟨g1,g2⟩:=W7 hl10;rw[cV]at g2 g3 g5;rw[eH]at g4 g6;replace g7:=cv0 g7;replace g8:=cv0 g8;have hd:=dn9 g1 r f;rw[<-hd.n]at g10 g12;have m0:=Kw hs0;have f1:=m0.fr hd.pc (λs hs=>⟨_,rfl,by rw[hd.hi s hs];exact hd.un s hs⟩) f;have r1:=m0.hr hd.fg r;obtain⟨t,mk⟩:=do0 hmo;obtain⟨i1,i2,rfl,hop1,hop2⟩:=cX3 hmc;have hnn:n0<=h.next:=by rw[hn0];exact st0.le
 have hsl:=f1.slot t id;rw[mk.sl]at hsl;obtain⟨L,hLc,_⟩:=hsl;have hL:O mo.it=some L:=by simp only[cn.cut]at hLc;split at hLc;exact hLc;cases hLc
 obtain⟨hoff,Lm,hLm,hobj⟩:=r.blk mo.it _ L hg1 hL;obtain⟨Es,cl,Li,hmobj,hLi,hext,hrows,hborn⟩:=r.blk m _ Lm hg2 hLm;rw[hL,j0]at hLi;subst hLi;subst hext;have hne:Lm.blk≠L.blk:=by intro e;rw[e,hobj]at hmobj;cases hmobj
 have hKL: ¬K L.blk:=r.free mo.it _ L hg1 g3 hL;have hpre: ∀b y,(dH sp a h).h.get b=some y-> ∃z,h.get b=some z:=by
  intro b y hy;have hb:b<(dH sp a h).h.next:=by
   rcases k8 b (dH sp a h).h.next with hh|hh
   exact hh;rw[hd.fg b hh]at hy;cases hy
  obtain⟨n',es',h1,_⟩:=m0.hp (λ_ _=>True) (λ_ _ _=>trivial) b hb;rw[hy]at h1;simp[ud]at h1;split at h1;rename_i z hz;exact⟨z,hz⟩;cases h1
 have hsep0: ∀b y M,(dH sp a h).h.get b=some y->O b=some M->M.blk≠L.blk/\M.blk≠Lm.blk:=by
  intro b y M hy hb;obtain⟨z,hz⟩:=hpre b y hy;exact⟨r.sep b mo.it z _ M L hz hg1 hb hL (by rintro rfl;rw[g7]at hy;cases hy) (.inr (.inr (.inr rfl))),
   r.sep b m z _ M Lm hz hg2 hb hLm (by rintro rfl;rw[g8]at hy;cases hy) (.inr (.inr (.inr rfl)))⟩
 have hlen:Es.toList.length=(dL I lm).length:=by have:=congrArg List.length hrows;simpa using this
 have hnd:(Es.toList.map (·.born)).Nodup:=hborn.1.imp (λh=>Q2 h);have hold: ∀y∈Es.toList,y.born<L.ext:=hborn.2.1;have hlm: ∀l,dL (I.U sp.v0 l) lm=dL I lm:=λl=>by unfold dL;rw[sf (GK I sp.v0 l) lm g9]
 have hbi: ∀i,i<(dL I lm).length-> ∃e,Es.toList[i]? =some e/\(Es.toList.map (·.born)).getD i 0=e.born:=by
  intro i hi;have hi':i<Es.toList.length:=by rw[hlen];exact hi
  refine⟨Es.toList[i],m7 hi',?_⟩;rw[k5,D8,m7 hi'];rfl
 have hinj: ∀i j,i<(dL I lm).length->j<(dL I lm).length->(Es.toList.map (·.born)).getD i 0=(Es.toList.map (·.born)).getD j 0->i=j:=by
  intro i j hi hj hh;have hi':i<(Es.toList.map (·.born)).length:=by rw[k6,hlen];exact hi
  have hj':j<(Es.toList.map (·.born)).length:=by rw[k6,hlen];exact hj
  rw[k5,k5,m7 hi',m7 hj']at hh;exact(List.getElem_inj hnd).1 hh
 obtain⟨hm1,hm2⟩:=hmap;have main: ∀(j:Nat) (p:HQ) (s:U0),(dL I lm).length<=p.length+j->p.Nodup->(∀i∈p,i<(dL I lm).length)->
  jg (λus=>W5 (dJ2 (ev E n) sp mc a h ((((dH sp a h).a.put (some mo.d1) .any).put (some mo.d2) (.bool true)).put (some mo.d3) (JQ ks vs lm (.V (sp.v0+2))))) (I.U sp.v0 us)) p (Y6 I [s0,s1])=some s->
  ∀(ak:cn) (act1:Act) (w1:yM) (seen:Array Nat),dA ak (I.U sp.v0 s) (dH sp a h).a act1->HR ak (I.U sp.v0 s) K w0 (dH sp a h).h w1->(∀b,b<n0->ak b=O b)->
   (∀b y M,(dH sp a h).h.get b=some y->ak b=some M->M.blk≠L.blk/\M.blk≠Lm.blk)->w1.heap[L.blk]? =some (.mapIter (some Lm.blk) L.ext seen L.ext)->w1.heap[Lm.blk]? =some (.map Es L.ext)->
   seen.toList=p.map (λi=>(Es.toList.map (·.born)).getD i 0)->tg (ie none) E.P (.seq (.region i1 mc.ops1 false) (.seq (.cond mc.tok .skip (.exit mc.xid)) (.block mc.bid (.seq (.region i2 mc.ops2 false) mc.rest)))) Q act1 w1:=by
  intro j;induction j using Nat.strongRecOn with
  |ind j ih=>
  intro p s hj hpn hpl hrun ak act1 w1 seen f1 r1 aB hsep1 hit hmp hseen;have aH:ak mo.it=some L:=(aB _ g6).trans hL;have hLm1:ak m=some Lm:=(aB _ g4).trans hLm;have hval:act1.eval (.tmp t)= .pointer (some ⟨L.blk,0,none⟩):=by have:=f1.slot t id;rw[mk.sl]at this;obtain⟨L',hL',hv⟩:=this;rw[aH,j0]at hL';subst hL';show act1.tmps.getD t Go.undef=_;rw[hv,hoff]
  have nd1: ∀c,mc.o1.op≠ .defer c:=λc hc=>by rw[mk.o1]at hc;cases hc
  have nd2: ∀c,mc.o2.op≠ .defer c:=λc hc=>by rw[mk.o2]at hc;cases hc
  have nd3: ∀c,mc.o3.op≠ .defer c:=λc hc=>by rw[mk.o3]at hc;cases hc
  refine MF (wpIn_seq (wpIn_region ?_));rw[J6,show mc.ops1.size=[mc.o2].length+1 by rw[<-Array.length_toList,hop1];rfl];rcases run_next_at (P:=E.P) w1 mc.o1.type L.blk Lm.blk L.ext L.ext seen Es L.ext hit hmp hold (j5 _)with⟨hz,hnx⟩|⟨e,hem,w2,hw2,hnx⟩
  .
   have hr1:(execOp act1.eval mc.o1).run E.P w1= .ok (.value (.tuple #[.bool false])) w1:=by unfold execOp;rw[mk.o1];simp only[Sem.run_bind,hval,hnx];rfl
   have f2:=FrP.put' f1 (some mo.d1) (v:= .V [.bool false]) (u:= .tuple #[.bool false]) ⟨_,rfl,.one rfl⟩;refine Jm (i:=0) (by trivial) f1 mk.p1 nd1 hr1 ?_;rw[mk.e1];have hx1v:(act1.put (some mo.d1) (.tuple #[.bool false])).eval (.tmp mo.d1)= .tuple #[.bool false]:=by have:=f2.slot mo.d1 id;rw[Fr.put_slot f1.lim,c9 ⟨rfl,mk.l1⟩]at this;obtain⟨xs,hxs,hv⟩:=this;show(act1.put (some mo.d1) (.tuple #[.bool false])).tmps.getD mo.d1 Go.undef=_;rw[hxs];obtain⟨v1,vr,hv1,hv2,hv3⟩:=hv;obtain rfl:vr=[]:=hv3;subst hv2;congr 1;exact Array.ext' (by trivial)
   have hr2:(execOp (act1.put (some mo.d1) (.tuple #[.bool false])).eval mc.o2).run E.P w1= .ok (.value (.bool false)) w1:=by unfold execOp;rw[mk.o2];simp only[Sem.run_bind,hx1v];rfl
   have f3:=FrP.put' f2 (some mo.d2) (v:= .bool false) (u:= .bool false) rfl;refine Jm (i:=1) (rest:=[]) (by rw[hop1];rfl) f2 mk.p2 nd2 hr2 ?_;rw[mk.e2];refine wpIn_seq (wpIn_cond_false ?_ (wpIn_exit ?_));rw[mk.tk];exact Td (by rw[f2.size,Fr.put_nt];exact mk.l2)
   have hfull:p.Perm (List.range (dL I lm).length):=cu9 hpn hpl λi hi=>by obtain⟨e,he1,he2⟩:=hbi i hi;have:=cd7 hz e (G8 he1);rw[hseen]at this;obtain⟨i',hi',hh⟩:=j9.1 this;rw[<-he2]at hh;rw[<-hinj i' i (hpl i' hi') hi hh];exact hi'
   obtain⟨D',hD1,hD2⟩:=hm2 p hfull;obtain rfl:=R9 (hrun.symm.trans hD1);have hlenD:D'.length=D.length:=hD2.length_eq;rw[hlenD]at f3 r1;have hpcA:(wt sp mo a h).pc=[]:=by unfold wt;rw[Fr.put_pc,Fr.put_pc,hd.pc]
   have hdsA:(wt sp mo a h).ds=[]:=by unfold wt;rw[Fr.put_ds,Fr.put_ds,hd.ds]
   have hntA:(wt sp mo a h).nt=a.nt:=by unfold wt;rw[Fr.put_nt,Fr.put_nt,hd.nt]
   have f4:=d97 (a:=wt sp mo a h) (aa:=I.U sp.v0 [.D D.length,.A D]) (v0:=sp.v0+1) NP (by rw[hntA];exact g11) hpcA hdsA f3;have r4:=dM1 hD2 g12 r1;unfold NR at hend;split at hend
   rotate_left
   cases hend;rename_i es hes;obtain rfl:=cX4 hend;obtain⟨b1,b2,b3,b4⟩:=cu8 hn0 g1 r f st0 hxs (s0:=[s0,s1]) (i:=0) (p:=[.D D.length,.A D]) hlink [.D D.length,.A D] ak _ _ _ w1 _ hes (by simp only[Y6,bZ];rw[show(I.U sp.v0 [Val.D D.length,.A D]).w sp.v0= .D D.length from wR (j:=0) rfl,wR (j:=1) (x:= .A D) rfl]) f4 r4 aB
   rw[hx1]at hT;have hon:(kU sp (gH sp.id ([s0,s1]++sp.fv)) a h x.2).h.next=x.2.next:=Heap.next_upto _ _
   refine q (.exit mc.xid) _ _ (ak.cut x.2.next) _ w1 hT b1 b2 (b3.putBack (L:=Lm) (by exact hmx) (Heap.get_lim _ _ _ hg2) (by simp only[cn.cut];rw[c9 hmx];exact hLm1) ⟨Es,_,hmp,hrows,hborn⟩ (λb y M hy hbm hb=> ?_) (λhw=> ?_)) ⟨b4.le,b4.ext,λb hb hn=> ?_,b4.wm⟩;simp only[cn.cut]at hb;split at hb;rename_i hlt;obtain⟨z,hz⟩:=c09 hsub b hlt y hy;exact(hsep1 b z M hz hb).2;cases hb;exact r.free m _ Lm hg2 (by rw[st0.wm,<-b4.wm];exact hw) hLm
   have:b≠m:=by rintro rfl;rw[<-st0.ext b hb,hLm]at hn;cases hn
   rw[Heap.get_put,b9 this];exact b4.unm b hb hn
  .
   obtain⟨heE,heS⟩:=cX5 hem;obtain⟨i,hi,hei⟩:=C3 heE;have hiN:i<(dL I lm).length:=by rw[<-hlen];exact hi
   have hbe:(Es.toList.map (·.born)).getD i 0=e.born:=by obtain⟨e',he1,he2⟩:=hbi i hiN;rw[m7 hi,j0]at he1;rw[he2,<-he1,hei]
   have hip:i∉p:=λhh=>heS (by rw[hseen];exact j9.2 ⟨i,hh,hbe⟩)
   have hpn':(p++[i]).Nodup:=by refine O9.2 ⟨hpn,by simp,λx hx y hy=> ?_⟩;rintro rfl;rw[o7]at hy;subst hy;exact hip hx
   have hpl': ∀x∈p++[i],x<(dL I lm).length:=λx hx=>by
    rcases x6.1 hx with hh|hh
    exact hpl x hh;rw[o7]at hh;subst hh;exact hiN
   obtain⟨q',hq'⟩:=cX2 hpn' hpl';have hj1:1<=j:=by have:=hq'.length_eq;simp at this;omega
   obtain⟨Dq,hDq,_⟩:=hm2 _ hq';obtain⟨u1,hu1,_⟩:=UE hDq;obtain⟨u0,hu0,hu3⟩:=UE hu1;obtain rfl:=R9 (hrun.symm.trans hu0);obtain⟨xa,xb,s2,rfl,hstep,_⟩:=YV hu3;have hw2h:w2.heap=w1.heap:=by rcases hw2 with rfl|rfl<;>rfl
   have hLlt:L.blk<w1.heap.size:=r1.lt _ _ aH;generalize hw3:ChangeMaps.setBlock w2 L.blk (.mapIter (some Lm.blk) L.ext (seen.push e.born) L.ext)=w3 at hnx;have hw3L:w3.heap[L.blk]? =some (.mapIter (some Lm.blk) L.ext (seen.push e.born) L.ext):=by rw[<-hw3];show(w2.heap.setIfInBounds L.blk _)[L.blk]? =_;rw[O5,c9 rfl,c9 (by rw[hw2h];exact hLlt)]
   have hw3o: ∀b,b≠L.blk->w3.heap[b]? =w1.heap[b]? :=by intro b hb;rw[<-hw3];show(w2.heap.setIfInBounds L.blk _)[b]? =_;rw[O5,b9 (Ne.symm hb),hw2h]
   have hw3s:w3.heap.size=w1.heap.size:=by rw[<-hw3];show(w2.heap.setIfInBounds L.blk _).size=_;rw[Array.size_setIfInBounds,hw2h]
   have hw3d:w3.os=w1.os/\w3.tape=w1.tape/\w3.output=w1.output/\w1.drawn<=w3.drawn:=by
    rw[<-hw3];rcases hw2 with rfl|rfl
    exact⟨rfl,rfl,rfl,j5 _⟩;exact⟨rfl,rfl,rfl,Nat.le_succ _⟩
   have r2:HR ak (I.U sp.v0 [xa,xb]) K w0 (dH sp a h).h w3:=by refine⟨λb y M hg hb=> ?_,r1.sep,r1.fresh,r1.fget,λb M hb=>by rw[hw3s];exact r1.lt b M hb,r1.kin,λz hz=> ?_,r1.free,by rw[hw3s];exact r1.size,hw3d.1.trans r1.os,hw3d.2.1.trans r1.tape,hw3d.2.2.1.trans r1.out,l7 r1.dr hw3d.2.2.2⟩;rw[hw3o _ (hsep1 b y M hg hb).1];exact r1.blk b y M hg hb;rw[hw3o z (by rintro rfl;exact hKL hz)];exact r1.keep z hz
   have r3:=dM0 (r:=[]) (r':=[.D i]) g12 r2;have r4:HR ak (I.U sp.v0 [xa,xb,.D i]) (λz=>K z\/z=L.blk\/z=Lm.blk) w3 (dH sp a h).h w3:=by
    refine r3.freeze (λz hz=> ?_) (λb y M hg hw hb hz=> ?_)
    rcases hz with hz|rfl|rfl
    exact A1 (r3.kin z hz) r3.size;exact r3.lt _ _ aH;exact r3.lt _ _ hLm1
    rcases hz with hz|hz|hz
    exact r3.free b y M hg hw hb hz;exact(hsep1 b y M hg hb).1 hz;exact(hsep1 b y M hg hb).2 hz
   have f2:=d97 (aa:=I.U sp.v0 [xa,xb,.D i]) (v0:=sp.v0+1) NP (by rw[hd.nt];exact g10) hd.pc hd.ds f1;have hr1:(execOp act1.eval mc.o1).run E.P w1= .ok (.value (.tuple #[.bool true,e.key,e.val])) w3:=by unfold execOp;rw[mk.o1];simp only[Sem.run_bind,hval,hnx];rfl
   have f3:=FrP.put' f2 (some mo.d1) (v:= .any) (u:= .tuple #[.bool true,e.key,e.val]) trivial;refine Jm (i:=0) (by trivial) f1 mk.p1 nd1 hr1 ?_;rw[mk.e1];have hr2:(execOp (act1.put (some mo.d1) (.tuple #[.bool true,e.key,e.val])).eval mc.o2).run E.P w3= .ok (.value (.bool true)) w3:=by unfold execOp;rw[mk.o2];simp[Sem.run_bind,Td (act:=act1) (d:=mo.d1) (v:= .tuple #[.bool true,e.key,e.val]) (by rw[f1.size];exact mk.l1)];rfl
   have f4:=FrP.put' f3 (some mo.d2) (v:= .bool true) (u:= .bool true) rfl;refine Jm (i:=1) (rest:=[]) (by rw[hop1];rfl) f3 mk.p2 nd2 hr2 ?_;rw[mk.e2];refine wpIn_seq (wpIn_cond_true ?_ (wpIn_skip ?_));rw[mk.tk];exact Td (by rw[f3.size,Fr.put_nt];exact mk.l2)
   refine wpIn_block (wpIn_seq (wpIn_region ?_));rw[J6,show mc.ops2.size=mc.r3.length+1 by rw[<-Array.length_toList,hop2];rfl];have hev:((act1.put (some mo.d1) (.tuple #[.bool true,e.key,e.val])).put (some mo.d2) (.bool true)).eval (.tmp t)= .pointer (some ⟨L.blk,0,none⟩):=by rw[b40 mk.n2,b40 mk.n1];exact hval
   have hr3:(execOp ((act1.put (some mo.d1) (.tuple #[.bool true,e.key,e.val])).put (some mo.d2) (.bool true)).eval mc.o3).run E.P w3= .ok (.value (.tuple #[e.key,e.val])) w3:=by unfold execOp;rw[mk.o3];simp[Sem.run_bind,hev];rw[run_entry_at w3 L.blk Lm.blk L.ext seen Es L.ext e hw3L ((hw3o _ hne).trans hmp) heE hnd];rfl
   have hrow: ∃row,(dL I lm)[i]? =some row/\qS ks vs row=(e.key,e.val):=by
    have h1:=congrArg (λl=>l[i]?) hrows;simp[D8,m7 hi,hei,Option.map_some]at h1;cases hh:(dL I lm)[i]? with
    |none=>rw[hh]at h1;cases h1
    |some row=>
     rw[hh,Option.map_some,j0]at h1;exact⟨row,rfl,h1.symm⟩
   obtain⟨row,OO,NQ⟩:=hrow;have hvE:VR ak (I.U sp.v0 [xa,xb,.D i]) (JQ ks vs lm (.V (sp.v0+2))) (.tuple #[e.key,e.val]):=by have:=dL9 (O:=ak) (I:=I.U sp.v0 [xa,xb,.D i]) (ks:=ks) (vs:=vs) (l:=lm) (idx:= .V (sp.v0+2)) (i:=i) (by show((I.U sp.v0 [xa,xb,.D i]).w (sp.v0+2)).I=_;rw[wR (j:=2) (x:= .D i) rfl];rfl) (by rw[hlm];exact OO);rw[NQ]at this;exact this
   have f5:=FrP.put' f4 (some mo.d3) hvE;refine Jm (i:=0) (by trivial) f4 mk.p3 nd3 hr3 ?_;rw[mk.e3];have aD:=an I sp.v0 [xa,xb,.D i] ae;have hro3:((((dH sp a h).a.put (some mo.d1) .any).put (some mo.d2) (.bool true)).put (some mo.d3) (JQ ks vs lm (.V (sp.v0+2)))).ro=none:=by rw[Fr.put_ro,Fr.put_ro,Fr.put_ro,hd.ro]
   refine ho _ aD iT mq (oW (I.U sp.v0 [xa,xb,.D i]) (0,s2)) (xQ _ _) mc.ops2 mc.r3 (0+1) _ _ _ (by rw[hop2];rfl) ⟨[],mB,hstep⟩ _ w3 ak _ w3 none _ r4 f5 (by rw[hro3];exact rfl) ?_;intro a4 h4 aJ act4 w4 hT4 hf4 hr4' hst4;refine hk _ aD iT mq (oW (I.U sp.v0 [xa,xb,.D i]) (0,s2)) (xQ _ _) mc.rest (a4.back none) h4 (PI mc.bid (xF sp a h)) hT4 _ w3 aJ act4 w4 none _ hr4' (hf4.back none) (by exact rfl) ?_;intro e5 a5 h5 aL act5 w5 hT5 _ hf5 hr5 hst5;have fin:oW (I.U sp.v0 [xa,xb,.D i]) (0,s2) (xF sp a h .norm a5 h5)->tg (ie none) E.P (.seq (.region i1 mc.ops1 false) (.seq (.cond mc.tok .skip (.exit mc.xid)) (.block mc.bid (.seq (.region i2 mc.ops2 false) mc.rest)))) Q act5 w5:=by
    rintro⟨_,_,hke⟩;obtain⟨hnd5,hke⟩:=FG hke;obtain⟨hf6,_,_⟩:=hf5.norms hnd5;obtain⟨ap,cv⟩:=OK (sp:=sp) hf6 hr5;simp[EM]at hke;split at hke
    .rename_i es hes;simp[W5,j0,y5,true_and]at hke;have mm:=Kw hes;have hnt':(jj sp (eU sp.owns a5 h5).2 h5).1.nt=a.nt:=by rw[<-mm.nt,hd.nt]
     have k1:=mm.fr hd.pc (λs hs=>⟨_,rfl,by rw[hd.hi s (by rw[<-hnt'];exact hs)];exact ww (hd.un s (by rw[<-hnt'];exact hs))⟩) cv.fr;have k2:=mm.hr hd.fg cv.hr;rw[hke,Xz]at k1 k2;have hown: ∀b,b<n0-> ¬ ∃o∈sp.owns,b=o.blk:=by rintro b hb ⟨o,hm,rfl⟩;have g1':=g1;obtain⟨g1',_⟩:=W7 g1';obtain⟨g1',_⟩:=W7 g1';obtain⟨g1',_⟩:=W7 g1';obtain⟨g1',_⟩:=W7 g1';obtain⟨g1',_⟩:=W7 g1';obtain⟨o0,_⟩:=W7 g1';rw[k9]at o0;have:=cV.1 (o0 o hm);omega
     have az: ∀b,b<n0->ap b=O b:=λb hb=>by
      have hbn:b<(dH sp a h).h.next:=by rw[hd.n];omega
      exact((cv.bij b (hown b hb)).trans (hst5.ext b (A1 hbn hst4.le))).trans ((hst4.ext b hbn).trans (aB b hb))
     have aC: ∀b,b<n0->(ap.cut (dH sp a h).h.next) b=O b:=λb hb=>by simp[cn.cut];rw[c9 (by rw[hd.n];omega)];exact az b hb
     refine ih (j-1) (by omega) (p++[i]) s2 (by simp;omega) hpn' hpl' (bB0 hstep hrun) _ act5 w5 (seen.push e.born) k1 (HR.thaw r3 (λz hz=> .inl hz) k2) aC (λb y M hy hb=> ?_) ((hr5.keep _ (.inr (.inl rfl))).trans hw3L) ((hr5.keep _ (.inr (.inr rfl))).trans ((hw3o _ hne).trans hmp)) (by rw[N9,hseen,r9];simp only[m8,P0];rw[hbe]);by_cases hbn:b<n0;rw[aC b hbn]at hb;exact hsep0 b y M hy hb;have:=k2.free b y M hy (by rw[hd.wm];omega) hb;exact⟨λe=>this (.inr (.inl e)),λe=>this (.inr (.inr e))⟩
    trivial
   have bad: ∀ex,ex≠ .norm-> ¬oW (I.U sp.v0 [xa,xb,.D i]) (0,s2) (xF sp a h ex a5 h5):=by
    rintro ex hex ⟨_,_,hke⟩;have no: ∀e',W5 (uN sp a h e' (jj sp (eU sp.owns a5 h5).2 h5).1 (jj sp (eU sp.owns a5 h5).2 h5).2 sp.exits 0) (I.U sp.v0 [xa,xb,.D i])=some (0,s2)->False:=by intro e' hh;obtain⟨i',x',es,q1,_⟩:=Nu _ _ hh;omega
    cases ex with
    |norm=>trivial
    |exit id=>exact no _ (FG hke).2
    |ret=>exact no _ (FG hke).2
   cases e5 with
   |norm=>exact fin hT5
   |ret=>exact absurd hT5 (bad .ret (by intro hh;cases hh))
   |exit i5=>
    replace hT5:oW _ _ (bif Nat.beq i5 mc.bid then xF sp a h .norm a5 h5 else xF sp a h (.exit i5) a5 h5):=hT5;show if i5=mc.bid then _ else _
    by_cases hi5:i5=mc.bid;rw[c9 hi5];rw[Y0.2 hi5]at hT5;exact fin hT5;rw[BS hi5]at hT5;exact absurd hT5 (bad (.exit i5) (by intro hh;cases hh))
 refine main _ [] _ (Nat.le_of_eq (m9 _).symm) .nil (λi hi=>(by cases hi)) rfl (O.cut (dH sp a h).h.next) act w #[] f1 r1 (λb hb=>by simp only[cn.cut];rw[c9 (by rw[hd.n];omega)]) (λb y M hy hb=>hsep0 b y M hy (by
  simp only[cn.cut]at hb;split at hb;exact hb
  cases hb)) hobj hmobj rfl
def cv3{R:Type}{A:Alg R}{T:R->Prop}(hA:AlgOk A T I){h:Heap}{k:Ex->Fr->Heap->R}(he:T (Jq (ev E n) A n0 k sp a h (Di c))): ∀o∈sp.owns,n0<=o.blk:=by
 unfold Jq at he;split at he
 .rename_i mc hmc;unfold Uw at he;split at he
  .rename_i mo hmo;split at he
   .rename_i m hg1;unfold Xn at he;split at he
    .rename_i it' d ks vs lm o hg2 hown;cases hit:Nat.beq it' mo.it with
     |false=>rw[hit]at he;exact absurd he hA.X
     |true=>
      rw[hit]at he;split at he
      .rename_i x hex;intro o' ho';rw[hown,o7]at ho';subst ho';unfold Qm at he;split at he
       .rename_i xid _;cases hcnd:(Nat.beq xid mc.xid&&KA (JG sp mo.it m o'.blk lm) a h n0 mo m o'.blk lm&&Nat.blt m x.2.next&&NR (JG sp mo.it m o'.blk lm) mo o'.blk a h x.2)with
        |false=>rw[hcnd]at he;exact absurd he hA.X
        |true=>
         have h1:=(W7 (W7 (W7 hcnd).1).1).2;unfold KA at h1;simp_all
       exact absurd he hA.X
      exact absurd he hA.X
    exact absurd he hA.X
   exact absurd he hA.X
  exact absurd he hA.X
 exact absurd he hA.X
def cX6{Ω:Opq->Prop}(an: ∀I v0 l,Ω I->Ω (I.U v0 l))(ae:Ω I)(hk: ∀aa,Ω aa->oO E aa n)(ho: ∀aa,Ω aa->wI E aa n){R:Type}{A:Alg R}{T:R->Prop}(hA:AlgOk A T I)
 {h hs:Heap} (hn0:n0=hs.next) {k:Ex->Fr->Heap->R}
 (he:T (Jq (ev E n) A n0 k sp a h (Di c))) {K:zI} {w0:yM} {O ah:cn} {w:yM} (r:HR O I K w0 h w) (f:dA O I a act) (st0:St hs ah h O) (q:vo T I K w0 hs ah none k Q):tg (ie none) E.P c Q act w:=by
 unfold Jq at he;split at he;rename_i mc hmc;unfold Uw at he;split at he;rename_i mo hmo;split at he;rename_i m hg1;unfold Xn at he;split at he
 rename_i it' d ks vs lm o hg2 hown;cases hit:Nat.beq it' mo.it with
 |false=>rw[hit]at he;exact absurd he hA.X
 |true=>
  rw[hit]at he;obtain rfl:=Y0.1 hit;split at he;rename_i x hex;exact cv2 an ae hk ho hA hmc hn0 (sp:=JG sp mo.it m o.blk lm) (x:=x) hmo hg1 hg2 (by grind) he r f st0 q;exact absurd he hA.X
 .exact absurd he hA.X
 exact absurd he hA.X;exact absurd he hA.X;exact absurd he hA.X
variable{n:Nat}{O:cn}{Ω:Opq->Prop}{K:zI}{w0:yM}{ro:Bj}{Q:Exit->Act->yM->Prop}
variable{E:Env}{I:Opq}
def bN7(an: ∀I v0 l,Ω I->Ω (I.U v0 l))(ae:Ω I)(hk: ∀aa,Ω aa->oO E aa n)(hops: ∀aa,Ω aa->wI E aa n){R:Type}{A:Alg R}{T:R->Prop}(hA:AlgOk A T I){c:Code}{a:Fr}{h:Heap}{k:Ex->Fr->Heap->R}{sp:LSpec}
 (he:T (Yd (ev E n) A c a h k sp)) {act:Act} {w:yM} (r:HR O I K w0 h w) (f:dA O I a act) (hR:Af O a.ro ro) (q:vo T I K w0 h O a.ro k Q):tg (ie ro) E.P c Q act w:=by
 obtain⟨hpl,hnd,he⟩:tV a=true/\dB I (eU sp.owns a h).1=true/\T (Xf (ev E n) A c h.next k sp (jj sp (eU sp.owns a h).2 (h.upto (Nat.add h.next sp.owns.length)))):=by
  unfold Yd at he;cases hp:tV a with
  |false=>rw[hp]at he;exact absurd he hA.X
  |true=>rw[hp]at he;exact⟨rfl,hA.needA _ _ he⟩
 obtain⟨_,hro⟩:=Fm hpl;rw[hro]at hR q;obtain rfl:ro=none:=hR;obtain⟨f,-⟩:=f.norms hnd;generalize (eU sp.owns a h).2=a at he f;obtain⟨ac,cv⟩:=OK (sp:=sp) f (r.upto (n:=Nat.add h.next sp.owns.length) (E2 _ _));unfold Xf at he;cases hmp:sp.mapr with
 |true=>
  rw[hmp]at he;have ho:=cv3 hA he;refine cX6 an ae hk hops hA rfl he cv.hr cv.fr ⟨?_,λb hb=>cv.bij b ?_,λb hb hn=> ?_,?_⟩ q
  .rw[cv.next,Heap.next_upto];grind
  grind
  rcases cv.get b with e|e|⟨o,hm,rfl⟩|e
  exact .inl (e.trans (Heap.get_upto _ _ _));exact .inr (.inl e);have:=ho o hm;omega;grind;rw[cv.wm,Heap.wm_upto]
 |false=>
 rw[hmp]at he;have ho: ∀o∈sp.owns,h.next<=o.blk:=by
  have he':=he;unfold MK at he';cases hok:Cb sp (jj sp a (h.upto (Nat.add h.next sp.owns.length))).1 (jj sp a (h.upto (Nat.add h.next sp.owns.length))).2 h.next with
  |false=>rw[hok]at he';exact absurd he' hA.X
  |true=>
   unfold Cb at hok;simp_all
 refine(cX1 an ae hk hA rfl he cv.hr cv.fr ⟨?_,λb hb=>cv.bij b ?_,λb hb hn=> ?_,?_⟩ q)
 .rw[cv.next,Heap.next_upto];grind
 grind
 rcases cv.get b with e|e|⟨o,hm,rfl⟩|e
 exact .inl (e.trans (Heap.get_upto _ _ _));exact .inr (.inl e);have:=ho o hm;omega;grind;rw[cv.wm,Heap.wm_upto]
def lE.append{as:aaH}{ds:aa1}: ∀{bs:aaH} {es:aa1} {O:cn},lE O I bs es->lE O I as ds->lE O I (bs++as) (es++ds)
 | [],es,O,h,q=>by rw[show es=[]from h];exact q
 |b::bs,es,O,⟨d,dr,e,h1,h2⟩,q=>by rw[e];exact⟨d,dr++ds,rfl,h1,lE.append h2 q⟩
def cv4(an: ∀I v0 l,Ω I->Ω (I.U v0 l))(ae:Ω I)(hE:E.Ok I)(hm:E.P.follows .mixedOrders=true)(hc: ∀m,m<=n->zj E I m)(hk2: ∀aa,Ω aa->oO E aa n)(hl:OF E I n)(ho:wI E I n):oO E I (n+1):=by
 intro R A T hA c a h k he K w0 O act w ro Q r f hR q;have hk1:oO E I n:=hk2 I ae;cases c with
 |skip=>exact wpIn_skip (q .norm a h O act w he rfl f r (.refl _ _))
 |label l=>exact wpIn_label (q .norm a h O act w he rfl f r (.refl _ _))
 |ret=>exact wpIn_ret (q .ret a h O act w he rfl f r (.refl _ _))
 |exit id=>exact wpIn_exit (q (.exit id) a h O act w he rfl f r (.refl _ _))
 |rangeFunc g ps assign body=>exact absurd (by assumption) hA.X
 |seq x y=>
  refine wpIn_seq (hk1 R A T hA x a h _ he K w0 O act w ro _ r f hR ?_);intro e a' h' ac act' w' hke hro hf hr hst;cases e with
  |norm=>exact hk1 R A T hA y a' h' k hke K w0 ac act' w' ro Q hr hf (by rw[hro];exact hR.mono (hst.Le r)) (by rw[hro];exact q.later hst)
  |exit id=>exact q (.exit id) a' h' ac act' w' hke hro hf hr hst
  |ret=>exact q .ret a' h' ac act' w' hke hro hf hr hst
 |cond c x y=>
  have he:T (Xp (ev E n) A x y a h k (a.ev c)):=he;have go: ∀(b:Bool) (a':Fr),a'.ro=a.ro->dA O I a' act->act.eval c= .bool b->T (ev E n R A (.code (bif b then x else y) a' h k))->(Code.cond c x y).wpIn (ie ro) 0 E.P Q act w:=by intro b a' hro f' hv he';refine wpIn_cond hv ?_;have:=hk1 R A T hA _ a' h k he' K w0 O act w ro Q r f' (by rw[hro];exact hR) (by rw[hro];exact q);grind
  unfold Xp at he;split at he;rename_i b hb;have hv:=f.opR c _ hb;simp[VR]at hv;grind;rename_i e hb;have hv:=f.opR c _ hb;simp[VR]at hv;unfold cn4 at he;split at he;rename_i b hp;exact go b a rfl f (by rw[hv,RW f.pcs hp]) he
  obtain⟨h1,h2⟩:=hA.J _ _ _ he;cases hd:dB I e with
  |true=>exact go true _ (Fr.cond_ro _ _) (f.cond hd) (by grind) (h1 hd)
  |false=>exact go false _ (Fr.cond_ro _ _) (f.cond hd) (by grind) (h2 hd)
  .exact absurd he hA.X
 |block id b=>
  refine wpIn_block (hk1 R A T hA b a h _ he K w0 O act w ro _ r f hR ?_);intro e a' h' ac act' w' hke hro hf hr hst;cases e with
  |norm=>exact q .norm a' h' ac act' w' hke hro hf hr hst
  |ret=>exact q .ret a' h' ac act' w' hke hro hf hr hst
  |exit i=>
   simp[PI]at hke;show if i=id then _ else _
   by_cases hi:i=id;rw[c9 hi];rw[Y0.2 hi]at hke;exact q .norm a' h' ac act' w' hke hro hf hr hst;rw[b9 hi];rw[BS hi]at hke;exact q (.exit i) a' h' ac act' w' hke hro hf hr hst
 |loop b=>
  exact cu3 (hl R A T hA b a h k he K w0 O act w ro Q r f hR q)
 |scope b=>
  refine cd6 (hk1 R A T hA b a h k he K w0 O act w ro _ r f hR ?_);intro e a' h' ac act' w' hke hro hf hr hst;cases e<;>exact q _ a' h' ac act' w' hke hro hf hr hst
 |region id ops draw=>
  cases draw with
  |false=>
   refine wpIn_region ?_;have:=ho R A T hA ops ops.toList 0 a h (IA a.ro k) rfl he K w0 O act w ro Q r f hR (λa' h' ac act' w' g1 g2 g3 g4=>q .norm _ h' ac act' w' g1 (Fr.back_ro _ _) (g2.back _) g3 g4);grind[List.range_eq_range']
  |true=>
   have he:T (dJ6 (ev E n) A ops.toList a h k (GM ops.toList)):=he;cases hp:GM ops.toList with
   |none=>rw[hp]at he;exact absurd he hA.X
   |some rr=>
    rw[hp]at he;obtain⟨l,pk⟩:=dm9 hp;refine wpIn_region_any hm ?_;have hno: ∀i,¬eu (Array.replicate ops.size false) i:=by intro i hi;unfold eu at hi;simp[x8,U6]at hi;split at hi<;>simp at hi
    refine dn4 hA (hs:=h) (ah:=O) hE pk (N:=n) (λm hmn=>hc m (by omega)) (k:=IA a.ro k) (λa' h' ac act' w' g1 g2 g3 g4=>q .norm _ h' ac act' w' g1 (Fr.back_ro _ _) (g2.back _) g3 g4)
     ops.size n 0 rr [] a h (λ_=>0) _ O act _ (j5 _) he ?_ ?_
    refine⟨r.drew,.refl _ _,by simp,λx _ hx=>absurd hx (hno _),λx _ hx=>absurd hx (hno _),λx _ hx=>by simp at hx,pk.eager,pk.rl,λx hx _=>pk.lr x hx,?_,λx _ hx=>by simp at hx,λx _ y _ hx=>by simp at hx⟩;exact f.weaken λ_ hh=>hh.elim
    grind[left,Nat.le_trans,List.length_filter_le]
 |_=>exact absurd he hA.X
def cv5(an: ∀I v0 l,Ω I->Ω (I.U v0 l))(ae:Ω I)(hk2: ∀aa,Ω aa->oO E aa n)(hops: ∀aa,Ω aa->wI E aa n)(hk1:oO E I n)(hl:OF E I n):OF E I (n+1):=by
 intro R A T hA c a h k he K w0 O act w ro Q r f hR q;have he:T (dJ5 (ev E n) A c a h k (E.lspec a.fn (Ct c) a h)):=he;cases hsp:E.lspec a.fn (Ct c) a h with
 |some sp=>
  rw[hsp]at he;exact bN7 an ae hk2 hops hA he r f hR q
 |none=>
  rw[hsp]at he;refine MF (hk1 R A T hA c a h _ he K w0 O act w ro _ r f hR ?_);intro e a' h' ac act' w' hke hro hf hr hst;cases e with
  |norm=>exact hl R A T hA c a' h' k hke K w0 ac act' w' ro Q hr hf (by rw[hro];exact hR.mono (hst.Le r)) (by rw[hro];exact q.later hst)
  |exit id=>exact q (.exit id) a' h' ac act' w' hke hro hf hr hst
  |ret=>exact q .ret a' h' ac act' w' hke hro hf hr hst
