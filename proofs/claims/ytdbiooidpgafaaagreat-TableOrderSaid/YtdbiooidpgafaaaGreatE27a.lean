import Derived.Test.YtdbiooidpgafaaaGreatE26b
import Derived.Scope
import Derived.RangeFuncLeaves
import Derived.Maps.RangeRun
set_option linter.unusedSimpArgs false
set_option linter.unusedVariables false
namespace Go.Ev
open Go
variable{E:Env}{ω:Opq}
def aj5(F:Fence)(P:Program)(c:Code)(Q:Exit→Act→World→Prop)(a:Act)(w:World):Prop:=
 ∀(b:Frame) (k:List Item) (cs:List Frame),b.roundOf=F.round→F.fn b.fn→F.room (cs.length+1+0)→
  ∃e a' w',Q e a' w'∧ArrivesIn (Machine.fenced P F) P (lone (b.atR a (.code c:: .inLoop c::k)) cs w) b k cs e a' w'
theorem c62{F:Fence}{P:Program}{c:Code}{Q:Exit→Act→World→Prop}{a:Act}{w:World}(h:aj5 F P c Q a w):(Code.loop c).wpIn F 0 P Q a w:=by
 intro b k cs hro hb hr
 obtain⟨e,a',w',hq,harr⟩:=h b k cs hro hb hr
 exact⟨e,a',w',hq,.of_steps (.one (fenced_calm hb hr rfl) stepR_loop) harr⟩
theorem ac4{F:Fence}{P:Program}{c:Code}{Q:Exit→Act→World→Prop}{a:Act}{w:World}(h:c.wpIn F 0 P (Exit.then (aj5 F P c Q) Q) a w):aj5 F P c Q a w:=by
 intro b k cs hro hb hr
 obtain⟨e,a₁,w₁,hq,harr⟩:=h b (.inLoop c::k) cs hro hb hr
 cases e with
 |normal=>
  obtain⟨e₂,a₂,w₂,hq₂,harr₂⟩:=hq b k cs hro hb hr
  exact⟨e₂,a₂,w₂,hq₂,.of_steps (StepsIn.trans harr (.one (fenced_calm hb hr rfl) stepR_inLoop)) harr₂⟩
 |exit id=>exact⟨_,a₁,w₁,hq,.pass (x:= .inLoop c) rfl (fun _ _=> .inl (by simp)) harr⟩
 |goto l=>exact⟨_,a₁,w₁,hq,.pass (x:= .inLoop c) rfl (fun _ _=> .inl (by simp)) harr⟩
 |ret=>exact⟨_,a₁,w₁,hq,.pass (x:= .inLoop c) rfl (fun _ _=> .inl (by simp)) harr⟩
 |panic ch=>exact⟨_,a₁,w₁,hq,.pass (x:= .inLoop c) rfl (fun _ _=> .inl (by simp)) harr⟩
 |outgrown=>exact⟨_,a₁,w₁,hq,.pass (x:= .inLoop c) rfl (fun _ _=> .inl (by simp)) harr⟩
section scope
variable{P:Program}{b:Frame}{a:Act}{k:List Item}{cs:List Frame}{w:World}
theorem a52{c:Code}:step P (lone (b.atR a (.code (.scope c)::k)) cs w)= .next (lone (b.atR a (.code c:: .inScope c::k)) cs w):=
 step_lone_go (by simp[stepG,stepG.exec,Frame.atR])
theorem b49{c:Code}:step P (lone (b.atR a (.inScope c::k)) cs w)= .next (lone (b.atR a k) cs w):=
 step_lone_go (by simp[stepG,stepG.exec,Frame.atR])
theorem bP5{F:Fence}{n:Nat}{Q:Exit→Act→World→Prop}{c:Code}(h:c.wpIn F n P (Exit.noGoto Q) a w):(Code.scope c).wpIn F n P Q a w:=by
 intro b k cs hro hb hr
 have h0:(lone (b.atR a (.code (.scope c)::k)) cs w).fenced P F:=fenced_calm hb hr rfl
 obtain⟨e,a₁,w₁,hq,harr⟩:=h b (.inScope c::k) cs hro hb hr
 cases e with
 |normal=>exact⟨.normal,a₁,w₁,hq,.head h0 a52 (StepsIn.trans harr (.one (fenced_calm hb hr rfl) b49))⟩
 |exit id=>
  have hx:exitTo id (.inScope c::k)=exitTo id k:=by simp[exitTo]
  exact⟨.exit id,a₁,w₁,hq,fun k' hk=> .head h0 a52 (harr.1 k' (by rw[hx];exact hk)),
    fun hr' hk=>let ⟨k₁,h1,h2⟩:=harr.2 hr' (by rw[hx];exact hk);⟨k₁,h1,.head h0 a52 h2⟩⟩
 |goto l=>exact hq.elim
 |ret=>exact⟨_,a₁,w₁,hq,.of_steps (.one h0 a52) harr⟩
 |panic ch=>exact⟨_,a₁,w₁,hq,.of_steps (.one h0 a52) harr⟩
 |outgrown=>exact⟨_,a₁,w₁,hq,.of_steps (.one h0 a52) harr⟩
end scope
def cr9(E:Env)(ω:Opq)(n:Nat):Prop:= ∀(R:Type) (A:Alg R) (T:R→Prop),AlgOk A T ω→ ∀(c:Code) (a:Fr) (h:Heap) (k:Ex→Fr→Heap→R),T (ev E n R A (.loop c a h k))→
 ∀(K:Nat→Prop) (w0:World) (β:Bij) (act:Act) (w:World) (ro:Option Nat) (Q:Exit→Act→World→Prop),HR β ω K w0 h w→FrR β ω a act→RoR β a.ro ro→KOk T ω K w0 h β a.ro k Q→aj5 (Fen ro) E.P c Q act w
def cB9(E:Env)(ω:Opq)(n:Nat):Prop:= ∀(R:Type) (A:Alg R) (T:R→Prop),AlgOk A T ω→ ∀(ops:Array Oper) (rest:List Oper) (i:Nat) (a:Fr) (h:Heap) (k:Fr→Heap→R),ops.toList.drop i=rest→T (ev E n R A (.ops ops.toList rest a h k))→
 ∀(K:Nat→Prop) (w0:World) (β:Bij) (act:Act) (w:World) (ro:Option Nat) (Q:Exit→Act→World→Prop),HR β ω K w0 h w→FrR β ω a act→RoR β a.ro ro→
  (∀a' h' β' act' w',T (k a' h')→FrR β' ω a' act'→HR β' ω K w0 h' w'→St h β h' β'→Q .normal act' w')→wpOpsIn (Fen ro) 0 E.P ops Q (List.range' i rest.length) act w
def c63(E:Env)(ω:Opq)(n:Nat):Prop:= ∀(R:Type) (A:Alg R) (T:R→Prop),AlgOk A T ω→ ∀(f:FuncId) (args:List AV) (h:Heap) (k:AV→Heap→R),T (ev E n R A (.body f args h k))→
 ∀(K:Nat→Prop) (w0:World) (β:Bij) (w:World) (us:List Value),HR β ω K w0 h w→VRs β ω args us→
  Calls E.P f us.toArray w (fun e w'=> ∃u β' v h',e= .returned u∧T (k v h')∧VR β' ω v u∧HR β' ω K w0 h' w'∧St h β h' β')
def c64(E:Env)(ω:Opq)(n:Nat):Prop:= ∀(R:Type) (A:Alg R) (T:R→Prop),AlgOk A T ω→ ∀(f:FuncId) (args:List AV) (h:Heap) (k:AV→Heap→R),T (ev E n R A (.dbody f args h k))→
 ∀(K:Nat→Prop) (w0:World) (β:Bij) (w:World) (us:List Value) (m:FrameMode),HR β ω K w0 h w→VRs β ω args us→
  CallsDIn Fence.wide 0 E.P f us.toArray m w (fun e m' w'=>m'=m∧ ∃u β' v h',e= .returned u∧T (k v h')∧VR β' ω v u∧HR β' ω K w0 h' w'∧St h β h' β')
def bE8(E:Env)(ω:Opq)(n:Nat):Prop:= ∀(R:Type) (A:Alg R) (T:R→Prop),AlgOk A T ω→ ∀(fn:Func) (a:Fr) (ds:List ADef) (h:Heap) (k:AV→Heap→R),T (ev E n R A (.leave fn.results.toList a ds h k))→
 ∀(K:Nat→Prop) (w0:World) (β:Bij) (act:Act) (w:World) (dd:List Deferred),HR β ω K w0 h w→FrR β ω a act→DsR β ω ds dd→
  LeavesInM Fence.wide 0 E.P fn act.tmps (fun e w'=> ∃u β' v h',e= .returned u∧T (k v h')∧VR β' ω v u∧HR β' ω K w0 h' w'∧St h β h' β') dd .returning w
theorem FrP.put'{β:Bij}{a:Fr}{act:Act}(f:FrR β ω a act)(dst:Option Tmp){v:AV}{u:Value}(r:VR β ω v u):FrR β ω (a.put dst v) (act.put dst u):=
 (FrP.put f dst r).weaken fun _ hh=>hh.1
theorem cs0(hE:E.Ok ω){n:Nat}(hc:GoS E ω n)(ho:cB9 E ω n):cB9 E ω (n+1):=by
 intro R A T hA ops rest i a h k hdrop he K w0 β act w ro Q r f hR hk
 cases rest with
 |nil=>exact hk a h β act w he f r (.refl _ _)
 |cons o rest=>
  have hlt:i<ops.toList.length:=by
   rcases i4 i ops.toList.length with hh|hh
   ·exact hh
   ·rw[J7 hh]at hdrop;cases hdrop
  have hcons:=G6 hlt
  rw[hdrop]at hcons
  obtain⟨e1,e2⟩:=J2 hcons
  have hoi:ops[i]? =some o:=by rw[e1];simp at hlt;simp[hlt]
  have hd2:ops.toList.drop (i+1)=rest:=e2.symm
  have he:T (d00 E (ev E n) A ops.toList rest o a h k (S8 ops.toList a o)):=he
  cases hw:S8 ops.toList a o with
  |none=>
   rw[hw]at he
   replace he:T (bY9 (ev E n) A ops.toList (o::rest) a h k (bc6 ops.toList a o)):=he
   cases hs:bc6 ops.toList a o with
   |none=>rw[hs]at he;exact absurd he hA.bad
   |some e=>
    rw[hs]at he
    obtain⟨h1,h2⟩:=hA.ite _ _ _ he
    cases hd:dB ω e with
    |true=>exact ho R A T hA ops (o::rest) i _ h k hdrop (h1 hd) K w0 β act w ro Q r (f.cond hd) (by rw[Fr.cond_ro];exact hR) hk
    |false=>exact ho R A T hA ops (o::rest) i _ h k hdrop (h2 hd) K w0 β act w ro Q r (f.cond hd) (by rw[Fr.cond_ro];exact hR) hk
  |some b=>
   rw[hw]at he
   simp only[List.length_cons,A8]
   show(match ops[i]? with
    |none=>_
    |some o=>_)
   rw[hoi]
   simp only[]
   rw[aX8 f rfl hw]
   cases b with
   |false=>
    simp only[k7,if_false]
    exact⟨fun _ _=>trivial,ho R A T hA ops rest (i+1) _ h k hd2 he K w0 β _ w ro Q r (f.put' o.dst ⟨#[],rfl,rfl⟩) (by rw[Fr.put_ro];exact hR) hk⟩
   |true=>
    simp only[if_true]
    have fin: ∀res,W3 E a.ev o h=res→SOk E β ω K w0 w h (execOp act.eval o) res→T (dc5 (ev E n) A h (kOp (ev E n) A ops.toList rest o.dst a k) res)→
     o.wpIn (Fen ro) 0 E.P act w (wpOpsIn (Fen ro) 0 E.P ops Q (List.range' (i+1) rest.length)) Q:=by
     intro res hres hs he
     refine d24 hA hc r hres hs he ?_
     intro β' v u h' w' hkk hv hr' hst'
     exact ho R A T hA ops rest (i+1) _ h' k hd2 hkk K w0 β' _ w' ro Q hr' ((f.mono (hst'.Le r)).put' o.dst hv) (by rw[Fr.put_ro];exact hR.mono (hst'.Le r)) fun a2 h2 β2 act2 w2 g1 g2 g3 g4=>hk a2 h2 β2 act2 w2 g1 g2 g3 (hst'.trans g4)
    replace he:T (oGo (ev E n) A ops.toList rest o.dst a h k (W3 E a.ev o h)):=he
    have hs:=bg6 hE r f.opR o
    generalize hres:W3 E a.ev o h=res at he hs
    cases res with
    |defer d=>
     obtain⟨dd,hrun,hd⟩:=hs
     simp only[oGo]at he
     cases hro:a.ro with
     |some l=>rw[hro]at he;exact absurd he hA.bad
     |none=>
      rw[hro]at he hR
      obtain rfl:ro=none:=hR
      refine⟨fun _ _=>trivial,?_⟩
      show Oper.uponIn (Fen none) 0 E.P o act _ Q ((execOp act.eval o).run E.P w)
      rw[hrun,Oper.uponIn_defer]
      exact ho R A T hA ops rest (i+1) _ h k hd2 he K w0 β _ w none Q r (FrP.put' (f.mark1 hd) o.dst ⟨#[],rfl,rfl⟩) (by rw[Fr.put_ro,Fr.mark_ro,hro];exact rfl) hk
    |val v h'=>exact fin _ hres hs he
    |need e v h'=>exact fin _ hres hs he
    |cho e v l h'=>exact fin _ hres hs he
    |enter g args=>exact fin _ hres hs he
    |choice l=>exact fin _ hres hs he
    |yield l args=>exact fin _ hres hs he
    |bad=>exact fin _ hres hs he
theorem bt9(ω:Opq)(v0:Nat)(a b:List Val):(ω.upd v0 a).upd v0 b=ω.upd v0 b:=by
 unfold Opq.upd
 congr 1
 funext n
 by_cases h:v0≤n
 ·simp only[if_pos h]
 ·simp only[if_neg h]
theorem Z3: ∀(l:List (Nat×Option Blk)) (h:Heap) (n:Nat),(∀p∈l,p.1<n)→(∀b,n≤b→h.get b=none)→ ∀b,n≤b→(a32 h l).get b=none
 | [],h,n,_,hh,b,hb=>hh b hb
 |(t,v)::r,h,n,hl,hh,b,hb=>by
  simp only[a32]
  refine Z3 r _ n (fun p hp=>hl p (.tail _ hp)) (fun b hb=> ?_) b hb
  have:=hl (t,v) (.head _)
  rw[Heap.get_put,if_neg (by simp only at this;omega)]
  exact hh b hb
theorem bh8{β:Bij}{a:Fr}{act:Act}(f:FrR β ω a act){b:Nat}: ∀(n:Nat),bA7 a b n=true→β b≠none
 |0,h=>by cases h
 |n+1,h=>by
  simp only[bA7,n5]at h
  rcases h with h|h
  ·have r:=f.slot n id
   split at h
   ·rename_i b' o hs
    rw[hs]at r
    obtain⟨L,hL,_⟩:=r
    obtain rfl:=P9.1 h
    rw[hL];simp
   ·rename_i b' hs
    rw[hs]at r
    obtain⟨L,hL,_⟩:=r
    obtain rfl:=P9.1 h
    rw[hL];simp
   ·cases h
  ·exact bh8 f n h
theorem bu0{β:Bij}{q:AV→Bool}: ∀{as:List AV} {us:List Value},VRs β ω as us→as.any q=true→ ∃a u,q a=true∧VR β ω a u
 | [],_,_,h=>by cases h
 |a::as,_,hr,h=>by
  obtain⟨u,ur,rfl,h1,h2⟩:=hr
  rw[List.any_cons,n5]at h
  rcases h with h|h
  ·exact⟨a,u,h,h1⟩
  ·exact bu0 h2 h
theorem aO5{β:Bij}{K:Nat→Prop}{w0 w:World}{h:Heap}(r:HR β ω K w0 h w){b:Nat}{av:AV}{u:Value}(h1:bA8 b h av=true)(h2:VR β ω av u):β b≠none:=by
 unfold bA8 at h1
 split at h1
 ·rename_i c o
  obtain⟨L,hL,_⟩:=h2
  unfold cY5 at h1
  split at h1
  ·rename_i e0 fz cs hg
   obtain⟨C,lo,hi,vs,q1,q2,q3,q4,q5,q6⟩:=r.blk c _ L hg hL
   obtain⟨m,v,h3,h4⟩:=bu0 q5 h1
   unfold cY4 at h3
   split at h3
   ·rename_i b'
    obtain⟨M,hM,_⟩:=h4
    obtain rfl:=P9.1 h3
    rw[hM];simp
   ·cases h3
  ·cases h1
 ·cases h1
theorem aO6{β:Bij}{K:Nat→Prop}{w0 w:World}{a:Fr}{h:Heap}{act:Act}(r:HR β ω K w0 h w)(f:FrR β ω a act){b:Nat}: ∀(n:Nat),bA9 a h b n=true→β b≠none
 |0,e=>by cases e
 |n+1,e=>by
  simp only[bA9,n5]at e
  rcases e with e|e
  ·have rs:=f.slot n id
   split at e
   ·rename_i fn x l hs
    rw[hs]at rs
    obtain⟨_,_,_,_,_,hc⟩:=rs
    obtain⟨av,u,h1,h2⟩:=bu0 hc e
    exact aO5 r h1 h2
   ·rename_i c o hs
    rw[hs]at rs
    exact aO5 r e rs
   ·cases e
  ·exact aO6 r f n e
theorem aj6{β:Bij}{K:Nat→Prop}{w0 w:World}{a:Fr}{h:Heap}{n0:Nat}{act:Act}(r:HR β ω K w0 h w)(f:FrR β ω a act){next:Nat}{l:List (Nat×Option Blk)}(e:bB0 a h n0 next l=true):(∀p∈l,p.1<next)∧ ∀p∈l,p.1<n0→β p.1≠none∨ ∃e sig x,h.get p.1=some (.arr e sig x):=by
 unfold bB0 at e
 rw[j5]at e
 refine⟨fun p hp=> ?_,fun p hp hlt=> ?_⟩
 ·have:=(P8 (e p hp)).1
  exact R1.1 this
 ·have:=(P8 (e p hp)).2
  rw[n5,n5,n5,Q2]at this
  rcases this with((h1|h1)|h1)|h1
  ·omega
  ·exact .inl (bh8 f _ h1)
  ·right
   unfold cY3 at h1
   split at h1
   ·rename_i hg;exact⟨_,_,_,hg⟩
   ·cases h1
  ·exact .inl (aO6 r f _ h1)
theorem bu1{v0 nb:Nat}{a:Fr}: ∀{n:Nat},cG6 v0 nb a n=true→ ∀s,s<n→okA v0 nb (a.slot s)=true
 |0,_,s,hs=>by omega
 |n+1,h,s,hs=>by
  simp only[cG6,e9]at h
  by_cases e:s=n
  ·subst e;exact h.1
  ·exact bu1 h.2 s (by omega)
theorem c65{v0 nb:Nat}{h0:Heap}: ∀{n:Nat},dc0 v0 nb h0 n=true→ ∀s,s<n→okB v0 nb (h0.get s)=true
 |0,_,s,hs=>by omega
 |n+1,h,s,hs=>by
  simp only[dc0,e9]at h
  by_cases e:s=n
  ·subst e;exact h.1
  ·exact c65 h.2 s (by omega)
theorem bu2{β β':Bij}{ω ω':Opq}{v0 nb:Nat}(g:Agr v0 ω ω')(hb: ∀b,b<nb→β' b=β b){L:Loc}{o:Option Obj}{x:Blk}(h:okB v0 nb (some x)=true)(r:BR β ω L o x):BR β' ω' L o x:=by
 cases x with
 |cells e fz cs=>
  obtain⟨C,lo,hi,vs,q1,q2,q3,q4,q5,q6,q7,q8⟩:=r
  exact⟨C,lo,hi,vs,q1,q2,q3,q4,am7 g hb cs vs h q5,q6,q7,by rw[g.fix];exact q8⟩
 |arr e sig l=>
  obtain⟨C,e',lo,hi,q1,q0,q2,q3,q4,q5⟩:=r
  have hd:dL ω' l=dL ω l:=by unfold dL;rw[ab2 g l h]
  exact⟨C,e',lo,hi,q1,q0,q2,by rw[hd];exact q3,by rw[hd];exact q4,q5⟩
 |map es c=>
  obtain⟨Es,q1,q2⟩:=r
  exact⟨Es,q1,av8 g hb h q2⟩
 |marr d ks vs l=>
  obtain⟨Es,c,q1,q2,q3⟩:=r
  exact⟨Es,c,q1,by rw[show dL ω' l=dL ω l by unfold dL;rw[ab2 g l h]];exact q2,q3⟩
 |bag e sig l=>
  obtain⟨D,q,r⟩:=r
  exact⟨D,by rw[show dL ω' l=dL ω l by unfold dL;rw[ab2 g l h]];exact q,r⟩
 |_=>cases h
theorem aw1{sp:LSpec}{a a':Fr}{h h':Heap}{e:Ex}{m:Nat}{p:List Val}: ∀(l:List (Ex×StP)) (j:Nat),Q1 (ap0 sp a h e a' h' l j) ω=some (m,p)→
 ∃i x es,m=j+i+1∧l[i]? =some x∧bM5 x.1 e=true∧aa1 sp.v0 (X1 sp a h x.2).a (X1 sp a h x.2).h a' h'=some es∧p=Q4 ω es
 | [],j,he=>by simp[ap0,Q1]at he
 |x::r,j,he=>by
  have tail:Q1 (ap0 sp a h e a' h' r (j+1)) ω=some (m,p)→ ∃i y es,m=j+i+1∧(x::r)[i]? =some y∧bM5 y.1 e=true∧aa1 sp.v0 (X1 sp a h y.2).a (X1 sp a h y.2).h a' h'=some es∧p=Q4 ω es:=by
   intro hh
   obtain⟨i,y,es,h1,h2,h3⟩:=aw1 r (j+1) hh
   exact⟨i+1,y,es,by omega,by simpa using h2,h3⟩
  simp only[ap0]at he
  cases hx:bM5 x.1 e with
  |false=>rw[hx]at he;exact tail he
  |true=>
   rw[hx]at he
   simp only[cond_true]at he
   split at he
   ·rename_i es hes
    simp only[Q1,b9,i3]at he
    exact⟨0,x,es,by omega,rfl,hx,hes,he.2.symm⟩
   ·exact tail he
theorem cs1: ∀{a b:Ex},bM5 a b=true→a=b
 | .norm,.norm,_=>rfl
 | .ret,.ret,_=>rfl
 | .exit a,.exit b,h=>by simp only[bM5]at h;rw[P9.1 h]
 | .norm,.ret,h=>by cases h
 | .norm,.exit _,h=>by cases h
 | .ret,.norm,h=>by cases h
 | .ret,.exit _,h=>by cases h
 | .exit _,.norm,h=>by cases h
 | .exit _,.ret,h=>by cases h
theorem FrR.norm1{ω:Opq}{β:Bij}{o:OwnP}{a:Fr}{h:Heap}{act:Act}(f:FrR β ω a act)(hd:dB ω (ah5 o a h).1=true):FrR β ω (ah5 o a h).2 act∧(ah5 o a h).2.nt=a.nt∧(ah5 o a h).2.pc=a.pc∧(ah5 o a h).2.ds=a.ds∧(ah5 o a h).2.ro=a.ro:=by
 unfold ah5 at hd⊢
 split
 ·rename_i r len s ho hs
  rw[ho,hs]at hd
  simp only at hd
  split
  ·rename_i e sig l hg
   rw[hg]at hd
   simp only at hd
   cases hq:(Nat.beq r o.blk||SX.beq len (.op .llen [l]))with
   |true=>exact⟨f,rfl,rfl,rfl,rfl⟩
   |false=>
    rw[hq]at hd
    simp only[cond_false]at hd⊢
    have hlen:dI ω len=dI ω (.op .llen [l]):=of_decide_eq_true hd
    refine⟨⟨by rw[Fr.put_nt];exact f.size,by rw[Fr.put_nt];exact f.lim,fun t w=> ?_,by rw[Fr.put_ds];exact f.defers,fun p hp=>f.pcs p (by rw[Fr.put_pc]at hp;exact hp)⟩,Fr.put_nt _ _ _,Fr.put_pc _ _ _,Fr.put_ds _ _ _,Fr.put_ro _ _ _⟩
    have:=f.slot t w
    rw[Fr.put_slot f.lim]
    by_cases ht:some o.slot=some t∧t<a.nt
    ·rw[if_pos ht]
     obtain⟨e1,_⟩:=ht
     simp only[b9]at e1;subst e1
     rw[hs]at this
     simp only[VR]at this⊢
     rw[←hlen];exact this
    ·rw[if_neg ht];exact this
  ·exact⟨f,rfl,rfl,rfl,rfl⟩
 ·exact⟨f,rfl,rfl,rfl,rfl⟩
theorem FrR.norms{ω:Opq}{β:Bij}{h:Heap}{act:Act}: ∀{os:List OwnP} {a:Fr},FrR β ω a act→dB ω (V5 os a h).1=true→FrR β ω (V5 os a h).2 act∧(V5 os a h).2.nt=a.nt∧(V5 os a h).2.pc=a.pc∧(V5 os a h).2.ds=a.ds∧(V5 os a h).2.ro=a.ro
 | [],a,f,_=>⟨f,rfl,rfl,rfl,rfl⟩
 |o::r,a,f,hd=>by
  simp only[V5]at hd⊢
  have hd2:dB ω (ah5 o a h).1=true∧dB ω (V5 r (ah5 o a h).2 h).1=true:=by
   unfold aJ6 at hd
   split at hd
   ·rename_i e1;rw[e1];exact⟨rfl,hd⟩
   ·split at hd
    ·rename_i e2;rw[e2];exact⟨hd,rfl⟩
    ·have:dB ω (.op .and [(ah5 o a h).1,(V5 r (ah5 o a h).2 h).1])=true:=hd
     exact P8 this
  obtain⟨f1,e1,e2,e3,e4⟩:=f.norm1 hd2.1
  obtain⟨f2,g1,g2,g3,g4⟩:=FrR.norms f1 hd2.2
  exact⟨f2,g1.trans e1,g2.trans e2,g3.trans e3,g4.trans e4⟩
theorem aw2{ω:Opq}{e:SX}{x:VT}{p:Nat×List Val}(h:Q1 (cn0 e x) ω=some p):dB ω e=true∧Q1 x ω=some p:=by
 unfold cn0 at h
 cases hs:bM6 e with
 |true=>rw[hs]at h;exact⟨bD4 hs,h⟩
 |false=>
  rw[hs]at h
  simp only[cond_false,Q1]at h
  cases hc:dB ω e with
  |true=>rw[hc]at h;exact⟨rfl,h⟩
  |false=>rw[hc]at h;cases h
theorem c66{a:Fr}{h hs:Heap}{n0:Nat}(hn0:n0=hs.next){sp:LSpec}(hok:bX9 sp a h n0=true){K:Nat→Prop}{w0:World}{β βs:Bij}{act:Act}{w:World}(r:HR β ω K w0 h w)(f:FrR β ω a act)(st0:St hs βs h β)
 {s0:List SX} {xp:Ex×StP} (hxm:xp∈sp.exits) {i:Nat} {p:List Val} (hlink:ω.f sp.id (Q4 ω (s0++sp.fv))=W4 (i,p)):
 ∀(vs:List Val) (β':Bij) (a':Fr) (h':Heap) (act':Act) (w':World) (es:List SX),aa1 sp.v0 (X1 sp a h xp.2).a (X1 sp a h xp.2).h a' h'=some es→Q4 (ω.upd sp.v0 vs) es=p→
  FrR β' (ω.upd sp.v0 vs) a' act'→HR β' (ω.upd sp.v0 vs) K w0 h' w'→(∀b,b<n0→β' b=β b)→
  (ah8 sp (a49 sp.id (s0++sp.fv)) a h xp.2).a.ro=none∧FrR (β'.cut xp.2.next) ω (ah8 sp (a49 sp.id (s0++sp.fv)) a h xp.2).a act'∧HR (β'.cut xp.2.next) ω K w0 (ah8 sp (a49 sp.id (s0++sp.fv)) a h xp.2).h w'∧St hs βs (ah8 sp (a49 sp.id (s0++sp.fv)) a h xp.2).h (β'.cut xp.2.next):=by
 unfold bX9 at hok
 obtain⟨hok,o5⟩:=P8 hok
 obtain⟨hok,o4⟩:=P8 hok
 obtain⟨hok,o6⟩:=P8 hok
 obtain⟨hds,hro⟩:=a97 o6
 obtain⟨hok,o3⟩:=P8 hok
 obtain⟨hok,o2⟩:=P8 hok
 obtain⟨o0,o1⟩:=P8 hok
 rw[j5]at o0
 have hnn:n0≤h.next:=by rw[hn0];exact st0.le
 have hown: ∀b,b<n0→ ¬ ∃o∈sp.owns,b=o.blk:=by
  rintro b hb ⟨o,hm,rfl⟩
  have:=Q2.1 (o0 o hm)
  omega
 rw[j5]at o2
 have hlim:=f.lim
 have hb1:=aj6 r f o1
 have hJn:(R4 sp a h).h.next=h.next:=am8 _ _
 have hJfg: ∀b,(R4 sp a h).h.next≤b→(R4 sp a h).h.get b=none:=by
  intro b hb
  rw[hJn]at hb
  exact Z3 _ _ h.next hb1.1 (fun b hb=>r.fget b hb) b hb
 have hbase: ∀s,a.nt≤s→((T9 sp a h).a.slot s=a.slot s):=by
  intro s hs
  show(layDead (layDead a sp.dead) _).slot s=_
  rw[Y5 _ _ (by rw[T3];exact hlim) s (by rw[T3];exact hs),Y5 _ _ hlim s hs]
 have hhiA: ∀(g:Fr),g.nt=a.nt→ ∀s,a.nt≤s→g.slot s=a.slot s→ ∃x,g.slot s=x∧VR β ω x Go.undef:=by
  intro g _ s hs e
  refine⟨a.slot s,e,?_⟩
  have:=f.slot s id
  rw[m8,u9 (by rw[f.size];exact hs)]at this
  exact this
 have hJhi: ∀s,a.nt≤s→(R4 sp a h).a.slot s=a.slot s:=by
  intro s hs
  show((X9 (layDead a sp.dead) sp.head.slots).clear).slot s=_
  rw[Fr.clear_slot,a51 _ _ (by rw[T3];exact hlim) s (by rw[T3];exact hs),Y5 _ _ hlim s hs]
 have hJnt:(R4 sp a h).a.nt=a.nt:=by
  show((X9 (layDead a sp.dead) sp.head.slots).clear).nt=_
  rw[Fr.clear_nt,ag8,T3]
 have hJpc:(R4 sp a h).a.pc=[]:=Fr.clear_pc _
 have hJro:(R4 sp a h).a.ro=none:=by
  show((X9 (layDead a sp.dead) sp.head.slots).clear).ro=none
  rw[Fr.clear_ro,aw0,a28];exact hro
 have hundef: ∀s,a.nt≤s→VR β ω (a.slot s) Go.undef:=by
  intro s hs
  have:=f.slot s id
  rw[m8,u9 (by rw[f.size];exact hs)]at this
  exact this
 have hXpc:(X1 sp a h xp.2).a.pc=[]:=Fr.clear_pc _
 have hBnt:(T9 sp a h).a.nt=a.nt:=by
  show(layDead (layDead a sp.dead) _).nt=_
  rw[T3,T3]
 have hXnt:(X1 sp a h xp.2).a.nt=a.nt:=by
  show((X9 (T9 sp a h).a xp.2.slots).clear).nt=_
  rw[Fr.clear_nt,ag8,hBnt]
 have hBds:(T9 sp a h).a.ds=[]:=by
  show(layDead (layDead a sp.dead) _).ds=_
  rw[a96,a96];exact hds
 have hBro:(T9 sp a h).a.ro=none:=by
  show(layDead (layDead a sp.dead) _).ro=_
  rw[a28,a28];exact hro
 have hXds:(X1 sp a h xp.2).a.ds=[]:=by
  show((X9 (T9 sp a h).a xp.2.slots).clear).ds=_
  rw[Fr.clear_ds,av9,hBds]
 have hXhi: ∀s,a.nt≤s→(X1 sp a h xp.2).a.slot s=a.slot s:=by
  intro s hs
  show((X9 (T9 sp a h).a xp.2.slots).clear).slot s=_
  rw[Fr.clear_slot,a51 _ _ (by rw[hBnt];exact hlim) s (by rw[hBnt];exact hs),hbase s hs]
 have o2x:=P8 (o2 xp hxm)
 have hnx:h.next≤xp.2.next:=Q2.1 o2x.1
 have hb2:=aj6 r f o2x.2
 have hBfg: ∀b,h.next≤b→(T9 sp a h).h.get b=none:=by
  intro b hb
  refine Z3 _ _ h.next (fun p hp=> ?_) (fun b hb=>r.fget b hb) b hb
  obtain⟨p',hp',rfl⟩:=j6.1 hp
  exact hb1.1 p' hp'
 have hXfg: ∀b,(X1 sp a h xp.2).h.next≤b→(X1 sp a h xp.2).h.get b=none:=by
  intro b hb
  have hb:xp.2.next≤b:=hb
  show((a32 (T9 sp a h).h xp.2.blks).upto xp.2.next).get b=none
  rw[Heap.get_upto]
  exact Z3 _ _ xp.2.next hb2.1 (fun b hb=>hBfg b (by omega)) b hb
 intro vs β' a' h' act' w' es hes hp hf hr hβ
 have m:=ab3 hes
 have hnt':a'.nt=a.nt:=by rw[←m.nt,hXnt]
 have g1:=m.fr hXpc (fun s hs=>⟨_,rfl,by rw[hXhi s (by rw[←hnt'];exact hs)];exact ac3 (hundef s (by rw[←hnt'];exact hs))⟩) hf
 have g2:=m.hr hXfg hr
 rw[hp,bt9]at g1 g2
 have hXn:(X1 sp a h xp.2).h.next=xp.2.next:=Heap.next_upto _ _
 rw[hXn]at g1 g2
 have ag:Agr sp.v0 ω (ω.upd sp.v0 p):=aO2 ω sp.v0 p
 have hq: ∀j e,es[j]? =some e→den ω (a49 sp.id (s0++sp.fv) (0+j))=(ω.upd sp.v0 p).w (sp.v0+(0+j)):=by
  intro j e hj
  have hlt:j<p.length:=by
   rw[←hp,aO3]
   rcases i4 j es.length with hh|hh
   ·exact hh
   ·rw[l8 hh]at hj;cases hj
  rw[j7,bh4 (j8 hlt)]
  show R6 (ω.f sp.id (Q4 ω (s0++sp.fv))).toL 1 j=_
  rw[hlink]
  simp[W4,R6,Val.toL,i6,j8 hlt]
 refine⟨?_,?_,?_,?_⟩
 ·show(X9 (T9 sp a h).a _).ro=none
  rw[aw0,hBro]
 ·
  have hOnt:(ah8 sp (a49 sp.id (s0++sp.fv)) a h xp.2).a.nt=a.nt:=by
   show(X9 (T9 sp a h).a _).nt=_
   rw[ag8,hBnt]
  refine⟨by rw[hOnt,←hXnt];exact g1.size,by rw[hOnt];exact hlim,fun t _=> ?_,?_,fun pp hpp=> ?_⟩
  ·have gt:=g1.slot t id
   by_cases ht:t<a.nt
   ·have hXs:(X1 sp a h xp.2).a.slot t=(X9 (T9 sp a h).a xp.2.slots).slot t:=Fr.clear_slot _ _
    rcases aY1 (aK2 sp.v0 (a49 sp.id (s0++sp.fv))) xp.2.slots (T9 sp a h).a (T9 sp a h).a t (by rw[hBnt];exact hlim) rfl (by rw[hBnt];exact ht) (.inr rfl)with e|⟨e1,e2⟩
    ·show VR _ ω ((X9 (T9 sp a h).a (xp.2.slots.map fun p=>(p.1,aK2 sp.v0 (a49 sp.id (s0++sp.fv)) p.2))).slot t) _
     rw[e,←hXs]
     obtain⟨n',es',z1,z2⟩:=m.sl (fun j e=>den ω (a49 sp.id (s0++sp.fv) j)=(ω.upd sp.v0 p).w (sp.v0+j)) hq t (by rw[hnt'];exact ht)
     exact bE0 ag n' _ _ es' _ z1 z2 gt
    ·show VR _ ω ((X9 (T9 sp a h).a (xp.2.slots.map fun p=>(p.1,aK2 sp.v0 (a49 sp.id (s0++sp.fv)) p.2))).slot t) _
     rw[e1]
     rw[hXs,e2]at gt
     exact aj4 (β':=β'.cut xp.2.next) ag.symm (fun _ _=>rfl) _ _ (bu1 o4 t ht) gt
   ·have ht:=C1 ht
    have e:(ah8 sp (a49 sp.id (s0++sp.fv)) a h xp.2).a.slot t=a.slot t:=by
     show(X9 (T9 sp a h).a _).slot t=_
     rw[a51 _ _ (by rw[hBnt];exact hlim) t (by rw[hBnt];exact ht),hbase t ht]
    rw[e,m8,u9 (by rw[g1.size,hXnt];exact ht)]
    exact ac3 (hundef t ht)
  ·have:=g1.defers
   rw[hXds]at this
   show DsR _ ω (X9 (T9 sp a h).a _).ds act'.defers
   rw[av9,hBds];exact this
  ·have e:(ah8 sp (a49 sp.id (s0++sp.fv)) a h xp.2).a.pc=a.pc:=by
    show(X9 (layDead (layDead a sp.dead) _) _).pc=_
    rw[bE1,aA6,aA6]
   rw[e]at hpp
   exact f.pcs pp hpp
 ·
  have hOn:(ah8 sp (a49 sp.id (s0++sp.fv)) a h xp.2).h.next=xp.2.next:=Heap.next_upto _ _
  have hOwm:(ah8 sp (a49 sp.id (s0++sp.fv)) a h xp.2).h.wm=(X1 sp a h xp.2).h.wm:=by
   show((a32 (T9 sp a h).h _).upto _).wm=((a32 (T9 sp a h).h _).upto _).wm
   rw[Heap.wm_upto,Heap.wm_upto,am9,am9]
  have key: ∀b y,(ah8 sp (a49 sp.id (s0++sp.fv)) a h xp.2).h.get b=some y→ ∃z,(X1 sp a h xp.2).h.get b=some z∧(∀L o,BR (β'.cut xp.2.next) (ω.upd sp.v0 p) L o z→BR (β'.cut xp.2.next) ω L o y)∧z.isArr=y.isArr:=by
   intro b y hy
   have hXs:(X1 sp a h xp.2).h.get b=(a32 (T9 sp a h).h xp.2.blks).get b:=Heap.get_upto _ _ _
   have hOs:(ah8 sp (a49 sp.id (s0++sp.fv)) a h xp.2).h.get b=(a32 (T9 sp a h).h (xp.2.blks.map fun p=>(p.1,bp6 sp.v0 (a49 sp.id (s0++sp.fv)) p.2))).get b:=Heap.get_upto _ _ _
   rw[hOs]at hy
   have hblt:b<xp.2.next:=by
    rcases i4 b xp.2.next with hh|hh
    ·exact hh
    ·exfalso
     rw[Z3 _ _ xp.2.next (fun p hp=>by
      obtain⟨p',hp',rfl⟩:=j6.1 hp
      exact hb2.1 p' hp') (fun b hb=>hBfg b (by omega)) b hh]at hy
     cases hy
   rcases aY2 (bp6 sp.v0 (a49 sp.id (s0++sp.fv))) rfl xp.2.blks (T9 sp a h).h (T9 sp a h).h b (.inr rfl)with e|⟨e1,e2⟩
   ·rw[e,←hXs]at hy
    cases hz:(X1 sp a h xp.2).h.get b with
    |none=>rw[hz]at hy;cases hy
    |some z=>
     refine⟨z,rfl,fun L o hbr=> ?_,bP4 (by rw[hz]at hy;exact hy)⟩
     obtain⟨n',es',z1,z2⟩:=m.hp (fun j e=>den ω (a49 sp.id (s0++sp.fv) j)=(ω.upd sp.v0 p).w (sp.v0+j)) hq b (by rw[hXn];exact hblt)
     rw[hz]at z1 hy
     simp only[aU4]at z1
     split at z1
     ·obtain⟨p',z3,z4⟩:=cr4 (β:=β'.cut xp.2.next) ag z1 z2 hbr
      rw[z3,b9]at hy
      rw[←hy];exact z4
     ·cases z1
   ·rw[e1]at hy
    refine⟨y,by rw[hXs,e2];exact hy,fun L o hbr=> ?_,rfl⟩
    have hb:b<h.next:=by
     rcases i4 b h.next with hh|hh
     ·exact hh
     ·rw[hBfg b hh]at hy;cases hy
    have:=c65 o5 b hb
    rw[hy]at this
    exact bu2 ag.symm (fun _ _=>rfl) this hbr
  refine⟨fun b y L hg hb=> ?_,fun b b1 y y1 L L1 hg hg1 hb hb1 hne hw=> ?_,fun b hb=>g2.fresh b (by rw[hXn];rw[hOn]at hb;exact hb),fun b hb=> ?_,g2.lt,g2.kin,g2.keep,fun b y L hg hw hb=> ?_,g2.size,g2.os,g2.tape,g2.out,g2.dr⟩
  ·obtain⟨z,z1,z2,_⟩:=key b y hg
   exact z2 L _ (g2.blk b z L z1 hb)
  ·obtain⟨z,z1,_,k1⟩:=key b y hg
   obtain⟨z',z1',_,k2⟩:=key b1 y1 hg1
   exact g2.sep b b1 z z' L L1 z1 z1' hb hb1 hne (by rw[k1,k2,←hOwm];exact hw)
  ·rw[hOn]at hb
   show((a32 (T9 sp a h).h _).upto _).get b=none
   rw[Heap.get_upto]
   refine Z3 _ _ xp.2.next (fun p hp=> ?_) (fun b hb=>hBfg b (by omega)) b hb
   obtain⟨p',hp',rfl⟩:=j6.1 hp
   exact hb2.1 p' hp'
  ·obtain⟨z,z1,_⟩:=key b y hg
   exact g2.free b z L z1 (by rw[←hOwm];exact hw) hb
 ·have hun: ∀b,b<n0→βs b=none→β b=none:=fun b hb hn=>(st0.ext b (by omega)).trans hn
  refine⟨by show hs.next≤((a32 (T9 sp a h).h _).upto xp.2.next).next;rw[Heap.next_upto];omega,fun b hb=>by simp only[Bij.cut];rw[if_pos (by omega)];exact(hβ b (by omega)).trans (st0.ext b hb),fun b hb hn=> ?_,?_⟩
  ·have hb:b<n0:=by omega
   have hst:=st0.unm b (by omega) hn
   by_cases har: ∃e sig x,h.get b=some (.arr e sig x)
   ·obtain⟨e,sg,x,har⟩:=har
    right;right
    rcases hst with q|q|q
    ·rw[←q,har];exact .arr _ _ _
    ·rw[q]at har;cases har
    ·exact q
   have no: ∀p':Nat×Option Blk,p'.1=b→(β p'.1≠none∨ ∃e sig x,h.get p'.1=some (.arr e sig x))→False:=by
    rintro p' rfl (q|q)
    ·exact q (hun _ hb hn)
    ·exact har q
   have e:((a32 (T9 sp a h).h (xp.2.blks.map fun p=>(p.1,bp6 sp.v0 (a49 sp.id (s0++sp.fv)) p.2))).upto xp.2.next).get b=h.get b:=by
    rw[Heap.get_upto,ar9 _ _ _ fun p hp e=>by
     obtain⟨p',hp',rfl⟩:=j6.1 hp
     exact no p' e (hb2.2 p' hp' (by simp only at e;rw[e];exact hb))]
    show(a32 h _).get b=_
    exact ar9 _ _ _ fun p hp e=>by
     obtain⟨p',hp',rfl⟩:=j6.1 hp
     exact no p' e (hb1.2 p' hp' (by simp only at e;rw[e];exact hb))
   rcases hst with q|q|q
   ·exact .inl (e.trans q)
   ·exact .inr (.inl (e.trans q))
   ·exact .inr (.inr q)
  ·show((a32 (T9 sp a h).h _).upto _).wm=_
   rw[Heap.wm_upto,am9]
   exact(am9 _ _).trans st0.wm
theorem cs3{Ω:Opq→Prop}(hΩ: ∀ω v0 l,Ω ω→Ω (ω.upd v0 l))(hω:Ω ω){n:Nat}(hk: ∀ω',Ω ω'→ar7 E ω' n){R:Type}{A:Alg R}{T:R→Prop}(hA:AlgOk A T ω){c:Code}{a:Fr}{h hs:Heap}{n0:Nat}(hn0:n0=hs.next){k:Ex→Fr→Heap→R}{sp:LSpec}
 (he:T (b17 (ev E n) A c n0 k sp a h)) {K:Nat→Prop} {w0:World} {β βs:Bij} {act:Act} {w:World} {Q:Exit→Act→World→Prop} (r:HR β ω K w0 h w) (f:FrR β ω a act) (st0:St hs βs h β) (q:KOk T ω K w0 hs βs none k Q):aj5 (Fen none) E.P c Q act w:=by
 unfold b17 at he
 cases hok:bX9 sp a h n0 with
 |false=>rw[hok]at he;exact absurd he hA.bad
 |true=>
  rw[hok]at he
  simp only[cond_true]at he
  have hokA:=hok
  unfold bX9 at hok
  obtain⟨hok,o5⟩:=P8 hok
  obtain⟨hok,o4⟩:=P8 hok
  obtain⟨hok,o6⟩:=P8 hok
  obtain⟨hds,hro⟩:=a97 o6
  obtain⟨hok,o3⟩:=P8 hok
  obtain⟨hok,o2⟩:=P8 hok
  obtain⟨o0,o1⟩:=P8 hok
  rw[j5]at o0
  have hnn:n0≤h.next:=by rw[hn0];exact st0.le
  have hown: ∀b,b<n0→ ¬ ∃o∈sp.owns,b=o.blk:=by
   rintro b hb ⟨o,hm,rfl⟩
   have:=Q2.1 (o0 o hm)
   omega
  rw[j5]at o2
  split at he
  ·rename_i s0 hs0
   obtain⟨⟨i,p⟩,x,hloop,hlink,hks,hx⟩:=hA.loop _ _ _ he
   rw[Y0]at hloop
   simp only at hlink hks
   rw[A1,l5]at hks
   obtain⟨xp,hxp,rfl⟩:=hks
   have hlim:=f.lim
   have hb1:=aj6 r f o1
   have hJn:(R4 sp a h).h.next=h.next:=am8 _ _
   have hJfg: ∀b,(R4 sp a h).h.next≤b→(R4 sp a h).h.get b=none:=by
    intro b hb
    rw[hJn]at hb
    exact Z3 _ _ h.next hb1.1 (fun b hb=>r.fget b hb) b hb
   have hbase: ∀s,a.nt≤s→((T9 sp a h).a.slot s=a.slot s):=by
    intro s hs
    show(layDead (layDead a sp.dead) _).slot s=_
    rw[Y5 _ _ (by rw[T3];exact hlim) s (by rw[T3];exact hs),Y5 _ _ hlim s hs]
   have hhiA: ∀(g:Fr),g.nt=a.nt→ ∀s,a.nt≤s→g.slot s=a.slot s→ ∃x,g.slot s=x∧VR β ω x Go.undef:=by
    intro g _ s hs e
    refine⟨a.slot s,e,?_⟩
    have:=f.slot s id
    rw[m8,u9 (by rw[f.size];exact hs)]at this
    exact this
   have hJhi: ∀s,a.nt≤s→(R4 sp a h).a.slot s=a.slot s:=by
    intro s hs
    show((X9 (layDead a sp.dead) sp.head.slots).clear).slot s=_
    rw[Fr.clear_slot,a51 _ _ (by rw[T3];exact hlim) s (by rw[T3];exact hs),Y5 _ _ hlim s hs]
   have hJnt:(R4 sp a h).a.nt=a.nt:=by
    show((X9 (layDead a sp.dead) sp.head.slots).clear).nt=_
    rw[Fr.clear_nt,ag8,T3]
   have hJpc:(R4 sp a h).a.pc=[]:=Fr.clear_pc _
   have hJro:(R4 sp a h).a.ro=none:=by
    show((X9 (layDead a sp.dead) sp.head.slots).clear).ro=none
    rw[Fr.clear_ro,aw0,a28];exact hro
   have hundef: ∀s,a.nt≤s→VR β ω (a.slot s) Go.undef:=by
    intro s hs
    have:=f.slot s id
    rw[m8,u9 (by rw[f.size];exact hs)]at this
    exact this
   have hXpc:(X1 sp a h xp.2).a.pc=[]:=Fr.clear_pc _
   have hBnt:(T9 sp a h).a.nt=a.nt:=by
    show(layDead (layDead a sp.dead) _).nt=_
    rw[T3,T3]
   have hXnt:(X1 sp a h xp.2).a.nt=a.nt:=by
    show((X9 (T9 sp a h).a xp.2.slots).clear).nt=_
    rw[Fr.clear_nt,ag8,hBnt]
   have hBds:(T9 sp a h).a.ds=[]:=by
    show(layDead (layDead a sp.dead) _).ds=_
    rw[a96,a96];exact hds
   have hBro:(T9 sp a h).a.ro=none:=by
    show(layDead (layDead a sp.dead) _).ro=_
    rw[a28,a28];exact hro
   have hXds:(X1 sp a h xp.2).a.ds=[]:=by
    show((X9 (T9 sp a h).a xp.2.slots).clear).ds=_
    rw[Fr.clear_ds,av9,hBds]
   have hXhi: ∀s,a.nt≤s→(X1 sp a h xp.2).a.slot s=a.slot s:=by
    intro s hs
    show((X9 (T9 sp a h).a xp.2.slots).clear).slot s=_
    rw[Fr.clear_slot,a51 _ _ (by rw[hBnt];exact hlim) s (by rw[hBnt];exact hs),hbase s hs]
   have hxm:xp∈sp.exits:=D6 hxp
   have o2x:=P8 (o2 xp hxm)
   have hnx:h.next≤xp.2.next:=Q2.1 o2x.1
   have hb2:=aj6 r f o2x.2
   have hBfg: ∀b,h.next≤b→(T9 sp a h).h.get b=none:=by
    intro b hb
    refine Z3 _ _ h.next (fun p hp=> ?_) (fun b hb=>r.fget b hb) b hb
    obtain⟨p',hp',rfl⟩:=j6.1 hp
    exact hb1.1 p' hp'
   have hXfg: ∀b,(X1 sp a h xp.2).h.next≤b→(X1 sp a h xp.2).h.get b=none:=by
    intro b hb
    have hb:xp.2.next≤b:=hb
    show((a32 (T9 sp a h).h xp.2.blks).upto xp.2.next).get b=none
    rw[Heap.get_upto]
    exact Z3 _ _ xp.2.next hb2.1 (fun b hb=>hBfg b (by omega)) b hb
   have back: ∀(vs:List Val) (β':Bij) (a':Fr) (h':Heap) (act':Act) (w':World) (es:List SX),aa1 sp.v0 (X1 sp a h xp.2).a (X1 sp a h xp.2).h a' h'=some es→Q4 (ω.upd sp.v0 vs) es=p→
    FrR β' (ω.upd sp.v0 vs) a' act'→HR β' (ω.upd sp.v0 vs) K w0 h' w'→(∀b,b<n0→β' b=β b)→Q (cL7 xp.1) act' w':=by
    intro vs β' a' h' act' w' es hes hp hf hr hβ
    obtain⟨b1,b2,b3,b4⟩:=c66 hn0 hokA r f st0 hxm hlink vs β' a' h' act' w' es hes hp hf hr hβ
    exact q xp.1 _ _ _ act' w' hx b1 b2 b3 b4
   have main: ∀vs j p',Iter (fun vs=>Q1 (ev E n RPT ao0 (.code c (R4 sp a h).a (R4 sp a h).h (ai4 sp a h)) []) (ω.upd sp.v0 vs)) vs j p'→j=i→p'=p→
    ∀(β1:Bij) (act1:Act) (w1:World),FrR β1 (ω.upd sp.v0 vs) (R4 sp a h).a act1→HR β1 (ω.upd sp.v0 vs) K w0 (R4 sp a h).h w1→(∀b,b<n0→β1 b=β b)→aj5 (Fen none) E.P c Q act1 w1:=by
    intro vs j p' hit
    induction hit with
    | @out vs p' j hstep=>
      rintro rfl rfl β1 act1 w1 f1 r1 s1
      refine ac4 (hk _ (hΩ _ _ _ hω) RPT ao0 _ (ag7 _ (j+1,p')) c _ _ _ ⟨[],ab1,hstep⟩ K w0 β1 act1 w1 none _ r1 f1 (by rw[hJro];exact rfl) ?_)
      rintro e a' h' β' act' w' ⟨_,_,hke⟩ _ hf hr hst
      replace hke:Q1 (bd1 sp a h e a' h') _=_:=hke
      have hβ': ∀b,b<n0→β' b=β b:=fun b hb=>(hst.ext b (by rw[hJn];omega)).trans (s1 b hb)
      obtain⟨hnd,hke⟩:dB (ω.upd sp.v0 vs) (V5 sp.owns a' h').1=true∧Q1 (match e with| .norm=>az4 sp a h (aT7 sp (V5 sp.owns a' h').2 h')|e=>bq0 sp a h e (aT7 sp (V5 sp.owns a' h').2 h')) (ω.upd sp.v0 vs)=_:=by
       cases e<;>exact aw2 hke
      obtain⟨hf,hnnt,_⟩:=hf.norms hnd
      obtain⟨β2,cv⟩:=b48 (sp:=sp) hf hr
      have hβ2: ∀b,b<n0→β2 b=β b:=fun b hb=>(cv.bij b (hown b hb)).trans (hβ' b hb)
      have fin: ∀e',e=e'→Q1 (ap0 sp a h e' (aT7 sp (V5 sp.owns a' h').2 h').1 (aT7 sp (V5 sp.owns a' h').2 h').2 sp.exits 0) (ω.upd sp.v0 vs)=some (j+1,p')→Q (cL7 e) act' w':=by
       rintro e' rfl hh
       obtain⟨i',x',es,q1,q2,q3,q4,q5⟩:=aw1 _ _ hh
       obtain rfl:i'=j:=by omega
       rw[hxp,b9]at q2
       subst q2
       rw[←cs1 q3]
       exact back vs β2 _ _ act' w' es q4 q5.symm cv.fr cv.hr hβ2
      cases e with
      |norm=>
       exfalso
       simp only[az4]at hke
       split at hke
       ·simp[Q1]at hke
       ·simp[Q1]at hke
      |exit id=>exact fin (.exit id) rfl hke
      |ret=>exact fin .ret rfl hke
    | @more vs vs' p' j hstep hit ih=>
      rintro rfl rfl β1 act1 w1 f1 r1 s1
      refine ac4 (hk _ (hΩ _ _ _ hω) RPT ao0 _ (ag7 _ (0,vs')) c _ _ _ ⟨[],ab1,hstep⟩ K w0 β1 act1 w1 none _ r1 f1 (by rw[hJro];exact rfl) ?_)
      rintro e a' h' β' act' w' ⟨_,_,hke⟩ _ hf hr hst
      replace hke:Q1 (bd1 sp a h e a' h') _=_:=hke
      have hβ': ∀b,b<n0→β' b=β b:=fun b hb=>(hst.ext b (by rw[hJn];omega)).trans (s1 b hb)
      obtain⟨hnd,hke⟩:dB (ω.upd sp.v0 vs) (V5 sp.owns a' h').1=true∧Q1 (match e with| .norm=>az4 sp a h (aT7 sp (V5 sp.owns a' h').2 h')|e=>bq0 sp a h e (aT7 sp (V5 sp.owns a' h').2 h')) (ω.upd sp.v0 vs)=_:=by
       cases e<;>exact aw2 hke
      obtain⟨hf,hnnt,_⟩:=hf.norms hnd
      obtain⟨β2,cv⟩:=b48 (sp:=sp) hf hr
      have hβ2: ∀b,b<n0→β2 b=β b:=fun b hb=>(cv.bij b (hown b hb)).trans (hβ' b hb)
      have no: ∀e',Q1 (ap0 sp a h e' (aT7 sp (V5 sp.owns a' h').2 h').1 (aT7 sp (V5 sp.owns a' h').2 h').2 sp.exits 0) (ω.upd sp.v0 vs)=some (0,vs')→False:=by
       intro e' hh
       obtain⟨i',x',es,q1,_⟩:=aw1 _ _ hh
       omega
      cases e with
      |norm=>
       simp only[az4]at hke
       split at hke
       ·rename_i es hes
        simp only[Q1,b9,i3,true_and]at hke
        have m:=ab3 hes
        have hnt':(aT7 sp (V5 sp.owns a' h').2 h').1.nt=a.nt:=by rw[←m.nt,hJnt]
        have g1:=m.fr hJpc (fun s hs=>⟨_,rfl,by rw[hJhi s (by rw[←hnt'];exact hs)];exact ac3 (hundef s (by rw[←hnt'];exact hs))⟩) cv.fr
        have g2:=m.hr hJfg cv.hr
        rw[hke,bt9]at g1 g2
        exact ih rfl rfl _ act' w' g1 g2 fun b hb=>by simp only[Bij.cut];rw[if_pos (by rw[hJn];omega)];exact hβ2 b hb
       ·simp[Q1]at hke
      |exit id=>exact(no _ hke).elim
      |ret=>exact(no _ hke).elim
   have m:=ab3 hs0
   refine main _ _ _ hloop rfl rfl (β.cut (R4 sp a h).h.next) act w ?_ ?_ ?_
   ·exact m.fr hJpc (fun s hs=>hhiA _ hJnt s hs (hJhi s hs)) f
   ·exact m.hr hJfg r
   ·exact fun b hb=>by simp only[Bij.cut];rw[if_pos (by rw[hJn];omega)]
  ·exact absurd he hA.bad
end Go.Ev
namespace Go.Ev
open Go
variable{E:Env}{β β':Bij}{ω ω':Opq}{K:Nat→Prop}{w0 w w':World}{h h':Heap}
theorem HR.freeze{K':Nat→Prop}(r:HR β ω K w0 h w)(hK: ∀i,K' i→i<w.heap.size)(hf: ∀b x L,h.get b=some x→h.wm≤b→β b=some L→ ¬K' L.blk):HR β ω K' w h w:=
 ⟨r.blk,r.sep,r.fresh,r.fget,r.lt,hK,fun _ _=>rfl,hf,e8 _,rfl,rfl,rfl,e8 _⟩
theorem HR.thaw{K':Nat→Prop}{w1:World}{h1:Heap}{β1:Bij}{ω1:Opq}(r1:HR β1 ω1 K w0 h1 w1)(hs: ∀i,K i→K' i)(r:HR β' ω' K' w1 h' w'):HR β' ω' K w0 h' w':=
 ⟨r.blk,r.sep,r.fresh,r.fget,r.lt,r1.kin,fun i hi=>(r.keep i (hs i hi)).trans (r1.keep i hi),fun b x L a c d hk=>r.free b x L a c d (hs _ hk),p7 r1.size r.size,r.os.trans r1.os,r.tape.trans r1.tape,r.out.trans r1.out,p7 r1.dr r.dr⟩
theorem HR.turn(r:HR β ω K w0 h w)(hn:h'.next=h.next)(hw:h'.wm=h.wm)(hnone: ∀b,h.get b=none→h'.get b=none)
 (key: ∀b y,h'.get b=some y→ ∃z,h.get b=some z∧(∀L o,BR β ω L o z→BR β ω' L o y)∧z.isArr=y.isArr):HR β ω' K w0 h' w:=by
 refine⟨fun b y L hg hb=> ?_,fun b b1 y y1 L L1 hg hg1 hb hb1 hne hc=> ?_,fun b hb=>r.fresh b (by rw[←hn];exact hb),fun b hb=>hnone b (r.fget b (by rw[←hn];exact hb)),r.lt,r.kin,r.keep,fun b y L hg hc hb=> ?_,r.size,r.os,r.tape,r.out,r.dr⟩
 ·obtain⟨z,z1,z2,_⟩:=key b y hg
  exact z2 L _ (r.blk b z L z1 hb)
 ·obtain⟨z,z1,_,k1⟩:=key b y hg
  obtain⟨z',z1',_,k2⟩:=key b1 y1 hg1
  exact r.sep b b1 z z' L L1 z1 z1' hb hb1 hne (by rw[k1,k2,←hw];exact hc)
 ·obtain⟨z,z1,_⟩:=key b y hg
  exact r.free b z L z1 (by rw[←hw];exact hc) hb
theorem HR.putBack(r:HR β ω K w0 h w){m:Nat}{L:Loc}{y:Blk}(hm:m<h.next)(hlim:m<65536)(hL:β m=some L)(hbr:BR β ω L w.heap[L.blk]? y)(hsep: ∀b x M,h.get b=some x→b≠m→β b=some M→M.blk≠L.blk)(hf:h.wm≤m→ ¬K L.blk):HR β ω K w0 (h.put m (some y)) w:=by
 have hg: ∀b,(h.put m (some y)).get b=if b=m then some y else h.get b:=fun b=>by rw[Heap.get_put,if_pos hlim]
 refine⟨fun b x M hx hb=> ?_,fun b b1 x x1 M M1 hx hx1 hb hb1 hne hc=> ?_,r.fresh,fun b hb=> ?_,r.lt,r.kin,r.keep,fun b x M hx hc hb=> ?_,r.size,r.os,r.tape,r.out,r.dr⟩
 ·rw[hg]at hx
  by_cases e:b=m
  ·subst e
   rw[if_pos rfl,b9]at hx
   subst hx
   rw[hL,b9]at hb
   subst hb;exact hbr
  ·rw[if_neg e]at hx;exact r.blk b x M hx hb
 ·rw[hg]at hx hx1
  by_cases e:b=m
  ·subst e
   rw[if_neg (Ne.symm hne)]at hx1
   rw[hL,b9]at hb;subst hb
   exact(hsep b1 x1 M1 hx1 (Ne.symm hne) hb1).symm
  ·rw[if_neg e]at hx
   by_cases e1:b1=m
   ·subst e1
    rw[hL,b9]at hb1;subst hb1
    exact hsep b x M hx e hb
   ·rw[if_neg e1]at hx1
    exact r.sep b b1 x x1 M M1 hx hx1 hb hb1 hne hc
 ·have hb:h.next≤b:=hb
  rw[hg,if_neg (by omega)]
  exact r.fget b hb
 ·rw[hg]at hx
  by_cases e:b=m
  ·subst e
   rw[hL,b9]at hb;subst hb
   exact hf hc
  ·rw[if_neg e]at hx
   exact r.free b x M hx hc hb
theorem aO7{ops:Array Oper}{o:Oper}{rest:List Oper}{i:Nat}(hdrop:ops.toList.drop i=o::rest){a:Fr}{act:Act}{u:Value}{ro:Option Nat}{Q:Exit→Act→World→Prop}(f:FrR β ω a act)(hg:aD6 o=true)(hd: ∀c,o.op≠ .defer c)
 (hr:(execOp act.eval o).run E.P w= .ok (.value u) w') (hk:wpOpsIn (Fen ro) 0 E.P ops Q (List.range' (i+1) rest.length) (act.put o.dst u) w'):wpOpsIn (Fen ro) 0 E.P ops Q (List.range' i (rest.length+1)) act w:=by
 have hlt:i<ops.toList.length:=by
  rcases i4 i ops.toList.length with hh|hh
  ·exact hh
  ·rw[J7 hh]at hdrop;cases hdrop
 have hcons:=G6 hlt
 rw[hdrop]at hcons
 obtain⟨e1,e2⟩:=J2 hcons
 have hoi:ops[i]? =some o:=by rw[e1];simp at hlt;simp[hlt]
 have hw:S8 ops.toList a o=some true:=by
  unfold S8
  unfold aD6 at hg
  split at hg
  ·rename_i hh;rw[hh]
  ·cases hg
 simp only[A8]
 show(match ops[i]? with
  |none=>_
  |some o=>_)
 rw[hoi]
 simp only[]
 rw[aX8 f rfl hw]
 simp only[if_true]
 exact aA5 hd hr hk
structure HeadF (sp:LSpec) (a:Fr) (h:Heap):Prop where
 n:(R4 sp a h).h.next=h.next
 wm:(R4 sp a h).h.wm=h.wm
 fg: ∀b,(R4 sp a h).h.next≤b→(R4 sp a h).h.get b=none
 nt:(R4 sp a h).a.nt=a.nt
 pc:(R4 sp a h).a.pc=[]
 ro:(R4 sp a h).a.ro=none
 ds:(R4 sp a h).a.ds=[]
 hi: ∀s,a.nt≤s→(R4 sp a h).a.slot s=a.slot s
 lim:a.nt≤256
 un: ∀s,a.nt≤s→VR β ω (a.slot s) Go.undef
theorem cM1{sp:LSpec}{a:Fr}{n0:Nat}(hok:bX9 sp a h n0=true){act:Act}(r:HR β ω K w0 h w)(f:FrR β ω a act):HeadF (β:=β) (ω:=ω) sp a h:=by
 unfold bX9 at hok
 obtain⟨hok,o5⟩:=P8 hok
 obtain⟨hok,o4⟩:=P8 hok
 obtain⟨hok,o6⟩:=P8 hok
 obtain⟨hds,hro⟩:=a97 o6
 obtain⟨hok,o3⟩:=P8 hok
 obtain⟨hok,o2⟩:=P8 hok
 obtain⟨o0,o1⟩:=P8 hok
 have hlim:=f.lim
 have hb1:=aj6 r f o1
 have hJn:(R4 sp a h).h.next=h.next:=am8 _ _
 refine⟨hJn,am9 _ _,fun b hb=> ?_,?_,Fr.clear_pc _,?_,?_,fun s hs=> ?_,hlim,fun s hs=> ?_⟩
 ·rw[hJn]at hb
  exact Z3 _ _ h.next hb1.1 (fun b hb=>r.fget b hb) b hb
 ·show((X9 (layDead a sp.dead) sp.head.slots).clear).nt=_
  rw[Fr.clear_nt,ag8,T3]
 ·show((X9 (layDead a sp.dead) sp.head.slots).clear).ro=none
  rw[Fr.clear_ro,aw0,a28];exact hro
 ·show((X9 (layDead a sp.dead) sp.head.slots).clear).ds=[]
  rw[Fr.clear_ds,av9,a96];exact hds
 ·show((X9 (layDead a sp.dead) sp.head.slots).clear).slot s=_
  rw[Fr.clear_slot,a51 _ _ (by rw[T3];exact hlim) s (by rw[T3];exact hs),Y5 _ _ hlim s hs]
 ·have:=f.slot s id
  rw[m8,u9 (by rw[f.size];exact hs)]at this
  exact this
theorem b50{step:List Val→Option (Nat×List Val)}{i:Nat}{r:List Nat}{s t:List Val}(h:aT8 step (i::r) s=some t): ∃a b s',s=[a,b]∧step [a,b,.vi i]=some (0,s')∧aT8 step r s'=some t:=by
 rcases s with _|⟨a,_|⟨b,_|⟨c,s⟩⟩⟩
 ·cases h
 ·cases h
 ·have h:(match step [a,b,.vi i]with
   |some (0,s')=>aT8 step r s'
   |_=>none)=some t:=h
  split at h
  ·rename_i s' hs
   exact⟨a,b,s',rfl,hs,h⟩
  ·cases h
 ·cases h
theorem aO8{step:List Val→Option (Nat×List Val)}{i:Nat}{r:List Nat}{a b:Val}{s':List Val}(h:step [a,b,.vi i]=some (0,s')):aT8 step (i::r) [a,b]=aT8 step r s':=by
 simp only[aT8,h]
theorem as0{step:List Val→Option (Nat×List Val)}: ∀{p q:List Nat} {s t:List Val},aT8 step (p++q) s=some t→ ∃u,aT8 step p s=some u∧aT8 step q u=some t
 | [],q,s,t,h=>⟨s,rfl,h⟩
 |i::p,q,s,t,h=>by
  obtain⟨a,b,s',rfl,h1,h2⟩:=b50 (r:=p++q) h
  obtain⟨u,h3,h4⟩:=as0 h2
  exact⟨u,by rw[aO8 h1];exact h3,h4⟩
theorem bh9{step:List Val→Option (Nat×List Val)}{i:Nat}{x y:Val}{s':List Val}(hs:step [x,y,.vi i]=some (0,s')): ∀{p:List Nat} {s:List Val},aT8 step p s=some [x,y]→aT8 step (p++[i]) s=some s'
 | [],s,h=>by
   obtain rfl:s=[x,y]:=by simpa[aT8]using h
   show aT8 step [i] _=_
   rw[aO8 hs];rfl
 |j::p,s,h=>by
  obtain⟨a,b,s1,rfl,h1,h2⟩:=b50 h
  show aT8 step (j::(p++[i])) _=_
  rw[aO8 h1]
  exact bh9 hs h2
theorem cs4{n:Nat}{p:List Nat}(hn:p.Nodup)(hp: ∀i∈p,i<n): ∃q,(p++q).Perm (List.range n):=by
 refine⟨(List.range n).filter fun i=>decide (i∉p),(G7 ?_ J8).2 fun i=> ?_⟩
 ·refine List.nodup_append.2 ⟨hn,J8.filter _,fun a ha b hb=> ?_⟩
  rintro rfl
  have:=(n7.1 hb).2
  simp at this
  exact this ha
 ·rw[q9,n7,s9]
  by_cases h:i∈p
  ·simp[h,hp i h]
  ·simp[h]
theorem c67{n:Nat}{p:List Nat}(hn:p.Nodup)(hp: ∀i∈p,i<n)(ha: ∀i,i<n→i∈p):p.Perm (List.range n):=
 (G7 hn J8).2 fun i=>⟨fun hi=>s9.2 (hp i hi),fun hi=>ha i (s9.1 hi)⟩
theorem d30{ks vs:List CT}{l idx:SX}{r:Val}{i:Nat}(hi:dI ω idx=(i:Int))(hr:(dL ω l)[i]? =some r):VR β ω (bY1 ks vs l idx) (.tuple #[(bZ5 ks vs r).1,(bZ5 ks vs r).2]):=by
 have hg: ∀t:Nat,R6 (dL ω l) (dI ω idx) t=r.toL.getD t default:=by
  intro t
  show((dL ω l).getD (dI ω idx).toNat (.vl [])).toL.getD (Int.toNat t) default=_
  rw[hi,show(dL ω l).getD (i:Int).toNat (.vl [])=r by rw[i6,show(i:Int).toNat=i from rfl,hr];rfl]
  rfl
 have hrow:a95 (ks++vs) r=(List.range' 0 (ks++vs).length).map fun j=>a67 ((ks++vs).getD j .bool) (r.toL.getD j default):=by
  unfold a95
  rw[G4]
 have e1:(a95 (ks++vs) r).take ks.length=(List.range' 0 ks.length).map fun j=>a67 ((ks++vs).getD j .bool) (r.toL.getD j default):=by
  rw[hrow,←List.map_take]
  congr 1
  rw[j9,show List.range' 0 (ks.length+vs.length)=List.range' 0 ks.length++List.range' (0+ks.length) vs.length from(List.range'_append_1).symm]
  rw[J9 (by simp)]
 have e2:(a95 (ks++vs) r).drop ks.length=(List.range' ks.length vs.length).map fun j=>a67 ((ks++vs).getD j .bool) (r.toL.getD j default):=by
  rw[hrow,←List.map_drop]
  congr 1
  rw[j9,show List.range' 0 (ks.length+vs.length)=List.range' 0 ks.length++List.range' (0+ks.length) vs.length from(List.range'_append_1).symm]
  rw[K0 (by simp),j7]
 refine⟨_,rfl,.cons ?_ (.one ?_)⟩
 ·have:=aH1 (β:=β) (ω:=ω) (ks++vs) l idx ks.length 0
  simp only[hg]at this
  show VR β ω _ (ooa ((a95 (ks++vs) r).take ks.length))
  rw[e1]
  exact bf7 this
 ·have:=aH1 (β:=β) (ω:=ω) (ks++vs) l idx vs.length ks.length
  simp only[hg]at this
  show VR β ω _ (ooa ((a95 (ks++vs) r).drop ks.length))
  rw[e2]
  exact bf7 this
structure MOk (mc:MC) (a:Fr) (mo:MO) (t:Nat):Prop where
 o1:mc.o1.op= .next (.tmp t) false
 e1:mc.o1.dst=some mo.d1
 o2:mc.o2.op= .extract (.tmp mo.d1) 0
 e2:mc.o2.dst=some mo.d2
 tk:mc.tok= .tmp mo.d2
 o3:mc.o3.op= .entry (.tmp t)
 e3:mc.o3.dst=some mo.d3
 n1:t≠mo.d1
 n2:t≠mo.d2
 sl:a.slot t= .ptr mo.it 0
 p1:aD6 mc.o1=true
 p2:aD6 mc.o2=true
 p3:aD6 mc.o3=true
 l1:mo.d1<a.nt
 l2:mo.d2<a.nt
theorem cM2{mc:MC}{a:Fr}{mo:MO}(e:dc3 mc a=some mo): ∃t,MOk mc a mo t:=by
 unfold dc3 at e
 split at e
 ·rename_i t d1 d1' d2 d2' t' d3 h1 h2 h3 h4 h5 h6 h7
  replace e:=P7 e
  obtain⟨hc,e1⟩:=e
  obtain⟨hc1,c5⟩:=P8 hc
  obtain⟨hc2,c4⟩:=P8 hc1
  obtain⟨hc3,c3⟩:=P8 hc2
  obtain⟨c1,c2⟩:=P8 hc3
  obtain rfl:=P9.1 c1
  obtain rfl:=P9.1 c2
  obtain rfl:=P9.1 c3
  split at e1
  ·rename_i it hs
   unfold cZ3 at e1
   obtain⟨hz,e2⟩:=P7 e1
   obtain⟨hz1,z6⟩:=P8 hz
   obtain⟨hz2,z5⟩:=P8 hz1
   obtain⟨hz3,z4⟩:=P8 hz2
   obtain⟨hz4,z3⟩:=P8 hz3
   obtain⟨z1,z2⟩:=P8 hz4
   simp only[b9]at e2
   subst e2
   refine⟨t,h1,h2,h3,h4,h5,h6,h7,?_,?_,hs,z1,z2,z3,R1.1 z4,R1.1 z5⟩
   ·rintro rfl;simp at c4
   ·rintro rfl;simp at c5
  ·cases e1
 ·cases e
theorem cs5{c:Code}{mc:MC}(e:bM7 c=some mc): ∃i1 i2,c= .seq (.region i1 mc.ops1 false) (.seq (.cond mc.tok .skip (.exit mc.xid)) (.block mc.bid (.seq (.region i2 mc.ops2 false) mc.rest)))∧mc.ops1.toList=[mc.o1,mc.o2]∧mc.ops2.toList=mc.o3::mc.r3:=by
 unfold bM7 at e
 split at e
 ·split at e
  ·rename_i h1 h2
   simp only[b9]at e
   subst e
   exact⟨_,_,rfl,h1,h2⟩
  ·cases e
 ·cases e
theorem c68{x:Option Blk}(h:cZ6 x=true):x=none:=by
 cases x with
 |none=>rfl
 |some _=>cases h
theorem cs6{v0:Nat}{es:List SX}(h:cH8 v0 es=true):es=[.va v0,.va (v0+1)]:=by
 unfold cH8 at h
 split at h
 ·obtain⟨h1,h2⟩:=P8 h
  rw[P9.1 h1,P9.1 h2]
 ·cases h
theorem b51{v0 nb ob:Nat}{h0:Heap}: ∀{n:Nat},cU9 v0 nb ob h0 n=true→ ∀s,s<n→swB v0 nb ob s (h0.get s)=true
 |0,_,s,hs=>by omega
 |n+1,h,s,hs=>by
  simp only[cU9,e9]at h
  by_cases e:s=n
  ·subst e;exact h.1
  ·exact b51 h.2 s (by omega)
theorem bE9{h1 h2:Heap}: ∀{n:Nat},bY2 h1 h2 n=true→ ∀s,s<n→ ∀x,h1.get s=some x→ ∃y,h2.get s=some y
 |0,_,s,hs,_,_=>by omega
 |n+1,h,s,hs,x,hx=>by
  simp only[bY2,e9]at h
  by_cases e:s=n
  ·subst e
   have:=h.1
   rw[hx]at this
   cases hy:h2.get s with
   |none=>rw[hy]at this;cases this
   |some y=>exact⟨y,rfl⟩
  ·exact bE9 h.2 s (by omega) x hx
theorem c69{v0 nb ob b:Nat}{x:Blk}(h:swB v0 nb ob b (some x)=true):(b=ob∧ ∃e sig,x= .arr e sig (.va (v0+1)))∨(b≠ob∧okB (v0+1) nb (some x)=true):=by
 unfold swB at h
 cases hb:Nat.beq b ob with
 |true=>
  rw[hb]at h
  simp only[cond_true]at h
  split at h
  ·rename_i e sig n hx
   cases hx
   exact .inl ⟨P9.1 hb,e,sig,by rw[P9.1 h]⟩
  ·cases h
 |false=>
  rw[hb]at h
  exact .inr ⟨fun hh=>by rw[hh]at hb;simp at hb,h⟩
theorem aH4{v0:Nat}{a:Val}{r r':List Val}:Agr (v0+1) (ω.upd v0 (a::r)) (ω.upd v0 (a::r')):=by
 refine⟨fun n hn=> ?_,rfl,rfl,rfl,rfl⟩
 simp only[Opq.upd]
 by_cases h:v0≤n
 ·have:n-v0=0:=by omega
  rw[if_pos h,if_pos h,this];rfl
 ·rw[if_neg h,if_neg h]
theorem cC0{v0 nb:Nat}{a:Fr}{act:Act}(g:Agr v0 ω ω')(hb:cG6 v0 nb a a.nt=true)(hpc:a.pc=[])(hds:a.ds=[])(f:FrR β ω a act):FrR β ω' a act:=by
 refine⟨f.size,f.lim,fun t _=> ?_,?_,fun p hp=>by rw[hpc]at hp;cases hp⟩
 ·have:=f.slot t id
  by_cases ht:t<a.nt
  ·exact aj4 g (fun _ _=>rfl) _ _ (bu1 hb t ht) this
  ·rw[m8,u9 (by rw[f.size];omega)]at this⊢
   exact ac3 this
 ·have:=f.defers
  rw[hds]at this⊢
  exact this
theorem d31{v0 nb ob:Nat}{a:Val}{r r':List Val}{b':Val}(hs:cU9 v0 nb ob h h.next=true)(rr:HR β (ω.upd v0 (a::b'::r)) K w0 h w):HR β (ω.upd v0 (a::b'::r')) K w0 h w:=by
 refine rr.turn rfl rfl (fun _ hh=>hh) fun b y hy=>⟨y,hy,fun L o hbr=> ?_,rfl⟩
 have hlt:b<h.next:=by
  rcases i4 b h.next with q|q
  ·exact q
  ·rw[rr.fget b q]at hy;cases hy
 have:=b51 hs b hlt
 rw[hy]at this
 rcases c69 this with⟨_,e,sig,rfl⟩|⟨_,hk⟩
 ·have e1: ∀q:List Val,dL (ω.upd v0 (a::b'::q)) (.va (v0+1))=b'.toL:=fun q=>by
   show((ω.upd v0 (a::b'::q)).w (v0+1)).toL=_
   rw[bh4 (j:=1) (x:=b') rfl]
  simp only[BR]at hbr⊢
  rw[e1]at hbr⊢
  exact hbr
 ·exact bu2 aH4 (fun _ _=>rfl) hk hbr
theorem d32{v0 nb ob:Nat}{a:Val}{D D':List Val}(hp:D'.Perm D)(hs:cU9 v0 nb ob h h.next=true)(rr:HR β (ω.upd v0 [a,.vl D']) K w0 h w):HR β (ω.upd v0 [a,.vl D]) K w0 (h.put ob (cZ5 (h.get ob))) w:=by
 have hg: ∀b,(h.put ob (cZ5 (h.get ob))).get b=if b=ob then(if ob<65536 then cZ5 (h.get ob)else none)else h.get b:=fun b=>Heap.get_put _ _ _ _
 refine rr.turn rfl rfl (fun b hh=> ?_) fun b y hy=> ?_
 ·rw[hg]
  by_cases e:b=ob
  ·subst e;rw[if_pos rfl,hh];split<;>rfl
  ·rw[if_neg e];exact hh
 rw[hg]at hy
 by_cases e:b=ob
 ·subst e
  rw[if_pos rfl]at hy
  split at hy
  ·cases hx:h.get b with
   |none=>rw[hx]at hy;cases hy
   |some x=>
    have hob:b<h.next:=by
     rcases i4 b h.next with q|q
     ·exact q
     ·rw[rr.fget b q]at hx;cases hx
    have:=b51 hs b hob
    rw[hx]at this hy
    rcases c69 this with⟨_,e,sig,rfl⟩|⟨hne,_⟩
    ·simp only[cZ5,b9]at hy
     subst hy
     refine⟨_,rfl,fun L o hbr=> ?_,rfl⟩
     have e1: ∀q:List Val,dL (ω.upd v0 [a,.vl q]) (.va (v0+1))=q:=fun q=>by
      show((ω.upd v0 [a,.vl q]).w (v0+1)).toL=_
      rw[bh4 (j:=1) (x:= .vl q) rfl];rfl
     simp only[BR]at hbr⊢
     rw[e1]at hbr⊢
     exact⟨D',hp,hbr⟩
    ·exact absurd rfl hne
  ·cases hy
 ·rw[if_neg e]at hy
  refine⟨y,hy,fun L o hbr=> ?_,rfl⟩
  have hlt:b<h.next:=by
   rcases i4 b h.next with q|q
   ·exact q
   ·rw[rr.fget b q]at hy;cases hy
  have:=b51 hs b hlt
  rw[hy]at this
  rcases c69 this with⟨q,_⟩|⟨_,hk⟩
  ·exact absurd q e
  ·exact bu2 aH4 (fun _ _=>rfl) hk hbr
theorem b52{act:Act}{d:Nat}{v:Value}(h:d<act.tmps.size):(act.put (some d) v).eval (.tmp d)=v:=by
 show(act.tmps.setIfInBounds d v).getD d Go.undef=v
 rw[m8,B9,if_pos rfl,if_pos h];rfl
theorem aO9{act:Act}{d t:Nat}{v:Value}(h:t≠d):(act.put (some d) v).eval (.tmp t)=act.eval (.tmp t):=by
 show(act.tmps.setIfInBounds d v).getD t Go.undef=act.tmps.getD t Go.undef
 rw[m8,m8,B9,if_neg (Ne.symm h)]
theorem bF0{x:Value}{l:List Value}(w:World):(Instr.extract (.tuple (x::l).toArray) 0).run E.P w= .ok x w:=by
 simp[Instr.extract,Sem.run]
theorem bP6{Es:Array MapEntry}{seen:Array Nat}(h:(leftOf Es seen).size=0): ∀e∈Es.toList,e.born∈seen.toList:=by
 intro e he
 unfold leftOf at h
 have h1:=Array.eq_empty_of_size_eq_zero h
 rw[Array.filter_eq_empty_iff]at h1
 have:=h1 e (by simpa using he)
 simpa using this
theorem cs7{Es:Array MapEntry}{seen:Array Nat}{e:MapEntry}(h:e∈(leftOf Es seen).toList):e∈Es.toList∧e.born∉seen.toList:=by
 unfold leftOf at h
 simp only[Array.toList_filter,n7]at h
 refine⟨h.1,?_⟩
 have:=h.2
 simpa using this
set_option maxHeartbeats 1000000 in
theorem c70{Ω:Opq→Prop}(hΩ: ∀ω v0 l,Ω ω→Ω (ω.upd v0 l))(hω:Ω ω){n:Nat}(hk: ∀ω',Ω ω'→ar7 E ω' n)(ho: ∀ω',Ω ω'→cB9 E ω' n){R:Type}{A:Alg R}{T:R→Prop}(hA:AlgOk A T ω)
 {c:Code} {mc:MC} (hmc:bM7 c=some mc) {a:Fr} {h hs:Heap} {n0:Nat} (hn0:n0=hs.next) {k:Ex→Fr→Heap→R} {sp:LSpec} {mo:MO} {m ob:Nat} {d:Bool} {ks vs:List CT} {lm:SX} {x:Ex×StP}
 (hmo:dc3 mc (R4 sp a h).a=some mo) (hg1:h.get mo.it=some (.mit m)) (hg2:h.get m=some (.mrg mo.it d ks vs lm)) (hxs:x∈sp.exits)
 (he:T (aG8 (ev E n) A n0 k sp a h mc mo m ob d ks vs lm x)) {K:Nat→Prop} {w0:World} {β βs:Bij} {act:Act} {w:World} {Q:Exit→Act→World→Prop} (r:HR β ω K w0 h w) (f:FrR β ω a act) (st0:St hs βs h β) (q:KOk T ω K w0 hs βs none k Q):aj5 (Fen none) E.P c Q act w:=by
 unfold aG8 at he
 split at he
 rotate_left
 ·exact absurd he hA.bad
 rename_i xid hx1
 cases hcnd:(Nat.beq xid mc.xid&&bY3 sp a h n0 mo m ob lm&&Nat.blt m x.2.next&&dc4 sp mo ob a h x.2)with
 |false=>rw[hcnd]at he;exact absurd he hA.bad
 |true=>
 rw[hcnd]at he
 simp only[cond_true]at he
 obtain⟨hc3,hend⟩:=P8 hcnd
 obtain⟨hc2,hmx⟩:=P8 hc3
 obtain⟨hc1,hlive⟩:=P8 hc2
 obtain rfl:=P9.1 hc1
 rw[R1]at hmx
 split at he
 rotate_left
 ·exact absurd he hA.bad
 rename_i s0 s1 hs0
 cases hsub:bY2 (ah8 sp (a49 sp.id (s0::s1::sp.fv)) a h x.2).h (R4 sp a h).h x.2.next with
 |false=>rw[hsub]at he;exact absurd he hA.bad
 |true=>
 rw[hsub]at he
 simp only[cond_true]at he
 obtain⟨D,xk,hmap,hlink,hk0,hT⟩:=hA.mloop _ _ _ _ he
 simp only[List.getElem?_cons_zero,b9]at hk0
 subst hk0
 unfold bY3 at hlive
 obtain⟨hl1,g12⟩:=P8 hlive
 obtain⟨hl2,g11⟩:=P8 hl1
 obtain⟨hl3,g10⟩:=P8 hl2
 obtain⟨hl4,g9⟩:=P8 hl3
 obtain⟨hl5,g8⟩:=P8 hl4
 obtain⟨hl6,g7⟩:=P8 hl5
 obtain⟨hl7,g6⟩:=P8 hl6
 obtain⟨hl8,g5⟩:=P8 hl7
 obtain⟨hl9,g4⟩:=P8 hl8
 obtain⟨hl10,g3⟩:=P8 hl9
 obtain⟨g1,g2⟩:=P8 hl10
 rw[Q2]at g2 g3 g5
 rw[R1]at g4 g6
 replace g7:=c68 g7
 replace g8:=c68 g8
 have hd:=cM1 g1 r f
 rw[←hd.n]at g10 g12
 have m0:=ab3 hs0
 have f1:=m0.fr hd.pc (fun s hs=>⟨_,rfl,by rw[hd.hi s hs];exact hd.un s hs⟩) f
 have r1:=m0.hr hd.fg r
 obtain⟨t,mk⟩:=cM2 hmo
 obtain⟨i1,i2,rfl,hop1,hop2⟩:=cs5 hmc
 have hnn:n0≤h.next:=by rw[hn0];exact st0.le
 have hsl:=f1.slot t id
 rw[mk.sl]at hsl
 simp only[VR]at hsl
 obtain⟨L,hLc,_⟩:=hsl
 have hL:β mo.it=some L:=by
  simp only[Bij.cut]at hLc
  split at hLc
  ·exact hLc
  ·cases hLc
 obtain⟨hoff,Lm,hLm,hobj⟩:=r.blk mo.it _ L hg1 hL
 obtain⟨Es,cl,Li,hmobj,hLi,hext,hrows,hborn⟩:=r.blk m _ Lm hg2 hLm
 rw[hL,b9]at hLi
 subst hLi
 subst hext
 have hne:Lm.blk≠L.blk:=by intro e;rw[e,hobj]at hmobj;cases hmobj
 have hKL: ¬K L.blk:=r.free mo.it _ L hg1 g3 hL
 have hpre: ∀b y,(R4 sp a h).h.get b=some y→ ∃z,h.get b=some z:=by
  intro b y hy
  have hb:b<(R4 sp a h).h.next:=by
   rcases i4 b (R4 sp a h).h.next with hh|hh
   ·exact hh
   ·rw[hd.fg b hh]at hy;cases hy
  obtain⟨n',es',h1,_⟩:=m0.hp (fun _ _=>True) (fun _ _ _=>trivial) b hb
  rw[hy]at h1
  simp only[aU4]at h1
  split at h1
  ·rename_i z hz;exact⟨z,hz⟩
  ·cases h1
 have hsep0: ∀b y M,(R4 sp a h).h.get b=some y→β b=some M→M.blk≠L.blk∧M.blk≠Lm.blk:=by
  intro b y M hy hb
  obtain⟨z,hz⟩:=hpre b y hy
  exact⟨r.sep b mo.it z _ M L hz hg1 hb hL (by rintro rfl;rw[g7]at hy;cases hy) (.inr (.inr (.inr rfl))),
    r.sep b m z _ M Lm hz hg2 hb hLm (by rintro rfl;rw[g8]at hy;cases hy) (.inr (.inr (.inr rfl)))⟩
 have hlen:Es.toList.length=(dL ω lm).length:=by
  have:=congrArg List.length hrows
  simpa using this
 have hnd:(Es.toList.map (·.born)).Nodup:=hborn.1.imp (fun h=>I1 h)
 have hold: ∀y∈Es.toList,y.born<L.ext:=hborn.2.1
 have hlm: ∀l,dL (ω.upd sp.v0 l) lm=dL ω lm:=fun l=>by unfold dL;rw[ab2 (aO2 ω sp.v0 l) lm g9]
 have hbi: ∀i,i<(dL ω lm).length→ ∃e,Es.toList[i]? =some e∧(Es.toList.map (·.born)).getD i 0=e.born:=by
  intro i hi
  have hi':i<Es.toList.length:=by rw[hlen];exact hi
  refine⟨Es.toList[i],j8 hi',?_⟩
  rw[i6,A1,j8 hi'];rfl
 have hinj: ∀i j,i<(dL ω lm).length→j<(dL ω lm).length→(Es.toList.map (·.born)).getD i 0=(Es.toList.map (·.born)).getD j 0→i=j:=by
  intro i j hi hj hh
  have hi':i<(Es.toList.map (·.born)).length:=by rw[m7,hlen];exact hi
  have hj':j<(Es.toList.map (·.born)).length:=by rw[m7,hlen];exact hj
  rw[i6,i6,j8 hi',j8 hj']at hh
  exact(List.getElem_inj hnd).1 hh
 obtain⟨hm1,hm2⟩:=hmap
 have main: ∀(j:Nat) (p:List Nat) (s:List Val),(dL ω lm).length≤p.length+j→p.Nodup→(∀i∈p,i<(dL ω lm).length)→
  aT8 (fun us=>Q1 (cZ4 (ev E n) sp mc a h ((((R4 sp a h).a.put (some mo.d1) .any).put (some mo.d2) (.bool true)).put (some mo.d3) (bY1 ks vs lm (.va (sp.v0+2))))) (ω.upd sp.v0 us)) p (Q4 ω [s0,s1])=some s→
  ∀(β1:Bij) (act1:Act) (w1:World) (seen:Array Nat),FrR β1 (ω.upd sp.v0 s) (R4 sp a h).a act1→HR β1 (ω.upd sp.v0 s) K w0 (R4 sp a h).h w1→(∀b,b<n0→β1 b=β b)→
   (∀b y M,(R4 sp a h).h.get b=some y→β1 b=some M→M.blk≠L.blk∧M.blk≠Lm.blk)→w1.heap[L.blk]? =some (.mapIter (some Lm.blk) L.ext seen L.ext)→w1.heap[Lm.blk]? =some (.map Es L.ext)→
   seen.toList=p.map (fun i=>(Es.toList.map (·.born)).getD i 0)→aj5 (Fen none) E.P (.seq (.region i1 mc.ops1 false) (.seq (.cond mc.tok .skip (.exit mc.xid)) (.block mc.bid (.seq (.region i2 mc.ops2 false) mc.rest)))) Q act1 w1:=by
  intro j
  induction j using Nat.strongRecOn with
  |ind j ih=>
  intro p s hj hpn hpl hrun β1 act1 w1 seen f1 r1 hβ1 hsep1 hit hmp hseen
  have hLβ:β1 mo.it=some L:=(hβ1 _ g6).trans hL
  have hLm1:β1 m=some Lm:=(hβ1 _ g4).trans hLm
  have hval:act1.eval (.tmp t)= .pointer (some ⟨L.blk,0,none⟩):=by
   have:=f1.slot t id
   rw[mk.sl]at this
   simp only[VR]at this
   obtain⟨L',hL',hv⟩:=this
   rw[hLβ,b9]at hL'
   subst hL'
   show act1.tmps.getD t Go.undef=_
   rw[hv,hoff]
  have nd1: ∀c,mc.o1.op≠ .defer c:=fun c hc=>by rw[mk.o1]at hc;cases hc
  have nd2: ∀c,mc.o2.op≠ .defer c:=fun c hc=>by rw[mk.o2]at hc;cases hc
  have nd3: ∀c,mc.o3.op≠ .defer c:=fun c hc=>by rw[mk.o3]at hc;cases hc
  refine ac4 (wpIn_seq (wpIn_region ?_))
  rw[G4,show mc.ops1.size=[mc.o2].length+1 by rw[←Array.length_toList,hop1];rfl]
  rcases run_next_at (P:=E.P) w1 mc.o1.type L.blk Lm.blk L.ext L.ext seen Es L.ext hit hmp hold (e8 _)with⟨hz,hnx⟩|⟨e,hem,w2,hw2,hnx⟩
  ·
   have hr1:(execOp act1.eval mc.o1).run E.P w1= .ok (.value (.tuple #[.bool false])) w1:=by
    unfold execOp
    rw[mk.o1]
    simp only[Sem.run_bind,hval,hnx]
    rfl
   have f2:=FrP.put' f1 (some mo.d1) (v:= .tup [.bool false]) (u:= .tuple #[.bool false]) ⟨_,rfl,.one rfl⟩
   refine aO7 (i:=0) (by rw[hop1];rfl) f1 mk.p1 nd1 hr1 ?_
   rw[mk.e1]
   have hx1v:(act1.put (some mo.d1) (.tuple #[.bool false])).eval (.tmp mo.d1)= .tuple #[.bool false]:=by
    have:=f2.slot mo.d1 id
    rw[Fr.put_slot f1.lim,if_pos ⟨rfl,mk.l1⟩]at this
    obtain⟨xs,hxs,hv⟩:=this
    show(act1.put (some mo.d1) (.tuple #[.bool false])).tmps.getD mo.d1 Go.undef=_
    rw[hxs]
    obtain⟨v1,vr,hv1,hv2,hv3⟩:=hv
    obtain rfl:vr=[]:=hv3
    simp only[VR]at hv2
    subst hv2
    congr 1
    exact C0 (by simpa using hv1)
   have hr2:(execOp (act1.put (some mo.d1) (.tuple #[.bool false])).eval mc.o2).run E.P w1= .ok (.value (.bool false)) w1:=by
    unfold execOp
    rw[mk.o2]
    simp only[Sem.run_bind,hx1v]
    rw[show(Instr.extract (.tuple #[.bool false]) 0).run E.P w1= .ok (.bool false) w1 from bF0 (l:=[]) w1]
    rfl
   have f3:=FrP.put' f2 (some mo.d2) (v:= .bool false) (u:= .bool false) rfl
   refine aO7 (i:=1) (rest:=[]) (by rw[hop1];rfl) f2 mk.p2 nd2 hr2 ?_
   rw[mk.e2]
   show(Code.seq (.cond mc.tok .skip (.exit mc.xid)) (.block mc.bid (.seq (.region i2 mc.ops2 false) mc.rest))).wpIn (Fen none) 0 E.P _ _ w1
   refine wpIn_seq (wpIn_cond_false ?_ (wpIn_exit ?_))
   ·rw[mk.tk]
    exact b52 (by rw[f2.size,Fr.put_nt];exact mk.l2)
   show Q (.exit mc.xid) _ w1
   have hfull:p.Perm (List.range (dL ω lm).length):=c67 hpn hpl fun i hi=>by
    obtain⟨e,he1,he2⟩:=hbi i hi
    have:=bP6 hz e (D6 he1)
    rw[hseen]at this
    obtain⟨i',hi',hh⟩:=j6.1 this
    rw[←he2]at hh
    rw[←hinj i' i (hpl i' hi') hi hh];exact hi'
   obtain⟨D',hD1,hD2⟩:=hm2 p hfull
   obtain rfl:=O0 (hrun.symm.trans hD1)
   have hlenD:D'.length=D.length:=hD2.length_eq
   rw[hlenD]at f3 r1
   have hpcA:(b18 sp mo a h).pc=[]:=by unfold b18;rw[Fr.put_pc,Fr.put_pc,hd.pc]
   have hdsA:(b18 sp mo a h).ds=[]:=by unfold b18;rw[Fr.put_ds,Fr.put_ds,hd.ds]
   have hntA:(b18 sp mo a h).nt=a.nt:=by unfold b18;rw[Fr.put_nt,Fr.put_nt,hd.nt]
   have f4:=cC0 (a:=b18 sp mo a h) (ω':=ω.upd sp.v0 [.vi D.length,.vl D]) (v0:=sp.v0+1) aH4 (by rw[hntA];exact g11) hpcA hdsA f3
   have r4:=d32 hD2 g12 r1
   unfold dc4 at hend
   split at hend
   rotate_left
   ·cases hend
   rename_i es hes
   obtain rfl:=cs6 hend
   obtain⟨b1,b2,b3,b4⟩:=c66 hn0 g1 r f st0 hxs (s0:=[s0,s1]) (i:=0) (p:=[.vi D.length,.vl D]) hlink [.vi D.length,.vl D] β1 _ _ _ w1 _ hes (by
    simp only[Q4,den]
    rw[show(ω.upd sp.v0 [Val.vi D.length,.vl D]).w sp.v0= .vi D.length from bh4 (j:=0) rfl,bh4 (j:=1) (x:= .vl D) rfl]) f4 r4 hβ1
   rw[hx1]at hT
   have hon:(ah8 sp (a49 sp.id ([s0,s1]++sp.fv)) a h x.2).h.next=x.2.next:=Heap.next_upto _ _
   refine q (.exit mc.xid) _ _ (β1.cut x.2.next) _ w1 hT b1 b2 (b3.putBack (L:=Lm) (by rw[hon];exact hmx) (Heap.get_lim _ _ _ hg2) (by simp only[Bij.cut];rw[if_pos hmx];exact hLm1) ⟨Es,_,hmp,hrows,hborn⟩ (fun b y M hy hbm hb=> ?_) (fun hw=> ?_)) ⟨b4.le,b4.ext,fun b hb hn=> ?_,b4.wm⟩
   ·simp only[Bij.cut]at hb
    split at hb
    ·rename_i hlt
     obtain⟨z,hz⟩:=bE9 hsub b hlt y hy
     exact(hsep1 b z M hz hb).2
    ·cases hb
   ·exact r.free m _ Lm hg2 (by rw[st0.wm,←b4.wm];exact hw) hLm
   ·have:b≠m:=by
     rintro rfl
     rw[←st0.ext b hb,hLm]at hn
     cases hn
    rw[Heap.get_put,if_neg this]
    exact b4.unm b hb hn
  ·
   obtain⟨heE,heS⟩:=cs7 hem
   obtain⟨i,hi,hei⟩:=O1 heE
   have hiN:i<(dL ω lm).length:=by rw[←hlen];exact hi
   have hbe:(Es.toList.map (·.born)).getD i 0=e.born:=by
    obtain⟨e',he1,he2⟩:=hbi i hiN
    rw[j8 hi,b9]at he1
    rw[he2,←he1,hei]
   have hip:i∉p:=fun hh=>heS (by rw[hseen];exact j6.2 ⟨i,hh,hbe⟩)
   have hpn':(p++[i]).Nodup:=by
    refine List.nodup_append.2 ⟨hpn,by simp,fun x hx y hy=> ?_⟩
    rintro rfl
    rw[o7]at hy
    subst hy;exact hip hx
   have hpl': ∀x∈p++[i],x<(dL ω lm).length:=fun x hx=>by
    rcases q9.1 hx with hh|hh
    ·exact hpl x hh
    ·rw[o7]at hh;subst hh;exact hiN
   obtain⟨q',hq'⟩:=cs4 hpn' hpl'
   have hj1:1≤j:=by
    have:=hq'.length_eq
    simp at this
    omega
   obtain⟨Dq,hDq,_⟩:=hm2 _ hq'
   obtain⟨u1,hu1,_⟩:=as0 hDq
   obtain⟨u0,hu0,hu3⟩:=as0 hu1
   obtain rfl:=O0 (hrun.symm.trans hu0)
   obtain⟨xa,xb,s2,rfl,hstep,_⟩:=b50 hu3
   have hw2h:w2.heap=w1.heap:=by rcases hw2 with rfl|rfl<;>rfl
   have hLlt:L.blk<w1.heap.size:=r1.lt _ _ hLβ
   generalize hw3:ChangeMaps.setBlock w2 L.blk (.mapIter (some Lm.blk) L.ext (seen.push e.born) L.ext)=w3 at hnx
   have hw3L:w3.heap[L.blk]? =some (.mapIter (some Lm.blk) L.ext (seen.push e.born) L.ext):=by
    rw[←hw3]
    show(w2.heap.setIfInBounds L.blk _)[L.blk]? =_
    rw[B9,if_pos rfl,if_pos (by rw[hw2h];exact hLlt)]
   have hw3o: ∀b,b≠L.blk→w3.heap[b]? =w1.heap[b]? :=by
    intro b hb
    rw[←hw3]
    show(w2.heap.setIfInBounds L.blk _)[b]? =_
    rw[B9,if_neg (Ne.symm hb),hw2h]
   have hw3s:w3.heap.size=w1.heap.size:=by
    rw[←hw3]
    show(w2.heap.setIfInBounds L.blk _).size=_
    rw[Array.size_setIfInBounds,hw2h]
   have hw3d:w3.os=w1.os∧w3.tape=w1.tape∧w3.output=w1.output∧w1.drawn≤w3.drawn:=by
    rw[←hw3]
    rcases hw2 with rfl|rfl
    ·exact⟨rfl,rfl,rfl,e8 _⟩
    ·exact⟨rfl,rfl,rfl,Nat.le_succ _⟩
   have r2:HR β1 (ω.upd sp.v0 [xa,xb]) K w0 (R4 sp a h).h w3:=by
    refine⟨fun b y M hg hb=> ?_,r1.sep,r1.fresh,r1.fget,fun b M hb=>by rw[hw3s];exact r1.lt b M hb,r1.kin,fun z hz=> ?_,r1.free,by rw[hw3s];exact r1.size,hw3d.1.trans r1.os,hw3d.2.1.trans r1.tape,hw3d.2.2.1.trans r1.out,p7 r1.dr hw3d.2.2.2⟩
    ·rw[hw3o _ (hsep1 b y M hg hb).1];exact r1.blk b y M hg hb
    ·rw[hw3o z (by rintro rfl;exact hKL hz)];exact r1.keep z hz
   have r3:=d31 (r:=[]) (r':=[.vi i]) g12 r2
   have r4:HR β1 (ω.upd sp.v0 [xa,xb,.vi i]) (fun z=>K z∨z=L.blk∨z=Lm.blk) w3 (R4 sp a h).h w3:=by
    refine r3.freeze (fun z hz=> ?_) (fun b y M hg hw hb hz=> ?_)
    ·rcases hz with hz|rfl|rfl
     ·exact t7 (r3.kin z hz) r3.size
     ·exact r3.lt _ _ hLβ
     ·exact r3.lt _ _ hLm1
    ·rcases hz with hz|hz|hz
     ·exact r3.free b y M hg hw hb hz
     ·exact(hsep1 b y M hg hb).1 hz
     ·exact(hsep1 b y M hg hb).2 hz
   have f2:=cC0 (ω':=ω.upd sp.v0 [xa,xb,.vi i]) (v0:=sp.v0+1) aH4 (by rw[hd.nt];exact g10) hd.pc hd.ds f1
   have hr1:(execOp act1.eval mc.o1).run E.P w1= .ok (.value (.tuple #[.bool true,e.key,e.val])) w3:=by
    unfold execOp
    rw[mk.o1]
    simp only[Sem.run_bind,hval,hnx]
    rfl
   have f3:=FrP.put' f2 (some mo.d1) (v:= .any) (u:= .tuple #[.bool true,e.key,e.val]) trivial
   refine aO7 (i:=0) (by rw[hop1];rfl) f1 mk.p1 nd1 hr1 ?_
   rw[mk.e1]
   have hr2:(execOp (act1.put (some mo.d1) (.tuple #[.bool true,e.key,e.val])).eval mc.o2).run E.P w3= .ok (.value (.bool true)) w3:=by
    unfold execOp
    rw[mk.o2]
    simp only[Sem.run_bind,b52 (act:=act1) (d:=mo.d1) (v:= .tuple #[.bool true,e.key,e.val]) (by rw[f1.size];exact mk.l1)]
    rw[show(Instr.extract (.tuple #[.bool true,e.key,e.val]) 0).run E.P w3= .ok (.bool true) w3 from bF0 (l:=[e.key,e.val]) w3]
    rfl
   have f4:=FrP.put' f3 (some mo.d2) (v:= .bool true) (u:= .bool true) rfl
   refine aO7 (i:=1) (rest:=[]) (by rw[hop1];rfl) f3 mk.p2 nd2 hr2 ?_
   rw[mk.e2]
   show(Code.seq (.cond mc.tok .skip (.exit mc.xid)) (.block mc.bid (.seq (.region i2 mc.ops2 false) mc.rest))).wpIn (Fen none) 0 E.P _ _ w3
   refine wpIn_seq (wpIn_cond_true ?_ (wpIn_skip ?_))
   ·rw[mk.tk]
    exact b52 (by rw[f3.size,Fr.put_nt];exact mk.l2)
   show(Code.block mc.bid (.seq (.region i2 mc.ops2 false) mc.rest)).wpIn (Fen none) 0 E.P _ _ w3
   refine wpIn_block (wpIn_seq (wpIn_region ?_))
   rw[G4,show mc.ops2.size=mc.r3.length+1 by rw[←Array.length_toList,hop2];rfl]
   have hev:((act1.put (some mo.d1) (.tuple #[.bool true,e.key,e.val])).put (some mo.d2) (.bool true)).eval (.tmp t)= .pointer (some ⟨L.blk,0,none⟩):=by
    rw[aO9 mk.n2,aO9 mk.n1];exact hval
   have hr3:(execOp ((act1.put (some mo.d1) (.tuple #[.bool true,e.key,e.val])).put (some mo.d2) (.bool true)).eval mc.o3).run E.P w3= .ok (.value (.tuple #[e.key,e.val])) w3:=by
    unfold execOp
    rw[mk.o3]
    simp only[Sem.run_bind,hev]
    rw[run_entry_at w3 L.blk Lm.blk L.ext seen Es L.ext e hw3L ((hw3o _ hne).trans hmp) heE hnd]
    rfl
   have hrow: ∃row,(dL ω lm)[i]? =some row∧bZ5 ks vs row=(e.key,e.val):=by
    have h1:=congrArg (fun l=>l[i]?) hrows
    simp only[A1,j8 hi,hei,Option.map_some]at h1
    cases hh:(dL ω lm)[i]? with
    |none=>rw[hh]at h1;cases h1
    |some row=>
     rw[hh,Option.map_some,b9]at h1
     exact⟨row,rfl,h1.symm⟩
   obtain⟨row,cl4,cl5⟩:=hrow
   have hvE:VR β1 (ω.upd sp.v0 [xa,xb,.vi i]) (bY1 ks vs lm (.va (sp.v0+2))) (.tuple #[e.key,e.val]):=by
    have:=d30 (β:=β1) (ω:=ω.upd sp.v0 [xa,xb,.vi i]) (ks:=ks) (vs:=vs) (l:=lm) (idx:= .va (sp.v0+2)) (i:=i) (by
     show((ω.upd sp.v0 [xa,xb,.vi i]).w (sp.v0+2)).toI=_
     rw[bh4 (j:=2) (x:= .vi i) rfl];rfl) (by rw[hlm];exact cl4)
    rw[cl5]at this
    exact this
   have f5:=FrP.put' f4 (some mo.d3) hvE
   refine aO7 (i:=0) (by rw[hop2];rfl) f4 mk.p3 nd3 hr3 ?_
   rw[mk.e3]
   have hΩ':=hΩ ω sp.v0 [xa,xb,.vi i] hω
   have hro3:((((R4 sp a h).a.put (some mo.d1) .any).put (some mo.d2) (.bool true)).put (some mo.d3) (bY1 ks vs lm (.va (sp.v0+2)))).ro=none:=by
    rw[Fr.put_ro,Fr.put_ro,Fr.put_ro,hd.ro]
   refine ho _ hΩ' RPT ao0 (TPT (ω.upd sp.v0 [xa,xb,.vi i]) (0,s2)) (ag7 _ _) mc.ops2 mc.r3 (0+1) _ _ _ (by rw[hop2];rfl) ⟨[],ab1,hstep⟩ _ w3 β1 _ w3 none _ r4 f5 (by rw[hro3];exact rfl) ?_
   intro a4 h4 β4 act4 w4 hT4 hf4 hr4' hst4
   refine hk _ hΩ' RPT ao0 (TPT (ω.upd sp.v0 [xa,xb,.vi i]) (0,s2)) (ag7 _ _) mc.rest (a4.back none) h4 (bB3 mc.bid (ai4 sp a h)) hT4 _ w3 β4 act4 w4 none _ hr4' (hf4.back none) (by rw[Fr.back_ro];exact rfl) ?_
   intro e5 a5 h5 β5 act5 w5 hT5 _ hf5 hr5 hst5
   have fin:TPT (ω.upd sp.v0 [xa,xb,.vi i]) (0,s2) (ai4 sp a h .norm a5 h5)→aj5 (Fen none) E.P (.seq (.region i1 mc.ops1 false) (.seq (.cond mc.tok .skip (.exit mc.xid)) (.block mc.bid (.seq (.region i2 mc.ops2 false) mc.rest)))) Q act5 w5:=by
    rintro⟨_,_,hke⟩
    replace hke:Q1 (bd1 sp a h .norm a5 h5) _=_:=hke
    obtain⟨hnd5,hke⟩:=aw2 hke
    obtain⟨hf6,_,_⟩:=hf5.norms hnd5
    obtain⟨β2,cv⟩:=b48 (sp:=sp) hf6 hr5
    simp only[az4]at hke
    split at hke
    ·rename_i es hes
     simp only[Q1,b9,i3,true_and]at hke
     have mm:=ab3 hes
     have hnt':(aT7 sp (V5 sp.owns a5 h5).2 h5).1.nt=a.nt:=by rw[←mm.nt,hd.nt]
     have k1:=mm.fr hd.pc (fun s hs=>⟨_,rfl,by rw[hd.hi s (by rw[←hnt'];exact hs)];exact ac3 (hd.un s (by rw[←hnt'];exact hs))⟩) cv.fr
     have k2:=mm.hr hd.fg cv.hr
     rw[hke,bt9]at k1 k2
     have hown: ∀b,b<n0→ ¬ ∃o∈sp.owns,b=o.blk:=by
      rintro b hb ⟨o,hm,rfl⟩
      have g1':=g1
      unfold bX9 at g1'
      obtain⟨g1',_⟩:=P8 g1'
      obtain⟨g1',_⟩:=P8 g1'
      obtain⟨g1',_⟩:=P8 g1'
      obtain⟨g1',_⟩:=P8 g1'
      obtain⟨g1',_⟩:=P8 g1'
      obtain⟨o0,_⟩:=P8 g1'
      rw[j5]at o0
      have:=Q2.1 (o0 o hm)
      omega
     have hβ2: ∀b,b<n0→β2 b=β b:=fun b hb=>by
      have hbn:b<(R4 sp a h).h.next:=by rw[hd.n];omega
      exact((cv.bij b (hown b hb)).trans (hst5.ext b (t7 hbn hst4.le))).trans ((hst4.ext b hbn).trans (hβ1 b hb))
     have hβc: ∀b,b<n0→(β2.cut (R4 sp a h).h.next) b=β b:=fun b hb=>by
      simp only[Bij.cut];rw[if_pos (by rw[hd.n];omega)];exact hβ2 b hb
     refine ih (j-1) (by omega) (p++[i]) s2 (by simp;omega) hpn' hpl' (bh9 hstep hrun) _ act5 w5 (seen.push e.born) k1 (HR.thaw r3 (fun z hz=> .inl hz) k2) hβc (fun b y M hy hb=> ?_) ((hr5.keep _ (.inr (.inl rfl))).trans hw3L) ((hr5.keep _ (.inr (.inr rfl))).trans ((hw3o _ hne).trans hmp)) (by rw[G1,hseen,o9];simp only[k6,G5];rw[hbe])
     by_cases hbn:b<n0
     ·rw[hβc b hbn]at hb
      exact hsep0 b y M hy hb
     ·have:=k2.free b y M hy (by rw[hd.wm];omega) hb
      exact⟨fun e=>this (.inr (.inl e)),fun e=>this (.inr (.inr e))⟩
    ·simp[Q1]at hke
   have bad: ∀ex,ex≠ .norm→ ¬TPT (ω.upd sp.v0 [xa,xb,.vi i]) (0,s2) (ai4 sp a h ex a5 h5):=by
    rintro ex hex ⟨_,_,hke⟩
    replace hke:Q1 (bd1 sp a h ex a5 h5) _=_:=hke
    have no: ∀e',Q1 (ap0 sp a h e' (aT7 sp (V5 sp.owns a5 h5).2 h5).1 (aT7 sp (V5 sp.owns a5 h5).2 h5).2 sp.exits 0) (ω.upd sp.v0 [xa,xb,.vi i])=some (0,s2)→False:=by
     intro e' hh
     obtain⟨i',x',es,q1,_⟩:=aw1 _ _ hh
     omega
    cases ex with
    |norm=>exact hex rfl
    |exit id=>exact no _ (aw2 hke).2
    |ret=>exact no _ (aw2 hke).2
   cases e5 with
   |norm=>exact fin hT5
   |ret=>exact absurd hT5 (bad .ret (by intro hh;cases hh))
   |exit i5=>
    replace hT5:TPT _ _ (bif Nat.beq i5 mc.bid then ai4 sp a h .norm a5 h5 else ai4 sp a h (.exit i5) a5 h5):=hT5
    show if i5=mc.bid then _ else _
    by_cases hi5:i5=mc.bid
    ·rw[if_pos hi5]
     rw[P9.2 hi5]at hT5
     exact fin hT5
    ·rw[bq6 hi5]at hT5
     exact absurd hT5 (bad (.exit i5) (by intro hh;cases hh))
 refine main _ [] _ (Nat.le_of_eq (j7 _).symm) .nil (fun i hi=>(by cases hi)) rfl (β.cut (R4 sp a h).h.next) act w #[] f1 r1 (fun b hb=>by simp only[Bij.cut];rw[if_pos (by rw[hd.n];omega)]) (fun b y M hy hb=>hsep0 b y M hy (by
   simp only[Bij.cut]at hb
   split at hb
   ·exact hb
   ·cases hb)) hobj hmobj rfl
theorem c71{n:Nat}{R:Type}{A:Alg R}{T:R→Prop}(hA:AlgOk A T ω){c:Code}{a:Fr}{h:Heap}{n0:Nat}{k:Ex→Fr→Heap→R}{sp:LSpec}(he:T (aK4 (ev E n) A n0 k sp a h (bM7 c))): ∀o∈sp.owns,n0≤o.blk:=by
 unfold aK4 at he
 split at he
 ·rename_i mc hmc
  unfold b20 at he
  split at he
  ·rename_i mo hmo
   split at he
   ·rename_i m hg1
    unfold b19 at he
    split at he
    ·rename_i it' d ks vs lm o hg2 hown
     cases hit:Nat.beq it' mo.it with
     |false=>rw[hit]at he;exact absurd he hA.bad
     |true=>
      rw[hit]at he
      simp only[cond_true]at he
      split at he
      ·rename_i x hex
       intro o' ho'
       rw[hown,o7]at ho'
       subst ho'
       unfold aG8 at he
       split at he
       ·rename_i xid _
        cases hcnd:(Nat.beq xid mc.xid&&bY3 (bY0 sp mo.it m o'.blk lm) a h n0 mo m o'.blk lm&&Nat.blt m x.2.next&&dc4 (bY0 sp mo.it m o'.blk lm) mo o'.blk a h x.2)with
        |false=>rw[hcnd]at he;exact absurd he hA.bad
        |true=>
         have h1:=(P8 (P8 (P8 hcnd).1).1).2
         unfold bY3 at h1
         have h2:=(P8 (P8 (P8 (P8 (P8 (P8 (P8 h1).1).1).1).1).1).1).1
         exact Q2.1 (P8 h2).2
       ·exact absurd he hA.bad
      ·exact absurd he hA.bad
    ·exact absurd he hA.bad
   ·exact absurd he hA.bad
  ·exact absurd he hA.bad
 ·exact absurd he hA.bad
theorem cs8{Ω:Opq→Prop}(hΩ: ∀ω v0 l,Ω ω→Ω (ω.upd v0 l))(hω:Ω ω){n:Nat}(hk: ∀ω',Ω ω'→ar7 E ω' n)(ho: ∀ω',Ω ω'→cB9 E ω' n){R:Type}{A:Alg R}{T:R→Prop}(hA:AlgOk A T ω)
 {c:Code} {a:Fr} {h hs:Heap} {n0:Nat} (hn0:n0=hs.next) {k:Ex→Fr→Heap→R} {sp:LSpec}
 (he:T (aK4 (ev E n) A n0 k sp a h (bM7 c))) {K:Nat→Prop} {w0:World} {β βs:Bij} {act:Act} {w:World} {Q:Exit→Act→World→Prop} (r:HR β ω K w0 h w) (f:FrR β ω a act) (st0:St hs βs h β) (q:KOk T ω K w0 hs βs none k Q):aj5 (Fen none) E.P c Q act w:=by
 unfold aK4 at he
 split at he
 ·rename_i mc hmc
  unfold b20 at he
  split at he
  ·rename_i mo hmo
   split at he
   ·rename_i m hg1
    unfold b19 at he
    split at he
    ·rename_i it' d ks vs lm o hg2 hown
     cases hit:Nat.beq it' mo.it with
     |false=>rw[hit]at he;exact absurd he hA.bad
     |true=>
      rw[hit]at he
      obtain rfl:=P9.1 hit
      simp only[cond_true]at he
      split at he
      ·rename_i x hex
       exact c70 hΩ hω hk ho hA hmc hn0 (sp:=bY0 sp mo.it m o.blk lm) (x:=x) hmo hg1 hg2 (by rw[hex];exact .head _) he r f st0 q
      ·exact absurd he hA.bad
    ·exact absurd he hA.bad
   ·exact absurd he hA.bad
  ·exact absurd he hA.bad
 ·exact absurd he hA.bad
end Go.Ev
