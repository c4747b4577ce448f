import Derived.Test.YtbfbcanipfnfeaaE26b
import Derived.Scope
import Derived.RangeFuncLeaves
import Derived.Maps.RangeRun
set_option linter.unusedSimpArgs false
set_option linter.unusedVariables false
namespace Go.Ev
open Go
variable{E:Env}{ω:Opq}
def ag7(F:Fence)(P:Program)(c:Code)(Q:Exit→Act→World→Prop)(a:Act)(w:World):Prop:=
 ∀(b:Frame) (k:List Item) (cs:List Frame),b.roundOf=F.round→F.fn b.fn→F.room (cs.length+1+0)→
  ∃e a' w',Q e a' w'∧ArrivesIn (Machine.fenced P F) P (lone (b.atR a (.code c:: .inLoop c::k)) cs w) b k cs e a' w'
theorem c11{F:Fence}{P:Program}{c:Code}{Q:Exit→Act→World→Prop}{a:Act}{w:World}(h:ag7 F P c Q a w):(Code.loop c).wpIn F 0 P Q a w:=by
 intro b k cs hro hb hr
 obtain⟨e,a',w',hq,harr⟩:=h b k cs hro hb hr
 exact⟨e,a',w',hq,.of_steps (.one (fenced_calm hb hr rfl) stepR_loop) harr⟩
theorem a95{F:Fence}{P:Program}{c:Code}{Q:Exit→Act→World→Prop}{a:Act}{w:World}(h:c.wpIn F 0 P (Exit.then (ag7 F P c Q) Q) a w):ag7 F P c Q a w:=by
 intro b k cs hro hb hr
 obtain⟨e,a₁,w₁,hq,harr⟩:=h b (.inLoop c::k) cs hro hb hr
 cases e with
 |normal=>
  obtain⟨e₂,a₂,w₂,hq₂,harr₂⟩:=hq b k cs hro hb hr
  exact⟨e₂,a₂,w₂,hq₂,.of_steps (StepsIn.trans harr (.one (fenced_calm hb hr rfl) stepR_inLoop)) harr₂⟩
 |exit id=>exact⟨_,a₁,w₁,hq,.pass (x:= .inLoop c) rfl (fun _ _=> .inl (by simp)) harr⟩
 |goto l=>exact⟨_,a₁,w₁,hq,.pass (x:= .inLoop c) rfl (fun _ _=> .inl (by simp)) harr⟩
 |ret=>exact⟨_,a₁,w₁,hq,.pass (x:= .inLoop c) rfl (fun _ _=> .inl (by simp)) harr⟩
 |panic ch=>exact⟨_,a₁,w₁,hq,.pass (x:= .inLoop c) rfl (fun _ _=> .inl (by simp)) harr⟩
 |outgrown=>exact⟨_,a₁,w₁,hq,.pass (x:= .inLoop c) rfl (fun _ _=> .inl (by simp)) harr⟩
section scope
variable{P:Program}{b:Frame}{a:Act}{k:List Item}{cs:List Frame}{w:World}
theorem a13{c:Code}:step P (lone (b.atR a (.code (.scope c)::k)) cs w)= .next (lone (b.atR a (.code c:: .inScope c::k)) cs w):=
 step_lone_go (by simp[stepG,stepG.exec,Frame.atR])
theorem b28{c:Code}:step P (lone (b.atR a (.inScope c::k)) cs w)= .next (lone (b.atR a k) cs w):=
 step_lone_go (by simp[stepG,stepG.exec,Frame.atR])
theorem bK0{F:Fence}{n:Nat}{Q:Exit→Act→World→Prop}{c:Code}(h:c.wpIn F n P (Exit.noGoto Q) a w):(Code.scope c).wpIn F n P Q a w:=by
 intro b k cs hro hb hr
 have h0:(lone (b.atR a (.code (.scope c)::k)) cs w).fenced P F:=fenced_calm hb hr rfl
 obtain⟨e,a₁,w₁,hq,harr⟩:=h b (.inScope c::k) cs hro hb hr
 cases e with
 |normal=>exact⟨.normal,a₁,w₁,hq,.head h0 a13 (StepsIn.trans harr (.one (fenced_calm hb hr rfl) b28))⟩
 |exit id=>
  have hx:exitTo id (.inScope c::k)=exitTo id k:=by simp[exitTo]
  exact⟨.exit id,a₁,w₁,hq,fun k' hk=> .head h0 a13 (harr.1 k' (by rw[hx];exact hk)),
    fun hr' hk=>let ⟨k₁,h1,h2⟩:=harr.2 hr' (by rw[hx];exact hk);⟨k₁,h1,.head h0 a13 h2⟩⟩
 |goto l=>exact hq.elim
 |ret=>exact⟨_,a₁,w₁,hq,.of_steps (.one h0 a13) harr⟩
 |panic ch=>exact⟨_,a₁,w₁,hq,.of_steps (.one h0 a13) harr⟩
 |outgrown=>exact⟨_,a₁,w₁,hq,.of_steps (.one h0 a13) harr⟩
end scope
def cj1(E:Env)(ω:Opq)(n:Nat):Prop:= ∀(R:Type) (A:Alg R) (T:R→Prop),AlgOk A T ω→ ∀(c:Code) (a:Fr) (h:Heap) (k:Ex→Fr→Heap→R),T (ev E n R A (.loop c a h k))→
 ∀(K:Nat→Prop) (w0:World) (β:Bij) (act:Act) (w:World) (ro:Option Nat) (Q:Exit→Act→World→Prop),HR β ω K w0 h w→FrR β ω a act→RoR β a.ro ro→KOk T ω K w0 h β a.ro k Q→ag7 (Fen ro) E.P c Q act w
def cs1(E:Env)(ω:Opq)(n:Nat):Prop:= ∀(R:Type) (A:Alg R) (T:R→Prop),AlgOk A T ω→ ∀(ops:Array Oper) (rest:List Oper) (i:Nat) (a:Fr) (h:Heap) (k:Fr→Heap→R),ops.toList.drop i=rest→T (ev E n R A (.ops ops.toList rest a h k))→
 ∀(K:Nat→Prop) (w0:World) (β:Bij) (act:Act) (w:World) (ro:Option Nat) (Q:Exit→Act→World→Prop),HR β ω K w0 h w→FrR β ω a act→RoR β a.ro ro→
  (∀a' h' β' act' w',T (k a' h')→FrR β' ω a' act'→HR β' ω K w0 h' w'→St h β h' β'→Q .normal act' w')→wpOpsIn (Fen ro) 0 E.P ops Q (List.range' i rest.length) act w
def b29(E:Env)(ω:Opq)(n:Nat):Prop:= ∀(R:Type) (A:Alg R) (T:R→Prop),AlgOk A T ω→ ∀(f:FuncId) (args:List AV) (h:Heap) (k:AV→Heap→R),T (ev E n R A (.body f args h k))→
 ∀(K:Nat→Prop) (w0:World) (β:Bij) (w:World) (us:List Value),HR β ω K w0 h w→VRs β ω args us→
  Calls E.P f us.toArray w (fun e w'=> ∃u β' v h',e= .returned u∧T (k v h')∧VR β' ω v u∧HR β' ω K w0 h' w'∧St h β h' β')
def c12(E:Env)(ω:Opq)(n:Nat):Prop:= ∀(R:Type) (A:Alg R) (T:R→Prop),AlgOk A T ω→ ∀(f:FuncId) (args:List AV) (h:Heap) (k:AV→Heap→R),T (ev E n R A (.dbody f args h k))→
 ∀(K:Nat→Prop) (w0:World) (β:Bij) (w:World) (us:List Value) (m:FrameMode),HR β ω K w0 h w→VRs β ω args us→
  CallsDIn Fence.wide 0 E.P f us.toArray m w (fun e m' w'=>m'=m∧ ∃u β' v h',e= .returned u∧T (k v h')∧VR β' ω v u∧HR β' ω K w0 h' w'∧St h β h' β')
def bz2(E:Env)(ω:Opq)(n:Nat):Prop:= ∀(R:Type) (A:Alg R) (T:R→Prop),AlgOk A T ω→ ∀(fn:Func) (a:Fr) (ds:List ADef) (h:Heap) (k:AV→Heap→R),T (ev E n R A (.leave fn.results.toList a ds h k))→
 ∀(K:Nat→Prop) (w0:World) (β:Bij) (act:Act) (w:World) (dd:List Deferred),HR β ω K w0 h w→FrR β ω a act→DsR β ω ds dd→
  LeavesInM Fence.wide 0 E.P fn act.tmps (fun e w'=> ∃u β' v h',e= .returned u∧T (k v h')∧VR β' ω v u∧HR β' ω K w0 h' w'∧St h β h' β') dd .returning w
theorem FrP.put'{β:Bij}{a:Fr}{act:Act}(f:FrR β ω a act)(dst:Option Tmp){v:AV}{u:Value}(r:VR β ω v u):FrR β ω (a.put dst v) (act.put dst u):=
 (FrP.put f dst r).weaken fun _ hh=>hh.1
theorem cj2(hE:E.Ok ω){n:Nat}(hc:GoS E ω n)(ho:cs1 E ω n):cs1 E ω (n+1):=by
 intro R A T hA ops rest i a h k hdrop he K w0 β act w ro Q r f hR hk
 cases rest with
 |nil=>exact hk a h β act w he f r (.refl _ _)
 |cons o rest=>
  have hlt:i<ops.toList.length:=by
   rcases d8 i ops.toList.length with hh|hh
   ·exact hh
   ·rw[E7 hh]at hdrop;cases hdrop
  have hcons:=K5 hlt
  rw[hdrop]at hcons
  obtain⟨e1,e2⟩:=G2 hcons
  have hoi:ops[i]? =some o:=by rw[e1];simp at hlt;simp[hlt]
  have hd2:ops.toList.drop (i+1)=rest:=e2.symm
  have he:T (cT9 E (ev E n) A ops.toList rest o a h k (P6 ops.toList a o)):=he
  cases hw:P6 ops.toList a o with
  |none=>
   rw[hw]at he
   replace he:T (bT7 (ev E n) A ops.toList (o::rest) a h k (b90 ops.toList a o)):=he
   cases hs:b90 ops.toList a o with
   |none=>rw[hs]at he;exact absurd he hA.bad
   |some e=>
    rw[hs]at he
    obtain⟨h1,h2⟩:=hA.ite _ _ _ he
    cases hd:dB ω e with
    |true=>exact ho R A T hA ops (o::rest) i _ h k hdrop (h1 hd) K w0 β act w ro Q r (f.cond hd) (by rw[Fr.cond_ro];exact hR) hk
    |false=>exact ho R A T hA ops (o::rest) i _ h k hdrop (h2 hd) K w0 β act w ro Q r (f.cond hd) (by rw[Fr.cond_ro];exact hR) hk
  |some b=>
   rw[hw]at he
   simp only[List.length_cons,B1]
   show(match ops[i]? with
    |none=>_
    |some o=>_)
   rw[hoi]
   simp only[]
   rw[aW0 f rfl hw]
   cases b with
   |false=>
    simp only[i4,if_false]
    exact⟨fun _ _=>trivial,ho R A T hA ops rest (i+1) _ h k hd2 he K w0 β _ w ro Q r (f.put' o.dst ⟨#[],rfl,rfl⟩) (by rw[Fr.put_ro];exact hR) hk⟩
   |true=>
    simp only[if_true]
    have fin: ∀res,S5 E a.ev o h=res→SOk E β ω K w0 w h (execOp act.eval o) res→T (d43 (ev E n) A h (kOp (ev E n) A ops.toList rest o.dst a k) res)→
     o.wpIn (Fen ro) 0 E.P act w (wpOpsIn (Fen ro) 0 E.P ops Q (List.range' (i+1) rest.length)) Q:=by
     intro res hres hs he
     refine cV7 hA hc r hres hs he ?_
     intro β' v u h' w' hkk hv hr' hst'
     exact ho R A T hA ops rest (i+1) _ h' k hd2 hkk K w0 β' _ w' ro Q hr' ((f.mono (hst'.Le r)).put' o.dst hv) (by rw[Fr.put_ro];exact hR.mono (hst'.Le r)) fun a2 h2 β2 act2 w2 g1 g2 g3 g4=>hk a2 h2 β2 act2 w2 g1 g2 g3 (hst'.trans g4)
    replace he:T (oGo (ev E n) A ops.toList rest o.dst a h k (S5 E a.ev o h)):=he
    have hs:=bc3 hE r f.opR o
    generalize hres:S5 E a.ev o h=res at he hs
    cases res with
    |defer d=>
     obtain⟨dd,hrun,hd⟩:=hs
     simp only[oGo]at he
     cases hro:a.ro with
     |some l=>rw[hro]at he;exact absurd he hA.bad
     |none=>
      rw[hro]at he hR
      obtain rfl:ro=none:=hR
      refine⟨fun _ _=>trivial,?_⟩
      show Oper.uponIn (Fen none) 0 E.P o act _ Q ((execOp act.eval o).run E.P w)
      rw[hrun,Oper.uponIn_defer]
      exact ho R A T hA ops rest (i+1) _ h k hd2 he K w0 β _ w none Q r (FrP.put' (f.mark1 hd) o.dst ⟨#[],rfl,rfl⟩) (by rw[Fr.put_ro,Fr.mark_ro,hro];exact rfl) hk
    |val v h'=>exact fin _ hres hs he
    |need e v h'=>exact fin _ hres hs he
    |cho e v l h'=>exact fin _ hres hs he
    |enter g args=>exact fin _ hres hs he
    |choice l=>exact fin _ hres hs he
    |yield l args=>exact fin _ hres hs he
    |bad=>exact fin _ hres hs he
theorem bo3(ω:Opq)(v0:Nat)(a b:List Val):(ω.upd v0 a).upd v0 b=ω.upd v0 b:=by
 unfold Opq.upd
 congr 1
 funext n
 by_cases h:v0≤n
 ·simp only[if_pos h]
 ·simp only[if_neg h]
theorem V7: ∀(l:List (Nat×Option Blk)) (h:Heap) (n:Nat),(∀p∈l,p.1<n)→(∀b,n≤b→h.get b=none)→ ∀b,n≤b→(Z1 h l).get b=none
 | [],h,n,_,hh,b,hb=>hh b hb
 |(t,v)::r,h,n,hl,hh,b,hb=>by
  simp only[Z1]
  refine V7 r _ n (fun p hp=>hl p (.tail _ hp)) (fun b hb=> ?_) b hb
  have:=hl (t,v) (.head _)
  rw[Heap.get_put,if_neg (by simp only at this;omega)]
  exact hh b hb
theorem bd5{β:Bij}{a:Fr}{act:Act}(f:FrR β ω a act){b:Nat}: ∀(n:Nat),bv2 a b n=true→β b≠none
 |0,h=>by cases h
 |n+1,h=>by
  simp only[bv2,j8]at h
  rcases h with h|h
  ·have r:=f.slot n id
   split at h
   ·rename_i b' o hs
    rw[hs]at r
    obtain⟨L,hL,_⟩:=r
    obtain rfl:=M8.1 h
    rw[hL];simp
   ·rename_i b' hs
    rw[hs]at r
    obtain⟨L,hL,_⟩:=r
    obtain rfl:=M8.1 h
    rw[hL];simp
   ·cases h
  ·exact bd5 f n h
theorem bo4{β:Bij}{q:AV→Bool}: ∀{as:List AV} {us:List Value},VRs β ω as us→as.any q=true→ ∃a u,q a=true∧VR β ω a u
 | [],_,_,h=>by cases h
 |a::as,_,hr,h=>by
  obtain⟨u,ur,rfl,h1,h2⟩:=hr
  rw[List.any_cons,j8]at h
  rcases h with h|h
  ·exact⟨a,u,h,h1⟩
  ·exact bo4 h2 h
theorem aM0{β:Bij}{K:Nat→Prop}{w0 w:World}{a:Fr}{h:Heap}{act:Act}(r:HR β ω K w0 h w)(f:FrR β ω a act){b:Nat}: ∀(n:Nat),bv3 a h b n=true→β b≠none
 |0,e=>by cases e
 |n+1,e=>by
  simp only[bv3,j8]at e
  rcases e with e|e
  ·have rs:=f.slot n id
   split at e
   ·rename_i fn x l hs
    rw[hs]at rs
    obtain⟨_,_,_,_,_,hc⟩:=rs
    obtain⟨av,u,h1,h2⟩:=bo4 hc e
    unfold cq1 at h1
    split at h1
    ·rename_i c o
     obtain⟨L,hL,_⟩:=h2
     unfold cS4 at h1
     split at h1
     ·rename_i e0 fz cs hg
      obtain⟨C,lo,hi,vs,q1,q2,q3,q4,q5,q6⟩:=r.blk c _ L hg hL
      obtain⟨m,v,h3,h4⟩:=bo4 q5 h1
      unfold cS3 at h3
      split at h3
      ·rename_i b'
       obtain⟨M,hM,_⟩:=h4
       obtain rfl:=M8.1 h3
       rw[hM];simp
      ·cases h3
     ·cases h1
    ·cases h1
   ·cases e
  ·exact aM0 r f n e
theorem ag8{β:Bij}{K:Nat→Prop}{w0 w:World}{a:Fr}{h:Heap}{n0:Nat}{act:Act}(r:HR β ω K w0 h w)(f:FrR β ω a act){next:Nat}{l:List (Nat×Option Blk)}(e:bv4 a h n0 next l=true):(∀p∈l,p.1<next)∧ ∀p∈l,p.1<n0→β p.1≠none∨ ∃e sig x,h.get p.1=some (.arr e sig x):=by
 unfold bv4 at e
 rw[i6]at e
 refine⟨fun p hp=> ?_,fun p hp hlt=> ?_⟩
 ·have:=(M6 (e p hp)).1
  exact N9.1 this
 ·have:=(M6 (e p hp)).2
  rw[j8,j8,j8,N1]at this
  rcases this with((h1|h1)|h1)|h1
  ·omega
  ·exact .inl (bd5 f _ h1)
  ·right
   unfold cS2 at h1
   split at h1
   ·rename_i hg;exact⟨_,_,_,hg⟩
   ·cases h1
  ·exact .inl (aM0 r f _ h1)
theorem bo5{v0 nb:Nat}{a:Fr}: ∀{n:Nat},cx4 v0 nb a n=true→ ∀s,s<n→okA v0 nb (a.slot s)=true
 |0,_,s,hs=>by omega
 |n+1,h,s,hs=>by
  simp only[cx4,d6]at h
  by_cases e:s=n
  ·subst e;exact h.1
  ·exact bo5 h.2 s (by omega)
theorem c13{v0 nb:Nat}{h0:Heap}: ∀{n:Nat},d38 v0 nb h0 n=true→ ∀s,s<n→okB v0 nb (h0.get s)=true
 |0,_,s,hs=>by omega
 |n+1,h,s,hs=>by
  simp only[d38,d6]at h
  by_cases e:s=n
  ·subst e;exact h.1
  ·exact c13 h.2 s (by omega)
theorem bo6{β β':Bij}{ω ω':Opq}{v0 nb:Nat}(g:Agr v0 ω ω')(hb: ∀b,b<nb→β' b=β b){L:Loc}{o:Option Obj}{x:Blk}(h:okB v0 nb (some x)=true)(r:BR β ω L o x):BR β' ω' L o x:=by
 cases x with
 |cells e fz cs=>
  obtain⟨C,lo,hi,vs,q1,q2,q3,q4,q5,q6,q7,q8⟩:=r
  exact⟨C,lo,hi,vs,q1,q2,q3,q4,ak1 g hb cs vs h q5,q6,q7,by rw[g.fix];exact q8⟩
 |arr e sig l=>
  obtain⟨C,e',lo,hi,q1,q0,q2,q3,q4,q5⟩:=r
  have hd:dL ω' l=dL ω l:=by unfold dL;rw[a78 g l h]
  exact⟨C,e',lo,hi,q1,q0,q2,by rw[hd];exact q3,by rw[hd];exact q4,q5⟩
 |map es c=>
  obtain⟨Es,q1,q2⟩:=r
  exact⟨Es,q1,as3 g hb h q2⟩
 |marr d ks vs l=>
  obtain⟨Es,c,q1,q2,q3⟩:=r
  exact⟨Es,c,q1,by rw[show dL ω' l=dL ω l by unfold dL;rw[a78 g l h]];exact q2,q3⟩
 |bag e sig l=>
  obtain⟨D,q,r⟩:=r
  exact⟨D,by rw[show dL ω' l=dL ω l by unfold dL;rw[a78 g l h]];exact q,r⟩
 |_=>cases h
theorem as6{sp:LSpec}{a a':Fr}{h h':Heap}{e:Ex}{m:Nat}{p:List Val}: ∀(l:List (Ex×StP)) (j:Nat),N0 (am2 sp a h e a' h' l j) ω=some (m,p)→
 ∃i x es,m=j+i+1∧l[i]? =some x∧bG9 x.1 e=true∧a67 sp.v0 (T3 sp a h x.2).a (T3 sp a h x.2).h a' h'=some es∧p=N2 ω es
 | [],j,he=>by simp[am2,N0]at he
 |x::r,j,he=>by
  have tail:N0 (am2 sp a h e a' h' r (j+1)) ω=some (m,p)→ ∃i y es,m=j+i+1∧(x::r)[i]? =some y∧bG9 y.1 e=true∧a67 sp.v0 (T3 sp a h y.2).a (T3 sp a h y.2).h a' h'=some es∧p=N2 ω es:=by
   intro hh
   obtain⟨i,y,es,h1,h2,h3⟩:=as6 r (j+1) hh
   exact⟨i+1,y,es,by omega,by simpa using h2,h3⟩
  simp only[am2]at he
  cases hx:bG9 x.1 e with
  |false=>rw[hx]at he;exact tail he
  |true=>
   rw[hx]at he
   simp only[cond_true]at he
   split at he
   ·rename_i es hes
    simp only[N0,a8,d7]at he
    exact⟨0,x,es,by omega,rfl,hx,hes,he.2.symm⟩
   ·exact tail he
theorem cj3: ∀{a b:Ex},bG9 a b=true→a=b
 | .norm,.norm,_=>rfl
 | .ret,.ret,_=>rfl
 | .exit a,.exit b,h=>by simp only[bG9]at h;rw[M8.1 h]
 | .norm,.ret,h=>by cases h
 | .norm,.exit _,h=>by cases h
 | .ret,.norm,h=>by cases h
 | .ret,.exit _,h=>by cases h
 | .exit _,.norm,h=>by cases h
 | .exit _,.ret,h=>by cases h
theorem FrR.norm1{ω:Opq}{β:Bij}{o:OwnP}{a:Fr}{h:Heap}{act:Act}(f:FrR β ω a act)(hd:dB ω (ae2 o a h).1=true):FrR β ω (ae2 o a h).2 act∧(ae2 o a h).2.nt=a.nt∧(ae2 o a h).2.pc=a.pc∧(ae2 o a h).2.ds=a.ds∧(ae2 o a h).2.ro=a.ro:=by
 unfold ae2 at hd⊢
 split
 ·rename_i r len s ho hs
  rw[ho,hs]at hd
  simp only at hd
  split
  ·rename_i e sig l hg
   rw[hg]at hd
   simp only at hd
   cases hq:(Nat.beq r o.blk||SX.beq len (.op .llen [l]))with
   |true=>exact⟨f,rfl,rfl,rfl,rfl⟩
   |false=>
    rw[hq]at hd
    simp only[cond_false]at hd⊢
    have hlen:dI ω len=dI ω (.op .llen [l]):=of_decide_eq_true hd
    refine⟨⟨by rw[Fr.put_nt];exact f.size,by rw[Fr.put_nt];exact f.lim,fun t w=> ?_,by rw[Fr.put_ds];exact f.defers,fun p hp=>f.pcs p (by rw[Fr.put_pc]at hp;exact hp)⟩,Fr.put_nt _ _ _,Fr.put_pc _ _ _,Fr.put_ds _ _ _,Fr.put_ro _ _ _⟩
    have:=f.slot t w
    rw[Fr.put_slot f.lim]
    by_cases ht:some o.slot=some t∧t<a.nt
    ·rw[if_pos ht]
     obtain⟨e1,_⟩:=ht
     simp only[a8]at e1;subst e1
     rw[hs]at this
     simp only[VR]at this⊢
     rw[←hlen];exact this
    ·rw[if_neg ht];exact this
  ·exact⟨f,rfl,rfl,rfl,rfl⟩
 ·exact⟨f,rfl,rfl,rfl,rfl⟩
theorem FrR.norms{ω:Opq}{β:Bij}{h:Heap}{act:Act}: ∀{os:List OwnP} {a:Fr},FrR β ω a act→dB ω (R6 os a h).1=true→FrR β ω (R6 os a h).2 act∧(R6 os a h).2.nt=a.nt∧(R6 os a h).2.pc=a.pc∧(R6 os a h).2.ds=a.ds∧(R6 os a h).2.ro=a.ro
 | [],a,f,_=>⟨f,rfl,rfl,rfl,rfl⟩
 |o::r,a,f,hd=>by
  simp only[R6]at hd⊢
  have hd2:dB ω (ae2 o a h).1=true∧dB ω (R6 r (ae2 o a h).2 h).1=true:=by
   unfold aG1 at hd
   split at hd
   ·rename_i e1;rw[e1];exact⟨rfl,hd⟩
   ·split at hd
    ·rename_i e2;rw[e2];exact⟨hd,rfl⟩
    ·have:dB ω (.op .and [(ae2 o a h).1,(R6 r (ae2 o a h).2 h).1])=true:=hd
     exact M6 this
  obtain⟨f1,e1,e2,e3,e4⟩:=f.norm1 hd2.1
  obtain⟨f2,g1,g2,g3,g4⟩:=FrR.norms f1 hd2.2
  exact⟨f2,g1.trans e1,g2.trans e2,g3.trans e3,g4.trans e4⟩
theorem as7{ω:Opq}{e:SX}{x:VT}{p:Nat×List Val}(h:N0 (cd7 e x) ω=some p):dB ω e=true∧N0 x ω=some p:=by
 unfold cd7 at h
 cases hs:bH0 e with
 |true=>rw[hs]at h;exact⟨bx8 hs,h⟩
 |false=>
  rw[hs]at h
  simp only[cond_false,N0]at h
  cases hc:dB ω e with
  |true=>rw[hc]at h;exact⟨rfl,h⟩
  |false=>rw[hc]at h;cases h
theorem c14{a:Fr}{h hs:Heap}{n0:Nat}(hn0:n0=hs.next){sp:LSpec}(hok:bS7 sp a h n0=true){K:Nat→Prop}{w0:World}{β βs:Bij}{act:Act}{w:World}(r:HR β ω K w0 h w)(f:FrR β ω a act)(st0:St hs βs h β)
 {s0:List SX} {xp:Ex×StP} (hxm:xp∈sp.exits) {i:Nat} {p:List Val} (hlink:ω.f sp.id (N2 ω (s0++sp.fv))=S6 (i,p)):
 ∀(vs:List Val) (β':Bij) (a':Fr) (h':Heap) (act':Act) (w':World) (es:List SX),a67 sp.v0 (T3 sp a h xp.2).a (T3 sp a h xp.2).h a' h'=some es→N2 (ω.upd sp.v0 vs) es=p→
  FrR β' (ω.upd sp.v0 vs) a' act'→HR β' (ω.upd sp.v0 vs) K w0 h' w'→(∀b,b<n0→β' b=β b)→
  (ae9 sp (a08 sp.id (s0++sp.fv)) a h xp.2).a.ro=none∧FrR (β'.cut xp.2.next) ω (ae9 sp (a08 sp.id (s0++sp.fv)) a h xp.2).a act'∧HR (β'.cut xp.2.next) ω K w0 (ae9 sp (a08 sp.id (s0++sp.fv)) a h xp.2).h w'∧St hs βs (ae9 sp (a08 sp.id (s0++sp.fv)) a h xp.2).h (β'.cut xp.2.next):=by
 unfold bS7 at hok
 obtain⟨hok,o5⟩:=M6 hok
 obtain⟨hok,o4⟩:=M6 hok
 obtain⟨hok,o6⟩:=M6 hok
 obtain⟨hds,hro⟩:=a62 o6
 obtain⟨hok,o3⟩:=M6 hok
 obtain⟨hok,o2⟩:=M6 hok
 obtain⟨o0,o1⟩:=M6 hok
 rw[i6]at o0
 have hnn:n0≤h.next:=by rw[hn0];exact st0.le
 have hown: ∀b,b<n0→ ¬ ∃o∈sp.owns,b=o.blk:=by
  rintro b hb ⟨o,hm,rfl⟩
  have:=N1.1 (o0 o hm)
  omega
 rw[i6]at o2
 have hlim:=f.lim
 have hb1:=ag8 r f o1
 have hJn:(O4 sp a h).h.next=h.next:=ak2 _ _
 have hJfg: ∀b,(O4 sp a h).h.next≤b→(O4 sp a h).h.get b=none:=by
  intro b hb
  rw[hJn]at hb
  exact V7 _ _ h.next hb1.1 (fun b hb=>r.fget b hb) b hb
 have hbase: ∀s,a.nt≤s→((Q3 sp a h).a.slot s=a.slot s):=by
  intro s hs
  show(layDead (layDead a sp.dead) _).slot s=_
  rw[U8 _ _ (by rw[P7];exact hlim) s (by rw[P7];exact hs),U8 _ _ hlim s hs]
 have hhiA: ∀(g:Fr),g.nt=a.nt→ ∀s,a.nt≤s→g.slot s=a.slot s→ ∃x,g.slot s=x∧VR β ω x Go.undef:=by
  intro g _ s hs e
  refine⟨a.slot s,e,?_⟩
  have:=f.slot s id
  rw[k7,s6 (by rw[f.size];exact hs)]at this
  exact this
 have hJhi: ∀s,a.nt≤s→(O4 sp a h).a.slot s=a.slot s:=by
  intro s hs
  show((U0 (layDead a sp.dead) sp.head.slots).clear).slot s=_
  rw[Fr.clear_slot,a12 _ _ (by rw[P7];exact hlim) s (by rw[P7];exact hs),U8 _ _ hlim s hs]
 have hJnt:(O4 sp a h).a.nt=a.nt:=by
  show((U0 (layDead a sp.dead) sp.head.slots).clear).nt=_
  rw[Fr.clear_nt,ad4,P7]
 have hJpc:(O4 sp a h).a.pc=[]:=Fr.clear_pc _
 have hJro:(O4 sp a h).a.ro=none:=by
  show((U0 (layDead a sp.dead) sp.head.slots).clear).ro=none
  rw[Fr.clear_ro,as5,Y5];exact hro
 have hundef: ∀s,a.nt≤s→VR β ω (a.slot s) Go.undef:=by
  intro s hs
  have:=f.slot s id
  rw[k7,s6 (by rw[f.size];exact hs)]at this
  exact this
 have hXpc:(T3 sp a h xp.2).a.pc=[]:=Fr.clear_pc _
 have hBnt:(Q3 sp a h).a.nt=a.nt:=by
  show(layDead (layDead a sp.dead) _).nt=_
  rw[P7,P7]
 have hXnt:(T3 sp a h xp.2).a.nt=a.nt:=by
  show((U0 (Q3 sp a h).a xp.2.slots).clear).nt=_
  rw[Fr.clear_nt,ad4,hBnt]
 have hBds:(Q3 sp a h).a.ds=[]:=by
  show(layDead (layDead a sp.dead) _).ds=_
  rw[a61,a61];exact hds
 have hBro:(Q3 sp a h).a.ro=none:=by
  show(layDead (layDead a sp.dead) _).ro=_
  rw[Y5,Y5];exact hro
 have hXds:(T3 sp a h xp.2).a.ds=[]:=by
  show((U0 (Q3 sp a h).a xp.2.slots).clear).ds=_
  rw[Fr.clear_ds,as4,hBds]
 have hXhi: ∀s,a.nt≤s→(T3 sp a h xp.2).a.slot s=a.slot s:=by
  intro s hs
  show((U0 (Q3 sp a h).a xp.2.slots).clear).slot s=_
  rw[Fr.clear_slot,a12 _ _ (by rw[hBnt];exact hlim) s (by rw[hBnt];exact hs),hbase s hs]
 have o2x:=M6 (o2 xp hxm)
 have hnx:h.next≤xp.2.next:=N1.1 o2x.1
 have hb2:=ag8 r f o2x.2
 have hBfg: ∀b,h.next≤b→(Q3 sp a h).h.get b=none:=by
  intro b hb
  refine V7 _ _ h.next (fun p hp=> ?_) (fun b hb=>r.fget b hb) b hb
  obtain⟨p',hp',rfl⟩:=k9.1 hp
  exact hb1.1 p' hp'
 have hXfg: ∀b,(T3 sp a h xp.2).h.next≤b→(T3 sp a h xp.2).h.get b=none:=by
  intro b hb
  have hb:xp.2.next≤b:=hb
  show((Z1 (Q3 sp a h).h xp.2.blks).upto xp.2.next).get b=none
  rw[Heap.get_upto]
  exact V7 _ _ xp.2.next hb2.1 (fun b hb=>hBfg b (by omega)) b hb
 intro vs β' a' h' act' w' es hes hp hf hr hβ
 have m:=a79 hes
 have hnt':a'.nt=a.nt:=by rw[←m.nt,hXnt]
 have g1:=m.fr hXpc (fun s hs=>⟨_,rfl,by rw[hXhi s (by rw[←hnt'];exact hs)];exact a94 (hundef s (by rw[←hnt'];exact hs))⟩) hf
 have g2:=m.hr hXfg hr
 rw[hp,bo3]at g1 g2
 have hXn:(T3 sp a h xp.2).h.next=xp.2.next:=Heap.next_upto _ _
 rw[hXn]at g1 g2
 have ag:Agr sp.v0 ω (ω.upd sp.v0 p):=aL7 ω sp.v0 p
 have hq: ∀j e,es[j]? =some e→den ω (a08 sp.id (s0++sp.fv) (0+j))=(ω.upd sp.v0 p).w (sp.v0+(0+j)):=by
  intro j e hj
  have hlt:j<p.length:=by
   rw[←hp,aL8]
   rcases d8 j es.length with hh|hh
   ·exact hh
   ·rw[j7 hh]at hj;cases hj
  rw[i3,bd1 (j0 hlt)]
  show Q5 (ω.f sp.id (N2 ω (s0++sp.fv))).toL 1 j=_
  rw[hlink]
  simp[S6,Q5,Val.toL,d9,j0 hlt]
 refine⟨?_,?_,?_,?_⟩
 ·show(U0 (Q3 sp a h).a _).ro=none
  rw[as5,hBro]
 ·
  have hOnt:(ae9 sp (a08 sp.id (s0++sp.fv)) a h xp.2).a.nt=a.nt:=by
   show(U0 (Q3 sp a h).a _).nt=_
   rw[ad4,hBnt]
  refine⟨by rw[hOnt,←hXnt];exact g1.size,by rw[hOnt];exact hlim,fun t _=> ?_,?_,fun pp hpp=> ?_⟩
  ·have gt:=g1.slot t id
   by_cases ht:t<a.nt
   ·have hXs:(T3 sp a h xp.2).a.slot t=(U0 (Q3 sp a h).a xp.2.slots).slot t:=Fr.clear_slot _ _
    rcases aW3 (aG6 sp.v0 (a08 sp.id (s0++sp.fv))) xp.2.slots (Q3 sp a h).a (Q3 sp a h).a t (by rw[hBnt];exact hlim) rfl (by rw[hBnt];exact ht) (.inr rfl)with e|⟨e1,e2⟩
    ·show VR _ ω ((U0 (Q3 sp a h).a (xp.2.slots.map fun p=>(p.1,aG6 sp.v0 (a08 sp.id (s0++sp.fv)) p.2))).slot t) _
     rw[e,←hXs]
     obtain⟨n',es',z1,z2⟩:=m.sl (fun j e=>den ω (a08 sp.id (s0++sp.fv) j)=(ω.upd sp.v0 p).w (sp.v0+j)) hq t (by rw[hnt'];exact ht)
     exact by4 ag n' _ _ es' _ z1 z2 gt
    ·show VR _ ω ((U0 (Q3 sp a h).a (xp.2.slots.map fun p=>(p.1,aG6 sp.v0 (a08 sp.id (s0++sp.fv)) p.2))).slot t) _
     rw[e1]
     rw[hXs,e2]at gt
     exact ag6 (β':=β'.cut xp.2.next) ag.symm (fun _ _=>rfl) _ _ (bo5 o4 t ht) gt
   ·have ht:=A8 ht
    have e:(ae9 sp (a08 sp.id (s0++sp.fv)) a h xp.2).a.slot t=a.slot t:=by
     show(U0 (Q3 sp a h).a _).slot t=_
     rw[a12 _ _ (by rw[hBnt];exact hlim) t (by rw[hBnt];exact ht),hbase t ht]
    rw[e,k7,s6 (by rw[g1.size,hXnt];exact ht)]
    exact a94 (hundef t ht)
  ·have:=g1.defers
   rw[hXds]at this
   show DsR _ ω (U0 (Q3 sp a h).a _).ds act'.defers
   rw[as4,hBds];exact this
  ·have e:(ae9 sp (a08 sp.id (s0++sp.fv)) a h xp.2).a.pc=a.pc:=by
    show(U0 (layDead (layDead a sp.dead) _) _).pc=_
    rw[by5,ax3,ax3]
   rw[e]at hpp
   exact f.pcs pp hpp
 ·
  have hOn:(ae9 sp (a08 sp.id (s0++sp.fv)) a h xp.2).h.next=xp.2.next:=Heap.next_upto _ _
  have hOwm:(ae9 sp (a08 sp.id (s0++sp.fv)) a h xp.2).h.wm=(T3 sp a h xp.2).h.wm:=by
   show((Z1 (Q3 sp a h).h _).upto _).wm=((Z1 (Q3 sp a h).h _).upto _).wm
   rw[Heap.wm_upto,Heap.wm_upto,ak3,ak3]
  have key: ∀b y,(ae9 sp (a08 sp.id (s0++sp.fv)) a h xp.2).h.get b=some y→ ∃z,(T3 sp a h xp.2).h.get b=some z∧(∀L o,BR (β'.cut xp.2.next) (ω.upd sp.v0 p) L o z→BR (β'.cut xp.2.next) ω L o y)∧z.isArr=y.isArr:=by
   intro b y hy
   have hXs:(T3 sp a h xp.2).h.get b=(Z1 (Q3 sp a h).h xp.2.blks).get b:=Heap.get_upto _ _ _
   have hOs:(ae9 sp (a08 sp.id (s0++sp.fv)) a h xp.2).h.get b=(Z1 (Q3 sp a h).h (xp.2.blks.map fun p=>(p.1,bj9 sp.v0 (a08 sp.id (s0++sp.fv)) p.2))).get b:=Heap.get_upto _ _ _
   rw[hOs]at hy
   have hblt:b<xp.2.next:=by
    rcases d8 b xp.2.next with hh|hh
    ·exact hh
    ·exfalso
     rw[V7 _ _ xp.2.next (fun p hp=>by
      obtain⟨p',hp',rfl⟩:=k9.1 hp
      exact hb2.1 p' hp') (fun b hb=>hBfg b (by omega)) b hh]at hy
     cases hy
   rcases aW4 (bj9 sp.v0 (a08 sp.id (s0++sp.fv))) rfl xp.2.blks (Q3 sp a h).h (Q3 sp a h).h b (.inr rfl)with e|⟨e1,e2⟩
   ·rw[e,←hXs]at hy
    cases hz:(T3 sp a h xp.2).h.get b with
    |none=>rw[hz]at hy;cases hy
    |some z=>
     refine⟨z,rfl,fun L o hbr=> ?_,bJ9 (by rw[hz]at hy;exact hy)⟩
     obtain⟨n',es',z1,z2⟩:=m.hp (fun j e=>den ω (a08 sp.id (s0++sp.fv) j)=(ω.upd sp.v0 p).w (sp.v0+j)) hq b (by rw[hXn];exact hblt)
     rw[hz]at z1 hy
     simp only[aS5]at z1
     split at z1
     ·obtain⟨p',z3,z4⟩:=ci6 (β:=β'.cut xp.2.next) ag z1 z2 hbr
      rw[z3,a8]at hy
      rw[←hy];exact z4
     ·cases z1
   ·rw[e1]at hy
    refine⟨y,by rw[hXs,e2];exact hy,fun L o hbr=> ?_,rfl⟩
    have hb:b<h.next:=by
     rcases d8 b h.next with hh|hh
     ·exact hh
     ·rw[hBfg b hh]at hy;cases hy
    have:=c13 o5 b hb
    rw[hy]at this
    exact bo6 ag.symm (fun _ _=>rfl) this hbr
  refine⟨fun b y L hg hb=> ?_,fun b b1 y y1 L L1 hg hg1 hb hb1 hne hw=> ?_,fun b hb=>g2.fresh b (by rw[hXn];rw[hOn]at hb;exact hb),fun b hb=> ?_,g2.lt,g2.kin,g2.keep,fun b y L hg hw hb=> ?_,g2.size,g2.os,g2.tape,g2.out,g2.dr⟩
  ·obtain⟨z,z1,z2,_⟩:=key b y hg
   exact z2 L _ (g2.blk b z L z1 hb)
  ·obtain⟨z,z1,_,k1⟩:=key b y hg
   obtain⟨z',z1',_,k2⟩:=key b1 y1 hg1
   exact g2.sep b b1 z z' L L1 z1 z1' hb hb1 hne (by rw[k1,k2,←hOwm];exact hw)
  ·rw[hOn]at hb
   show((Z1 (Q3 sp a h).h _).upto _).get b=none
   rw[Heap.get_upto]
   refine V7 _ _ xp.2.next (fun p hp=> ?_) (fun b hb=>hBfg b (by omega)) b hb
   obtain⟨p',hp',rfl⟩:=k9.1 hp
   exact hb2.1 p' hp'
  ·obtain⟨z,z1,_⟩:=key b y hg
   exact g2.free b z L z1 (by rw[←hOwm];exact hw) hb
 ·have hun: ∀b,b<n0→βs b=none→β b=none:=fun b hb hn=>(st0.ext b (by omega)).trans hn
  refine⟨by show hs.next≤((Z1 (Q3 sp a h).h _).upto xp.2.next).next;rw[Heap.next_upto];omega,fun b hb=>by simp only[Bij.cut];rw[if_pos (by omega)];exact(hβ b (by omega)).trans (st0.ext b hb),fun b hb hn=> ?_,?_⟩
  ·have hb:b<n0:=by omega
   have hst:=st0.unm b (by omega) hn
   by_cases har: ∃e sig x,h.get b=some (.arr e sig x)
   ·obtain⟨e,sg,x,har⟩:=har
    right;right
    rcases hst with q|q|q
    ·exact⟨e,sg,x,q.symm.trans har⟩
    ·rw[q]at har;cases har
    ·exact q
   have no: ∀p':Nat×Option Blk,p'.1=b→(β p'.1≠none∨ ∃e sig x,h.get p'.1=some (.arr e sig x))→False:=by
    rintro p' rfl (q|q)
    ·exact q (hun _ hb hn)
    ·exact har q
   have e:((Z1 (Q3 sp a h).h (xp.2.blks.map fun p=>(p.1,bj9 sp.v0 (a08 sp.id (s0++sp.fv)) p.2))).upto xp.2.next).get b=h.get b:=by
    rw[Heap.get_upto,ao8 _ _ _ fun p hp e=>by
     obtain⟨p',hp',rfl⟩:=k9.1 hp
     exact no p' e (hb2.2 p' hp' (by simp only at e;rw[e];exact hb))]
    show(Z1 h _).get b=_
    exact ao8 _ _ _ fun p hp e=>by
     obtain⟨p',hp',rfl⟩:=k9.1 hp
     exact no p' e (hb1.2 p' hp' (by simp only at e;rw[e];exact hb))
   rcases hst with q|q|q
   ·exact .inl (e.trans q)
   ·exact .inr (.inl (e.trans q))
   ·exact .inr (.inr q)
  ·show((Z1 (Q3 sp a h).h _).upto _).wm=_
   rw[Heap.wm_upto,ak3]
   exact(ak3 _ _).trans st0.wm
theorem cj4{Ω:Opq→Prop}(hΩ: ∀ω v0 l,Ω ω→Ω (ω.upd v0 l))(hω:Ω ω){n:Nat}(hk: ∀ω',Ω ω'→ao6 E ω' n){R:Type}{A:Alg R}{T:R→Prop}(hA:AlgOk A T ω){c:Code}{a:Fr}{h hs:Heap}{n0:Nat}(hn0:n0=hs.next){k:Ex→Fr→Heap→R}{sp:LSpec}
 (he:T (aZ8 (ev E n) A c n0 k sp a h)) {K:Nat→Prop} {w0:World} {β βs:Bij} {act:Act} {w:World} {Q:Exit→Act→World→Prop} (r:HR β ω K w0 h w) (f:FrR β ω a act) (st0:St hs βs h β) (q:KOk T ω K w0 hs βs none k Q):ag7 (Fen none) E.P c Q act w:=by
 unfold aZ8 at he
 cases hok:bS7 sp a h n0 with
 |false=>rw[hok]at he;exact absurd he hA.bad
 |true=>
  rw[hok]at he
  simp only[cond_true]at he
  have hokA:=hok
  unfold bS7 at hok
  obtain⟨hok,o5⟩:=M6 hok
  obtain⟨hok,o4⟩:=M6 hok
  obtain⟨hok,o6⟩:=M6 hok
  obtain⟨hds,hro⟩:=a62 o6
  obtain⟨hok,o3⟩:=M6 hok
  obtain⟨hok,o2⟩:=M6 hok
  obtain⟨o0,o1⟩:=M6 hok
  rw[i6]at o0
  have hnn:n0≤h.next:=by rw[hn0];exact st0.le
  have hown: ∀b,b<n0→ ¬ ∃o∈sp.owns,b=o.blk:=by
   rintro b hb ⟨o,hm,rfl⟩
   have:=N1.1 (o0 o hm)
   omega
  rw[i6]at o2
  split at he
  ·rename_i s0 hs0
   obtain⟨⟨i,p⟩,x,hloop,hlink,hks,hx⟩:=hA.loop _ _ _ he
   rw[U3]at hloop
   simp only at hlink hks
   rw[r5,j4]at hks
   obtain⟨xp,hxp,rfl⟩:=hks
   have hlim:=f.lim
   have hb1:=ag8 r f o1
   have hJn:(O4 sp a h).h.next=h.next:=ak2 _ _
   have hJfg: ∀b,(O4 sp a h).h.next≤b→(O4 sp a h).h.get b=none:=by
    intro b hb
    rw[hJn]at hb
    exact V7 _ _ h.next hb1.1 (fun b hb=>r.fget b hb) b hb
   have hbase: ∀s,a.nt≤s→((Q3 sp a h).a.slot s=a.slot s):=by
    intro s hs
    show(layDead (layDead a sp.dead) _).slot s=_
    rw[U8 _ _ (by rw[P7];exact hlim) s (by rw[P7];exact hs),U8 _ _ hlim s hs]
   have hhiA: ∀(g:Fr),g.nt=a.nt→ ∀s,a.nt≤s→g.slot s=a.slot s→ ∃x,g.slot s=x∧VR β ω x Go.undef:=by
    intro g _ s hs e
    refine⟨a.slot s,e,?_⟩
    have:=f.slot s id
    rw[k7,s6 (by rw[f.size];exact hs)]at this
    exact this
   have hJhi: ∀s,a.nt≤s→(O4 sp a h).a.slot s=a.slot s:=by
    intro s hs
    show((U0 (layDead a sp.dead) sp.head.slots).clear).slot s=_
    rw[Fr.clear_slot,a12 _ _ (by rw[P7];exact hlim) s (by rw[P7];exact hs),U8 _ _ hlim s hs]
   have hJnt:(O4 sp a h).a.nt=a.nt:=by
    show((U0 (layDead a sp.dead) sp.head.slots).clear).nt=_
    rw[Fr.clear_nt,ad4,P7]
   have hJpc:(O4 sp a h).a.pc=[]:=Fr.clear_pc _
   have hJro:(O4 sp a h).a.ro=none:=by
    show((U0 (layDead a sp.dead) sp.head.slots).clear).ro=none
    rw[Fr.clear_ro,as5,Y5];exact hro
   have hundef: ∀s,a.nt≤s→VR β ω (a.slot s) Go.undef:=by
    intro s hs
    have:=f.slot s id
    rw[k7,s6 (by rw[f.size];exact hs)]at this
    exact this
   have hXpc:(T3 sp a h xp.2).a.pc=[]:=Fr.clear_pc _
   have hBnt:(Q3 sp a h).a.nt=a.nt:=by
    show(layDead (layDead a sp.dead) _).nt=_
    rw[P7,P7]
   have hXnt:(T3 sp a h xp.2).a.nt=a.nt:=by
    show((U0 (Q3 sp a h).a xp.2.slots).clear).nt=_
    rw[Fr.clear_nt,ad4,hBnt]
   have hBds:(Q3 sp a h).a.ds=[]:=by
    show(layDead (layDead a sp.dead) _).ds=_
    rw[a61,a61];exact hds
   have hBro:(Q3 sp a h).a.ro=none:=by
    show(layDead (layDead a sp.dead) _).ro=_
    rw[Y5,Y5];exact hro
   have hXds:(T3 sp a h xp.2).a.ds=[]:=by
    show((U0 (Q3 sp a h).a xp.2.slots).clear).ds=_
    rw[Fr.clear_ds,as4,hBds]
   have hXhi: ∀s,a.nt≤s→(T3 sp a h xp.2).a.slot s=a.slot s:=by
    intro s hs
    show((U0 (Q3 sp a h).a xp.2.slots).clear).slot s=_
    rw[Fr.clear_slot,a12 _ _ (by rw[hBnt];exact hlim) s (by rw[hBnt];exact hs),hbase s hs]
   have hxm:xp∈sp.exits:=B7 hxp
   have o2x:=M6 (o2 xp hxm)
   have hnx:h.next≤xp.2.next:=N1.1 o2x.1
   have hb2:=ag8 r f o2x.2
   have hBfg: ∀b,h.next≤b→(Q3 sp a h).h.get b=none:=by
    intro b hb
    refine V7 _ _ h.next (fun p hp=> ?_) (fun b hb=>r.fget b hb) b hb
    obtain⟨p',hp',rfl⟩:=k9.1 hp
    exact hb1.1 p' hp'
   have hXfg: ∀b,(T3 sp a h xp.2).h.next≤b→(T3 sp a h xp.2).h.get b=none:=by
    intro b hb
    have hb:xp.2.next≤b:=hb
    show((Z1 (Q3 sp a h).h xp.2.blks).upto xp.2.next).get b=none
    rw[Heap.get_upto]
    exact V7 _ _ xp.2.next hb2.1 (fun b hb=>hBfg b (by omega)) b hb
   have back: ∀(vs:List Val) (β':Bij) (a':Fr) (h':Heap) (act':Act) (w':World) (es:List SX),a67 sp.v0 (T3 sp a h xp.2).a (T3 sp a h xp.2).h a' h'=some es→N2 (ω.upd sp.v0 vs) es=p→
    FrR β' (ω.upd sp.v0 vs) a' act'→HR β' (ω.upd sp.v0 vs) K w0 h' w'→(∀b,b<n0→β' b=β b)→Q (cC5 xp.1) act' w':=by
    intro vs β' a' h' act' w' es hes hp hf hr hβ
    obtain⟨b1,b2,b3,b4⟩:=c14 hn0 hokA r f st0 hxm hlink vs β' a' h' act' w' es hes hp hf hr hβ
    exact q xp.1 _ _ _ act' w' hx b1 b2 b3 b4
   have main: ∀vs j p',Iter (fun vs=>N0 (ev E n RPT an6 (.code c (O4 sp a h).a (O4 sp a h).h (af4 sp a h)) []) (ω.upd sp.v0 vs)) vs j p'→j=i→p'=p→
    ∀(β1:Bij) (act1:Act) (w1:World),FrR β1 (ω.upd sp.v0 vs) (O4 sp a h).a act1→HR β1 (ω.upd sp.v0 vs) K w0 (O4 sp a h).h w1→(∀b,b<n0→β1 b=β b)→ag7 (Fen none) E.P c Q act1 w1:=by
    intro vs j p' hit
    induction hit with
    | @out vs p' j hstep=>
      rintro rfl rfl β1 act1 w1 f1 r1 s1
      refine a95 (hk _ (hΩ _ _ _ hω) RPT an6 _ (ad3 _ (j+1,p')) c _ _ _ ⟨[],a93,hstep⟩ K w0 β1 act1 w1 none _ r1 f1 (by rw[hJro];exact rfl) ?_)
      rintro e a' h' β' act' w' ⟨_,_,hke⟩ _ hf hr hst
      replace hke:N0 (b95 sp a h e a' h') _=_:=hke
      have hβ': ∀b,b<n0→β' b=β b:=fun b hb=>(hst.ext b (by rw[hJn];omega)).trans (s1 b hb)
      obtain⟨hnd,hke⟩:dB (ω.upd sp.v0 vs) (R6 sp.owns a' h').1=true∧N0 (match e with| .norm=>aw2 sp a h (aR8 sp (R6 sp.owns a' h').2 h')|e=>bk3 sp a h e (aR8 sp (R6 sp.owns a' h').2 h')) (ω.upd sp.v0 vs)=_:=by
       cases e<;>exact as7 hke
      obtain⟨hf,hnnt,_⟩:=hf.norms hnd
      obtain⟨β2,cv⟩:=b27 (sp:=sp) hf hr
      have hβ2: ∀b,b<n0→β2 b=β b:=fun b hb=>(cv.bij b (hown b hb)).trans (hβ' b hb)
      have fin: ∀e',e=e'→N0 (am2 sp a h e' (aR8 sp (R6 sp.owns a' h').2 h').1 (aR8 sp (R6 sp.owns a' h').2 h').2 sp.exits 0) (ω.upd sp.v0 vs)=some (j+1,p')→Q (cC5 e) act' w':=by
       rintro e' rfl hh
       obtain⟨i',x',es,q1,q2,q3,q4,q5⟩:=as6 _ _ hh
       obtain rfl:i'=j:=by omega
       rw[hxp,a8]at q2
       subst q2
       rw[←cj3 q3]
       exact back vs β2 _ _ act' w' es q4 q5.symm cv.fr cv.hr hβ2
      cases e with
      |norm=>
       exfalso
       simp only[aw2]at hke
       split at hke
       ·simp[N0]at hke
       ·simp[N0]at hke
      |exit id=>exact fin (.exit id) rfl hke
      |ret=>exact fin .ret rfl hke
    | @more vs vs' p' j hstep hit ih=>
      rintro rfl rfl β1 act1 w1 f1 r1 s1
      refine a95 (hk _ (hΩ _ _ _ hω) RPT an6 _ (ad3 _ (0,vs')) c _ _ _ ⟨[],a93,hstep⟩ K w0 β1 act1 w1 none _ r1 f1 (by rw[hJro];exact rfl) ?_)
      rintro e a' h' β' act' w' ⟨_,_,hke⟩ _ hf hr hst
      replace hke:N0 (b95 sp a h e a' h') _=_:=hke
      have hβ': ∀b,b<n0→β' b=β b:=fun b hb=>(hst.ext b (by rw[hJn];omega)).trans (s1 b hb)
      obtain⟨hnd,hke⟩:dB (ω.upd sp.v0 vs) (R6 sp.owns a' h').1=true∧N0 (match e with| .norm=>aw2 sp a h (aR8 sp (R6 sp.owns a' h').2 h')|e=>bk3 sp a h e (aR8 sp (R6 sp.owns a' h').2 h')) (ω.upd sp.v0 vs)=_:=by
       cases e<;>exact as7 hke
      obtain⟨hf,hnnt,_⟩:=hf.norms hnd
      obtain⟨β2,cv⟩:=b27 (sp:=sp) hf hr
      have hβ2: ∀b,b<n0→β2 b=β b:=fun b hb=>(cv.bij b (hown b hb)).trans (hβ' b hb)
      have no: ∀e',N0 (am2 sp a h e' (aR8 sp (R6 sp.owns a' h').2 h').1 (aR8 sp (R6 sp.owns a' h').2 h').2 sp.exits 0) (ω.upd sp.v0 vs)=some (0,vs')→False:=by
       intro e' hh
       obtain⟨i',x',es,q1,_⟩:=as6 _ _ hh
       omega
      cases e with
      |norm=>
       simp only[aw2]at hke
       split at hke
       ·rename_i es hes
        simp only[N0,a8,d7,true_and]at hke
        have m:=a79 hes
        have hnt':(aR8 sp (R6 sp.owns a' h').2 h').1.nt=a.nt:=by rw[←m.nt,hJnt]
        have g1:=m.fr hJpc (fun s hs=>⟨_,rfl,by rw[hJhi s (by rw[←hnt'];exact hs)];exact a94 (hundef s (by rw[←hnt'];exact hs))⟩) cv.fr
        have g2:=m.hr hJfg cv.hr
        rw[hke,bo3]at g1 g2
        exact ih rfl rfl _ act' w' g1 g2 fun b hb=>by simp only[Bij.cut];rw[if_pos (by rw[hJn];omega)];exact hβ2 b hb
       ·simp[N0]at hke
      |exit id=>exact(no _ hke).elim
      |ret=>exact(no _ hke).elim
   have m:=a79 hs0
   refine main _ _ _ hloop rfl rfl (β.cut (O4 sp a h).h.next) act w ?_ ?_ ?_
   ·exact m.fr hJpc (fun s hs=>hhiA _ hJnt s hs (hJhi s hs)) f
   ·exact m.hr hJfg r
   ·exact fun b hb=>by simp only[Bij.cut];rw[if_pos (by rw[hJn];omega)]
  ·exact absurd he hA.bad
end Go.Ev
namespace Go.Ev
open Go
variable{E:Env}{β β':Bij}{ω ω':Opq}{K:Nat→Prop}{w0 w w':World}{h h':Heap}
theorem HR.freeze{K':Nat→Prop}(r:HR β ω K w0 h w)(hK: ∀i,K' i→i<w.heap.size)(hf: ∀b x L,h.get b=some x→h.wm≤b→β b=some L→ ¬K' L.blk):HR β ω K' w h w:=
 ⟨r.blk,r.sep,r.fresh,r.fget,r.lt,hK,fun _ _=>rfl,hf,b9 _,rfl,rfl,rfl,b9 _⟩
theorem HR.thaw{K':Nat→Prop}{w1:World}{h1:Heap}{β1:Bij}{ω1:Opq}(r1:HR β1 ω1 K w0 h1 w1)(hs: ∀i,K i→K' i)(r:HR β' ω' K' w1 h' w'):HR β' ω' K w0 h' w':=
 ⟨r.blk,r.sep,r.fresh,r.fget,r.lt,r1.kin,fun i hi=>(r.keep i (hs i hi)).trans (r1.keep i hi),fun b x L a c d hk=>r.free b x L a c d (hs _ hk),m7 r1.size r.size,r.os.trans r1.os,r.tape.trans r1.tape,r.out.trans r1.out,m7 r1.dr r.dr⟩
theorem HR.turn(r:HR β ω K w0 h w)(hn:h'.next=h.next)(hw:h'.wm=h.wm)(hnone: ∀b,h.get b=none→h'.get b=none)
 (key: ∀b y,h'.get b=some y→ ∃z,h.get b=some z∧(∀L o,BR β ω L o z→BR β ω' L o y)∧z.isArr=y.isArr):HR β ω' K w0 h' w:=by
 refine⟨fun b y L hg hb=> ?_,fun b b1 y y1 L L1 hg hg1 hb hb1 hne hc=> ?_,fun b hb=>r.fresh b (by rw[←hn];exact hb),fun b hb=>hnone b (r.fget b (by rw[←hn];exact hb)),r.lt,r.kin,r.keep,fun b y L hg hc hb=> ?_,r.size,r.os,r.tape,r.out,r.dr⟩
 ·obtain⟨z,z1,z2,_⟩:=key b y hg
  exact z2 L _ (r.blk b z L z1 hb)
 ·obtain⟨z,z1,_,k1⟩:=key b y hg
  obtain⟨z',z1',_,k2⟩:=key b1 y1 hg1
  exact r.sep b b1 z z' L L1 z1 z1' hb hb1 hne (by rw[k1,k2,←hw];exact hc)
 ·obtain⟨z,z1,_⟩:=key b y hg
  exact r.free b z L z1 (by rw[←hw];exact hc) hb
theorem HR.putBack(r:HR β ω K w0 h w){m:Nat}{L:Loc}{y:Blk}(hm:m<h.next)(hlim:m<65536)(hL:β m=some L)(hbr:BR β ω L w.heap[L.blk]? y)(hsep: ∀b x M,h.get b=some x→b≠m→β b=some M→M.blk≠L.blk)(hf:h.wm≤m→ ¬K L.blk):HR β ω K w0 (h.put m (some y)) w:=by
 have hg: ∀b,(h.put m (some y)).get b=if b=m then some y else h.get b:=fun b=>by rw[Heap.get_put,if_pos hlim]
 refine⟨fun b x M hx hb=> ?_,fun b b1 x x1 M M1 hx hx1 hb hb1 hne hc=> ?_,r.fresh,fun b hb=> ?_,r.lt,r.kin,r.keep,fun b x M hx hc hb=> ?_,r.size,r.os,r.tape,r.out,r.dr⟩
 ·rw[hg]at hx
  by_cases e:b=m
  ·subst e
   rw[if_pos rfl,a8]at hx
   subst hx
   rw[hL,a8]at hb
   subst hb;exact hbr
  ·rw[if_neg e]at hx;exact r.blk b x M hx hb
 ·rw[hg]at hx hx1
  by_cases e:b=m
  ·subst e
   rw[if_neg (Ne.symm hne)]at hx1
   rw[hL,a8]at hb;subst hb
   exact(hsep b1 x1 M1 hx1 (Ne.symm hne) hb1).symm
  ·rw[if_neg e]at hx
   by_cases e1:b1=m
   ·subst e1
    rw[hL,a8]at hb1;subst hb1
    exact hsep b x M hx e hb
   ·rw[if_neg e1]at hx1
    exact r.sep b b1 x x1 M M1 hx hx1 hb hb1 hne hc
 ·have hb:h.next≤b:=hb
  rw[hg,if_neg (by omega)]
  exact r.fget b hb
 ·rw[hg]at hx
  by_cases e:b=m
  ·subst e
   rw[hL,a8]at hb;subst hb
   exact hf hc
  ·rw[if_neg e]at hx
   exact r.free b x M hx hc hb
theorem aM1{ops:Array Oper}{o:Oper}{rest:List Oper}{i:Nat}(hdrop:ops.toList.drop i=o::rest){a:Fr}{act:Act}{u:Value}{ro:Option Nat}{Q:Exit→Act→World→Prop}(f:FrR β ω a act)(hg:az1 o=true)(hd: ∀c,o.op≠ .defer c)
 (hr:(execOp act.eval o).run E.P w= .ok (.value u) w') (hk:wpOpsIn (Fen ro) 0 E.P ops Q (List.range' (i+1) rest.length) (act.put o.dst u) w'):wpOpsIn (Fen ro) 0 E.P ops Q (List.range' i (rest.length+1)) act w:=by
 have hlt:i<ops.toList.length:=by
  rcases d8 i ops.toList.length with hh|hh
  ·exact hh
  ·rw[E7 hh]at hdrop;cases hdrop
 have hcons:=K5 hlt
 rw[hdrop]at hcons
 obtain⟨e1,e2⟩:=G2 hcons
 have hoi:ops[i]? =some o:=by rw[e1];simp at hlt;simp[hlt]
 have hw:P6 ops.toList a o=some true:=by
  unfold P6
  unfold az1 at hg
  split at hg
  ·rename_i hh;rw[hh]
  ·cases hg
 simp only[B1]
 show(match ops[i]? with
  |none=>_
  |some o=>_)
 rw[hoi]
 simp only[]
 rw[aW0 f rfl hw]
 simp only[if_true]
 exact ax2 hd hr hk
structure HeadF (sp:LSpec) (a:Fr) (h:Heap):Prop where
 n:(O4 sp a h).h.next=h.next
 wm:(O4 sp a h).h.wm=h.wm
 fg: ∀b,(O4 sp a h).h.next≤b→(O4 sp a h).h.get b=none
 nt:(O4 sp a h).a.nt=a.nt
 pc:(O4 sp a h).a.pc=[]
 ro:(O4 sp a h).a.ro=none
 ds:(O4 sp a h).a.ds=[]
 hi: ∀s,a.nt≤s→(O4 sp a h).a.slot s=a.slot s
 lim:a.nt≤256
 un: ∀s,a.nt≤s→VR β ω (a.slot s) Go.undef
theorem cC9{sp:LSpec}{a:Fr}{n0:Nat}(hok:bS7 sp a h n0=true){act:Act}(r:HR β ω K w0 h w)(f:FrR β ω a act):HeadF (β:=β) (ω:=ω) sp a h:=by
 unfold bS7 at hok
 obtain⟨hok,o5⟩:=M6 hok
 obtain⟨hok,o4⟩:=M6 hok
 obtain⟨hok,o6⟩:=M6 hok
 obtain⟨hds,hro⟩:=a62 o6
 obtain⟨hok,o3⟩:=M6 hok
 obtain⟨hok,o2⟩:=M6 hok
 obtain⟨o0,o1⟩:=M6 hok
 have hlim:=f.lim
 have hb1:=ag8 r f o1
 have hJn:(O4 sp a h).h.next=h.next:=ak2 _ _
 refine⟨hJn,ak3 _ _,fun b hb=> ?_,?_,Fr.clear_pc _,?_,?_,fun s hs=> ?_,hlim,fun s hs=> ?_⟩
 ·rw[hJn]at hb
  exact V7 _ _ h.next hb1.1 (fun b hb=>r.fget b hb) b hb
 ·show((U0 (layDead a sp.dead) sp.head.slots).clear).nt=_
  rw[Fr.clear_nt,ad4,P7]
 ·show((U0 (layDead a sp.dead) sp.head.slots).clear).ro=none
  rw[Fr.clear_ro,as5,Y5];exact hro
 ·show((U0 (layDead a sp.dead) sp.head.slots).clear).ds=[]
  rw[Fr.clear_ds,as4,a61];exact hds
 ·show((U0 (layDead a sp.dead) sp.head.slots).clear).slot s=_
  rw[Fr.clear_slot,a12 _ _ (by rw[P7];exact hlim) s (by rw[P7];exact hs),U8 _ _ hlim s hs]
 ·have:=f.slot s id
  rw[k7,s6 (by rw[f.size];exact hs)]at this
  exact this
theorem b30{step:List Val→Option (Nat×List Val)}{i:Nat}{r:List Nat}{s t:List Val}(h:aS6 step (i::r) s=some t): ∃a b s',s=[a,b]∧step [a,b,.vi i]=some (0,s')∧aS6 step r s'=some t:=by
 rcases s with _|⟨a,_|⟨b,_|⟨c,s⟩⟩⟩
 ·cases h
 ·cases h
 ·have h:(match step [a,b,.vi i]with
   |some (0,s')=>aS6 step r s'
   |_=>none)=some t:=h
  split at h
  ·rename_i s' hs
   exact⟨a,b,s',rfl,hs,h⟩
  ·cases h
 ·cases h
theorem aM2{step:List Val→Option (Nat×List Val)}{i:Nat}{r:List Nat}{a b:Val}{s':List Val}(h:step [a,b,.vi i]=some (0,s')):aS6 step (i::r) [a,b]=aS6 step r s':=by
 simp only[aS6,h]
theorem ao9{step:List Val→Option (Nat×List Val)}: ∀{p q:List Nat} {s t:List Val},aS6 step (p++q) s=some t→ ∃u,aS6 step p s=some u∧aS6 step q u=some t
 | [],q,s,t,h=>⟨s,rfl,h⟩
 |i::p,q,s,t,h=>by
  obtain⟨a,b,s',rfl,h1,h2⟩:=b30 (r:=p++q) h
  obtain⟨u,h3,h4⟩:=ao9 h2
  exact⟨u,by rw[aM2 h1];exact h3,h4⟩
theorem bd6{step:List Val→Option (Nat×List Val)}{i:Nat}{x y:Val}{s':List Val}(hs:step [x,y,.vi i]=some (0,s')): ∀{p:List Nat} {s:List Val},aS6 step p s=some [x,y]→aS6 step (p++[i]) s=some s'
 | [],s,h=>by
   obtain rfl:s=[x,y]:=by simpa[aS6]using h
   show aS6 step [i] _=_
   rw[aM2 hs];rfl
 |j::p,s,h=>by
  obtain⟨a,b,s1,rfl,h1,h2⟩:=b30 h
  show aS6 step (j::(p++[i])) _=_
  rw[aM2 h1]
  exact bd6 hs h2
theorem cj5{n:Nat}{p:List Nat}(hn:p.Nodup)(hp: ∀i∈p,i<n): ∃q,(p++q).Perm (List.range n):=by
 refine⟨(List.range n).filter fun i=>decide (i∉p),(List.perm_ext_iff_of_nodup ?_ K6).2 fun i=> ?_⟩
 ·refine E8.2 ⟨hn,K6.filter _,fun a ha b hb=> ?_⟩
  rintro rfl
  have:=(x8.1 hb).2
  simp at this
  exact this ha
 ·rw[x5,x8,r6]
  by_cases h:i∈p
  ·simp[h,hp i h]
  ·simp[h]
theorem c15{n:Nat}{p:List Nat}(hn:p.Nodup)(hp: ∀i∈p,i<n)(ha: ∀i,i<n→i∈p):p.Perm (List.range n):=
 (List.perm_ext_iff_of_nodup hn K6).2 fun i=>⟨fun hi=>r6.2 (hp i hi),fun hi=>ha i (r6.1 hi)⟩
theorem cW3{ks vs:List CT}{l idx:SX}{r:Val}{i:Nat}(hi:dI ω idx=(i:Int))(hr:(dL ω l)[i]? =some r):VR β ω (bS9 ks vs l idx) (.tuple #[(bk9 ks vs r).1,(bk9 ks vs r).2]):=by
 have hg: ∀t:Nat,Q5 (dL ω l) (dI ω idx) t=r.toL.getD t default:=by
  intro t
  show((dL ω l).getD (dI ω idx).toNat (.vl [])).toL.getD (Int.toNat t) default=_
  rw[hi,show(dL ω l).getD (i:Int).toNat (.vl [])=r by rw[d9,show(i:Int).toNat=i from rfl,hr];rfl]
  rfl
 have hrow:a27 (ks++vs) r=(List.range' 0 (ks++vs).length).map fun j=>a26 ((ks++vs).getD j .bool) (r.toL.getD j default):=by
  unfold a27
  rw[E3]
 have e1:(a27 (ks++vs) r).take ks.length=(List.range' 0 ks.length).map fun j=>a26 ((ks++vs).getD j .bool) (r.toL.getD j default):=by
  rw[hrow,←List.map_take]
  congr 1
  rw[e8,show List.range' 0 (ks.length+vs.length)=List.range' 0 ks.length++List.range' (0+ks.length) vs.length from(List.range'_append_1).symm]
  rw[I0 (by simp)]
 have e2:(a27 (ks++vs) r).drop ks.length=(List.range' ks.length vs.length).map fun j=>a26 ((ks++vs).getD j .bool) (r.toL.getD j default):=by
  rw[hrow,←List.map_drop]
  congr 1
  rw[e8,show List.range' 0 (ks.length+vs.length)=List.range' 0 ks.length++List.range' (0+ks.length) vs.length from(List.range'_append_1).symm]
  rw[I1 (by simp),i3]
 refine⟨_,rfl,.cons ?_ (.one ?_)⟩
 ·have:=aC8 (β:=β) (ω:=ω) (ks++vs) l idx ks.length 0
  simp only[hg]at this
  show VR β ω _ (ooa ((a27 (ks++vs) r).take ks.length))
  rw[e1]
  exact aJ6 this
 ·have:=aC8 (β:=β) (ω:=ω) (ks++vs) l idx vs.length ks.length
  simp only[hg]at this
  show VR β ω _ (ooa ((a27 (ks++vs) r).drop ks.length))
  rw[e2]
  exact aJ6 this
structure MOk (mc:MC) (a:Fr) (mo:MO) (t:Nat):Prop where
 o1:mc.o1.op= .next (.tmp t) false
 e1:mc.o1.dst=some mo.d1
 o2:mc.o2.op= .extract (.tmp mo.d1) 0
 e2:mc.o2.dst=some mo.d2
 tk:mc.tok= .tmp mo.d2
 o3:mc.o3.op= .entry (.tmp t)
 e3:mc.o3.dst=some mo.d3
 n1:t≠mo.d1
 n2:t≠mo.d2
 sl:a.slot t= .ptr mo.it 0
 p1:az1 mc.o1=true
 p2:az1 mc.o2=true
 p3:az1 mc.o3=true
 l1:mo.d1<a.nt
 l2:mo.d2<a.nt
theorem cD0{mc:MC}{a:Fr}{mo:MO}(e:d41 mc a=some mo): ∃t,MOk mc a mo t:=by
 unfold d41 at e
 split at e
 ·rename_i t d1 d1' d2 d2' t' d3 h1 h2 h3 h4 h5 h6 h7
  replace e:=M7 e
  obtain⟨hc,e1⟩:=e
  obtain⟨hc1,c5⟩:=M6 hc
  obtain⟨hc2,c4⟩:=M6 hc1
  obtain⟨hc3,c3⟩:=M6 hc2
  obtain⟨c1,c2⟩:=M6 hc3
  obtain rfl:=M8.1 c1
  obtain rfl:=M8.1 c2
  obtain rfl:=M8.1 c3
  split at e1
  ·rename_i it hs
   unfold cT2 at e1
   obtain⟨hz,e2⟩:=M7 e1
   obtain⟨hz1,z6⟩:=M6 hz
   obtain⟨hz2,z5⟩:=M6 hz1
   obtain⟨hz3,z4⟩:=M6 hz2
   obtain⟨hz4,z3⟩:=M6 hz3
   obtain⟨z1,z2⟩:=M6 hz4
   simp only[a8]at e2
   subst e2
   refine⟨t,h1,h2,h3,h4,h5,h6,h7,?_,?_,hs,z1,z2,z3,N9.1 z4,N9.1 z5⟩
   ·rintro rfl;simp at c4
   ·rintro rfl;simp at c5
  ·cases e1
 ·cases e
theorem cj6{c:Code}{mc:MC}(e:bH1 c=some mc): ∃i1 i2,c= .seq (.region i1 mc.ops1 false) (.seq (.cond mc.tok .skip (.exit mc.xid)) (.block mc.bid (.seq (.region i2 mc.ops2 false) mc.rest)))∧mc.ops1.toList=[mc.o1,mc.o2]∧mc.ops2.toList=mc.o3::mc.r3:=by
 unfold bH1 at e
 split at e
 ·split at e
  ·rename_i h1 h2
   simp only[a8]at e
   subst e
   exact⟨_,_,rfl,h1,h2⟩
  ·cases e
 ·cases e
theorem c16{x:Option Blk}(h:cT5 x=true):x=none:=by
 cases x with
 |none=>rfl
 |some _=>cases h
theorem cj7{v0:Nat}{es:List SX}(h:cy6 v0 es=true):es=[.va v0,.va (v0+1)]:=by
 unfold cy6 at h
 split at h
 ·obtain⟨h1,h2⟩:=M6 h
  rw[M8.1 h1,M8.1 h2]
 ·cases h
theorem b31{v0 nb ob:Nat}{h0:Heap}: ∀{n:Nat},cO1 v0 nb ob h0 n=true→ ∀s,s<n→swB v0 nb ob s (h0.get s)=true
 |0,_,s,hs=>by omega
 |n+1,h,s,hs=>by
  simp only[cO1,d6]at h
  by_cases e:s=n
  ·subst e;exact h.1
  ·exact b31 h.2 s (by omega)
theorem bz3{h1 h2:Heap}: ∀{n:Nat},bT0 h1 h2 n=true→ ∀s,s<n→ ∀x,h1.get s=some x→ ∃y,h2.get s=some y
 |0,_,s,hs,_,_=>by omega
 |n+1,h,s,hs,x,hx=>by
  simp only[bT0,d6]at h
  by_cases e:s=n
  ·subst e
   have:=h.1
   rw[hx]at this
   cases hy:h2.get s with
   |none=>rw[hy]at this;cases this
   |some y=>exact⟨y,rfl⟩
  ·exact bz3 h.2 s (by omega) x hx
theorem c17{v0 nb ob b:Nat}{x:Blk}(h:swB v0 nb ob b (some x)=true):(b=ob∧ ∃e sig,x= .arr e sig (.va (v0+1)))∨(b≠ob∧okB (v0+1) nb (some x)=true):=by
 unfold swB at h
 cases hb:Nat.beq b ob with
 |true=>
  rw[hb]at h
  simp only[cond_true]at h
  split at h
  ·rename_i e sig n hx
   cases hx
   exact .inl ⟨M8.1 hb,e,sig,by rw[M8.1 h]⟩
  ·cases h
 |false=>
  rw[hb]at h
  exact .inr ⟨fun hh=>by rw[hh]at hb;simp at hb,h⟩
theorem aD4{v0:Nat}{a:Val}{r r':List Val}:Agr (v0+1) (ω.upd v0 (a::r)) (ω.upd v0 (a::r')):=by
 refine⟨fun n hn=> ?_,rfl,rfl,rfl,rfl⟩
 simp only[Opq.upd]
 by_cases h:v0≤n
 ·have:n-v0=0:=by omega
  rw[if_pos h,if_pos h,this];rfl
 ·rw[if_neg h,if_neg h]
theorem cs3{v0 nb:Nat}{a:Fr}{act:Act}(g:Agr v0 ω ω')(hb:cx4 v0 nb a a.nt=true)(hpc:a.pc=[])(hds:a.ds=[])(f:FrR β ω a act):FrR β ω' a act:=by
 refine⟨f.size,f.lim,fun t _=> ?_,?_,fun p hp=>by rw[hpc]at hp;cases hp⟩
 ·have:=f.slot t id
  by_cases ht:t<a.nt
  ·exact ag6 g (fun _ _=>rfl) _ _ (bo5 hb t ht) this
  ·rw[k7,s6 (by rw[f.size];omega)]at this⊢
   exact a94 this
 ·have:=f.defers
  rw[hds]at this⊢
  exact this
theorem cW4{v0 nb ob:Nat}{a:Val}{r r':List Val}{b':Val}(hs:cO1 v0 nb ob h h.next=true)(rr:HR β (ω.upd v0 (a::b'::r)) K w0 h w):HR β (ω.upd v0 (a::b'::r')) K w0 h w:=by
 refine rr.turn rfl rfl (fun _ hh=>hh) fun b y hy=>⟨y,hy,fun L o hbr=> ?_,rfl⟩
 have hlt:b<h.next:=by
  rcases d8 b h.next with q|q
  ·exact q
  ·rw[rr.fget b q]at hy;cases hy
 have:=b31 hs b hlt
 rw[hy]at this
 rcases c17 this with⟨_,e,sig,rfl⟩|⟨_,hk⟩
 ·have e1: ∀q:List Val,dL (ω.upd v0 (a::b'::q)) (.va (v0+1))=b'.toL:=fun q=>by
   show((ω.upd v0 (a::b'::q)).w (v0+1)).toL=_
   rw[bd1 (j:=1) (x:=b') rfl]
  simp only[BR]at hbr⊢
  rw[e1]at hbr⊢
  exact hbr
 ·exact bo6 aD4 (fun _ _=>rfl) hk hbr
theorem cW5{v0 nb ob:Nat}{a:Val}{D D':List Val}(hp:D'.Perm D)(hs:cO1 v0 nb ob h h.next=true)(rr:HR β (ω.upd v0 [a,.vl D']) K w0 h w):HR β (ω.upd v0 [a,.vl D]) K w0 (h.put ob (cT4 (h.get ob))) w:=by
 have hg: ∀b,(h.put ob (cT4 (h.get ob))).get b=if b=ob then(if ob<65536 then cT4 (h.get ob)else none)else h.get b:=fun b=>Heap.get_put _ _ _ _
 refine rr.turn rfl rfl (fun b hh=> ?_) fun b y hy=> ?_
 ·rw[hg]
  by_cases e:b=ob
  ·subst e;rw[if_pos rfl,hh];split<;>rfl
  ·rw[if_neg e];exact hh
 rw[hg]at hy
 by_cases e:b=ob
 ·subst e
  rw[if_pos rfl]at hy
  split at hy
  ·cases hx:h.get b with
   |none=>rw[hx]at hy;cases hy
   |some x=>
    have hob:b<h.next:=by
     rcases d8 b h.next with q|q
     ·exact q
     ·rw[rr.fget b q]at hx;cases hx
    have:=b31 hs b hob
    rw[hx]at this hy
    rcases c17 this with⟨_,e,sig,rfl⟩|⟨hne,_⟩
    ·simp only[cT4,a8]at hy
     subst hy
     refine⟨_,rfl,fun L o hbr=> ?_,rfl⟩
     have e1: ∀q:List Val,dL (ω.upd v0 [a,.vl q]) (.va (v0+1))=q:=fun q=>by
      show((ω.upd v0 [a,.vl q]).w (v0+1)).toL=_
      rw[bd1 (j:=1) (x:= .vl q) rfl];rfl
     simp only[BR]at hbr⊢
     rw[e1]at hbr⊢
     exact⟨D',hp,hbr⟩
    ·exact absurd rfl hne
  ·cases hy
 ·rw[if_neg e]at hy
  refine⟨y,hy,fun L o hbr=> ?_,rfl⟩
  have hlt:b<h.next:=by
   rcases d8 b h.next with q|q
   ·exact q
   ·rw[rr.fget b q]at hy;cases hy
  have:=b31 hs b hlt
  rw[hy]at this
  rcases c17 this with⟨q,_⟩|⟨_,hk⟩
  ·exact absurd q e
  ·exact bo6 aD4 (fun _ _=>rfl) hk hbr
theorem b32{act:Act}{d:Nat}{v:Value}(h:d<act.tmps.size):(act.put (some d) v).eval (.tmp d)=v:=by
 show(act.tmps.setIfInBounds d v).getD d Go.undef=v
 rw[k7,A4,if_pos rfl,if_pos h];rfl
theorem aM3{act:Act}{d t:Nat}{v:Value}(h:t≠d):(act.put (some d) v).eval (.tmp t)=act.eval (.tmp t):=by
 show(act.tmps.setIfInBounds d v).getD t Go.undef=act.tmps.getD t Go.undef
 rw[k7,k7,A4,if_neg (Ne.symm h)]
theorem bz4{x:Value}{l:List Value}(w:World):(Instr.extract (.tuple (x::l).toArray) 0).run E.P w= .ok x w:=by
 simp[Instr.extract,Sem.run]
theorem bK1{Es:Array MapEntry}{seen:Array Nat}(h:(leftOf Es seen).size=0): ∀e∈Es.toList,e.born∈seen.toList:=by
 intro e he
 unfold leftOf at h
 have h1:=Array.eq_empty_of_size_eq_zero h
 rw[Array.filter_eq_empty_iff]at h1
 have:=h1 e (by simpa using he)
 simpa using this
theorem cj8{Es:Array MapEntry}{seen:Array Nat}{e:MapEntry}(h:e∈(leftOf Es seen).toList):e∈Es.toList∧e.born∉seen.toList:=by
 unfold leftOf at h
 simp only[Array.toList_filter,x8]at h
 refine⟨h.1,?_⟩
 have:=h.2
 simpa using this
set_option maxHeartbeats 1000000 in
theorem c18{Ω:Opq→Prop}(hΩ: ∀ω v0 l,Ω ω→Ω (ω.upd v0 l))(hω:Ω ω){n:Nat}(hk: ∀ω',Ω ω'→ao6 E ω' n)(ho: ∀ω',Ω ω'→cs1 E ω' n){R:Type}{A:Alg R}{T:R→Prop}(hA:AlgOk A T ω)
 {c:Code} {mc:MC} (hmc:bH1 c=some mc) {a:Fr} {h hs:Heap} {n0:Nat} (hn0:n0=hs.next) {k:Ex→Fr→Heap→R} {sp:LSpec} {mo:MO} {m ob:Nat} {d:Bool} {ks vs:List CT} {lm:SX} {x:Ex×StP}
 (hmo:d41 mc (O4 sp a h).a=some mo) (hg1:h.get mo.it=some (.mit m)) (hg2:h.get m=some (.mrg mo.it d ks vs lm)) (hxs:x∈sp.exits)
 (he:T (aC5 (ev E n) A n0 k sp a h mc mo m ob d ks vs lm x)) {K:Nat→Prop} {w0:World} {β βs:Bij} {act:Act} {w:World} {Q:Exit→Act→World→Prop} (r:HR β ω K w0 h w) (f:FrR β ω a act) (st0:St hs βs h β) (q:KOk T ω K w0 hs βs none k Q):ag7 (Fen none) E.P c Q act w:=by
 unfold aC5 at he
 split at he
 rotate_left
 ·exact absurd he hA.bad
 rename_i xid hx1
 cases hcnd:(Nat.beq xid mc.xid&&bT1 sp a h n0 mo m ob lm&&Nat.blt m x.2.next&&d42 sp mo ob a h x.2)with
 |false=>rw[hcnd]at he;exact absurd he hA.bad
 |true=>
 rw[hcnd]at he
 simp only[cond_true]at he
 obtain⟨hc3,hend⟩:=M6 hcnd
 obtain⟨hc2,hmx⟩:=M6 hc3
 obtain⟨hc1,hlive⟩:=M6 hc2
 obtain rfl:=M8.1 hc1
 rw[N9]at hmx
 split at he
 rotate_left
 ·exact absurd he hA.bad
 rename_i s0 s1 hs0
 cases hsub:bT0 (ae9 sp (a08 sp.id (s0::s1::sp.fv)) a h x.2).h (O4 sp a h).h x.2.next with
 |false=>rw[hsub]at he;exact absurd he hA.bad
 |true=>
 rw[hsub]at he
 simp only[cond_true]at he
 obtain⟨D,xk,hmap,hlink,hk0,hT⟩:=hA.mloop _ _ _ _ he
 simp only[List.getElem?_cons_zero,a8]at hk0
 subst hk0
 unfold bT1 at hlive
 obtain⟨hl1,g12⟩:=M6 hlive
 obtain⟨hl2,g11⟩:=M6 hl1
 obtain⟨hl3,g10⟩:=M6 hl2
 obtain⟨hl4,g9⟩:=M6 hl3
 obtain⟨hl5,g8⟩:=M6 hl4
 obtain⟨hl6,g7⟩:=M6 hl5
 obtain⟨hl7,g6⟩:=M6 hl6
 obtain⟨hl8,g5⟩:=M6 hl7
 obtain⟨hl9,g4⟩:=M6 hl8
 obtain⟨hl10,g3⟩:=M6 hl9
 obtain⟨g1,g2⟩:=M6 hl10
 rw[N1]at g2 g3 g5
 rw[N9]at g4 g6
 replace g7:=c16 g7
 replace g8:=c16 g8
 have hd:=cC9 g1 r f
 rw[←hd.n]at g10 g12
 have m0:=a79 hs0
 have f1:=m0.fr hd.pc (fun s hs=>⟨_,rfl,by rw[hd.hi s hs];exact hd.un s hs⟩) f
 have r1:=m0.hr hd.fg r
 obtain⟨t,mk⟩:=cD0 hmo
 obtain⟨i1,i2,rfl,hop1,hop2⟩:=cj6 hmc
 have hnn:n0≤h.next:=by rw[hn0];exact st0.le
 have hsl:=f1.slot t id
 rw[mk.sl]at hsl
 simp only[VR]at hsl
 obtain⟨L,hLc,_⟩:=hsl
 have hL:β mo.it=some L:=by
  simp only[Bij.cut]at hLc
  split at hLc
  ·exact hLc
  ·cases hLc
 obtain⟨hoff,Lm,hLm,hobj⟩:=r.blk mo.it _ L hg1 hL
 obtain⟨Es,cl,Li,hmobj,hLi,hext,hrows,hborn⟩:=r.blk m _ Lm hg2 hLm
 rw[hL,a8]at hLi
 subst hLi
 subst hext
 have hne:Lm.blk≠L.blk:=by intro e;rw[e,hobj]at hmobj;cases hmobj
 have hKL: ¬K L.blk:=r.free mo.it _ L hg1 g3 hL
 have hpre: ∀b y,(O4 sp a h).h.get b=some y→ ∃z,h.get b=some z:=by
  intro b y hy
  have hb:b<(O4 sp a h).h.next:=by
   rcases d8 b (O4 sp a h).h.next with hh|hh
   ·exact hh
   ·rw[hd.fg b hh]at hy;cases hy
  obtain⟨n',es',h1,_⟩:=m0.hp (fun _ _=>True) (fun _ _ _=>trivial) b hb
  rw[hy]at h1
  simp only[aS5]at h1
  split at h1
  ·rename_i z hz;exact⟨z,hz⟩
  ·cases h1
 have hsep0: ∀b y M,(O4 sp a h).h.get b=some y→β b=some M→M.blk≠L.blk∧M.blk≠Lm.blk:=by
  intro b y M hy hb
  obtain⟨z,hz⟩:=hpre b y hy
  exact⟨r.sep b mo.it z _ M L hz hg1 hb hL (by rintro rfl;rw[g7]at hy;cases hy) (.inr (.inr (.inr rfl))),
    r.sep b m z _ M Lm hz hg2 hb hLm (by rintro rfl;rw[g8]at hy;cases hy) (.inr (.inr (.inr rfl)))⟩
 have hlen:Es.toList.length=(dL ω lm).length:=by
  have:=congrArg List.length hrows
  simpa using this
 have hnd:(Es.toList.map (·.born)).Nodup:=hborn.1.imp (fun h=>F6 h)
 have hold: ∀y∈Es.toList,y.born<L.ext:=hborn.2.1
 have hlm: ∀l,dL (ω.upd sp.v0 l) lm=dL ω lm:=fun l=>by unfold dL;rw[a78 (aL7 ω sp.v0 l) lm g9]
 have hbi: ∀i,i<(dL ω lm).length→ ∃e,Es.toList[i]? =some e∧(Es.toList.map (·.born)).getD i 0=e.born:=by
  intro i hi
  have hi':i<Es.toList.length:=by rw[hlen];exact hi
  refine⟨Es.toList[i],j0 hi',?_⟩
  rw[d9,r5,j0 hi'];rfl
 have hinj: ∀i j,i<(dL ω lm).length→j<(dL ω lm).length→(Es.toList.map (·.born)).getD i 0=(Es.toList.map (·.born)).getD j 0→i=j:=by
  intro i j hi hj hh
  have hi':i<(Es.toList.map (·.born)).length:=by rw[m5,hlen];exact hi
  have hj':j<(Es.toList.map (·.born)).length:=by rw[m5,hlen];exact hj
  rw[d9,d9,j0 hi',j0 hj']at hh
  exact(List.getElem_inj hnd).1 hh
 obtain⟨hm1,hm2⟩:=hmap
 have main: ∀(j:Nat) (p:List Nat) (s:List Val),(dL ω lm).length≤p.length+j→p.Nodup→(∀i∈p,i<(dL ω lm).length)→
  aS6 (fun us=>N0 (cT3 (ev E n) sp mc a h ((((O4 sp a h).a.put (some mo.d1) .any).put (some mo.d2) (.bool true)).put (some mo.d3) (bS9 ks vs lm (.va (sp.v0+2))))) (ω.upd sp.v0 us)) p (N2 ω [s0,s1])=some s→
  ∀(β1:Bij) (act1:Act) (w1:World) (seen:Array Nat),FrR β1 (ω.upd sp.v0 s) (O4 sp a h).a act1→HR β1 (ω.upd sp.v0 s) K w0 (O4 sp a h).h w1→(∀b,b<n0→β1 b=β b)→
   (∀b y M,(O4 sp a h).h.get b=some y→β1 b=some M→M.blk≠L.blk∧M.blk≠Lm.blk)→w1.heap[L.blk]? =some (.mapIter (some Lm.blk) L.ext seen L.ext)→w1.heap[Lm.blk]? =some (.map Es L.ext)→
   seen.toList=p.map (fun i=>(Es.toList.map (·.born)).getD i 0)→ag7 (Fen none) E.P (.seq (.region i1 mc.ops1 false) (.seq (.cond mc.tok .skip (.exit mc.xid)) (.block mc.bid (.seq (.region i2 mc.ops2 false) mc.rest)))) Q act1 w1:=by
  intro j
  induction j using Nat.strongRecOn with
  |ind j ih=>
  intro p s hj hpn hpl hrun β1 act1 w1 seen f1 r1 hβ1 hsep1 hit hmp hseen
  have hLβ:β1 mo.it=some L:=(hβ1 _ g6).trans hL
  have hLm1:β1 m=some Lm:=(hβ1 _ g4).trans hLm
  have hval:act1.eval (.tmp t)= .pointer (some ⟨L.blk,0,none⟩):=by
   have:=f1.slot t id
   rw[mk.sl]at this
   simp only[VR]at this
   obtain⟨L',hL',hv⟩:=this
   rw[hLβ,a8]at hL'
   subst hL'
   show act1.tmps.getD t Go.undef=_
   rw[hv,hoff]
  have nd1: ∀c,mc.o1.op≠ .defer c:=fun c hc=>by rw[mk.o1]at hc;cases hc
  have nd2: ∀c,mc.o2.op≠ .defer c:=fun c hc=>by rw[mk.o2]at hc;cases hc
  have nd3: ∀c,mc.o3.op≠ .defer c:=fun c hc=>by rw[mk.o3]at hc;cases hc
  refine a95 (wpIn_seq (wpIn_region ?_))
  rw[E3,show mc.ops1.size=[mc.o2].length+1 by rw[←Array.length_toList,hop1];rfl]
  rcases run_next_at (P:=E.P) w1 mc.o1.type L.blk Lm.blk L.ext L.ext seen Es L.ext hit hmp hold (b9 _)with⟨hz,hnx⟩|⟨e,hem,w2,hw2,hnx⟩
  ·
   have hr1:(execOp act1.eval mc.o1).run E.P w1= .ok (.value (.tuple #[.bool false])) w1:=by
    unfold execOp
    rw[mk.o1]
    simp only[Sem.run_bind,hval,hnx]
    rfl
   have f2:=FrP.put' f1 (some mo.d1) (v:= .tup [.bool false]) (u:= .tuple #[.bool false]) ⟨_,rfl,.one rfl⟩
   refine aM1 (i:=0) (by rw[hop1];rfl) f1 mk.p1 nd1 hr1 ?_
   rw[mk.e1]
   have hx1v:(act1.put (some mo.d1) (.tuple #[.bool false])).eval (.tmp mo.d1)= .tuple #[.bool false]:=by
    have:=f2.slot mo.d1 id
    rw[Fr.put_slot f1.lim,if_pos ⟨rfl,mk.l1⟩]at this
    obtain⟨xs,hxs,hv⟩:=this
    show(act1.put (some mo.d1) (.tuple #[.bool false])).tmps.getD mo.d1 Go.undef=_
    rw[hxs]
    obtain⟨v1,vr,hv1,hv2,hv3⟩:=hv
    obtain rfl:vr=[]:=hv3
    simp only[VR]at hv2
    subst hv2
    congr 1
    exact y8 (by simpa using hv1)
   have hr2:(execOp (act1.put (some mo.d1) (.tuple #[.bool false])).eval mc.o2).run E.P w1= .ok (.value (.bool false)) w1:=by
    unfold execOp
    rw[mk.o2]
    simp only[Sem.run_bind,hx1v]
    rw[show(Instr.extract (.tuple #[.bool false]) 0).run E.P w1= .ok (.bool false) w1 from bz4 (l:=[]) w1]
    rfl
   have f3:=FrP.put' f2 (some mo.d2) (v:= .bool false) (u:= .bool false) rfl
   refine aM1 (i:=1) (rest:=[]) (by rw[hop1];rfl) f2 mk.p2 nd2 hr2 ?_
   rw[mk.e2]
   show(Code.seq (.cond mc.tok .skip (.exit mc.xid)) (.block mc.bid (.seq (.region i2 mc.ops2 false) mc.rest))).wpIn (Fen none) 0 E.P _ _ w1
   refine wpIn_seq (wpIn_cond_false ?_ (wpIn_exit ?_))
   ·rw[mk.tk]
    exact b32 (by rw[f2.size,Fr.put_nt];exact mk.l2)
   show Q (.exit mc.xid) _ w1
   have hfull:p.Perm (List.range (dL ω lm).length):=c15 hpn hpl fun i hi=>by
    obtain⟨e,he1,he2⟩:=hbi i hi
    have:=bK1 hz e (B7 he1)
    rw[hseen]at this
    obtain⟨i',hi',hh⟩:=k9.1 this
    rw[←he2]at hh
    rw[←hinj i' i (hpl i' hi') hi hh];exact hi'
   obtain⟨D',hD1,hD2⟩:=hm2 p hfull
   obtain rfl:=K2 (hrun.symm.trans hD1)
   have hlenD:D'.length=D.length:=hD2.length_eq
   rw[hlenD]at f3 r1
   have hpcA:(aZ9 sp mo a h).pc=[]:=by unfold aZ9;rw[Fr.put_pc,Fr.put_pc,hd.pc]
   have hdsA:(aZ9 sp mo a h).ds=[]:=by unfold aZ9;rw[Fr.put_ds,Fr.put_ds,hd.ds]
   have hntA:(aZ9 sp mo a h).nt=a.nt:=by unfold aZ9;rw[Fr.put_nt,Fr.put_nt,hd.nt]
   have f4:=cs3 (a:=aZ9 sp mo a h) (ω':=ω.upd sp.v0 [.vi D.length,.vl D]) (v0:=sp.v0+1) aD4 (by rw[hntA];exact g11) hpcA hdsA f3
   have r4:=cW5 hD2 g12 r1
   unfold d42 at hend
   split at hend
   rotate_left
   ·cases hend
   rename_i es hes
   obtain rfl:=cj7 hend
   obtain⟨b1,b2,b3,b4⟩:=c14 hn0 g1 r f st0 hxs (s0:=[s0,s1]) (i:=0) (p:=[.vi D.length,.vl D]) hlink [.vi D.length,.vl D] β1 _ _ _ w1 _ hes (by
    simp only[N2,den]
    rw[show(ω.upd sp.v0 [Val.vi D.length,.vl D]).w sp.v0= .vi D.length from bd1 (j:=0) rfl,bd1 (j:=1) (x:= .vl D) rfl]) f4 r4 hβ1
   rw[hx1]at hT
   have hon:(ae9 sp (a08 sp.id ([s0,s1]++sp.fv)) a h x.2).h.next=x.2.next:=Heap.next_upto _ _
   refine q (.exit mc.xid) _ _ (β1.cut x.2.next) _ w1 hT b1 b2 (b3.putBack (L:=Lm) (by rw[hon];exact hmx) (Heap.get_lim _ _ _ hg2) (by simp only[Bij.cut];rw[if_pos hmx];exact hLm1) ⟨Es,_,hmp,hrows,hborn⟩ (fun b y M hy hbm hb=> ?_) (fun hw=> ?_)) ⟨b4.le,b4.ext,fun b hb hn=> ?_,b4.wm⟩
   ·simp only[Bij.cut]at hb
    split at hb
    ·rename_i hlt
     obtain⟨z,hz⟩:=bz3 hsub b hlt y hy
     exact(hsep1 b z M hz hb).2
    ·cases hb
   ·exact r.free m _ Lm hg2 (by rw[st0.wm,←b4.wm];exact hw) hLm
   ·have:b≠m:=by
     rintro rfl
     rw[←st0.ext b hb,hLm]at hn
     cases hn
    rw[Heap.get_put,if_neg this]
    exact b4.unm b hb hn
  ·
   obtain⟨heE,heS⟩:=cj8 hem
   obtain⟨i,hi,hei⟩:=K7 heE
   have hiN:i<(dL ω lm).length:=by rw[←hlen];exact hi
   have hbe:(Es.toList.map (·.born)).getD i 0=e.born:=by
    obtain⟨e',he1,he2⟩:=hbi i hiN
    rw[j0 hi,a8]at he1
    rw[he2,←he1,hei]
   have hip:i∉p:=fun hh=>heS (by rw[hseen];exact k9.2 ⟨i,hh,hbe⟩)
   have hpn':(p++[i]).Nodup:=by
    refine E8.2 ⟨hpn,by simp,fun x hx y hy=> ?_⟩
    rintro rfl
    rw[s8]at hy
    subst hy;exact hip hx
   have hpl': ∀x∈p++[i],x<(dL ω lm).length:=fun x hx=>by
    rcases x5.1 hx with hh|hh
    ·exact hpl x hh
    ·rw[s8]at hh;subst hh;exact hiN
   obtain⟨q',hq'⟩:=cj5 hpn' hpl'
   have hj1:1≤j:=by
    have:=hq'.length_eq
    simp at this
    omega
   obtain⟨Dq,hDq,_⟩:=hm2 _ hq'
   obtain⟨u1,hu1,_⟩:=ao9 hDq
   obtain⟨u0,hu0,hu3⟩:=ao9 hu1
   obtain rfl:=K2 (hrun.symm.trans hu0)
   obtain⟨xa,xb,s2,rfl,hstep,_⟩:=b30 hu3
   have hw2h:w2.heap=w1.heap:=by rcases hw2 with rfl|rfl<;>rfl
   have hLlt:L.blk<w1.heap.size:=r1.lt _ _ hLβ
   generalize hw3:ChangeMaps.setBlock w2 L.blk (.mapIter (some Lm.blk) L.ext (seen.push e.born) L.ext)=w3 at hnx
   have hw3L:w3.heap[L.blk]? =some (.mapIter (some Lm.blk) L.ext (seen.push e.born) L.ext):=by
    rw[←hw3]
    show(w2.heap.setIfInBounds L.blk _)[L.blk]? =_
    rw[A4,if_pos rfl,if_pos (by rw[hw2h];exact hLlt)]
   have hw3o: ∀b,b≠L.blk→w3.heap[b]? =w1.heap[b]? :=by
    intro b hb
    rw[←hw3]
    show(w2.heap.setIfInBounds L.blk _)[b]? =_
    rw[A4,if_neg (Ne.symm hb),hw2h]
   have hw3s:w3.heap.size=w1.heap.size:=by
    rw[←hw3]
    show(w2.heap.setIfInBounds L.blk _).size=_
    rw[Array.size_setIfInBounds,hw2h]
   have hw3d:w3.os=w1.os∧w3.tape=w1.tape∧w3.output=w1.output∧w1.drawn≤w3.drawn:=by
    rw[←hw3]
    rcases hw2 with rfl|rfl
    ·exact⟨rfl,rfl,rfl,b9 _⟩
    ·exact⟨rfl,rfl,rfl,Nat.le_succ _⟩
   have r2:HR β1 (ω.upd sp.v0 [xa,xb]) K w0 (O4 sp a h).h w3:=by
    refine⟨fun b y M hg hb=> ?_,r1.sep,r1.fresh,r1.fget,fun b M hb=>by rw[hw3s];exact r1.lt b M hb,r1.kin,fun z hz=> ?_,r1.free,by rw[hw3s];exact r1.size,hw3d.1.trans r1.os,hw3d.2.1.trans r1.tape,hw3d.2.2.1.trans r1.out,m7 r1.dr hw3d.2.2.2⟩
    ·rw[hw3o _ (hsep1 b y M hg hb).1];exact r1.blk b y M hg hb
    ·rw[hw3o z (by rintro rfl;exact hKL hz)];exact r1.keep z hz
   have r3:=cW4 (r:=[]) (r':=[.vi i]) g12 r2
   have r4:HR β1 (ω.upd sp.v0 [xa,xb,.vi i]) (fun z=>K z∨z=L.blk∨z=Lm.blk) w3 (O4 sp a h).h w3:=by
    refine r3.freeze (fun z hz=> ?_) (fun b y M hg hw hb hz=> ?_)
    ·rcases hz with hz|rfl|rfl
     ·exact o7 (r3.kin z hz) r3.size
     ·exact r3.lt _ _ hLβ
     ·exact r3.lt _ _ hLm1
    ·rcases hz with hz|hz|hz
     ·exact r3.free b y M hg hw hb hz
     ·exact(hsep1 b y M hg hb).1 hz
     ·exact(hsep1 b y M hg hb).2 hz
   have f2:=cs3 (ω':=ω.upd sp.v0 [xa,xb,.vi i]) (v0:=sp.v0+1) aD4 (by rw[hd.nt];exact g10) hd.pc hd.ds f1
   have hr1:(execOp act1.eval mc.o1).run E.P w1= .ok (.value (.tuple #[.bool true,e.key,e.val])) w3:=by
    unfold execOp
    rw[mk.o1]
    simp only[Sem.run_bind,hval,hnx]
    rfl
   have f3:=FrP.put' f2 (some mo.d1) (v:= .any) (u:= .tuple #[.bool true,e.key,e.val]) trivial
   refine aM1 (i:=0) (by rw[hop1];rfl) f1 mk.p1 nd1 hr1 ?_
   rw[mk.e1]
   have hr2:(execOp (act1.put (some mo.d1) (.tuple #[.bool true,e.key,e.val])).eval mc.o2).run E.P w3= .ok (.value (.bool true)) w3:=by
    unfold execOp
    rw[mk.o2]
    simp only[Sem.run_bind,b32 (act:=act1) (d:=mo.d1) (v:= .tuple #[.bool true,e.key,e.val]) (by rw[f1.size];exact mk.l1)]
    rw[show(Instr.extract (.tuple #[.bool true,e.key,e.val]) 0).run E.P w3= .ok (.bool true) w3 from bz4 (l:=[e.key,e.val]) w3]
    rfl
   have f4:=FrP.put' f3 (some mo.d2) (v:= .bool true) (u:= .bool true) rfl
   refine aM1 (i:=1) (rest:=[]) (by rw[hop1];rfl) f3 mk.p2 nd2 hr2 ?_
   rw[mk.e2]
   show(Code.seq (.cond mc.tok .skip (.exit mc.xid)) (.block mc.bid (.seq (.region i2 mc.ops2 false) mc.rest))).wpIn (Fen none) 0 E.P _ _ w3
   refine wpIn_seq (wpIn_cond_true ?_ (wpIn_skip ?_))
   ·rw[mk.tk]
    exact b32 (by rw[f3.size,Fr.put_nt];exact mk.l2)
   show(Code.block mc.bid (.seq (.region i2 mc.ops2 false) mc.rest)).wpIn (Fen none) 0 E.P _ _ w3
   refine wpIn_block (wpIn_seq (wpIn_region ?_))
   rw[E3,show mc.ops2.size=mc.r3.length+1 by rw[←Array.length_toList,hop2];rfl]
   have hev:((act1.put (some mo.d1) (.tuple #[.bool true,e.key,e.val])).put (some mo.d2) (.bool true)).eval (.tmp t)= .pointer (some ⟨L.blk,0,none⟩):=by
    rw[aM3 mk.n2,aM3 mk.n1];exact hval
   have hr3:(execOp ((act1.put (some mo.d1) (.tuple #[.bool true,e.key,e.val])).put (some mo.d2) (.bool true)).eval mc.o3).run E.P w3= .ok (.value (.tuple #[e.key,e.val])) w3:=by
    unfold execOp
    rw[mk.o3]
    simp only[Sem.run_bind,hev]
    rw[run_entry_at w3 L.blk Lm.blk L.ext seen Es L.ext e hw3L ((hw3o _ hne).trans hmp) heE hnd]
    rfl
   have hrow: ∃row,(dL ω lm)[i]? =some row∧bk9 ks vs row=(e.key,e.val):=by
    have h1:=congrArg (fun l=>l[i]?) hrows
    simp only[r5,j0 hi,hei,Option.map_some]at h1
    cases hh:(dL ω lm)[i]? with
    |none=>rw[hh]at h1;cases h1
    |some row=>
     rw[hh,Option.map_some,a8]at h1
     exact⟨row,rfl,h1.symm⟩
   obtain⟨row,cc2,cc3⟩:=hrow
   have hvE:VR β1 (ω.upd sp.v0 [xa,xb,.vi i]) (bS9 ks vs lm (.va (sp.v0+2))) (.tuple #[e.key,e.val]):=by
    have:=cW3 (β:=β1) (ω:=ω.upd sp.v0 [xa,xb,.vi i]) (ks:=ks) (vs:=vs) (l:=lm) (idx:= .va (sp.v0+2)) (i:=i) (by
     show((ω.upd sp.v0 [xa,xb,.vi i]).w (sp.v0+2)).toI=_
     rw[bd1 (j:=2) (x:= .vi i) rfl];rfl) (by rw[hlm];exact cc2)
    rw[cc3]at this
    exact this
   have f5:=FrP.put' f4 (some mo.d3) hvE
   refine aM1 (i:=0) (by rw[hop2];rfl) f4 mk.p3 nd3 hr3 ?_
   rw[mk.e3]
   have hΩ':=hΩ ω sp.v0 [xa,xb,.vi i] hω
   have hro3:((((O4 sp a h).a.put (some mo.d1) .any).put (some mo.d2) (.bool true)).put (some mo.d3) (bS9 ks vs lm (.va (sp.v0+2)))).ro=none:=by
    rw[Fr.put_ro,Fr.put_ro,Fr.put_ro,hd.ro]
   refine ho _ hΩ' RPT an6 (TPT (ω.upd sp.v0 [xa,xb,.vi i]) (0,s2)) (ad3 _ _) mc.ops2 mc.r3 (0+1) _ _ _ (by rw[hop2];rfl) ⟨[],a93,hstep⟩ _ w3 β1 _ w3 none _ r4 f5 (by rw[hro3];exact rfl) ?_
   intro a4 h4 β4 act4 w4 hT4 hf4 hr4' hst4
   refine hk _ hΩ' RPT an6 (TPT (ω.upd sp.v0 [xa,xb,.vi i]) (0,s2)) (ad3 _ _) mc.rest (a4.back none) h4 (bv7 mc.bid (af4 sp a h)) hT4 _ w3 β4 act4 w4 none _ hr4' (hf4.back none) (by rw[Fr.back_ro];exact rfl) ?_
   intro e5 a5 h5 β5 act5 w5 hT5 _ hf5 hr5 hst5
   have fin:TPT (ω.upd sp.v0 [xa,xb,.vi i]) (0,s2) (af4 sp a h .norm a5 h5)→ag7 (Fen none) E.P (.seq (.region i1 mc.ops1 false) (.seq (.cond mc.tok .skip (.exit mc.xid)) (.block mc.bid (.seq (.region i2 mc.ops2 false) mc.rest)))) Q act5 w5:=by
    rintro⟨_,_,hke⟩
    replace hke:N0 (b95 sp a h .norm a5 h5) _=_:=hke
    obtain⟨hnd5,hke⟩:=as7 hke
    obtain⟨hf6,_,_⟩:=hf5.norms hnd5
    obtain⟨β2,cv⟩:=b27 (sp:=sp) hf6 hr5
    simp only[aw2]at hke
    split at hke
    ·rename_i es hes
     simp only[N0,a8,d7,true_and]at hke
     have mm:=a79 hes
     have hnt':(aR8 sp (R6 sp.owns a5 h5).2 h5).1.nt=a.nt:=by rw[←mm.nt,hd.nt]
     have k1:=mm.fr hd.pc (fun s hs=>⟨_,rfl,by rw[hd.hi s (by rw[←hnt'];exact hs)];exact a94 (hd.un s (by rw[←hnt'];exact hs))⟩) cv.fr
     have k2:=mm.hr hd.fg cv.hr
     rw[hke,bo3]at k1 k2
     have hown: ∀b,b<n0→ ¬ ∃o∈sp.owns,b=o.blk:=by
      rintro b hb ⟨o,hm,rfl⟩
      have g1':=g1
      unfold bS7 at g1'
      obtain⟨g1',_⟩:=M6 g1'
      obtain⟨g1',_⟩:=M6 g1'
      obtain⟨g1',_⟩:=M6 g1'
      obtain⟨g1',_⟩:=M6 g1'
      obtain⟨g1',_⟩:=M6 g1'
      obtain⟨o0,_⟩:=M6 g1'
      rw[i6]at o0
      have:=N1.1 (o0 o hm)
      omega
     have hβ2: ∀b,b<n0→β2 b=β b:=fun b hb=>by
      have hbn:b<(O4 sp a h).h.next:=by rw[hd.n];omega
      exact((cv.bij b (hown b hb)).trans (hst5.ext b (o7 hbn hst4.le))).trans ((hst4.ext b hbn).trans (hβ1 b hb))
     have hβc: ∀b,b<n0→(β2.cut (O4 sp a h).h.next) b=β b:=fun b hb=>by
      simp only[Bij.cut];rw[if_pos (by rw[hd.n];omega)];exact hβ2 b hb
     refine ih (j-1) (by omega) (p++[i]) s2 (by simp;omega) hpn' hpl' (bd6 hstep hrun) _ act5 w5 (seen.push e.born) k1 (HR.thaw r3 (fun z hz=> .inl hz) k2) hβc (fun b y M hy hb=> ?_) ((hr5.keep _ (.inr (.inl rfl))).trans hw3L) ((hr5.keep _ (.inr (.inr rfl))).trans ((hw3o _ hne).trans hmp)) (by rw[B6,hseen,r8];simp only[j9,E4];rw[hbe])
     by_cases hbn:b<n0
     ·rw[hβc b hbn]at hb
      exact hsep0 b y M hy hb
     ·have:=k2.free b y M hy (by rw[hd.wm];omega) hb
      exact⟨fun e=>this (.inr (.inl e)),fun e=>this (.inr (.inr e))⟩
    ·simp[N0]at hke
   have bad: ∀ex,ex≠ .norm→ ¬TPT (ω.upd sp.v0 [xa,xb,.vi i]) (0,s2) (af4 sp a h ex a5 h5):=by
    rintro ex hex ⟨_,_,hke⟩
    replace hke:N0 (b95 sp a h ex a5 h5) _=_:=hke
    have no: ∀e',N0 (am2 sp a h e' (aR8 sp (R6 sp.owns a5 h5).2 h5).1 (aR8 sp (R6 sp.owns a5 h5).2 h5).2 sp.exits 0) (ω.upd sp.v0 [xa,xb,.vi i])=some (0,s2)→False:=by
     intro e' hh
     obtain⟨i',x',es,q1,_⟩:=as6 _ _ hh
     omega
    cases ex with
    |norm=>exact hex rfl
    |exit id=>exact no _ (as7 hke).2
    |ret=>exact no _ (as7 hke).2
   cases e5 with
   |norm=>exact fin hT5
   |ret=>exact absurd hT5 (bad .ret (by intro hh;cases hh))
   |exit i5=>
    replace hT5:TPT _ _ (bif Nat.beq i5 mc.bid then af4 sp a h .norm a5 h5 else af4 sp a h (.exit i5) a5 h5):=hT5
    show if i5=mc.bid then _ else _
    by_cases hi5:i5=mc.bid
    ·rw[if_pos hi5]
     rw[M8.2 hi5]at hT5
     exact fin hT5
    ·rw[bl0 hi5]at hT5
     exact absurd hT5 (bad (.exit i5) (by intro hh;cases hh))
 refine main _ [] _ (Nat.le_of_eq (i3 _).symm) .nil (fun i hi=>(by cases hi)) rfl (β.cut (O4 sp a h).h.next) act w #[] f1 r1 (fun b hb=>by simp only[Bij.cut];rw[if_pos (by rw[hd.n];omega)]) (fun b y M hy hb=>hsep0 b y M hy (by
   simp only[Bij.cut]at hb
   split at hb
   ·exact hb
   ·cases hb)) hobj hmobj rfl
theorem c19{n:Nat}{R:Type}{A:Alg R}{T:R→Prop}(hA:AlgOk A T ω){c:Code}{a:Fr}{h:Heap}{n0:Nat}{k:Ex→Fr→Heap→R}{sp:LSpec}(he:T (aG8 (ev E n) A n0 k sp a h (bH1 c))): ∀o∈sp.owns,n0≤o.blk:=by
 unfold aG8 at he
 split at he
 ·rename_i mc hmc
  unfold b01 at he
  split at he
  ·rename_i mo hmo
   split at he
   ·rename_i m hg1
    unfold b00 at he
    split at he
    ·rename_i it' d ks vs lm o hg2 hown
     cases hit:Nat.beq it' mo.it with
     |false=>rw[hit]at he;exact absurd he hA.bad
     |true=>
      rw[hit]at he
      simp only[cond_true]at he
      split at he
      ·rename_i x hex
       intro o' ho'
       rw[hown,s8]at ho'
       subst ho'
       unfold aC5 at he
       split at he
       ·rename_i xid _
        cases hcnd:(Nat.beq xid mc.xid&&bT1 (bS8 sp mo.it m o'.blk lm) a h n0 mo m o'.blk lm&&Nat.blt m x.2.next&&d42 (bS8 sp mo.it m o'.blk lm) mo o'.blk a h x.2)with
        |false=>rw[hcnd]at he;exact absurd he hA.bad
        |true=>
         have h1:=(M6 (M6 (M6 hcnd).1).1).2
         unfold bT1 at h1
         have h2:=(M6 (M6 (M6 (M6 (M6 (M6 (M6 h1).1).1).1).1).1).1).1
         exact N1.1 (M6 h2).2
       ·exact absurd he hA.bad
      ·exact absurd he hA.bad
    ·exact absurd he hA.bad
   ·exact absurd he hA.bad
  ·exact absurd he hA.bad
 ·exact absurd he hA.bad
theorem cj9{Ω:Opq→Prop}(hΩ: ∀ω v0 l,Ω ω→Ω (ω.upd v0 l))(hω:Ω ω){n:Nat}(hk: ∀ω',Ω ω'→ao6 E ω' n)(ho: ∀ω',Ω ω'→cs1 E ω' n){R:Type}{A:Alg R}{T:R→Prop}(hA:AlgOk A T ω)
 {c:Code} {a:Fr} {h hs:Heap} {n0:Nat} (hn0:n0=hs.next) {k:Ex→Fr→Heap→R} {sp:LSpec}
 (he:T (aG8 (ev E n) A n0 k sp a h (bH1 c))) {K:Nat→Prop} {w0:World} {β βs:Bij} {act:Act} {w:World} {Q:Exit→Act→World→Prop} (r:HR β ω K w0 h w) (f:FrR β ω a act) (st0:St hs βs h β) (q:KOk T ω K w0 hs βs none k Q):ag7 (Fen none) E.P c Q act w:=by
 unfold aG8 at he
 split at he
 ·rename_i mc hmc
  unfold b01 at he
  split at he
  ·rename_i mo hmo
   split at he
   ·rename_i m hg1
    unfold b00 at he
    split at he
    ·rename_i it' d ks vs lm o hg2 hown
     cases hit:Nat.beq it' mo.it with
     |false=>rw[hit]at he;exact absurd he hA.bad
     |true=>
      rw[hit]at he
      obtain rfl:=M8.1 hit
      simp only[cond_true]at he
      split at he
      ·rename_i x hex
       exact c18 hΩ hω hk ho hA hmc hn0 (sp:=bS8 sp mo.it m o.blk lm) (x:=x) hmo hg1 hg2 (by rw[hex];exact .head _) he r f st0 q
      ·exact absurd he hA.bad
    ·exact absurd he hA.bad
   ·exact absurd he hA.bad
  ·exact absurd he hA.bad
 ·exact absurd he hA.bad
end Go.Ev
