import Derived.Test.YtfpjiopkeekkeaaGreatDoorE16y
set_option autoImplicit false
set_option linter.unusedVariables false
set_option linter.unusedSimpArgs false
namespace Go.Ev
open Go
variable{E:Env}{β:Bij}{ω:Opq}{K:Nat→Prop}{w0 w:World}{h h':Heap}{ρA:Operand→Option AV}{ρ:Operand→Value}
def clo(c:CT)(x:Val):AV:=match c with
 | .int k=> .int k x.toI
 | .str=> .str x.toS
 | .bool=> .bool x.toB
def aF2(r:Val):List CT→Nat→List AV
 | [],_=>[]
 |c::cs,j=>clo c (r.toL.getD j default)::aF2 r cs (j+1)
def aq1(r:Val):List CT→Nat→List Value
 | [],_=>[]
 |c::cs,j=>a56 c (r.toL.getD j default)::aq1 r cs (j+1)
theorem c01(c:CT)(x:Val):VR β ω (clo c x) (a56 c x):=by cases c<;>rfl
theorem as7(r:Val): ∀(sig:List CT) (j:Nat),VRs β ω (aF2 r sig j) (aq1 r sig j)
 | [],_=>rfl
 |c::cs,j=> .cons (c01 c _) (as7 r cs (j+1))
theorem a15(r:Val): ∀(sig:List CT) (j:Nat),(aq1 r sig j).length=sig.length
 | [],_=>rfl
 |c::cs,j=>by simp[aq1,a15 r cs (j+1)]
theorem bA3(r:Val): ∀(a b:List CT) (j:Nat),aq1 r (a++b) j=aq1 r a j++aq1 r b (j+a.length)
 | [],b,j=>rfl
 |c::a,b,j=>by
  have:=bA3 r a b (j+1)
  simp only[List.cons_append,aq1,this,List.length_cons]
  rw[show j+1+a.length=j+(a.length+1) by omega]
theorem bf7(sig:List CT)(r:Val): ∀(s:List CT) (j:Nat),sig.drop j=s→(List.range' j s.length).map (fun t=>a56 (sig.getD t .bool) (r.toL.getD t default))=aq1 r s j
 | [],j,_=>rfl
 |c::s,j,h=>by
  have h1:sig.getD j .bool=c:=by
   have:=congrArg (fun z:List CT=>z[0]?) h
   simp only[t8,Nat.add_zero,List.getElem?_cons_zero]at this
   rw[i3,this];rfl
  have h2:sig.drop (j+1)=s:=by
   have:=congrArg List.tail h
   simpa[List.tail_drop]using this
  rw[List.length_cons,C9,m5,h1,bf7 sig r s (j+1) h2];rfl
theorem V5(sig:List CT)(r:Val):a57 sig r=aq1 r sig 0:=by
 have:=bf7 sig r sig 0 rfl
 rw[←this]
 unfold a57
 rw[F9]
theorem b53(ks vs:List CT)(r:Val):bp2 ks vs r=(ooa (aq1 r ks 0),ooa (aq1 r vs ks.length)):=by
 unfold bp2
 rw[V5,bA3,j8]
 have:=a15 r ks 0
 rw[←this,D4,B7]
theorem aO2: ∀{a:List AV} {us:List Value},VRs β ω a us→VR β ω (b33 a) (ooa us)
 | [],us,h=>by rw[show us=[]from h];exact⟨_,rfl,rfl⟩
 | [x],us,⟨v,vr,e,h1,h2⟩=>by rw[e,show vr=[]from h2];exact h1
 |x::y::r,us,⟨v,vr,e,h1,u,ur,e2,h3,h4⟩=>by
  rw[e,e2]
  exact⟨_,rfl,.cons h1 (.cons h3 h4)⟩
theorem aO3{us:List Value}(h:2≤us.length):ooa us= .agg us.toArray:=by
 match us,h with
 |_::_::_,_=>rfl
def bq7(ω:Opq)(n:Nat)(k r:Val):Opq:=⟨ω.v,fun i=>if i<n then k.toL.getD i default else r.toL.getD (i-n) default,ω.f,ω.one,ω.fix,ω.gh⟩
theorem c02(ω:Opq)(c:CT)(e:SX):a59 ω (bc4 c e)=clo c (den ω e):=by cases c<;>rfl
theorem aw5{ω':Opq}{r:Val}: ∀(s:List CT) (i j:Nat),(∀t,t<s.length→ω'.w (i+t)=r.toL.getD (j+t) default)→aN5 ω' (cg1 s i)=aF2 r s j
 | [],_,_,_=>rfl
 |c::s,i,j,h=>by
  have h0:=h 0 (by simp)
  have ih:=aw5 s (i+1) (j+1) (fun t ht=>by
   have:=h (t+1) (by simp;omega)
   rw[show i+1+t=i+(t+1) by omega,show j+1+t=j+(t+1) by omega];exact this)
  simp only[cg1,aN5,aF2,c02,ih]
  rw[show den ω' (.va i)=ω'.w i from rfl,show ω'.w i=r.toL.getD j default by simpa using h0]
theorem bA4{ω':Opq}{k r:Val}: ∀(s:List CT) (i j c:Nat),(∀t,t<s.length→ω'.w (i+t)=k.toL.getD (c+t) default)→(∀t,t<s.length→ω'.w (j+t)=r.toL.getD (c+t) default)→dB ω' (d75 s i j)=cC9 r k s c
 | [],_,_,_,_,_=>rfl
 |q::s,i,j,c,h1,h2=>by
  have a:=h1 0 (by simp)
  have b:=h2 0 (by simp)
  simp only[Nat.add_zero]at a b
  have ih:=bA4 s (i+1) (j+1) (c+1) (fun t ht=>by
   have:=h1 (t+1) (by simp;omega)
   rw[show i+1+t=i+(t+1) by omega,show c+1+t=c+(t+1) by omega];exact this) (fun t ht=>by
   have:=h2 (t+1) (by simp;omega)
   rw[show j+1+t=j+(t+1) by omega,show c+1+t=c+(t+1) by omega];exact this)
  have hand: ∀x y:SX,dB ω' (aK8 x y)=(dB ω' x&&dB ω' y):=fun x y=>by
   unfold aK8
   split
   ·rfl
   ·split
    ·show dB ω' _=(dB ω' _&&true);rw[s8]
    ·rfl
  simp only[d75,cC9,hand,ih]
  congr 1
  cases q
  ·show decide ((ω'.w i).toI=(ω'.w j).toI)=_;rw[a,b];rfl
  ·show decide ((ω'.w i).toS=(ω'.w j).toS)=_;rw[a,b];rfl
  ·show((ω'.w i).toB==(ω'.w j).toB)=_;rw[a,b];rfl
theorem ck5{P:Program}{kt:TypeId}{ks:List CT}(hk:aB3 P kt ks=true)(k r:Val):eqE P 10000 kt (.agg (aF2 k ks 0)) (.agg (aF2 r ks 0))=some (keq ks r k):=by
 unfold aB3 at hk
 obtain⟨_,hk⟩:=O4 hk
 split at hk
 ·rename_i e he
  obtain rfl:=SX.beq_eq _ _ hk
  have:=bZ2 (ω:=bq7 ω0 ks.length k r) 10000 he
  simp only[a59]at this
  rw[aw5 (r:=k) ks 0 0 (fun t ht=>by simp[bq7,ht]),aw5 (r:=r) ks ks.length 0 (fun t ht=>by simp only[bq7];rw[if_neg (by omega),A9,j8])]at this
  rw[this,bA4 (k:=k) (r:=r) ks 0 ks.length 0 (fun t ht=>by simp[bq7,ht]) (fun t ht=>by simp only[bq7];rw[if_neg (by omega),A9,j8])]
  rfl
 ·cases hk
theorem aI3{P:Program}{kt:TypeId}{ks:List CT}(hk:aB3 P kt ks=true)(k:Val):aK7 P kt (.agg (aF2 k ks 0))=true:=by
 unfold aB3 at hk
 obtain⟨hk,_⟩:=O4 hk
 have e:aF2 k ks 0=aN5 (bq7 ω0 ks.length k k) (cg1 ks 0):=(aw5 (r:=k) ks 0 0 (fun t ht=>by simp[bq7,ht])).symm
 rw[e]
 unfold aK7 at hk⊢
 split at hk
 ·rename_i h1;cases h1
 ·rename_i h1;cases h1
 ·rename_i h1;cases h1
 ·rename_i fields cs hu hq
  cases hq
  rw[hu]
  simp only
  rw[M5]at hk⊢
  intro f hf
  obtain⟨h1,h2⟩:=O4 (hk f hf)
  obtain⟨a,ha⟩:=M4.1 h1
  rw[aB8 ha,h2];rfl
 ·cases hk
def di6(ks vs:List CT)(r:Val):AV×AV:=(.agg (aF2 r ks 0),b33 (aF2 r vs ks.length))
theorem aO4{ks vs:List CT}(h2:2≤ks.length): ∀{rows:List Val} {m:List MapEntry},(m.map fun e=>(e.key,e.val))=rows.map (bp2 ks vs)→ ∃es,ERs β ω es m∧(es.map fun e=>(e.key,e.val))=rows.map (di6 ks vs)
 | [],[],_=>⟨[],.nil,rfl⟩
 | [],_::_,h=>by cases h
 |_::_,[],h=>by cases h
 |r::rows,e::m,h=>by
  simp only[m5,A7]at h
  obtain⟨es,h3,h4⟩:=aO4 h2 (rows:=rows) (m:=m) h.2
  rw[b53]at h
  obtain⟨k,v,b⟩:=e
  have hk:k=ooa (aq1 r ks 0):=congrArg Prod.fst h.1
  have hv:v=ooa (aq1 r vs ks.length):=congrArg Prod.snd h.1
  refine⟨⟨.agg (aF2 r ks 0),b33 (aF2 r vs ks.length),b⟩::es,.cons ?_ ?_ h3,by simp only[m5,h4];rfl⟩
  ·rw[hk,aO3 (by rw[a15];exact h2)]
   exact⟨_,rfl,as7 r ks 0⟩
  ·rw[hv];exact aO2 (as7 r vs ks.length)
theorem aj6{P:Program}{kt:TypeId}{ks vs:List CT}(hk:aB3 P kt ks=true)(k:Val): ∀{rows:List Val} {es:List Ent} (i:Nat),(es.map fun e=>(e.key,e.val))=rows.map (di6 ks vs)→
 (rows.findIdx (fun r=>keq ks r k)=rows.length∧ap8 P kt (.agg (aF2 k ks 0)) es i=some none)∨
 ∃e r,rows.findIdx (fun r=>keq ks r k)<rows.length∧rows[rows.findIdx (fun r=>keq ks r k)]? =some r∧keq ks r k=true∧ap8 P kt (.agg (aF2 k ks 0)) es i=some (some (i+rows.findIdx (fun r=>keq ks r k),e))∧e.key= .agg (aF2 r ks 0)∧e.val=b33 (aF2 r vs ks.length)
 | [],[],i,_=> .inl ⟨rfl,rfl⟩
 | [],_::_,i,h=>by cases h
 |_::_,[],i,h=>by cases h
 |r::rows,e::es,i,h=>by
  simp only[m5,A7]at h
  have h1:e.key= .agg (aF2 r ks 0):=congrArg Prod.fst h.1
  have h2:e.val=b33 (aF2 r vs ks.length):=congrArg Prod.snd h.1
  have hq:=ck5 hk k r
  rw[List.findIdx_cons]
  cases hc:keq ks r k with
  |true=>
   rw[hc]at hq
   refine .inr ⟨e,r,by simp,by simp,hc,?_,h1,h2⟩
   simp only[ap8,h1,hq,cond_true,Nat.add_zero]
  |false=>
   rw[hc]at hq
   simp only[cond_false]
   rcases aj6 hk k (i+1) h.2 with⟨a,b⟩|⟨e',r',a1,a2,a3,a4,a5,a6⟩
   ·exact .inl ⟨by rw[a];rfl,by simp only[ap8,h1,hq];exact b⟩
   ·refine .inr ⟨e',r',by rw[List.length_cons];exact Nat.succ_lt_succ a1,by simpa using a2,a3,?_,a5,a6⟩
    simp only[ap8,h1,hq]
    rw[a4];congr 3;omega
theorem HR.marr{b:Nat}{d:Bool}{ks vs:List CT}{l:SX}{L:Loc}(r:HR β ω K w0 h w)(hg:h.get b=some (.marr d ks vs l))(hb:β b=some L):
 ∃E c,w.heap[L.blk]? =some (.map E c)∧(E.toList.map fun e=>(e.key,e.val))=(dL ω l).map (bp2 ks vs)∧V4 d E.toList c:=r.blk b _ L hg hb
theorem V4.push{d:Bool}{E:List MapEntry}{c:Nat}(h:V4 d E c)(k x:Value):V4 d (E++[⟨k,x,c⟩]) (c+1):=by
 obtain⟨h1,h2,h3⟩:=h
 refine⟨?_,?_,?_⟩
 ·rw[x5,List.pairwise_append]
  refine⟨h1,by simp,fun a ha b hb=> ?_⟩
  obtain⟨e,he,rfl⟩:=o8.1 ha
  simp only[m5,G0,x7]at hb
  subst hb;exact h2 e he
 ·intro e he
  rcases A0.1 he with he|he
  ·exact K8 (h2 e he)
  ·simp only[x7]at he;subst he;exact Nat.lt_succ_self _
 ·intro hd
  rw[x5,h3 hd,N0];rfl
theorem aO5{f:MapEntry→MapEntry}(hf: ∀e,(f e).born=e.born): ∀(E:List MapEntry) (i:Nat),(E.modify i f).map (·.born)=E.map (·.born)
 | [],i=>by cases i<;>rfl
 |e::E,0=>by simp[List.modify,hf]
 |e::E,i+1=>by simpa using aO5 hf E i
theorem V4.modify{d:Bool}{E:List MapEntry}{c:Nat}(h:V4 d E c)(i:Nat)(f:MapEntry→MapEntry)(hf: ∀e,(f e).born=e.born):V4 d (E.modify i f) c:=by
 obtain⟨h1,h2,h3⟩:=h
 have hm:=aO5 hf E i
 refine⟨by rw[hm];exact h1,fun e he=> ?_,fun hd=>by rw[hm];exact h3 hd⟩
 have:e.born∈(E.modify i f).map (·.born):=N1 he
 rw[hm]at this
 obtain⟨e',he',q⟩:=o8.1 this
 rw[←q];exact h2 e' he'
theorem ag7(ks:List CT)(l:SX)(es:List SX):dI ω (aW7 ks l es)=((dL ω l).findIdx (fun r=>keq ks r (.vl (P2 ω es))):Nat):=rfl
theorem a51(ks:List CT)(l:SX)(es:List SX):dB ω (aq0 ks l es)=decide ((dL ω l).findIdx (fun r=>keq ks r (.vl (P2 ω es)))<(dL ω l).length):=by
  show decide (((dL ω l).findIdx (fun r=>keq ks r (.vl (P2 ω es))):Int)<((dL ω l).length:Int))=_
  simp
theorem Z1(c a b:SX):den ω (.op .ite [c,a,b])=bif dB ω c then den ω a else den ω b:=rfl
theorem aO6{ks:List CT}{l:SX}{es:List SX}{r:Val}(hh:dB ω (aq0 ks l es)=true)(hr:(dL ω l)[(dL ω l).findIdx (fun r=>keq ks r (.vl (P2 ω es)))]? =some r): ∀(vs:List CT) (j:Nat) (zs:List SX),zs.length=vs.length→VRs β ω (ac4 ks l es vs j zs) (aq1 r vs j)
 | [],_,_,_=>by unfold ac4;rfl
 |c::vs,j,[],h=>by simp at h
 |c::vs,j,z::zs,h=>by
  have ih:=aO6 hh hr vs (j+1) zs (by simpa using h)
  refine .cons ?_ ih
  have e:den ω (.op .ite [aq0 ks l es,.op .lget [l,aW7 ks l es,.ci j],z])=r.toL.getD j default:=by
   rw[Z1,hh]
   show S4 (dL ω l) (dI ω (aW7 ks l es)) (j:Int)=_
   rw[ag7]
   show((dL ω l).getD _ (.vl [])).toL.getD j default=_
   rw[i3]
   show(((dL ω l)[(dL ω l).findIdx _]?).getD (.vl [])).toL.getD j default=_
   rw[hr];rfl
  have:=ao2 (β:=β) (ω:=ω) c (.op .ite [aq0 ks l es,.op .lget [l,aW7 ks l es,.ci j],z])
  rw[e]at this
  exact this
theorem aO7{ks:List CT}{l:SX}{es:List SX}(hh:dB ω (aq0 ks l es)=false): ∀(vs:List CT) (j i:Nat) (zs:List SX) (q:Val),zs.length=vs.length→(∀t,t<zs.length→q.toL.getD (i+t) default=den ω (zs.getD t (.cb false)))→VRs β ω (ac4 ks l es vs j zs) (aq1 q vs i)
 | [],_,_,_,_,_,_=>by unfold ac4;rfl
 |c::vs,j,i,[],q,h,_=>by simp at h
 |c::vs,j,i,z::zs,q,h,hq=>by
  have ih:=aO7 hh vs (j+1) (i+1) zs q (by simpa using h) (fun t ht=>by
    have:=hq (t+1) (by simp;omega)
    rw[show i+1+t=i+(t+1) by omega];simpa using this)
  refine .cons ?_ ih
  have e:den ω (.op .ite [aq0 ks l es,.op .lget [l,aW7 ks l es,.ci j],z])=q.toL.getD i default:=by
   rw[Z1,hh]
   have:=hq 0 (by simp)
   simpa using this.symm
  have:=ao2 (β:=β) (ω:=ω) c (.op .ite [aq0 ks l es,.op .lget [l,aW7 ks l es,.ci j],z])
  rw[e]at this
  exact this
theorem as8{vs:List CT}{z:AV}{v:Value}(hs:a72 vs z=true)(hv:VR β ω z v)(hl:v.cells.toList.length=vs.length):ooa v.cells.toList=v:=by
 match vs,hs with
 | [c],hs=>
   have h1:=VR.one hv (show z.one=true from hs)
   have:v.cells= #[v]:=by cases v<;>first|rfl|(simp[Value.oneCell']at h1)
   rw[this];rfl
 |_::_::_,hs=>
  cases z with
  |agg cs=>
   obtain⟨xs,rfl,_⟩:=hv
   show ooa xs.toList=_
   have:2≤xs.toList.length:=by
    have:xs.toList.length=_:=hl
    rw[this];simp
   rw[aO3 this]
  |_=>cases hs
theorem c03{c:CT}{x:Val}{v:Value}(h:VR β ω (clo c x) v):v=a56 c x:=by cases c<;>exact h
theorem aI4(r:Val): ∀(sig:List CT) (j:Nat) {us:List Value},VRs β ω (aF2 r sig j) us→us=aq1 r sig j
 | [],_,_,h=>h
 |c::cs,j,_,⟨v,vr,e,h1,h2⟩=>by rw[e,c03 h1,aI4 r cs (j+1) h2];rfl
theorem c04(r:Val)(sig:List CT)(j:Nat){v:Value}(h:VR β ω (b33 (aF2 r sig j)) v):v=ooa (aq1 r sig j):=by
 match sig,h with
 | [],⟨xs,e,h⟩=>rw[e];show Value.agg xs=Value.agg _;congr 1;exact A3.1 h
 | [c],h=>exact c03 h
 |c::d::s,⟨xs,e,h⟩=>
  rw[e,aO3 (by rw[a15];simp),←aI4 r (c::d::s) j h]
theorem aj7(ω:Opq): ∀l:List SX,(P2 ω l).length=l.length
 | []=>rfl
 |_::r=>by simp[P2,aj7 ω r]
theorem aI5(ω:Opq): ∀(l:List SX) (t:Nat),t<l.length→(P2 ω l).getD t default=den ω (l.getD t (.cb false))
 | [],t,h=>by simp at h
 |x::r,0,_=>rfl
 |x::r,t+1,h=>by
  have:=aI5 ω r t (by simpa using h)
  simpa[P2]using this
theorem T0: ∀{sig:List CT} {vs:List AV} {es:List SX},T6 sig vs=some es→es.length=sig.length
 | [],[],es,h=>by simp only[T6,a8]at h;subst h;rfl
 | [],_::_,es,h=>by cases h
 |_::_,[],es,h=>by cases h
 |c::cs,v::vs,es,h=>by
  unfold T6 at h
  split at h
  ·rename_i e es' h1 h2
   simp only[a8]at h;subst h
   simp[T0 h2]
  ·cases h
theorem aI6{vs:List CT}{z:AV}(hs:a72 vs z=true):z.nt=true:=by
 unfold a72 at hs
 split at hs
 ·cases hs
 ·cases z<;>first|rfl|cases hs
 ·cases z<;>first|rfl|cases hs
theorem aw6(ω:Opq): ∀a b:List SX,P2 ω (a++b)=P2 ω a++P2 ω b
 | [],_=>rfl
 |x::a,b=>by simp[P2,aw6 ω a b]
theorem bL8{c:CT}{e e':SX}{u:Value}(h:den ω e'=den ω e)(r:VR β ω (bc4 c e) u):VR β ω (bc4 c e') u:=by
 have h1:=ao2 (β:=β) (ω:=ω) c e'
 rw[h]at h1
 have h2:u=a56 c (den ω e):=by cases c<;>exact r
 rw[h2];exact h1
theorem aZ9{ks:List CT}{l l':SX}{es:List SX}: ∀(vs:List CT) (j:Nat) (zs:List SX) {us:List Value},(∀t,t<zs.length→den ω (.op .ite [aq0 ks l' es,.op .lget [l',aW7 ks l' es,.ci ((j+t:Nat):Int)],zs.getD t (.cb false)])=den ω (.op .ite [aq0 ks l es,.op .lget [l,aW7 ks l es,.ci ((j+t:Nat):Int)],zs.getD t (.cb false)]))→
 VRs β ω (ac4 ks l es vs j zs) us→VRs β ω (ac4 ks l' es vs j zs) us
 | [],_,_,us,_,h=>by unfold ac4 at h⊢;exact h
 |c::vs,j,[],us,_,h=>by unfold ac4 at h⊢;exact h
 |c::vs,j,z::zs,us,hq,h=>by
  obtain⟨u,ur,rfl,h1,h2⟩:=h
  refine .cons (bL8 ?_ h1) (aZ9 vs (j+1) zs (fun t ht=> ?_) h2)
  ·have:=hq 0 (by simp)
   simpa using this
  ·have:=hq (t+1) (by simp;omega)
   rw[show j+1+t=j+(t+1) by omega]
   simpa using this
theorem aO8{ks:List CT}{l:SX}{es:List SX}: ∀(vs:List CT) (j:Nat) (zs:List SX),(ac4 ks l es vs j zs).length=min vs.length zs.length
 | [],_,_=>by unfold ac4;simp
 |c::vs,j,[]=>by unfold ac4;simp
 |c::vs,j,z::zs=>by
  show(ac4 ks l es vs (j+1) zs).length+1=_
  rw[aO8 vs (j+1) zs];simp
theorem c05{A B:List AV}{v:Value}(hl:A.length=B.length)(h: ∀us,VRs β ω A us→VRs β ω B us)(r:VR β ω (b33 A) v):VR β ω (b33 B) v:=by
 match A,B,hl with
 | [a],[b],_=>
   have h1:=h [v] ⟨v,[],rfl,r,rfl⟩
   obtain⟨u,ur,e,h2,_⟩:=h1
   obtain⟨rfl,_⟩:=J0 e
   exact h2
 | [],[],_=>
   obtain⟨xs,e,h1⟩:=r
   exact⟨xs,e,h _ h1⟩
 |a::b::A,c::d::B,_=>
  obtain⟨xs,e,h1⟩:=r
  exact⟨xs,e,h _ h1⟩
theorem ck6(c:CT){x y:Val}(h:x=y):ceq c x y=true:=by
 subst h
 cases c<;>simp[ceq]
theorem bf8{r k:Val}: ∀(s:List CT) (j:Nat),(∀t,t<s.length→k.toL.getD (j+t) default=r.toL.getD (j+t) default)→cC9 r k s j=true
 | [],_,_=>rfl
 |c::s,j,h=>by
  show(ceq c _ _&&cC9 r k s (j+1))=true
  rw[ck6 c (by simpa using h 0 (by simp)),bf8 s (j+1) (fun t ht=>by
    have:=h (t+1) (by simp;omega)
    rw[show j+1+t=j+(t+1) by omega];exact this)]
  rfl
theorem bf9{ks:List CT}{es zs:List SX}{l:SX}(hes:es.length=ks.length): ∀t,t<zs.length→den ω (.op .ite [aq0 ks (an6 ks es zs l) es,.op .lget [an6 ks es zs l,aW7 ks (an6 ks es zs l) es,.ci ((ks.length+t:Nat):Int)],zs.getD t (.cb false)])=den ω (.op .ite [aq0 ks l es,.op .lget [l,aW7 ks l es,.ci ((ks.length+t:Nat):Int)],zs.getD t (.cb false)]):=by
 intro t ht
 unfold an6
 split
 ·rename_i c l0 l1 ez
  cases hc:(SX.beq c (aq0 ks l0 es)&&SX.beq l1 l0&&SX.beqs ez (es++zs))with
  |false=>rfl
  |true=>
   obtain⟨hc,h3⟩:=O4 hc
   obtain⟨h1,h2⟩:=O4 hc
   obtain rfl:=SX.beq_eq _ _ h1
   obtain rfl:=SX.beq_eq _ _ h2
   obtain rfl:=SX.beqs_eq _ _ h3
   simp only[cond_true]
   cases hh:dB ω (aq0 ks l1 es)with
   |true=>
    have hl:dL ω (.op .ite [aq0 ks l1 es,l1,.op .lcat [l1,.op .row [.op .row (es++zs)]]])=dL ω l1:=by
     show(den ω (.op .ite _)).toL=_
     rw[Z1,hh];rfl
    have hi:dI ω (aW7 ks (.op .ite [aq0 ks l1 es,l1,.op .lcat [l1,.op .row [.op .row (es++zs)]]]) es)=dI ω (aW7 ks l1 es):=by rw[ag7,ag7,hl]
    rw[Z1,Z1,a51,a51,hl]
    refine congrArg (fun z=>bif _ then z else den ω (zs.getD t (.cb false))) ?_
    show S4 (dL ω l1) (dI ω (aW7 ks l1 es)) _=S4 (dL ω _) (dI ω _) _
    rw[hl,hi]
   |false=>
    have hl:dL ω (.op .ite [aq0 ks l1 es,l1,.op .lcat [l1,.op .row [.op .row (es++zs)]]])=dL ω l1++[.vl (P2 ω (es++zs))]:=by
     show(den ω (.op .ite _)).toL=_
     rw[Z1,hh];rfl
    have hn: ∀x∈dL ω l1,keq ks x (.vl (P2 ω es))=false:=by
     rw[a51,decide_eq_false_iff_not]at hh
     have:=N2.1 (Nat.le_antisymm List.findIdx_le_length (C4 hh))
     intro x hx
     simpa using this x hx
    have hk:keq ks (.vl (P2 ω (es++zs))) (.vl (P2 ω es))=true:=bf8 ks 0 fun t ht=>by
     show(P2 ω es).getD (0+t) default=(P2 ω (es++zs)).getD (0+t) default
     have hdl:(P2 ω es).length=ks.length:=by rw[aj7,hes]
     rw[show P2 ω (es++zs)=P2 ω es++P2 ω zs from aw6 ω es zs,i3,i3,k6 (by omega)]
    have hi:(dL ω l1++[Val.vl (P2 ω (es++zs))]).findIdx (fun r=>keq ks r (Val.vl (P2 ω es)))=(dL ω l1).length:=by
      rw[List.findIdx_append,N2.2 (fun x hx=>by simpa using hn x hx)]
      simp[hk]
    rw[Z1,hh,Z1,a51,hl,hi]
    rw[show decide ((dL ω l1).length<(dL ω l1++[Val.vl (P2 ω (es++zs))]).length)=true from decide_eq_true (by simp)]
    show den ω (zs.getD t (.cb false))=S4 (dL ω _) (dI ω (aW7 ks _ es)) ((ks.length+t:Nat):Int)
    rw[ag7,hl,hi]
    show _=((dL ω l1++[Val.vl (P2 ω (es++zs))]).getD (dL ω l1).length (.vl [])).toL.getD (ks.length+t) default
    rw[i3 (l:=dL ω l1++_),k5 (b9 _),B0]
    show _=(P2 ω (es++zs)).getD (ks.length+t) default
    have hdl:(P2 ω es).length=ks.length:=by rw[aj7,hes]
    rw[show P2 ω (es++zs)=P2 ω es++P2 ω zs from aw6 ω es zs,i3 (l:=P2 ω es++_),k5 (by omega),hdl,A9,←i3,aI5 ω zs t ht]
 ·rfl
theorem aO9{ks vs:List CT}{es zs:List SX}{l:SX}{v:Value}(hes:es.length=ks.length)(r:VR β ω (b33 (ac4 ks l es vs ks.length zs)) v):VR β ω (b33 (ac4 ks (an6 ks es zs l) es vs ks.length zs)) v:=
 c05 (by rw[aO8,aO8]) (fun us h=>aZ9 vs ks.length zs (bf9 hes) h) r
theorem bL9(r:HR β ω K w0 h w)(o:OpR β ω ρA ρ)(t:TypeId)(m k:Operand)(ok:Bool):SOk E β ω K w0 w h (do pure (.value (←Instr.lookup t (ρ m) (ρ k) ok))) (b34 E.P t h (ρA m) (ρA k) ok):=by
 unfold b34
 split
 ·rename_i kt et ht
  split
  ·rename_i b hm
   split
   ·rename_i cs hk
    have rm:=o m _ hm
    have rk:=o k _ hk
    simp only[VR]at rm
    obtain⟨L,hL,em⟩:=rm
    obtain⟨xs,ek,rx⟩:=rk
    unfold bS9
    split
    ·rename_i d ks vs l z hg hz
     split
     ·rename_i es zs hes hzs
      cases hc:(aB3 E.P kt ks&&Nat.ble 2 ks.length&&a72 vs z)with
      |false=>trivial
      |true=>
       obtain⟨hc,hsh⟩:=O4 hc
       obtain⟨hkt,h2⟩:=O4 hc
       rw[P0]at h2
       simp only[cond_true]
       obtain⟨En,c,q1,q2,q3⟩:=r.marr hg hL
       obtain⟨ents,hE,hmap⟩:=aO4 h2 q2
       have hxs:xs.toList=aq1 (.vl (P2 ω es)) ks 0:=by rw[T5 hes rx,V5]
       have rk':VR β ω (.agg (aF2 (.vl (P2 ω es)) ks 0)) (ρ k):=⟨xs,ek,by rw[hxs];exact as7 _ _ _⟩
       have hko:=aI3 hkt (.vl (P2 ω es))
       rcases aj6 hkt (.vl (P2 ω es)) 0 hmap with⟨a,hf⟩|⟨e,row,a1,a2,a3,hf,a5,a6⟩
       ·have hhas:dB ω (aq0 ks l es)=false:=by rw[a51,a];simp
        obtain⟨v',hv',hrun⟩:=U6 hko rk' hE hf
        simp only[FR]at hv';subst hv'
        obtain⟨zv,z1,z2⟩:=as3 hz
        have hzc:=T5 hzs ((z1 β ω).cells (aI6 hsh))
        rw[V5]at hzc
        have hvr:VR β ω (b33 (ac4 ks l es vs ks.length zs)) zv:=by
         have:=aO2 (aO7 (β:=β) hhas vs ks.length 0 zs (.vl (P2 ω zs)) (T0 hzs) (fun t ht=>by rw[j8];exact aI5 ω zs t ht))
         rw[←hzc]at this
         rw[as8 hsh (z1 β ω) (by rw[hzc,a15])]at this
         exact this
        refine X7.pureV r (u:=if ok then .tuple #[zv,.bool false]else zv) ?_ ?_
        ·cases ok
         ·exact aO9 (T0 hes) hvr
         ·exact⟨_,rfl,.cons hvr (.one (by show _=Value.bool (dB ω (aq0 ks l es));rw[hhas]))⟩
        ·simp only[em,Instr.lookup,Sem.run_bind,O7 ht,Result.andThen_ok,Sem.run_pure,R2 q1,U5 hko rk',hrun,z2]
       ·have hhas:dB ω (aq0 ks l es)=true:=by rw[a51];exact decide_eq_true a1
        obtain⟨v',hv',hrun⟩:=U6 hko rk' hE hf
        obtain⟨k2,v2,e1,e2,e3,e4,e5⟩:=hv'
        subst e1
        rw[a6]at e5
        have hv2:=c04 row vs ks.length e5
        have hvr:VR β ω (b33 (ac4 ks l es vs ks.length zs)) v2:=by
         rw[hv2];exact aO2 (aO6 hhas a2 vs ks.length zs (T0 hzs))
        refine X7.pureV r (u:=if ok then .tuple #[v2,.bool true]else v2) ?_ ?_
        ·cases ok
         ·exact aO9 (T0 hes) hvr
         ·exact⟨_,rfl,.cons hvr (.one (by show _=Value.bool (dB ω (aq0 ks l es));rw[hhas]))⟩
        ·simp only[em,Instr.lookup,Sem.run_bind,O7 ht,Result.andThen_ok,Sem.run_pure,R2 q1,U5 hko rk',hrun]
     ·trivial
    ·trivial
   ·trivial
  ·trivial
 ·trivial
theorem ao3{r q:Val}: ∀(sig:List CT) (j i:Nat),(∀t,t<sig.length→r.toL.getD (j+t) default=q.toL.getD (i+t) default)→aq1 r sig j=aq1 q sig i
 | [],_,_,_=>rfl
 |c::cs,j,i,h=>by
  have h0:=h 0 (by simp)
  have ih:=ao3 cs (j+1) (i+1) (fun t ht=>by
   have:=h (t+1) (by simp;omega)
   rw[show j+1+t=j+(t+1) by omega,show i+1+t=i+(t+1) by omega];exact this)
  simp only[Nat.add_zero]at h0
  simp only[aq1,h0,ih]
theorem b54{r k:Val}: ∀(sig:List CT) (j:Nat),cC9 r k sig j=true→aq1 r sig j=aq1 k sig j
 | [],_,_=>rfl
 |c::cs,j,h=>by
  obtain⟨h1,h2⟩:=O4 h
  have:a56 c (r.toL.getD j default)=a56 c (k.toL.getD j default):=by
   cases c
   ·have:=of_decide_eq_true h1;show Value.int _ _=Value.int _ _;rw[this]
   ·have:=of_decide_eq_true h1;show Value.string _=Value.string _;rw[this]
   ·have:=eq_of_beq h1;show Value.bool _=Value.bool _;rw[this]
  simp only[aq1,this,b54 cs (j+1) h2]
theorem aj8(k:Val): ∀(sig:List CT) (j:Nat),((aq1 k sig j).zip (aq1 k sig j)).all (fun(x,y)=>Instr.sameBits 9999 x y)=true
 | [],_=>rfl
 |c::cs,j=>by
  simp only[aq1,List.zip_cons_cons,List.all_cons,e8]
  exact⟨aM7 (β:=fun _=>none) (ω:=ω0) (a:=clo c (k.toL.getD j default)) (b:=clo c (k.toL.getD j default)) 9999 (by cases c<;>simp[clo,bc0,a99,ag3]) (c01 c _) (c01 c _),aj8 k cs (j+1)⟩
theorem bq8{ks vs:List CT}{es xs:List SX}{a b:List Value}(h1:es.length=ks.length)(h2:xs.length=vs.length)(ha:a=a57 ks (.vl (P2 ω es)))(hb:b=a57 vs (.vl (P2 ω xs))):bp2 ks vs (.vl (P2 ω (es++xs)))=(ooa a,ooa b):=by
 rw[b53,ha,hb,V5,V5,aw6]
 have q1:=aj7 ω es
 have q2:=aj7 ω xs
 congr 2
 ·refine ao3 ks 0 0 fun t ht=> ?_
  show(P2 ω es++P2 ω xs).getD (0+t) default=(P2 ω es).getD (0+t) default
  rw[i3,i3,k6 (by omega)]
 ·refine ao3 vs ks.length 0 fun t ht=> ?_
  show(P2 ω es++P2 ω xs).getD (ks.length+t) default=(P2 ω xs).getD (0+t) default
  rw[i3,i3,k5 (by omega)]
  congr 2;omega
theorem aP0{vs:List CT}{x:AV}{v:Value}(hs:a72 vs x=true)(hv:VR β ω x v){b:List Value}(hb:v.cells.toList=b)(hl:b.length=vs.length):ooa b=v:=by
 subst hb
 exact as8 hs hv hl
theorem aC0{α:Type}{l:List α}{i:Nat}{e:α}{f:α→α}(h:l[i]? =some e):l.modify i f=l.set i (f e):=by
 have hi:i<l.length:=by
  cases i4 i l.length with
  |inl h1=>exact h1
  |inr h1=>rw[l6 h1]at h;cases h
 refine G1 fun j=> ?_
 rw[List.getElem?_modify,J4]
 by_cases hj:i=j
 ·subst hj;rw[h,if_pos rfl,if_pos hi];simp
 ·simp[hj]
theorem ck7{ks:List CT}{l:SX}{es xs:List SX}(h:dB ω (aq0 ks l es)=true):dL ω (cT6 ks l es xs)=(dL ω l).set ((dL ω l).findIdx (fun r=>keq ks r (.vl (P2 ω es)))) (.vl (P2 ω (es++xs))):=by
  show(den ω (.op .ite _)).toL=_
  rw[Z1,h]
  show(dL ω l).set (dI ω (aW7 ks l es)).toNat _=_
  rw[ag7];rfl
theorem ck8{ks:List CT}{l:SX}{es xs:List SX}(h:dB ω (aq0 ks l es)=false):dL ω (cT6 ks l es xs)=dL ω l++[.vl (P2 ω (es++xs))]:=by
 show(den ω (.op .ite _)).toL=_
 rw[Z1,h];rfl
theorem bg0(r:HR β ω K w0 h w)(o:OpR β ω ρA ρ)(t:TypeId)(m k x:Operand):SOk E β ω K w0 w h (do Instr.mapUpdate t (ρ m) (ρ k) (ρ x);pure .skip) (by6 E.P t h (ρA m) (ρA k) (ρA x)):=by
 unfold by6
 split
 ·rename_i kt et ht
  split
  ·rename_i b hm
   split
   ·rename_i cs hk
    split
    ·rename_i xv hx
     split
     ·rename_i zk z hzk hz
      split
      ·rename_i ks vs hks hvs
       have rm:=o m _ hm
       have rk:=o k _ hk
       have rx:=o x _ hx
       simp only[VR]at rm
       obtain⟨L,hL,em⟩:=rm
       have rk0:=rk
       obtain⟨kx,ek,rkx⟩:=rk
       unfold bT0
       split
       ·rename_i es xs hes hxs
        cases hc:(aB3 E.P kt ks&&Nat.ble 2 ks.length&&a72 vs xv&&Nat.ble h.wm b)with
        |false=>trivial
        |true=>
         obtain⟨hc,hwm⟩:=O4 hc
         obtain⟨hc,hsh⟩:=O4 hc
         obtain⟨hkt,h2⟩:=O4 hc
         rw[P0]at h2 hwm
         simp only[cond_true]
         have hkx:=T5 hes rkx
         have hvx:=T5 hxs (rx.cells (aI6 hsh))
         have l1:=T0 hes
         have l2:=T0 hxs
         have hent:=bq8 (ω:=ω) l1 l2 hkx hvx
         have hkey:ooa kx.toList=ρ k:=by
          rw[ek,aO3 (by rw[hkx,V5,a15];exact h2)]
         have hval:ooa (ρ x).cells.toList=ρ x:=aP0 hsh rx rfl (by rw[hvx,V5,a15])
         rw[hkey,hval]at hent
         have hkc:kx.toList=aq1 (.vl (P2 ω es)) ks 0:=by rw[hkx,V5]
         have rk':VR β ω (.agg (aF2 (.vl (P2 ω es)) ks 0)) (ρ k):=⟨kx,ek,by rw[hkc];exact as7 _ _ _⟩
         have hko:=aI3 hkt (.vl (P2 ω es))
         split
         ·rename_i d ks' vs' l hg
          cases hq:(U9 ks' ks&&U9 vs' vs)with
          |false=>trivial
          |true=>
           obtain⟨e1,e2⟩:=O4 hq
           obtain rfl:=a36 e1
           obtain rfl:=a36 e2
           simp only[cond_true]
           obtain⟨En,c,q1,q2,q3⟩:=r.marr hg hL
           obtain⟨ents,hE,hmap⟩:=aO4 h2 q2
           refine X7.ofU ?_
           rcases aj6 hkt (.vl (P2 ω es)) 0 hmap with⟨a,hf⟩|⟨e,row,a1,a2,a3,hf,a5,a6⟩
           ·have hhas:dB ω (aq0 ks' l es)=false:=by rw[a51,a];simp
            obtain⟨v',hv',hrun⟩:=U6 hko rk' hE hf
            simp only[FR]at hv';subst hv'
            obtain⟨p1,p2⟩:=r.set1 b _ (.marr d ks' vs' (cT6 ks' l es xs)) L (.map (En.push ⟨ρ k,ρ x,c⟩) (c+1)) hg hL hwm
             ⟨_,_,rfl,by rw[D1,x5,q2,ck8 hhas,x5];simp only[m5,G0,hent],by rw[D1];exact q3.push _ _⟩
            refine⟨_,?_,p1,p2⟩
            simp only[em,Instr.mapUpdate,Sem.run_bind,O7 ht,Result.andThen_ok,R2 q1,U5 hko rk',hrun,S9 _ q1]
           ·have hhas:dB ω (aq0 ks' l es)=true:=by rw[a51];exact decide_eq_true a1
            obtain⟨v',hv',hrun⟩:=U6 hko rk' hE hf
            obtain⟨k2,v2,e1,e2,e3,e4,e5⟩:=hv'
            subst e1
            rw[j8]at e2 e3
            have he3:En[(dL ω l).findIdx (fun r=>keq ks' r (.vl (P2 ω es)))]? =some ⟨k2,v2,e.born⟩:=by simpa using e3
            have hk2:k2=ρ k:=by
             rw[a5]at e4
             obtain⟨ys,ey,ry⟩:=e4
             have:=aI4 row ks' 0 ry
             rw[b54 ks' 0 a3,←hkc]at this
             rw[ey,ek,A3.1 this]
            have hsb:Instr.sameBits 10000 (ρ k) (ρ k)=true:=by
             rw[ek]
             show(kx.size==kx.size&&(kx.toList.zip kx.toList).all fun(x,y)=>Instr.sameBits 9999 x y)=true
             rw[hkc,aj8];simp
            have hst: ∀w,(Instr.keyThatStays k2 (ρ k)).run E.P w= .ok (ρ k) w:=fun w=>by simp[Instr.keyThatStays,hk2,hsb]
            obtain⟨p1,p2⟩:=r.set1 b _ (.marr d ks' vs' (cT6 ks' l es xs)) L (.map (En.modify ((dL ω l).findIdx (fun r=>keq ks' r (.vl (P2 ω es)))) fun x'=>{x' with key:=ρ k,val:=ρ x}) c) hg hL hwm
             ⟨_,_,rfl,by
              rw[C2,ck7 hhas,J5,hent,←q2]
              rw[aC0 e3,J5],by rw[C2];exact q3.modify _ _ (fun _=>rfl)⟩
            refine⟨_,?_,p1,p2⟩
            simp only[em,Instr.mapUpdate,Sem.run_bind,O7 ht,Result.andThen_ok,R2 q1,U5 hko rk',hrun,j8,he3,Option.map_some,Option.getD_some,hst,S9 _ q1]
         ·rename_i c hg
          obtain⟨En,q1,q2⟩:=r.map hg hL
          have hE:En= #[]:=by
           have:En.toList=[]:=by generalize En.toList=z at q2;cases q2;rfl
           exact A3.1 this
          subst hE
          refine X7.ofU ?_
          have hf:ap8 E.P kt (.agg (aF2 (.vl (P2 ω es)) ks 0)) [] 0=some none:=rfl
          obtain⟨v',hv',hrun⟩:=U6 (β:=β) (ω:=ω) hko rk' (es:=[]) (m:=[]) .nil hf
          simp only[FR]at hv';subst hv'
          obtain⟨p1,p2⟩:=r.set1 b _ (.marr (Nat.beq c 0) ks vs (.op .row [.op .row (es++xs)])) L (.map (#[].push ⟨ρ k,ρ x,c⟩) (c+1)) hg hL hwm
           ⟨_,_,rfl,by
            show [(ρ k,ρ x)]=[bp2 ks vs (.vl (P2 ω (es++xs)))]
            rw[hent],V4.push (E:=[]) (V4.nil c) _ _⟩
          refine⟨_,?_,p1,p2⟩
          simp only[em,Instr.mapUpdate,Sem.run_bind,O7 ht,Result.andThen_ok,R2 q1,U5 hko rk',hrun,S9 _ q1]
         ·trivial
       ·trivial
      ·trivial
     ·trivial
    ·trivial
   ·trivial
  ·trivial
 ·trivial
end Go.Ev
