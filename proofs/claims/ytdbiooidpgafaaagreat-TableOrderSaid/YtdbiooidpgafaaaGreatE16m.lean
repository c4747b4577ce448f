import Derived.Test.YtdbiooidpgafaaaGreatE16y
set_option linter.unusedVariables false
set_option linter.unusedSimpArgs false
namespace Go.Ev
open Go
variable{E:Env}{β:Bij}{ω:Opq}{K:Nat→Prop}{w0 w:World}{h h':Heap}{ρA:Operand→Option AV}{ρ:Operand→Value}
def clo(c:CT)(x:Val):AV:=match c with
 | .int k=> .int k x.toI
 | .str=> .str x.toS
 | .bool=> .bool x.toB
def aH2(r:Val):List CT→Nat→List AV
 | [],_=>[]
 |c::cs,j=>clo c (r.toL.getD j default)::aH2 r cs (j+1)
def ar6(r:Val):List CT→Nat→List Value
 | [],_=>[]
 |c::cs,j=>a67 c (r.toL.getD j default)::ar6 r cs (j+1)
theorem c28(c:CT)(x:Val):VR β ω (clo c x) (a67 c x):=by cases c<;>rfl
theorem az9(r:Val): ∀(sig:List CT) (j:Nat),VRs β ω (aH2 r sig j) (ar6 r sig j)
 | [],_=>rfl
 |c::cs,j=> .cons (c28 c _) (az9 r cs (j+1))
theorem ag6(r:Val): ∀(sig:List CT) (j:Nat),(ar6 r sig j).length=sig.length
 | [],_=>rfl
 |c::cs,j=>by simp[ar6,ag6 r cs (j+1)]
theorem bC4(r:Val): ∀(a b:List CT) (j:Nat),ar6 r (a++b) j=ar6 r a j++ar6 r b (j+a.length)
 | [],b,j=>rfl
 |c::a,b,j=>by
  have:=bC4 r a b (j+1)
  simp only[List.cons_append,ar6,this,List.length_cons]
  rw[show j+1+a.length=j+(a.length+1) by omega]
theorem bf6(sig:List CT)(r:Val): ∀(s:List CT) (j:Nat),sig.drop j=s→(List.range' j s.length).map (fun t=>a67 (sig.getD t .bool) (r.toL.getD t default))=ar6 r s j
 | [],j,_=>rfl
 |c::s,j,h=>by
  have h1:sig.getD j .bool=c:=by
   have:=congrArg (fun z:List CT=>z[0]?) h
   simp only[r9,Nat.add_zero,List.getElem?_cons_zero]at this
   rw[i6,this];rfl
  have h2:sig.drop (j+1)=s:=by
   have:=congrArg List.tail h
   simpa[List.tail_drop]using this
  rw[List.length_cons,A8,k6,h1,bf6 sig r s (j+1) h2];rfl
theorem a36(sig:List CT)(r:Val):a95 sig r=ar6 r sig 0:=by
 have:=bf6 sig r sig 0 rfl
 rw[←this]
 unfold a95
 rw[G4]
theorem bC5(ks vs:List CT)(r:Val):bZ5 ks vs r=(ooa (ar6 r ks 0),ooa (ar6 r vs ks.length)):=by
 unfold bZ5
 rw[a36,bC4,j7]
 have:=ag6 r ks 0
 rw[←this,G2,G3]
theorem bf7: ∀{a:List AV} {us:List Value},VRs β ω a us→VR β ω (bn5 a) (ooa us)
 | [],us,h=>by rw[show us=[]from h];exact⟨_,rfl,rfl⟩
 | [x],us,⟨v,vr,e,h1,h2⟩=>by rw[e,show vr=[]from h2];exact h1
 |x::y::r,us,⟨v,vr,e,h1,u,ur,e2,h3,h4⟩=>by
  rw[e,e2]
  exact⟨_,rfl,.cons h1 (.cons h3 h4)⟩
theorem b31{us:List Value}(h:2≤us.length):ooa us= .agg us.toArray:=by
 match us,h with
 |_::_::_,_=>rfl
def bs2(ω:Opq)(n:Nat)(k r:Val):Opq:=⟨ω.v,fun i=>if i<n then k.toL.getD i default else r.toL.getD (i-n) default,ω.f,ω.one,ω.fix,ω.gh⟩
theorem c29(ω:Opq)(c:CT)(e:SX):a69 ω (bc1 c e)=clo c (den ω e):=by cases c<;>rfl
theorem av0{ω':Opq}{r:Val}: ∀(s:List CT) (i j:Nat),(∀t,t<s.length→ω'.w (i+t)=r.toL.getD (j+t) default)→aM1 ω' (ck5 s i)=aH2 r s j
 | [],_,_,_=>rfl
 |c::s,i,j,h=>by
  have h0:=h 0 (by simp)
  have ih:=av0 s (i+1) (j+1) (fun t ht=>by
   have:=h (t+1) (by simp;omega)
   rw[show i+1+t=i+(t+1) by omega,show j+1+t=j+(t+1) by omega];exact this)
  simp only[ck5,aM1,aH2,c29,ih]
  rw[show den ω' (.va i)=ω'.w i from rfl,show ω'.w i=r.toL.getD j default by simpa using h0]
theorem bC6{ω':Opq}{k r:Val}: ∀(s:List CT) (i j c:Nat),(∀t,t<s.length→ω'.w (i+t)=k.toL.getD (c+t) default)→(∀t,t<s.length→ω'.w (j+t)=r.toL.getD (c+t) default)→dB ω' (db8 s i j)=cI4 r k s c
 | [],_,_,_,_,_=>rfl
 |q::s,i,j,c,h1,h2=>by
  have a:=h1 0 (by simp)
  have b:=h2 0 (by simp)
  simp only[Nat.add_zero]at a b
  have ih:=bC6 s (i+1) (j+1) (c+1) (fun t ht=>by
   have:=h1 (t+1) (by simp;omega)
   rw[show i+1+t=i+(t+1) by omega,show c+1+t=c+(t+1) by omega];exact this) (fun t ht=>by
   have:=h2 (t+1) (by simp;omega)
   rw[show j+1+t=j+(t+1) by omega,show c+1+t=c+(t+1) by omega];exact this)
  have hand: ∀x y:SX,dB ω' (aJ6 x y)=(dB ω' x&&dB ω' y):=fun x y=>by
   unfold aJ6
   split
   ·rfl
   ·split
    ·show dB ω' _=(dB ω' _&&true);rw[A4]
    ·rfl
  simp only[db8,cI4,hand,ih]
  congr 1
  cases q
  ·show decide ((ω'.w i).toI=(ω'.w j).toI)=_;rw[a,b];rfl
  ·show decide ((ω'.w i).toS=(ω'.w j).toS)=_;rw[a,b];rfl
  ·show((ω'.w i).toB==(ω'.w j).toB)=_;rw[a,b];rfl
theorem cp2{P:Program}{kt:TypeId}{ks:List CT}(hk:aJ8 P kt ks=true)(k r:Val):eqE P 10000 kt (.agg (aH2 k ks 0)) (.agg (aH2 r ks 0))=some (keq ks r k):=by
 unfold aJ8 at hk
 obtain⟨_,hk⟩:=P8 hk
 split at hk
 ·rename_i e he
  obtain rfl:=SX.beq_eq _ _ hk
  have:=c19 (ω:=bs2 ω0 ks.length k r) 10000 he
  simp only[a69]at this
  rw[av0 (r:=k) ks 0 0 (fun t ht=>by simp[bs2,ht]),av0 (r:=r) ks ks.length 0 (fun t ht=>by simp only[bs2];rw[if_neg (by omega),A5,j7])]at this
  rw[this,bC6 (k:=k) (r:=r) ks 0 ks.length 0 (fun t ht=>by simp[bs2,ht]) (fun t ht=>by simp only[bs2];rw[if_neg (by omega),A5,j7])]
  rfl
 ·cases hk
theorem b32{P:Program}{kt:TypeId}{ks:List CT}(hk:aJ8 P kt ks=true)(k:Val):aJ5 P kt (.agg (aH2 k ks 0))=true:=by
 unfold aJ8 at hk
 obtain⟨hk,_⟩:=P8 hk
 have e:aH2 k ks 0=aM1 (bs2 ω0 ks.length k k) (ck5 ks 0):=(av0 (r:=k) ks 0 0 (fun t ht=>by simp[bs2,ht])).symm
 rw[e]
 unfold aJ5 at hk⊢
 split at hk
 ·rename_i h1;cases h1
 ·rename_i h1;cases h1
 ·rename_i h1;cases h1
 ·rename_i fields cs hu hq
  cases hq
  rw[hu]
  simp only
  rw[N0]at hk⊢
  intro f hf
  obtain⟨h1,h2⟩:=P8 (hk f hf)
  obtain⟨a,ha⟩:=M9.1 h1
  rw[az8 ha,h2];rfl
 ·cases hk
def do6(ks vs:List CT)(r:Val):AV×AV:=(.agg (aH2 r ks 0),bn5 (aH2 r vs ks.length))
theorem b33{ks vs:List CT}(h2:2≤ks.length): ∀{rows:List Val} {m:List MapEntry},(m.map fun e=>(e.key,e.val))=rows.map (bZ5 ks vs)→ ∃es,ERs β ω es m∧(es.map fun e=>(e.key,e.val))=rows.map (do6 ks vs)
 | [],[],_=>⟨[],.nil,rfl⟩
 | [],_::_,h=>by cases h
 |_::_,[],h=>by cases h
 |r::rows,e::m,h=>by
  simp only[k6,B8]at h
  obtain⟨es,h3,h4⟩:=b33 h2 (rows:=rows) (m:=m) h.2
  rw[bC5]at h
  obtain⟨k,v,b⟩:=e
  have hk:k=ooa (ar6 r ks 0):=congrArg Prod.fst h.1
  have hv:v=ooa (ar6 r vs ks.length):=congrArg Prod.snd h.1
  refine⟨⟨.agg (aH2 r ks 0),bn5 (aH2 r vs ks.length),b⟩::es,.cons ?_ ?_ h3,by simp only[k6,h4];rfl⟩
  ·rw[hk,b31 (by rw[ag6];exact h2)]
   exact⟨_,rfl,az9 r ks 0⟩
  ·rw[hv];exact bf7 (az9 r vs ks.length)
theorem av1{P:Program}{kt:TypeId}{ks vs:List CT}(hk:aJ8 P kt ks=true)(k:Val): ∀{rows:List Val} {es:List Ent} (i:Nat),(es.map fun e=>(e.key,e.val))=rows.map (do6 ks vs)→
 (rows.findIdx (fun r=>keq ks r k)=rows.length∧aq6 P kt (.agg (aH2 k ks 0)) es i=some none)∨
 ∃e r,rows.findIdx (fun r=>keq ks r k)<rows.length∧rows[rows.findIdx (fun r=>keq ks r k)]? =some r∧keq ks r k=true∧aq6 P kt (.agg (aH2 k ks 0)) es i=some (some (i+rows.findIdx (fun r=>keq ks r k),e))∧e.key= .agg (aH2 r ks 0)∧e.val=bn5 (aH2 r vs ks.length)
 | [],[],i,_=> .inl ⟨rfl,rfl⟩
 | [],_::_,i,h=>by cases h
 |_::_,[],i,h=>by cases h
 |r::rows,e::es,i,h=>by
  simp only[k6,B8]at h
  have h1:e.key= .agg (aH2 r ks 0):=congrArg Prod.fst h.1
  have h2:e.val=bn5 (aH2 r vs ks.length):=congrArg Prod.snd h.1
  have hq:=cp2 hk k r
  rw[List.findIdx_cons]
  cases hc:keq ks r k with
  |true=>
   rw[hc]at hq
   refine .inr ⟨e,r,by simp,by simp,hc,?_,h1,h2⟩
   simp only[aq6,h1,hq,cond_true,Nat.add_zero]
  |false=>
   rw[hc]at hq
   simp only[cond_false]
   rcases av1 hk k (i+1) h.2 with⟨a,b⟩|⟨e',r',a1,a2,a3,a4,a5,a6⟩
   ·exact .inl ⟨by rw[a];rfl,by simp only[aq6,h1,hq];exact b⟩
   ·refine .inr ⟨e',r',by rw[List.length_cons];exact Nat.succ_lt_succ a1,by simpa using a2,a3,?_,a5,a6⟩
    simp only[aq6,h1,hq]
    rw[a4];congr 3;omega
theorem HR.marr{b:Nat}{d:Bool}{ks vs:List CT}{l:SX}{L:Loc}(r:HR β ω K w0 h w)(hg:h.get b=some (.marr d ks vs l))(hb:β b=some L):
 ∃E c,w.heap[L.blk]? =some (.map E c)∧(E.toList.map fun e=>(e.key,e.val))=(dL ω l).map (bZ5 ks vs)∧Y4 d E.toList c:=r.blk b _ L hg hb
theorem Y4.push{d:Bool}{E:List MapEntry}{c:Nat}(h:Y4 d E c)(k x:Value):Y4 d (E++[⟨k,x,c⟩]) (c+1):=by
 obtain⟨h1,h2,h3⟩:=h
 refine⟨?_,?_,?_⟩
 ·rw[o9,List.pairwise_append]
  refine⟨h1,by simp,fun a ha b hb=> ?_⟩
  obtain⟨e,he,rfl⟩:=j6.1 ha
  simp only[k6,G5,o7]at hb
  subst hb;exact h2 e he
 ·intro e he
  rcases q9.1 he with he|he
  ·exact M6 (h2 e he)
  ·simp only[o7]at he;subst he;exact Nat.lt_succ_self _
 ·intro hd
  rw[o9,h3 hd,N5];rfl
theorem aM5{f:MapEntry→MapEntry}(hf: ∀e,(f e).born=e.born): ∀(E:List MapEntry) (i:Nat),(E.modify i f).map (·.born)=E.map (·.born)
 | [],i=>by cases i<;>rfl
 |e::E,0=>by simp[List.modify,hf]
 |e::E,i+1=>by simpa using aM5 hf E i
theorem Y4.modify{d:Bool}{E:List MapEntry}{c:Nat}(h:Y4 d E c)(i:Nat)(f:MapEntry→MapEntry)(hf: ∀e,(f e).born=e.born):Y4 d (E.modify i f) c:=by
 obtain⟨h1,h2,h3⟩:=h
 have hm:=aM5 hf E i
 refine⟨by rw[hm];exact h1,fun e he=> ?_,fun hd=>by rw[hm];exact h3 hd⟩
 have:e.born∈(E.modify i f).map (·.born):=List.mem_map_of_mem he
 rw[hm]at this
 obtain⟨e',he',q⟩:=j6.1 this
 rw[←q];exact h2 e' he'
theorem av2(ks:List CT)(l:SX)(es:List SX):dI ω (bb1 ks l es)=((dL ω l).findIdx (fun r=>keq ks r (.vl (Q4 ω es))):Nat):=rfl
theorem ac2(ks:List CT)(l:SX)(es:List SX):dB ω (az1 ks l es)=decide ((dL ω l).findIdx (fun r=>keq ks r (.vl (Q4 ω es)))<(dL ω l).length):=by
  show decide (((dL ω l).findIdx (fun r=>keq ks r (.vl (Q4 ω es))):Int)<((dL ω l).length:Int))=_
  simp
theorem ad7(c a b:SX):den ω (.op .ite [c,a,b])=bif dB ω c then den ω a else den ω b:=rfl
theorem bf8{ks:List CT}{l:SX}{es:List SX}{r:Val}(hh:dB ω (az1 ks l es)=true)(hr:(dL ω l)[(dL ω l).findIdx (fun r=>keq ks r (.vl (Q4 ω es)))]? =some r): ∀(vs:List CT) (j:Nat) (zs:List SX),zs.length=vs.length→VRs β ω (ag0 ks l es vs j zs) (ar6 r vs j)
 | [],_,_,_=>by unfold ag0;rfl
 |c::vs,j,[],h=>by simp at h
 |c::vs,j,z::zs,h=>by
  have ih:=bf8 hh hr vs (j+1) zs (by simpa using h)
  refine .cons ?_ ih
  have e:den ω (.op .ite [az1 ks l es,.op .lget [l,bb1 ks l es,.ci j],z])=r.toL.getD j default:=by
   rw[ad7,hh]
   show R6 (dL ω l) (dI ω (bb1 ks l es)) (j:Int)=_
   rw[av2]
   show((dL ω l).getD _ (.vl [])).toL.getD j default=_
   rw[i6]
   show(((dL ω l)[(dL ω l).findIdx _]?).getD (.vl [])).toL.getD j default=_
   rw[hr];rfl
  have:=am4 (β:=β) (ω:=ω) c (.op .ite [az1 ks l es,.op .lget [l,bb1 ks l es,.ci j],z])
  rw[e]at this
  exact this
theorem bf9{ks:List CT}{l:SX}{es:List SX}(hh:dB ω (az1 ks l es)=false): ∀(vs:List CT) (j i:Nat) (zs:List SX) (q:Val),zs.length=vs.length→(∀t,t<zs.length→q.toL.getD (i+t) default=den ω (zs.getD t (.cb false)))→VRs β ω (ag0 ks l es vs j zs) (ar6 q vs i)
 | [],_,_,_,_,_,_=>by unfold ag0;rfl
 |c::vs,j,i,[],q,h,_=>by simp at h
 |c::vs,j,i,z::zs,q,h,hq=>by
  have ih:=bf9 hh vs (j+1) (i+1) zs q (by simpa using h) (fun t ht=>by
    have:=hq (t+1) (by simp;omega)
    rw[show i+1+t=i+(t+1) by omega];simpa using this)
  refine .cons ?_ ih
  have e:den ω (.op .ite [az1 ks l es,.op .lget [l,bb1 ks l es,.ci j],z])=q.toL.getD i default:=by
   rw[ad7,hh]
   have:=hq 0 (by simp)
   simpa using this.symm
  have:=am4 (β:=β) (ω:=ω) c (.op .ite [az1 ks l es,.op .lget [l,bb1 ks l es,.ci j],z])
  rw[e]at this
  exact this
theorem aM6{vs:List CT}{z:AV}{v:Value}(hs:ai2 vs z=true)(hv:VR β ω z v)(hl:v.cells.toList.length=vs.length):ooa v.cells.toList=v:=by
 match vs,hs with
 | [c],hs=>
   have h1:=VR.one hv (show z.one=true from hs)
   have:v.cells= #[v]:=by cases v<;>first|rfl|(simp[Value.oneCell']at h1)
   rw[this];rfl
 |_::_::_,hs=>
  cases z with
  |agg cs=>
   obtain⟨xs,rfl,_⟩:=hv
   show ooa xs.toList=_
   have:2≤xs.toList.length:=by
    have:xs.toList.length=_:=hl
    rw[this];simp
   rw[b31 this]
  |_=>cases hs
theorem c30{c:CT}{x:Val}{v:Value}(h:VR β ω (clo c x) v):v=a67 c x:=by cases c<;>exact h
theorem b34(r:Val): ∀(sig:List CT) (j:Nat) {us:List Value},VRs β ω (aH2 r sig j) us→us=ar6 r sig j
 | [],_,_,h=>h
 |c::cs,j,_,⟨v,vr,e,h1,h2⟩=>by rw[e,c30 h1,b34 r cs (j+1) h2];rfl
theorem cK6(r:Val)(sig:List CT)(j:Nat){v:Value}(h:VR β ω (bn5 (aH2 r sig j)) v):v=ooa (ar6 r sig j):=by
 match sig,h with
 | [],⟨xs,e,h⟩=>rw[e];show Value.agg xs=Value.agg _;congr 1;exact D7.1 h
 | [c],h=>exact c30 h
 |c::d::s,⟨xs,e,h⟩=>
  rw[e,b31 (by rw[ag6];simp),←b34 r (c::d::s) j h]
theorem aj1(ω:Opq): ∀l:List SX,(Q4 ω l).length=l.length
 | []=>rfl
 |_::r=>by simp[Q4,aj1 ω r]
theorem b35(ω:Opq): ∀(l:List SX) (t:Nat),t<l.length→(Q4 ω l).getD t default=den ω (l.getD t (.cb false))
 | [],t,h=>by simp at h
 |x::r,0,_=>rfl
 |x::r,t+1,h=>by
  have:=b35 ω r t (by simpa using h)
  simpa[Q4]using this
theorem a21: ∀{sig:List CT} {vs:List AV} {es:List SX},X8 sig vs=some es→es.length=sig.length
 | [],[],es,h=>by simp only[X8,b9]at h;subst h;rfl
 | [],_::_,es,h=>by cases h
 |_::_,[],es,h=>by cases h
 |c::cs,v::vs,es,h=>by
  unfold X8 at h
  split at h
  ·rename_i e es' h1 h2
   simp only[b9]at h;subst h
   simp[a21 h2]
  ·cases h
theorem bC7{vs:List CT}{z:AV}(hs:ai2 vs z=true):z.nt=true:=by
 unfold ai2 at hs
 split at hs
 ·cases hs
 ·cases z<;>first|rfl|cases hs
 ·cases z<;>first|rfl|cases hs
theorem av3(ω:Opq): ∀a b:List SX,Q4 ω (a++b)=Q4 ω a++Q4 ω b
 | [],_=>rfl
 |x::a,b=>by simp[Q4,av3 ω a b]
theorem bO5{c:CT}{e e':SX}{u:Value}(h:den ω e'=den ω e)(r:VR β ω (bc1 c e) u):VR β ω (bc1 c e') u:=by
 have h1:=am4 (β:=β) (ω:=ω) c e'
 rw[h]at h1
 have h2:u=a67 c (den ω e):=by cases c<;>exact r
 rw[h2];exact h1
theorem aX6{ks:List CT}{l l':SX}{es:List SX}: ∀(vs:List CT) (j:Nat) (zs:List SX) {us:List Value},(∀t,t<zs.length→den ω (.op .ite [az1 ks l' es,.op .lget [l',bb1 ks l' es,.ci ((j+t:Nat):Int)],zs.getD t (.cb false)])=den ω (.op .ite [az1 ks l es,.op .lget [l,bb1 ks l es,.ci ((j+t:Nat):Int)],zs.getD t (.cb false)]))→
 VRs β ω (ag0 ks l es vs j zs) us→VRs β ω (ag0 ks l' es vs j zs) us
 | [],_,_,us,_,h=>by unfold ag0 at h⊢;exact h
 |c::vs,j,[],us,_,h=>by unfold ag0 at h⊢;exact h
 |c::vs,j,z::zs,us,hq,h=>by
  obtain⟨u,ur,rfl,h1,h2⟩:=h
  refine .cons (bO5 ?_ h1) (aX6 vs (j+1) zs (fun t ht=> ?_) h2)
  ·have:=hq 0 (by simp)
   simpa using this
  ·have:=hq (t+1) (by simp;omega)
   rw[show j+1+t=j+(t+1) by omega]
   simpa using this
theorem aM7{ks:List CT}{l:SX}{es:List SX}: ∀(vs:List CT) (j:Nat) (zs:List SX),(ag0 ks l es vs j zs).length=min vs.length zs.length
 | [],_,_=>by unfold ag0;simp
 |c::vs,j,[]=>by unfold ag0;simp
 |c::vs,j,z::zs=>by
  show(ag0 ks l es vs (j+1) zs).length+1=_
  rw[aM7 vs (j+1) zs];simp
theorem c31{A B:List AV}{v:Value}(hl:A.length=B.length)(h: ∀us,VRs β ω A us→VRs β ω B us)(r:VR β ω (bn5 A) v):VR β ω (bn5 B) v:=by
 match A,B,hl with
 | [a],[b],_=>
   have h1:=h [v] ⟨v,[],rfl,r,rfl⟩
   obtain⟨u,ur,e,h2,_⟩:=h1
   obtain⟨rfl,_⟩:=J2 e
   exact h2
 | [],[],_=>
   obtain⟨xs,e,h1⟩:=r
   exact⟨xs,e,h _ h1⟩
 |a::b::A,c::d::B,_=>
  obtain⟨xs,e,h1⟩:=r
  exact⟨xs,e,h _ h1⟩
theorem cp3(c:CT){x y:Val}(h:x=y):ceq c x y=true:=by
 subst h
 cases c<;>simp[ceq]
theorem bg0{r k:Val}: ∀(s:List CT) (j:Nat),(∀t,t<s.length→k.toL.getD (j+t) default=r.toL.getD (j+t) default)→cI4 r k s j=true
 | [],_,_=>rfl
 |c::s,j,h=>by
  show(ceq c _ _&&cI4 r k s (j+1))=true
  rw[cp3 c (by simpa using h 0 (by simp)),bg0 s (j+1) (fun t ht=>by
    have:=h (t+1) (by simp;omega)
    rw[show j+1+t=j+(t+1) by omega];exact this)]
  rfl
theorem bg1{ks:List CT}{es zs:List SX}{l:SX}(hes:es.length=ks.length): ∀t,t<zs.length→den ω (.op .ite [az1 ks (al9 ks es zs l) es,.op .lget [al9 ks es zs l,bb1 ks (al9 ks es zs l) es,.ci ((ks.length+t:Nat):Int)],zs.getD t (.cb false)])=den ω (.op .ite [az1 ks l es,.op .lget [l,bb1 ks l es,.ci ((ks.length+t:Nat):Int)],zs.getD t (.cb false)]):=by
 intro t ht
 unfold al9
 split
 ·rename_i c l0 l1 ez
  cases hc:(SX.beq c (az1 ks l0 es)&&SX.beq l1 l0&&SX.beqs ez (es++zs))with
  |false=>rfl
  |true=>
   obtain⟨hc,h3⟩:=P8 hc
   obtain⟨h1,h2⟩:=P8 hc
   obtain rfl:=SX.beq_eq _ _ h1
   obtain rfl:=SX.beq_eq _ _ h2
   obtain rfl:=SX.beqs_eq _ _ h3
   simp only[cond_true]
   cases hh:dB ω (az1 ks l1 es)with
   |true=>
    have hl:dL ω (.op .ite [az1 ks l1 es,l1,.op .lcat [l1,.op .row [.op .row (es++zs)]]])=dL ω l1:=by
     show(den ω (.op .ite _)).toL=_
     rw[ad7,hh];rfl
    have hi:dI ω (bb1 ks (.op .ite [az1 ks l1 es,l1,.op .lcat [l1,.op .row [.op .row (es++zs)]]]) es)=dI ω (bb1 ks l1 es):=by rw[av2,av2,hl]
    rw[ad7,ad7,ac2,ac2,hl]
    refine congrArg (fun z=>bif _ then z else den ω (zs.getD t (.cb false))) ?_
    show R6 (dL ω l1) (dI ω (bb1 ks l1 es)) _=R6 (dL ω _) (dI ω _) _
    rw[hl,hi]
   |false=>
    have hl:dL ω (.op .ite [az1 ks l1 es,l1,.op .lcat [l1,.op .row [.op .row (es++zs)]]])=dL ω l1++[.vl (Q4 ω (es++zs))]:=by
     show(den ω (.op .ite _)).toL=_
     rw[ad7,hh];rfl
    have hn: ∀x∈dL ω l1,keq ks x (.vl (Q4 ω es))=false:=by
     rw[ac2,decide_eq_false_iff_not]at hh
     have:=List.findIdx_eq_length.1 (N6 List.findIdx_le_length (C1 hh))
     intro x hx
     simpa using this x hx
    have hk:keq ks (.vl (Q4 ω (es++zs))) (.vl (Q4 ω es))=true:=bg0 ks 0 fun t ht=>by
     show(Q4 ω es).getD (0+t) default=(Q4 ω (es++zs)).getD (0+t) default
     have hdl:(Q4 ω es).length=ks.length:=by rw[aj1,hes]
     rw[show Q4 ω (es++zs)=Q4 ω es++Q4 ω zs from av3 ω es zs,i6,i6,k9 (by omega)]
    have hi:(dL ω l1++[Val.vl (Q4 ω (es++zs))]).findIdx (fun r=>keq ks r (Val.vl (Q4 ω es)))=(dL ω l1).length:=by
      rw[List.findIdx_append,List.findIdx_eq_length.2 (fun x hx=>by simpa using hn x hx)]
      simp[hk]
    rw[ad7,hh,ad7,ac2,hl,hi]
    rw[show decide ((dL ω l1).length<(dL ω l1++[Val.vl (Q4 ω (es++zs))]).length)=true from decide_eq_true (by simp)]
    show den ω (zs.getD t (.cb false))=R6 (dL ω _) (dI ω (bb1 ks _ es)) ((ks.length+t:Nat):Int)
    rw[av2,hl,hi]
    show _=((dL ω l1++[Val.vl (Q4 ω (es++zs))]).getD (dL ω l1).length (.vl [])).toL.getD (ks.length+t) default
    rw[i6 (l:=dL ω l1++_),k8 (e8 _),E4]
    show _=(Q4 ω (es++zs)).getD (ks.length+t) default
    have hdl:(Q4 ω es).length=ks.length:=by rw[aj1,hes]
    rw[show Q4 ω (es++zs)=Q4 ω es++Q4 ω zs from av3 ω es zs,i6 (l:=Q4 ω es++_),k8 (by omega),hdl,A5,←i6,b35 ω zs t ht]
 ·rfl
theorem aM8{ks vs:List CT}{es zs:List SX}{l:SX}{v:Value}(hes:es.length=ks.length)(r:VR β ω (bn5 (ag0 ks l es vs ks.length zs)) v):VR β ω (bn5 (ag0 ks (al9 ks es zs l) es vs ks.length zs)) v:=
 c31 (by rw[aM7,aM7]) (fun us h=>aX6 vs ks.length zs (bg1 hes) h) r
theorem bO6(r:HR β ω K w0 h w)(o:OpR β ω ρA ρ)(t:TypeId)(m k:Operand)(ok:Bool):SOk E β ω K w0 w h (do pure (.value (←Instr.lookup t (ρ m) (ρ k) ok))) (b13 E.P t h (ρA m) (ρA k) ok):=by
 unfold b13
 split
 ·rename_i kt et ht
  split
  ·rename_i b hm
   split
   ·rename_i cs hk
    have rm:=o m _ hm
    have rk:=o k _ hk
    simp only[VR]at rm
    obtain⟨L,hL,em⟩:=rm
    obtain⟨xs,ek,rx⟩:=rk
    unfold bV6
    split
    ·rename_i d ks vs l z hg hz
     split
     ·rename_i es zs hes hzs
      cases hc:(aJ8 E.P kt ks&&Nat.ble 2 ks.length&&ai2 vs z)with
      |false=>trivial
      |true=>
       obtain⟨hc,hsh⟩:=P8 hc
       obtain⟨hkt,h2⟩:=P8 hc
       rw[Q2]at h2
       simp only[cond_true]
       obtain⟨En,c,q1,q2,q3⟩:=r.marr hg hL
       obtain⟨ents,hE,hmap⟩:=b33 h2 q2
       have hxs:xs.toList=ar6 (.vl (Q4 ω es)) ks 0:=by rw[Z2 hes rx,a36]
       have rk':VR β ω (.agg (aH2 (.vl (Q4 ω es)) ks 0)) (ρ k):=⟨xs,ek,by rw[hxs];exact az9 _ _ _⟩
       have hko:=b32 hkt (.vl (Q4 ω es))
       rcases av1 hkt (.vl (Q4 ω es)) 0 hmap with⟨a,hf⟩|⟨e,row,a1,a2,a3,hf,a5,a6⟩
       ·have hhas:dB ω (az1 ks l es)=false:=by rw[ac2,a];simp
        obtain⟨v',hv',hrun⟩:=Y7 hko rk' hE hf
        simp only[FR]at hv';subst hv'
        obtain⟨zv,z1,z2⟩:=az7 hz
        have hzc:=Z2 hzs ((z1 β ω).cells (bC7 hsh))
        rw[a36]at hzc
        have hvr:VR β ω (bn5 (ag0 ks l es vs ks.length zs)) zv:=by
         have:=bf7 (bf9 (β:=β) hhas vs ks.length 0 zs (.vl (Q4 ω zs)) (a21 hzs) (fun t ht=>by rw[j7];exact b35 ω zs t ht))
         rw[←hzc]at this
         rw[aM6 hsh (z1 β ω) (by rw[hzc,ag6])]at this
         exact this
        refine a11.pureV r (u:=if ok then .tuple #[zv,.bool false]else zv) ?_ ?_
        ·cases ok
         ·exact aM8 (a21 hes) hvr
         ·exact⟨_,rfl,.cons hvr (.one (by show _=Value.bool (dB ω (az1 ks l es));rw[hhas]))⟩
        ·simp only[em,Instr.lookup,Sem.run_bind,Q0 ht,Result.andThen_ok,Sem.run_pure,S6 q1,Y6 hko rk',hrun,z2]
       ·have hhas:dB ω (az1 ks l es)=true:=by rw[ac2];exact decide_eq_true a1
        obtain⟨v',hv',hrun⟩:=Y7 hko rk' hE hf
        obtain⟨k2,v2,e1,e2,e3,e4,e5⟩:=hv'
        subst e1
        rw[a6]at e5
        have hv2:=cK6 row vs ks.length e5
        have hvr:VR β ω (bn5 (ag0 ks l es vs ks.length zs)) v2:=by
         rw[hv2];exact bf7 (bf8 hhas a2 vs ks.length zs (a21 hzs))
        refine a11.pureV r (u:=if ok then .tuple #[v2,.bool true]else v2) ?_ ?_
        ·cases ok
         ·exact aM8 (a21 hes) hvr
         ·exact⟨_,rfl,.cons hvr (.one (by show _=Value.bool (dB ω (az1 ks l es));rw[hhas]))⟩
        ·simp only[em,Instr.lookup,Sem.run_bind,Q0 ht,Result.andThen_ok,Sem.run_pure,S6 q1,Y6 hko rk',hrun]
     ·trivial
    ·trivial
   ·trivial
  ·trivial
 ·trivial
theorem aA0{r q:Val}: ∀(sig:List CT) (j i:Nat),(∀t,t<sig.length→r.toL.getD (j+t) default=q.toL.getD (i+t) default)→ar6 r sig j=ar6 q sig i
 | [],_,_,_=>rfl
 |c::cs,j,i,h=>by
  have h0:=h 0 (by simp)
  have ih:=aA0 cs (j+1) (i+1) (fun t ht=>by
   have:=h (t+1) (by simp;omega)
   rw[show j+1+t=j+(t+1) by omega,show i+1+t=i+(t+1) by omega];exact this)
  simp only[Nat.add_zero]at h0
  simp only[ar6,h0,ih]
theorem bC8{r k:Val}: ∀(sig:List CT) (j:Nat),cI4 r k sig j=true→ar6 r sig j=ar6 k sig j
 | [],_,_=>rfl
 |c::cs,j,h=>by
  obtain⟨h1,h2⟩:=P8 h
  have:a67 c (r.toL.getD j default)=a67 c (k.toL.getD j default):=by
   cases c
   ·have:=of_decide_eq_true h1;show Value.int _ _=Value.int _ _;rw[this]
   ·have:=of_decide_eq_true h1;show Value.string _=Value.string _;rw[this]
   ·have:=eq_of_beq h1;show Value.bool _=Value.bool _;rw[this]
  simp only[ar6,this,bC8 cs (j+1) h2]
theorem aD9(k:Val): ∀(sig:List CT) (j:Nat),((ar6 k sig j).zip (ar6 k sig j)).all (fun(x,y)=>Instr.sameBits 9999 x y)=true
 | [],_=>rfl
 |c::cs,j=>by
  simp only[ar6,List.zip_cons_cons,List.all_cons,e9]
  exact⟨aL5 (β:=fun _=>none) (ω:=ω0) (a:=clo c (k.toL.getD j default)) (b:=clo c (k.toL.getD j default)) 9999 (by cases c<;>simp[clo,bb8,aa4,ag4]) (c28 c _) (c28 c _),aD9 k cs (j+1)⟩
theorem cK7{ks vs:List CT}{es xs:List SX}{a b:List Value}(h1:es.length=ks.length)(h2:xs.length=vs.length)(ha:a=a95 ks (.vl (Q4 ω es)))(hb:b=a95 vs (.vl (Q4 ω xs))):bZ5 ks vs (.vl (Q4 ω (es++xs)))=(ooa a,ooa b):=by
 rw[bC5,ha,hb,a36,a36,av3]
 have q1:=aj1 ω es
 have q2:=aj1 ω xs
 congr 2
 ·refine aA0 ks 0 0 fun t ht=> ?_
  show(Q4 ω es++Q4 ω xs).getD (0+t) default=(Q4 ω es).getD (0+t) default
  rw[i6,i6,k9 (by omega)]
 ·refine aA0 vs ks.length 0 fun t ht=> ?_
  show(Q4 ω es++Q4 ω xs).getD (ks.length+t) default=(Q4 ω xs).getD (0+t) default
  rw[i6,i6,k8 (by omega)]
  congr 2;omega
theorem c32{vs:List CT}{x:AV}{v:Value}(hs:ai2 vs x=true)(hv:VR β ω x v){b:List Value}(hb:v.cells.toList=b)(hl:b.length=vs.length):ooa b=v:=by
 subst hb
 exact aM6 hs hv hl
theorem bO7{α:Type}{l:List α}{i:Nat}{e:α}{f:α→α}(h:l[i]? =some e):l.modify i f=l.set i (f e):=by
 have hi:i<l.length:=by
  cases i4 i l.length with
  |inl h1=>exact h1
  |inr h1=>rw[l8 h1]at h;cases h
 refine J5 fun j=> ?_
 rw[List.getElem?_modify,List.getElem?_set]
 by_cases hj:i=j
 ·subst hj;rw[h,if_pos rfl,if_pos hi];simp
 ·simp[hj]
theorem cp4{ks:List CT}{l:SX}{es xs:List SX}(h:dB ω (az1 ks l es)=true):dL ω (cX7 ks l es xs)=(dL ω l).set ((dL ω l).findIdx (fun r=>keq ks r (.vl (Q4 ω es)))) (.vl (Q4 ω (es++xs))):=by
  show(den ω (.op .ite _)).toL=_
  rw[ad7,h]
  show(dL ω l).set (dI ω (bb1 ks l es)).toNat _=_
  rw[av2];rfl
theorem cp5{ks:List CT}{l:SX}{es xs:List SX}(h:dB ω (az1 ks l es)=false):dL ω (cX7 ks l es xs)=dL ω l++[.vl (Q4 ω (es++xs))]:=by
 show(den ω (.op .ite _)).toL=_
 rw[ad7,h];rfl
theorem bg2(r:HR β ω K w0 h w)(o:OpR β ω ρA ρ)(t:TypeId)(m k x:Operand):SOk E β ω K w0 w h (do Instr.mapUpdate t (ρ m) (ρ k) (ρ x);pure .skip) (bA5 E.P t h (ρA m) (ρA k) (ρA x)):=by
 unfold bA5
 split
 ·rename_i kt et ht
  split
  ·rename_i b hm
   split
   ·rename_i cs hk
    split
    ·rename_i xv hx
     split
     ·rename_i zk z hzk hz
      split
      ·rename_i ks vs hks hvs
       have rm:=o m _ hm
       have rk:=o k _ hk
       have rx:=o x _ hx
       simp only[VR]at rm
       obtain⟨L,hL,em⟩:=rm
       have rk0:=rk
       obtain⟨kx,ek,rkx⟩:=rk
       unfold bV7
       split
       ·rename_i es xs hes hxs
        cases hc:(aJ8 E.P kt ks&&Nat.ble 2 ks.length&&ai2 vs xv&&Nat.ble h.wm b)with
        |false=>trivial
        |true=>
         obtain⟨hc,hwm⟩:=P8 hc
         obtain⟨hc,hsh⟩:=P8 hc
         obtain⟨hkt,h2⟩:=P8 hc
         rw[Q2]at h2 hwm
         simp only[cond_true]
         have hkx:=Z2 hes rkx
         have hvx:=Z2 hxs (rx.cells (bC7 hsh))
         have l1:=a21 hes
         have l2:=a21 hxs
         have hent:=cK7 (ω:=ω) l1 l2 hkx hvx
         have hkey:ooa kx.toList=ρ k:=by
          rw[ek,b31 (by rw[hkx,a36,ag6];exact h2)]
         have hval:ooa (ρ x).cells.toList=ρ x:=c32 hsh rx rfl (by rw[hvx,a36,ag6])
         rw[hkey,hval]at hent
         have hkc:kx.toList=ar6 (.vl (Q4 ω es)) ks 0:=by rw[hkx,a36]
         have rk':VR β ω (.agg (aH2 (.vl (Q4 ω es)) ks 0)) (ρ k):=⟨kx,ek,by rw[hkc];exact az9 _ _ _⟩
         have hko:=b32 hkt (.vl (Q4 ω es))
         split
         ·rename_i d ks' vs' l hg
          cases hq:(Y3 ks' ks&&Y3 vs' vs)with
          |false=>trivial
          |true=>
           obtain⟨e1,e2⟩:=P8 hq
           obtain rfl:=ae8 e1
           obtain rfl:=ae8 e2
           simp only[cond_true]
           obtain⟨En,c,q1,q2,q3⟩:=r.marr hg hL
           obtain⟨ents,hE,hmap⟩:=b33 h2 q2
           refine a11.ofU ?_
           rcases av1 hkt (.vl (Q4 ω es)) 0 hmap with⟨a,hf⟩|⟨e,row,a1,a2,a3,hf,a5,a6⟩
           ·have hhas:dB ω (az1 ks' l es)=false:=by rw[ac2,a];simp
            obtain⟨v',hv',hrun⟩:=Y7 hko rk' hE hf
            simp only[FR]at hv';subst hv'
            obtain⟨p1,p2⟩:=r.set1 b _ (.marr d ks' vs' (cX7 ks' l es xs)) L (.map (En.push ⟨ρ k,ρ x,c⟩) (c+1)) hg hL hwm
             ⟨_,_,rfl,by rw[G1,o9,q2,cp5 hhas,o9];simp only[k6,G5,hent],by rw[G1];exact q3.push _ _⟩
            refine⟨_,?_,p1,p2⟩
            simp only[em,Instr.mapUpdate,Sem.run_bind,Q0 ht,Result.andThen_ok,S6 q1,Y6 hko rk',hrun,W5 _ q1]
           ·have hhas:dB ω (az1 ks' l es)=true:=by rw[ac2];exact decide_eq_true a1
            obtain⟨v',hv',hrun⟩:=Y7 hko rk' hE hf
            obtain⟨k2,v2,e1,e2,e3,e4,e5⟩:=hv'
            subst e1
            rw[j7]at e2 e3
            have he3:En[(dL ω l).findIdx (fun r=>keq ks' r (.vl (Q4 ω es)))]? =some ⟨k2,v2,e.born⟩:=by simpa using e3
            have hk2:k2=ρ k:=by
             rw[a5]at e4
             obtain⟨ys,ey,ry⟩:=e4
             have:=b34 row ks' 0 ry
             rw[bC8 ks' 0 a3,←hkc]at this
             rw[ey,ek,D7.1 this]
            have hsb:Instr.sameBits 10000 (ρ k) (ρ k)=true:=by
             rw[ek]
             show(kx.size==kx.size&&(kx.toList.zip kx.toList).all fun(x,y)=>Instr.sameBits 9999 x y)=true
             rw[hkc,aD9];simp
            have hst: ∀w,(Instr.keyThatStays k2 (ρ k)).run E.P w= .ok (ρ k) w:=fun w=>by simp[Instr.keyThatStays,hk2,hsb]
            obtain⟨p1,p2⟩:=r.set1 b _ (.marr d ks' vs' (cX7 ks' l es xs)) L (.map (En.modify ((dL ω l).findIdx (fun r=>keq ks' r (.vl (Q4 ω es)))) fun x'=>{x' with key:=ρ k,val:=ρ x}) c) hg hL hwm
             ⟨_,_,rfl,by
              rw[G0,cp4 hhas,List.map_set,hent,←q2]
              rw[bO7 e3,List.map_set],by rw[G0];exact q3.modify _ _ (fun _=>rfl)⟩
            refine⟨_,?_,p1,p2⟩
            simp only[em,Instr.mapUpdate,Sem.run_bind,Q0 ht,Result.andThen_ok,S6 q1,Y6 hko rk',hrun,j7,he3,Option.map_some,Option.getD_some,hst,W5 _ q1]
         ·rename_i c hg
          obtain⟨En,q1,q2⟩:=r.map hg hL
          have hE:En= #[]:=by
           have:En.toList=[]:=by generalize En.toList=z at q2;cases q2;rfl
           exact D7.1 this
          subst hE
          refine a11.ofU ?_
          have hf:aq6 E.P kt (.agg (aH2 (.vl (Q4 ω es)) ks 0)) [] 0=some none:=rfl
          obtain⟨v',hv',hrun⟩:=Y7 (β:=β) (ω:=ω) hko rk' (es:=[]) (m:=[]) .nil hf
          simp only[FR]at hv';subst hv'
          obtain⟨p1,p2⟩:=r.set1 b _ (.marr (Nat.beq c 0) ks vs (.op .row [.op .row (es++xs)])) L (.map (#[].push ⟨ρ k,ρ x,c⟩) (c+1)) hg hL hwm
           ⟨_,_,rfl,by
            show [(ρ k,ρ x)]=[bZ5 ks vs (.vl (Q4 ω (es++xs)))]
            rw[hent],Y4.push (E:=[]) (Y4.nil c) _ _⟩
          refine⟨_,?_,p1,p2⟩
          simp only[em,Instr.mapUpdate,Sem.run_bind,Q0 ht,Result.andThen_ok,S6 q1,Y6 hko rk',hrun,W5 _ q1]
         ·trivial
       ·trivial
      ·trivial
     ·trivial
    ·trivial
   ·trivial
  ·trivial
 ·trivial
end Go.Ev
