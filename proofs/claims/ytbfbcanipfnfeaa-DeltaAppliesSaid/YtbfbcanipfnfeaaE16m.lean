import Derived.Test.YtbfbcanipfnfeaaE16y
set_option linter.unusedVariables false
set_option linter.unusedSimpArgs false
namespace Go.Ev
open Go
variable{E:Env}{β:Bij}{ω:Opq}{K:Nat→Prop}{w0 w:World}{h h':Heap}{ρA:Operand→Option AV}{ρ:Operand→Value}
def clo(c:CT)(x:Val):AV:=match c with
 | .int k=> .int k x.toI
 | .str=> .str x.toS
 | .bool=> .bool x.toB
def az5(r:Val):List CT→Nat→List AV
 | [],_=>[]
 |c::cs,j=>clo c (r.toL.getD j default)::az5 r cs (j+1)
def al7(r:Val):List CT→Nat→List Value
 | [],_=>[]
 |c::cs,j=>a26 c (r.toL.getD j default)::al7 r cs (j+1)
theorem bX5(c:CT)(x:Val):VR β ω (clo c x) (a26 c x):=by cases c<;>rfl
theorem ao3(r:Val): ∀(sig:List CT) (j:Nat),VRs β ω (az5 r sig j) (al7 r sig j)
 | [],_=>rfl
 |c::cs,j=> .cons (bX5 c _) (ao3 r cs (j+1))
theorem Z3(r:Val): ∀(sig:List CT) (j:Nat),(al7 r sig j).length=sig.length
 | [],_=>rfl
 |c::cs,j=>by simp[al7,Z3 r cs (j+1)]
theorem bw7(r:Val): ∀(a b:List CT) (j:Nat),al7 r (a++b) j=al7 r a j++al7 r b (j+a.length)
 | [],b,j=>rfl
 |c::a,b,j=>by
  have:=bw7 r a b (j+1)
  simp only[List.cons_append,al7,this,List.length_cons]
  rw[show j+1+a.length=j+(a.length+1) by omega]
theorem bb8(sig:List CT)(r:Val): ∀(s:List CT) (j:Nat),sig.drop j=s→(List.range' j s.length).map (fun t=>a26 (sig.getD t .bool) (r.toL.getD t default))=al7 r s j
 | [],j,_=>rfl
 |c::s,j,h=>by
  have h1:sig.getD j .bool=c:=by
   have:=congrArg (fun z:List CT=>z[0]?) h
   simp only[o9,Nat.add_zero,List.getElem?_cons_zero]at this
   rw[d9,this];rfl
  have h2:sig.drop (j+1)=s:=by
   have:=congrArg List.tail h
   simpa[List.tail_drop]using this
  rw[List.length_cons,B1,j9,h1,bb8 sig r s (j+1) h2];rfl
theorem T4(sig:List CT)(r:Val):a27 sig r=al7 r sig 0:=by
 have:=bb8 sig r sig 0 rfl
 rw[←this]
 unfold a27
 rw[E3]
theorem b14(ks vs:List CT)(r:Val):bk9 ks vs r=(ooa (al7 r ks 0),ooa (al7 r vs ks.length)):=by
 unfold bk9
 rw[T4,bw7,i3]
 have:=Z3 r ks 0
 rw[←this,C8,C9]
theorem aJ6: ∀{a:List AV} {us:List Value},VRs β ω a us→VR β ω (aZ3 a) (ooa us)
 | [],us,h=>by rw[show us=[]from h];exact⟨_,rfl,rfl⟩
 | [x],us,⟨v,vr,e,h1,h2⟩=>by rw[e,show vr=[]from h2];exact h1
 |x::y::r,us,⟨v,vr,e,h1,u,ur,e2,h3,h4⟩=>by
  rw[e,e2]
  exact⟨_,rfl,.cons h1 (.cons h3 h4)⟩
theorem aJ7{us:List Value}(h:2≤us.length):ooa us= .agg us.toArray:=by
 match us,h with
 |_::_::_,_=>rfl
def bm5(ω:Opq)(n:Nat)(k r:Val):Opq:=⟨ω.v,fun i=>if i<n then k.toL.getD i default else r.toL.getD (i-n) default,ω.f,ω.one,ω.fix,ω.gh⟩
theorem bX6(ω:Opq)(c:CT)(e:SX):a30 ω (b84 c e)=clo c (den ω e):=by cases c<;>rfl
theorem ar5{ω':Opq}{r:Val}: ∀(s:List CT) (i j:Nat),(∀t,t<s.length→ω'.w (i+t)=r.toL.getD (j+t) default)→aI9 ω' (cb7 s i)=az5 r s j
 | [],_,_,_=>rfl
 |c::s,i,j,h=>by
  have h0:=h 0 (by simp)
  have ih:=ar5 s (i+1) (j+1) (fun t ht=>by
   have:=h (t+1) (by simp;omega)
   rw[show i+1+t=i+(t+1) by omega,show j+1+t=j+(t+1) by omega];exact this)
  simp only[cb7,aI9,az5,bX6,ih]
  rw[show den ω' (.va i)=ω'.w i from rfl,show ω'.w i=r.toL.getD j default by simpa using h0]
theorem bw8{ω':Opq}{k r:Val}: ∀(s:List CT) (i j c:Nat),(∀t,t<s.length→ω'.w (i+t)=k.toL.getD (c+t) default)→(∀t,t<s.length→ω'.w (j+t)=r.toL.getD (c+t) default)→dB ω' (d36 s i j)=cz2 r k s c
 | [],_,_,_,_,_=>rfl
 |q::s,i,j,c,h1,h2=>by
  have a:=h1 0 (by simp)
  have b:=h2 0 (by simp)
  simp only[Nat.add_zero]at a b
  have ih:=bw8 s (i+1) (j+1) (c+1) (fun t ht=>by
   have:=h1 (t+1) (by simp;omega)
   rw[show i+1+t=i+(t+1) by omega,show c+1+t=c+(t+1) by omega];exact this) (fun t ht=>by
   have:=h2 (t+1) (by simp;omega)
   rw[show j+1+t=j+(t+1) by omega,show c+1+t=c+(t+1) by omega];exact this)
  have hand: ∀x y:SX,dB ω' (aG1 x y)=(dB ω' x&&dB ω' y):=fun x y=>by
   unfold aG1
   split
   ·rfl
   ·split
    ·show dB ω' _=(dB ω' _&&true);rw[p9]
    ·rfl
  simp only[d36,cz2,hand,ih]
  congr 1
  cases q
  ·show decide ((ω'.w i).toI=(ω'.w j).toI)=_;rw[a,b];rfl
  ·show decide ((ω'.w i).toS=(ω'.w j).toS)=_;rw[a,b];rfl
  ·show((ω'.w i).toB==(ω'.w j).toB)=_;rw[a,b];rfl
theorem cg0{P:Program}{kt:TypeId}{ks:List CT}(hk:aw1 P kt ks=true)(k r:Val):eqE P 10000 kt (.agg (az5 k ks 0)) (.agg (az5 r ks 0))=some (keq ks r k):=by
 unfold aw1 at hk
 obtain⟨_,hk⟩:=M6 hk
 split at hk
 ·rename_i e he
  obtain rfl:=SX.beq_eq _ _ hk
  have:=bW6 (ω:=bm5 ω0 ks.length k r) 10000 he
  simp only[a30]at this
  rw[ar5 (r:=k) ks 0 0 (fun t ht=>by simp[bm5,ht]),ar5 (r:=r) ks ks.length 0 (fun t ht=>by simp only[bm5];rw[if_neg (by omega),y7,i3])]at this
  rw[this,bw8 (k:=k) (r:=r) ks 0 ks.length 0 (fun t ht=>by simp[bm5,ht]) (fun t ht=>by simp only[bm5];rw[if_neg (by omega),y7,i3])]
  rfl
 ·cases hk
theorem aC9{P:Program}{kt:TypeId}{ks:List CT}(hk:aw1 P kt ks=true)(k:Val):aF9 P kt (.agg (az5 k ks 0))=true:=by
 unfold aw1 at hk
 obtain⟨hk,_⟩:=M6 hk
 have e:az5 k ks 0=aI9 (bm5 ω0 ks.length k k) (cb7 ks 0):=(ar5 (r:=k) ks 0 0 (fun t ht=>by simp[bm5,ht])).symm
 rw[e]
 unfold aF9 at hk⊢
 split at hk
 ·rename_i h1;cases h1
 ·rename_i h1;cases h1
 ·rename_i h1;cases h1
 ·rename_i fields cs hu hq
  cases hq
  rw[hu]
  simp only
  rw[J5]at hk⊢
  intro f hf
  obtain⟨h1,h2⟩:=M6 (hk f hf)
  obtain⟨a,ha⟩:=J4.1 h1
  rw[aw5 ha,h2];rfl
 ·cases hk
def dd6(ks vs:List CT)(r:Val):AV×AV:=(.agg (az5 r ks 0),aZ3 (az5 r vs ks.length))
theorem aJ8{ks vs:List CT}(h2:2≤ks.length): ∀{rows:List Val} {m:List MapEntry},(m.map fun e=>(e.key,e.val))=rows.map (bk9 ks vs)→ ∃es,ERs β ω es m∧(es.map fun e=>(e.key,e.val))=rows.map (dd6 ks vs)
 | [],[],_=>⟨[],.nil,rfl⟩
 | [],_::_,h=>by cases h
 |_::_,[],h=>by cases h
 |r::rows,e::m,h=>by
  simp only[j9,A3]at h
  obtain⟨es,h3,h4⟩:=aJ8 h2 (rows:=rows) (m:=m) h.2
  rw[b14]at h
  obtain⟨k,v,b⟩:=e
  have hk:k=ooa (al7 r ks 0):=congrArg Prod.fst h.1
  have hv:v=ooa (al7 r vs ks.length):=congrArg Prod.snd h.1
  refine⟨⟨.agg (az5 r ks 0),aZ3 (az5 r vs ks.length),b⟩::es,.cons ?_ ?_ h3,by simp only[j9,h4];rfl⟩
  ·rw[hk,aJ7 (by rw[Z3];exact h2)]
   exact⟨_,rfl,ao3 r ks 0⟩
  ·rw[hv];exact aJ6 (ao3 r vs ks.length)
theorem ag1{P:Program}{kt:TypeId}{ks vs:List CT}(hk:aw1 P kt ks=true)(k:Val): ∀{rows:List Val} {es:List Ent} (i:Nat),(es.map fun e=>(e.key,e.val))=rows.map (dd6 ks vs)→
 (rows.findIdx (fun r=>keq ks r k)=rows.length∧al4 P kt (.agg (az5 k ks 0)) es i=some none)∨
 ∃e r,rows.findIdx (fun r=>keq ks r k)<rows.length∧rows[rows.findIdx (fun r=>keq ks r k)]? =some r∧keq ks r k=true∧al4 P kt (.agg (az5 k ks 0)) es i=some (some (i+rows.findIdx (fun r=>keq ks r k),e))∧e.key= .agg (az5 r ks 0)∧e.val=aZ3 (az5 r vs ks.length)
 | [],[],i,_=> .inl ⟨rfl,rfl⟩
 | [],_::_,i,h=>by cases h
 |_::_,[],i,h=>by cases h
 |r::rows,e::es,i,h=>by
  simp only[j9,A3]at h
  have h1:e.key= .agg (az5 r ks 0):=congrArg Prod.fst h.1
  have h2:e.val=aZ3 (az5 r vs ks.length):=congrArg Prod.snd h.1
  have hq:=cg0 hk k r
  rw[List.findIdx_cons]
  cases hc:keq ks r k with
  |true=>
   rw[hc]at hq
   refine .inr ⟨e,r,by simp,by simp,hc,?_,h1,h2⟩
   simp only[al4,h1,hq,cond_true,Nat.add_zero]
  |false=>
   rw[hc]at hq
   simp only[cond_false]
   rcases ag1 hk k (i+1) h.2 with⟨a,b⟩|⟨e',r',a1,a2,a3,a4,a5,a6⟩
   ·exact .inl ⟨by rw[a];rfl,by simp only[al4,h1,hq];exact b⟩
   ·refine .inr ⟨e',r',by rw[List.length_cons];exact Nat.succ_lt_succ a1,by simpa using a2,a3,?_,a5,a6⟩
    simp only[al4,h1,hq]
    rw[a4];congr 3;omega
theorem HR.marr{b:Nat}{d:Bool}{ks vs:List CT}{l:SX}{L:Loc}(r:HR β ω K w0 h w)(hg:h.get b=some (.marr d ks vs l))(hb:β b=some L):
 ∃E c,w.heap[L.blk]? =some (.map E c)∧(E.toList.map fun e=>(e.key,e.val))=(dL ω l).map (bk9 ks vs)∧U4 d E.toList c:=r.blk b _ L hg hb
theorem U4.push{d:Bool}{E:List MapEntry}{c:Nat}(h:U4 d E c)(k x:Value):U4 d (E++[⟨k,x,c⟩]) (c+1):=by
 obtain⟨h1,h2,h3⟩:=h
 refine⟨?_,?_,?_⟩
 ·rw[r8,List.pairwise_append]
  refine⟨h1,by simp,fun a ha b hb=> ?_⟩
  obtain⟨e,he,rfl⟩:=k9.1 ha
  simp only[j9,E4,s8]at hb
  subst hb;exact h2 e he
 ·intro e he
  rcases x5.1 he with he|he
  ·exact J0 (h2 e he)
  ·simp only[s8]at he;subst he;exact Nat.lt_succ_self _
 ·intro hd
  rw[r8,h3 hd,G6];rfl
theorem aJ9{f:MapEntry→MapEntry}(hf: ∀e,(f e).born=e.born): ∀(E:List MapEntry) (i:Nat),(E.modify i f).map (·.born)=E.map (·.born)
 | [],i=>by cases i<;>rfl
 |e::E,0=>by simp[List.modify,hf]
 |e::E,i+1=>by simpa using aJ9 hf E i
theorem U4.modify{d:Bool}{E:List MapEntry}{c:Nat}(h:U4 d E c)(i:Nat)(f:MapEntry→MapEntry)(hf: ∀e,(f e).born=e.born):U4 d (E.modify i f) c:=by
 obtain⟨h1,h2,h3⟩:=h
 have hm:=aJ9 hf E i
 refine⟨by rw[hm];exact h1,fun e he=> ?_,fun hd=>by rw[hm];exact h3 hd⟩
 have:e.born∈(E.modify i f).map (·.born):=K0 he
 rw[hm]at this
 obtain⟨e',he',q⟩:=k9.1 this
 rw[←q];exact h2 e' he'
theorem ad2(ks:List CT)(l:SX)(es:List SX):dI ω (aS4 ks l es)=((dL ω l).findIdx (fun r=>keq ks r (.vl (N2 ω es))):Nat):=rfl
theorem a23(ks:List CT)(l:SX)(es:List SX):dB ω (al6 ks l es)=decide ((dL ω l).findIdx (fun r=>keq ks r (.vl (N2 ω es)))<(dL ω l).length):=by
  show decide (((dL ω l).findIdx (fun r=>keq ks r (.vl (N2 ω es))):Int)<((dL ω l).length:Int))=_
  simp
theorem X2(c a b:SX):den ω (.op .ite [c,a,b])=bif dB ω c then den ω a else den ω b:=rfl
theorem aK0{ks:List CT}{l:SX}{es:List SX}{r:Val}(hh:dB ω (al6 ks l es)=true)(hr:(dL ω l)[(dL ω l).findIdx (fun r=>keq ks r (.vl (N2 ω es)))]? =some r): ∀(vs:List CT) (j:Nat) (zs:List SX),zs.length=vs.length→VRs β ω (a88 ks l es vs j zs) (al7 r vs j)
 | [],_,_,_=>by unfold a88;rfl
 |c::vs,j,[],h=>by simp at h
 |c::vs,j,z::zs,h=>by
  have ih:=aK0 hh hr vs (j+1) zs (by simpa using h)
  refine .cons ?_ ih
  have e:den ω (.op .ite [al6 ks l es,.op .lget [l,aS4 ks l es,.ci j],z])=r.toL.getD j default:=by
   rw[X2,hh]
   show Q5 (dL ω l) (dI ω (aS4 ks l es)) (j:Int)=_
   rw[ad2]
   show((dL ω l).getD _ (.vl [])).toL.getD j default=_
   rw[d9]
   show(((dL ω l)[(dL ω l).findIdx _]?).getD (.vl [])).toL.getD j default=_
   rw[hr];rfl
  have:=aj7 (β:=β) (ω:=ω) c (.op .ite [al6 ks l es,.op .lget [l,aS4 ks l es,.ci j],z])
  rw[e]at this
  exact this
theorem aK1{ks:List CT}{l:SX}{es:List SX}(hh:dB ω (al6 ks l es)=false): ∀(vs:List CT) (j i:Nat) (zs:List SX) (q:Val),zs.length=vs.length→(∀t,t<zs.length→q.toL.getD (i+t) default=den ω (zs.getD t (.cb false)))→VRs β ω (a88 ks l es vs j zs) (al7 q vs i)
 | [],_,_,_,_,_,_=>by unfold a88;rfl
 |c::vs,j,i,[],q,h,_=>by simp at h
 |c::vs,j,i,z::zs,q,h,hq=>by
  have ih:=aK1 hh vs (j+1) (i+1) zs q (by simpa using h) (fun t ht=>by
    have:=hq (t+1) (by simp;omega)
    rw[show i+1+t=i+(t+1) by omega];simpa using this)
  refine .cons ?_ ih
  have e:den ω (.op .ite [al6 ks l es,.op .lget [l,aS4 ks l es,.ci j],z])=q.toL.getD i default:=by
   rw[X2,hh]
   have:=hq 0 (by simp)
   simpa using this.symm
  have:=aj7 (β:=β) (ω:=ω) c (.op .ite [al6 ks l es,.op .lget [l,aS4 ks l es,.ci j],z])
  rw[e]at this
  exact this
theorem ao4{vs:List CT}{z:AV}{v:Value}(hs:a36 vs z=true)(hv:VR β ω z v)(hl:v.cells.toList.length=vs.length):ooa v.cells.toList=v:=by
 match vs,hs with
 | [c],hs=>
   have h1:=VR.one hv (show z.one=true from hs)
   have:v.cells= #[v]:=by cases v<;>first|rfl|(simp[Value.oneCell']at h1)
   rw[this];rfl
 |_::_::_,hs=>
  cases z with
  |agg cs=>
   obtain⟨xs,rfl,_⟩:=hv
   show ooa xs.toList=_
   have:2≤xs.toList.length:=by
    have:xs.toList.length=_:=hl
    rw[this];simp
   rw[aJ7 this]
  |_=>cases hs
theorem bX7{c:CT}{x:Val}{v:Value}(h:VR β ω (clo c x) v):v=a26 c x:=by cases c<;>exact h
theorem aD0(r:Val): ∀(sig:List CT) (j:Nat) {us:List Value},VRs β ω (az5 r sig j) us→us=al7 r sig j
 | [],_,_,h=>h
 |c::cs,j,_,⟨v,vr,e,h1,h2⟩=>by rw[e,bX7 h1,aD0 r cs (j+1) h2];rfl
theorem bX8(r:Val)(sig:List CT)(j:Nat){v:Value}(h:VR β ω (aZ3 (az5 r sig j)) v):v=ooa (al7 r sig j):=by
 match sig,h with
 | [],⟨xs,e,h⟩=>rw[e];show Value.agg xs=Value.agg _;congr 1;exact u4.1 h
 | [c],h=>exact bX7 h
 |c::d::s,⟨xs,e,h⟩=>
  rw[e,aJ7 (by rw[Z3];simp),←aD0 r (c::d::s) j h]
theorem ag2(ω:Opq): ∀l:List SX,(N2 ω l).length=l.length
 | []=>rfl
 |_::r=>by simp[N2,ag2 ω r]
theorem aD1(ω:Opq): ∀(l:List SX) (t:Nat),t<l.length→(N2 ω l).getD t default=den ω (l.getD t (.cb false))
 | [],t,h=>by simp at h
 |x::r,0,_=>rfl
 |x::r,t+1,h=>by
  have:=aD1 ω r t (by simpa using h)
  simpa[N2]using this
theorem R3: ∀{sig:List CT} {vs:List AV} {es:List SX},R8 sig vs=some es→es.length=sig.length
 | [],[],es,h=>by simp only[R8,a8]at h;subst h;rfl
 | [],_::_,es,h=>by cases h
 |_::_,[],es,h=>by cases h
 |c::cs,v::vs,es,h=>by
  unfold R8 at h
  split at h
  ·rename_i e es' h1 h2
   simp only[a8]at h;subst h
   simp[R3 h2]
  ·cases h
theorem aD2{vs:List CT}{z:AV}(hs:a36 vs z=true):z.nt=true:=by
 unfold a36 at hs
 split at hs
 ·cases hs
 ·cases z<;>first|rfl|cases hs
 ·cases z<;>first|rfl|cases hs
theorem ar6(ω:Opq): ∀a b:List SX,N2 ω (a++b)=N2 ω a++N2 ω b
 | [],_=>rfl
 |x::a,b=>by simp[N2,ar6 ω a b]
theorem bJ1{c:CT}{e e':SX}{u:Value}(h:den ω e'=den ω e)(r:VR β ω (b84 c e) u):VR β ω (b84 c e') u:=by
 have h1:=aj7 (β:=β) (ω:=ω) c e'
 rw[h]at h1
 have h2:u=a26 c (den ω e):=by cases c<;>exact r
 rw[h2];exact h1
theorem aV5{ks:List CT}{l l':SX}{es:List SX}: ∀(vs:List CT) (j:Nat) (zs:List SX) {us:List Value},(∀t,t<zs.length→den ω (.op .ite [al6 ks l' es,.op .lget [l',aS4 ks l' es,.ci ((j+t:Nat):Int)],zs.getD t (.cb false)])=den ω (.op .ite [al6 ks l es,.op .lget [l,aS4 ks l es,.ci ((j+t:Nat):Int)],zs.getD t (.cb false)]))→
 VRs β ω (a88 ks l es vs j zs) us→VRs β ω (a88 ks l' es vs j zs) us
 | [],_,_,us,_,h=>by unfold a88 at h⊢;exact h
 |c::vs,j,[],us,_,h=>by unfold a88 at h⊢;exact h
 |c::vs,j,z::zs,us,hq,h=>by
  obtain⟨u,ur,rfl,h1,h2⟩:=h
  refine .cons (bJ1 ?_ h1) (aV5 vs (j+1) zs (fun t ht=> ?_) h2)
  ·have:=hq 0 (by simp)
   simpa using this
  ·have:=hq (t+1) (by simp;omega)
   rw[show j+1+t=j+(t+1) by omega]
   simpa using this
theorem aK2{ks:List CT}{l:SX}{es:List SX}: ∀(vs:List CT) (j:Nat) (zs:List SX),(a88 ks l es vs j zs).length=min vs.length zs.length
 | [],_,_=>by unfold a88;simp
 |c::vs,j,[]=>by unfold a88;simp
 |c::vs,j,z::zs=>by
  show(a88 ks l es vs (j+1) zs).length+1=_
  rw[aK2 vs (j+1) zs];simp
theorem bX9{A B:List AV}{v:Value}(hl:A.length=B.length)(h: ∀us,VRs β ω A us→VRs β ω B us)(r:VR β ω (aZ3 A) v):VR β ω (aZ3 B) v:=by
 match A,B,hl with
 | [a],[b],_=>
   have h1:=h [v] ⟨v,[],rfl,r,rfl⟩
   obtain⟨u,ur,e,h2,_⟩:=h1
   obtain⟨rfl,_⟩:=G2 e
   exact h2
 | [],[],_=>
   obtain⟨xs,e,h1⟩:=r
   exact⟨xs,e,h _ h1⟩
 |a::b::A,c::d::B,_=>
  obtain⟨xs,e,h1⟩:=r
  exact⟨xs,e,h _ h1⟩
theorem cg1(c:CT){x y:Val}(h:x=y):ceq c x y=true:=by
 subst h
 cases c<;>simp[ceq]
theorem bb9{r k:Val}: ∀(s:List CT) (j:Nat),(∀t,t<s.length→k.toL.getD (j+t) default=r.toL.getD (j+t) default)→cz2 r k s j=true
 | [],_,_=>rfl
 |c::s,j,h=>by
  show(ceq c _ _&&cz2 r k s (j+1))=true
  rw[cg1 c (by simpa using h 0 (by simp)),bb9 s (j+1) (fun t ht=>by
    have:=h (t+1) (by simp;omega)
    rw[show j+1+t=j+(t+1) by omega];exact this)]
  rfl
theorem bc0{ks:List CT}{es zs:List SX}{l:SX}(hes:es.length=ks.length): ∀t,t<zs.length→den ω (.op .ite [al6 ks (aj1 ks es zs l) es,.op .lget [aj1 ks es zs l,aS4 ks (aj1 ks es zs l) es,.ci ((ks.length+t:Nat):Int)],zs.getD t (.cb false)])=den ω (.op .ite [al6 ks l es,.op .lget [l,aS4 ks l es,.ci ((ks.length+t:Nat):Int)],zs.getD t (.cb false)]):=by
 intro t ht
 unfold aj1
 split
 ·rename_i c l0 l1 ez
  cases hc:(SX.beq c (al6 ks l0 es)&&SX.beq l1 l0&&SX.beqs ez (es++zs))with
  |false=>rfl
  |true=>
   obtain⟨hc,h3⟩:=M6 hc
   obtain⟨h1,h2⟩:=M6 hc
   obtain rfl:=SX.beq_eq _ _ h1
   obtain rfl:=SX.beq_eq _ _ h2
   obtain rfl:=SX.beqs_eq _ _ h3
   simp only[cond_true]
   cases hh:dB ω (al6 ks l1 es)with
   |true=>
    have hl:dL ω (.op .ite [al6 ks l1 es,l1,.op .lcat [l1,.op .row [.op .row (es++zs)]]])=dL ω l1:=by
     show(den ω (.op .ite _)).toL=_
     rw[X2,hh];rfl
    have hi:dI ω (aS4 ks (.op .ite [al6 ks l1 es,l1,.op .lcat [l1,.op .row [.op .row (es++zs)]]]) es)=dI ω (aS4 ks l1 es):=by rw[ad2,ad2,hl]
    rw[X2,X2,a23,a23,hl]
    refine congrArg (fun z=>bif _ then z else den ω (zs.getD t (.cb false))) ?_
    show Q5 (dL ω l1) (dI ω (aS4 ks l1 es)) _=Q5 (dL ω _) (dI ω _) _
    rw[hl,hi]
   |false=>
    have hl:dL ω (.op .ite [al6 ks l1 es,l1,.op .lcat [l1,.op .row [.op .row (es++zs)]]])=dL ω l1++[.vl (N2 ω (es++zs))]:=by
     show(den ω (.op .ite _)).toL=_
     rw[X2,hh];rfl
    have hn: ∀x∈dL ω l1,keq ks x (.vl (N2 ω es))=false:=by
     rw[a23,decide_eq_false_iff_not]at hh
     have:=K1.1 (Nat.le_antisymm List.findIdx_le_length (A8 hh))
     intro x hx
     simpa using this x hx
    have hk:keq ks (.vl (N2 ω (es++zs))) (.vl (N2 ω es))=true:=bb9 ks 0 fun t ht=>by
     show(N2 ω es).getD (0+t) default=(N2 ω (es++zs)).getD (0+t) default
     have hdl:(N2 ω es).length=ks.length:=by rw[ag2,hes]
     rw[show N2 ω (es++zs)=N2 ω es++N2 ω zs from ar6 ω es zs,d9,d9,j5 (by omega)]
    have hi:(dL ω l1++[Val.vl (N2 ω (es++zs))]).findIdx (fun r=>keq ks r (Val.vl (N2 ω es)))=(dL ω l1).length:=by
      rw[List.findIdx_append,K1.2 (fun x hx=>by simpa using hn x hx)]
      simp[hk]
    rw[X2,hh,X2,a23,hl,hi]
    rw[show decide ((dL ω l1).length<(dL ω l1++[Val.vl (N2 ω (es++zs))]).length)=true from decide_eq_true (by simp)]
    show den ω (zs.getD t (.cb false))=Q5 (dL ω _) (dI ω (aS4 ks _ es)) ((ks.length+t:Nat):Int)
    rw[ad2,hl,hi]
    show _=((dL ω l1++[Val.vl (N2 ω (es++zs))]).getD (dL ω l1).length (.vl [])).toL.getD (ks.length+t) default
    rw[d9 (l:=dL ω l1++_),j3 (b9 _),x6]
    show _=(N2 ω (es++zs)).getD (ks.length+t) default
    have hdl:(N2 ω es).length=ks.length:=by rw[ag2,hes]
    rw[show N2 ω (es++zs)=N2 ω es++N2 ω zs from ar6 ω es zs,d9 (l:=N2 ω es++_),j3 (by omega),hdl,y7,←d9,aD1 ω zs t ht]
 ·rfl
theorem aK3{ks vs:List CT}{es zs:List SX}{l:SX}{v:Value}(hes:es.length=ks.length)(r:VR β ω (aZ3 (a88 ks l es vs ks.length zs)) v):VR β ω (aZ3 (a88 ks (aj1 ks es zs l) es vs ks.length zs)) v:=
 bX9 (by rw[aK2,aK2]) (fun us h=>aV5 vs ks.length zs (bc0 hes) h) r
theorem bJ2(r:HR β ω K w0 h w)(o:OpR β ω ρA ρ)(t:TypeId)(m k:Operand)(ok:Bool):SOk E β ω K w0 w h (do pure (.value (←Instr.lookup t (ρ m) (ρ k) ok))) (aZ4 E.P t h (ρA m) (ρA k) ok):=by
 unfold aZ4
 split
 ·rename_i kt et ht
  split
  ·rename_i b hm
   split
   ·rename_i cs hk
    have rm:=o m _ hm
    have rk:=o k _ hk
    simp only[VR]at rm
    obtain⟨L,hL,em⟩:=rm
    obtain⟨xs,ek,rx⟩:=rk
    unfold bQ1
    split
    ·rename_i d ks vs l z hg hz
     split
     ·rename_i es zs hes hzs
      cases hc:(aw1 E.P kt ks&&Nat.ble 2 ks.length&&a36 vs z)with
      |false=>trivial
      |true=>
       obtain⟨hc,hsh⟩:=M6 hc
       obtain⟨hkt,h2⟩:=M6 hc
       rw[N1]at h2
       simp only[cond_true]
       obtain⟨En,c,q1,q2,q3⟩:=r.marr hg hL
       obtain⟨ents,hE,hmap⟩:=aJ8 h2 q2
       have hxs:xs.toList=al7 (.vl (N2 ω es)) ks 0:=by rw[R7 hes rx,T4]
       have rk':VR β ω (.agg (az5 (.vl (N2 ω es)) ks 0)) (ρ k):=⟨xs,ek,by rw[hxs];exact ao3 _ _ _⟩
       have hko:=aC9 hkt (.vl (N2 ω es))
       rcases ag1 hkt (.vl (N2 ω es)) 0 hmap with⟨a,hf⟩|⟨e,row,a1,a2,a3,hf,a5,a6⟩
       ·have hhas:dB ω (al6 ks l es)=false:=by rw[a23,a];simp
        obtain⟨v',hv',hrun⟩:=T1 hko rk' hE hf
        simp only[FR]at hv';subst hv'
        obtain⟨zv,z1,z2⟩:=an9 hz
        have hzc:=R7 hzs ((z1 β ω).cells (aD2 hsh))
        rw[T4]at hzc
        have hvr:VR β ω (aZ3 (a88 ks l es vs ks.length zs)) zv:=by
         have:=aJ6 (aK1 (β:=β) hhas vs ks.length 0 zs (.vl (N2 ω zs)) (R3 hzs) (fun t ht=>by rw[i3];exact aD1 ω zs t ht))
         rw[←hzc]at this
         rw[ao4 hsh (z1 β ω) (by rw[hzc,Z3])]at this
         exact this
        refine W2.pureV r (u:=if ok then .tuple #[zv,.bool false]else zv) ?_ ?_
        ·cases ok
         ·exact aK3 (R3 hes) hvr
         ·exact⟨_,rfl,.cons hvr (.one (by show _=Value.bool (dB ω (al6 ks l es));rw[hhas]))⟩
        ·simp only[em,Instr.lookup,Sem.run_bind,M9 ht,Result.andThen_ok,Sem.run_pure,O7 q1,T0 hko rk',hrun,z2]
       ·have hhas:dB ω (al6 ks l es)=true:=by rw[a23];exact decide_eq_true a1
        obtain⟨v',hv',hrun⟩:=T1 hko rk' hE hf
        obtain⟨k2,v2,e1,e2,e3,e4,e5⟩:=hv'
        subst e1
        rw[a6]at e5
        have hv2:=bX8 row vs ks.length e5
        have hvr:VR β ω (aZ3 (a88 ks l es vs ks.length zs)) v2:=by
         rw[hv2];exact aJ6 (aK0 hhas a2 vs ks.length zs (R3 hzs))
        refine W2.pureV r (u:=if ok then .tuple #[v2,.bool true]else v2) ?_ ?_
        ·cases ok
         ·exact aK3 (R3 hes) hvr
         ·exact⟨_,rfl,.cons hvr (.one (by show _=Value.bool (dB ω (al6 ks l es));rw[hhas]))⟩
        ·simp only[em,Instr.lookup,Sem.run_bind,M9 ht,Result.andThen_ok,Sem.run_pure,O7 q1,T0 hko rk',hrun]
     ·trivial
    ·trivial
   ·trivial
  ·trivial
 ·trivial
theorem aj8{r q:Val}: ∀(sig:List CT) (j i:Nat),(∀t,t<sig.length→r.toL.getD (j+t) default=q.toL.getD (i+t) default)→al7 r sig j=al7 q sig i
 | [],_,_,_=>rfl
 |c::cs,j,i,h=>by
  have h0:=h 0 (by simp)
  have ih:=aj8 cs (j+1) (i+1) (fun t ht=>by
   have:=h (t+1) (by simp;omega)
   rw[show j+1+t=j+(t+1) by omega,show i+1+t=i+(t+1) by omega];exact this)
  simp only[Nat.add_zero]at h0
  simp only[al7,h0,ih]
theorem b15{r k:Val}: ∀(sig:List CT) (j:Nat),cz2 r k sig j=true→al7 r sig j=al7 k sig j
 | [],_,_=>rfl
 |c::cs,j,h=>by
  obtain⟨h1,h2⟩:=M6 h
  have:a26 c (r.toL.getD j default)=a26 c (k.toL.getD j default):=by
   cases c
   ·have:=of_decide_eq_true h1;show Value.int _ _=Value.int _ _;rw[this]
   ·have:=of_decide_eq_true h1;show Value.string _=Value.string _;rw[this]
   ·have:=eq_of_beq h1;show Value.bool _=Value.bool _;rw[this]
  simp only[al7,this,b15 cs (j+1) h2]
theorem ag3(k:Val): ∀(sig:List CT) (j:Nat),((al7 k sig j).zip (al7 k sig j)).all (fun(x,y)=>Instr.sameBits 9999 x y)=true
 | [],_=>rfl
 |c::cs,j=>by
  simp only[al7,List.zip_cons_cons,List.all_cons,d6]
  exact⟨aI0 (β:=fun _=>none) (ω:=ω0) (a:=clo c (k.toL.getD j default)) (b:=clo c (k.toL.getD j default)) 9999 (by cases c<;>simp[clo,b79,a09,ac8]) (bX5 c _) (bX5 c _),ag3 k cs (j+1)⟩
theorem bm6{ks vs:List CT}{es xs:List SX}{a b:List Value}(h1:es.length=ks.length)(h2:xs.length=vs.length)(ha:a=a27 ks (.vl (N2 ω es)))(hb:b=a27 vs (.vl (N2 ω xs))):bk9 ks vs (.vl (N2 ω (es++xs)))=(ooa a,ooa b):=by
 rw[b14,ha,hb,T4,T4,ar6]
 have q1:=ag2 ω es
 have q2:=ag2 ω xs
 congr 2
 ·refine aj8 ks 0 0 fun t ht=> ?_
  show(N2 ω es++N2 ω xs).getD (0+t) default=(N2 ω es).getD (0+t) default
  rw[d9,d9,j5 (by omega)]
 ·refine aj8 vs ks.length 0 fun t ht=> ?_
  show(N2 ω es++N2 ω xs).getD (ks.length+t) default=(N2 ω xs).getD (0+t) default
  rw[d9,d9,j3 (by omega)]
  congr 2;omega
theorem aK4{vs:List CT}{x:AV}{v:Value}(hs:a36 vs x=true)(hv:VR β ω x v){b:List Value}(hb:v.cells.toList=b)(hl:b.length=vs.length):ooa b=v:=by
 subst hb
 exact ao4 hs hv hl
theorem aw7{α:Type}{l:List α}{i:Nat}{e:α}{f:α→α}(h:l[i]? =some e):l.modify i f=l.set i (f e):=by
 have hi:i<l.length:=by
  cases d8 i l.length with
  |inl h1=>exact h1
  |inr h1=>rw[j7 h1]at h;cases h
 refine E5 fun j=> ?_
 rw[List.getElem?_modify,G7]
 by_cases hj:i=j
 ·subst hj;rw[h,if_pos rfl,if_pos hi];simp
 ·simp[hj]
theorem cg2{ks:List CT}{l:SX}{es xs:List SX}(h:dB ω (al6 ks l es)=true):dL ω (cR5 ks l es xs)=(dL ω l).set ((dL ω l).findIdx (fun r=>keq ks r (.vl (N2 ω es)))) (.vl (N2 ω (es++xs))):=by
  show(den ω (.op .ite _)).toL=_
  rw[X2,h]
  show(dL ω l).set (dI ω (aS4 ks l es)).toNat _=_
  rw[ad2];rfl
theorem cg3{ks:List CT}{l:SX}{es xs:List SX}(h:dB ω (al6 ks l es)=false):dL ω (cR5 ks l es xs)=dL ω l++[.vl (N2 ω (es++xs))]:=by
 show(den ω (.op .ite _)).toL=_
 rw[X2,h];rfl
theorem bc1(r:HR β ω K w0 h w)(o:OpR β ω ρA ρ)(t:TypeId)(m k x:Operand):SOk E β ω K w0 w h (do Instr.mapUpdate t (ρ m) (ρ k) (ρ x);pure .skip) (bv0 E.P t h (ρA m) (ρA k) (ρA x)):=by
 unfold bv0
 split
 ·rename_i kt et ht
  split
  ·rename_i b hm
   split
   ·rename_i cs hk
    split
    ·rename_i xv hx
     split
     ·rename_i zk z hzk hz
      split
      ·rename_i ks vs hks hvs
       have rm:=o m _ hm
       have rk:=o k _ hk
       have rx:=o x _ hx
       simp only[VR]at rm
       obtain⟨L,hL,em⟩:=rm
       have rk0:=rk
       obtain⟨kx,ek,rkx⟩:=rk
       unfold bQ2
       split
       ·rename_i es xs hes hxs
        cases hc:(aw1 E.P kt ks&&Nat.ble 2 ks.length&&a36 vs xv&&Nat.ble h.wm b)with
        |false=>trivial
        |true=>
         obtain⟨hc,hwm⟩:=M6 hc
         obtain⟨hc,hsh⟩:=M6 hc
         obtain⟨hkt,h2⟩:=M6 hc
         rw[N1]at h2 hwm
         simp only[cond_true]
         have hkx:=R7 hes rkx
         have hvx:=R7 hxs (rx.cells (aD2 hsh))
         have l1:=R3 hes
         have l2:=R3 hxs
         have hent:=bm6 (ω:=ω) l1 l2 hkx hvx
         have hkey:ooa kx.toList=ρ k:=by
          rw[ek,aJ7 (by rw[hkx,T4,Z3];exact h2)]
         have hval:ooa (ρ x).cells.toList=ρ x:=aK4 hsh rx rfl (by rw[hvx,T4,Z3])
         rw[hkey,hval]at hent
         have hkc:kx.toList=al7 (.vl (N2 ω es)) ks 0:=by rw[hkx,T4]
         have rk':VR β ω (.agg (az5 (.vl (N2 ω es)) ks 0)) (ρ k):=⟨kx,ek,by rw[hkc];exact ao3 _ _ _⟩
         have hko:=aC9 hkt (.vl (N2 ω es))
         split
         ·rename_i d ks' vs' l hg
          cases hq:(T8 ks' ks&&T8 vs' vs)with
          |false=>trivial
          |true=>
           obtain⟨e1,e2⟩:=M6 hq
           obtain rfl:=a11 e1
           obtain rfl:=a11 e2
           simp only[cond_true]
           obtain⟨En,c,q1,q2,q3⟩:=r.marr hg hL
           obtain⟨ents,hE,hmap⟩:=aJ8 h2 q2
           refine W2.ofU ?_
           rcases ag1 hkt (.vl (N2 ω es)) 0 hmap with⟨a,hf⟩|⟨e,row,a1,a2,a3,hf,a5,a6⟩
           ·have hhas:dB ω (al6 ks' l es)=false:=by rw[a23,a];simp
            obtain⟨v',hv',hrun⟩:=T1 hko rk' hE hf
            simp only[FR]at hv';subst hv'
            obtain⟨p1,p2⟩:=r.set1 b _ (.marr d ks' vs' (cR5 ks' l es xs)) L (.map (En.push ⟨ρ k,ρ x,c⟩) (c+1)) hg hL hwm
             ⟨_,_,rfl,by rw[B6,r8,q2,cg3 hhas,r8];simp only[j9,E4,hent],by rw[B6];exact q3.push _ _⟩
            refine⟨_,?_,p1,p2⟩
            simp only[em,Instr.mapUpdate,Sem.run_bind,M9 ht,Result.andThen_ok,O7 q1,T0 hko rk',hrun,Q8 _ q1]
           ·have hhas:dB ω (al6 ks' l es)=true:=by rw[a23];exact decide_eq_true a1
            obtain⟨v',hv',hrun⟩:=T1 hko rk' hE hf
            obtain⟨k2,v2,e1,e2,e3,e4,e5⟩:=hv'
            subst e1
            rw[i3]at e2 e3
            have he3:En[(dL ω l).findIdx (fun r=>keq ks' r (.vl (N2 ω es)))]? =some ⟨k2,v2,e.born⟩:=by simpa using e3
            have hk2:k2=ρ k:=by
             rw[a5]at e4
             obtain⟨ys,ey,ry⟩:=e4
             have:=aD0 row ks' 0 ry
             rw[b15 ks' 0 a3,←hkc]at this
             rw[ey,ek,u4.1 this]
            have hsb:Instr.sameBits 10000 (ρ k) (ρ k)=true:=by
             rw[ek]
             show(kx.size==kx.size&&(kx.toList.zip kx.toList).all fun(x,y)=>Instr.sameBits 9999 x y)=true
             rw[hkc,ag3];simp
            have hst: ∀w,(Instr.keyThatStays k2 (ρ k)).run E.P w= .ok (ρ k) w:=fun w=>by simp[Instr.keyThatStays,hk2,hsb]
            obtain⟨p1,p2⟩:=r.set1 b _ (.marr d ks' vs' (cR5 ks' l es xs)) L (.map (En.modify ((dL ω l).findIdx (fun r=>keq ks' r (.vl (N2 ω es)))) fun x'=>{x' with key:=ρ k,val:=ρ x}) c) hg hL hwm
             ⟨_,_,rfl,by
              rw[A7,cg2 hhas,G8,hent,←q2]
              rw[aw7 e3,G8],by rw[A7];exact q3.modify _ _ (fun _=>rfl)⟩
            refine⟨_,?_,p1,p2⟩
            simp only[em,Instr.mapUpdate,Sem.run_bind,M9 ht,Result.andThen_ok,O7 q1,T0 hko rk',hrun,i3,he3,Option.map_some,Option.getD_some,hst,Q8 _ q1]
         ·rename_i c hg
          obtain⟨En,q1,q2⟩:=r.map hg hL
          have hE:En= #[]:=by
           have:En.toList=[]:=by generalize En.toList=z at q2;cases q2;rfl
           exact u4.1 this
          subst hE
          refine W2.ofU ?_
          have hf:al4 E.P kt (.agg (az5 (.vl (N2 ω es)) ks 0)) [] 0=some none:=rfl
          obtain⟨v',hv',hrun⟩:=T1 (β:=β) (ω:=ω) hko rk' (es:=[]) (m:=[]) .nil hf
          simp only[FR]at hv';subst hv'
          obtain⟨p1,p2⟩:=r.set1 b _ (.marr (Nat.beq c 0) ks vs (.op .row [.op .row (es++xs)])) L (.map (#[].push ⟨ρ k,ρ x,c⟩) (c+1)) hg hL hwm
           ⟨_,_,rfl,by
            show [(ρ k,ρ x)]=[bk9 ks vs (.vl (N2 ω (es++xs)))]
            rw[hent],U4.push (E:=[]) (U4.nil c) _ _⟩
          refine⟨_,?_,p1,p2⟩
          simp only[em,Instr.mapUpdate,Sem.run_bind,M9 ht,Result.andThen_ok,O7 q1,T0 hko rk',hrun,Q8 _ q1]
         ·trivial
       ·trivial
      ·trivial
     ·trivial
    ·trivial
   ·trivial
  ·trivial
 ·trivial
end Go.Ev
