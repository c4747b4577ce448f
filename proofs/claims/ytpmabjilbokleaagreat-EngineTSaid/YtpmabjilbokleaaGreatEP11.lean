import Derived.Test.YtpmabjilbokleaaGreatEP0
set_option linter.unusedSimpArgs false
set_option linter.unusedVariables false
namespace Go.Ev.S9
open Go Go.Ev
def jW(l:List Val):Option Nat:=(List.range l.length).find? λi=>(dP l i).isSome
def xD(l:List Val):Nat×List Val:=match jW l with
 |some i=>(1,[.vi (bM l i ((dP l i).getD 0)).length,.vb true,.vi i,.vl (bM l i ((dP l i).getD 0))])
 |none=>(0,[.vb false,.vi l.length])
def yq(a:List Val):Val:=V0 (xD (aN a 3).toL)
def kl:Nat->List Val->List Val
 |0,l=>l
 |f+1,l=>match jW l with
  |some i=>kl f (bM l i ((dP l i).getD 0))
  |none=>l
def ew(l:List Val):List Val:=kl l.length l
def dW7(a:List Val):Val:=V0 (0,[.vi (ew (aN a 2).toL).length,.vb false,.vl (ew (aN a 2).toL)])
theorem VJ(l:List Val){i j:Nat}(h:i<j): ∀n,(U4 (fe l i j) n).length+((if i<n then 1 else 0)+(if j<n then 1 else 0))=n
 |0=>rfl
 |n+1=>by
  have ih:=VJ l h n;show(U4 (fe l i j) n++fe l i j n).length+_=_;unfold fe at ih⊢;grind
theorem Qh{l:List Val}{i j:Nat}(h:i<j)(hj:j<l.length):(bM l i j).length+1=l.length:=by
 have:=VJ l h l.length;grind[bM,List.length_append]
theorem Gc{l:List Val}{i:Nat}(h:jW l=some i): ∃j,dP l i=some j/\i<j/\j<l.length/\oR l i j=true:=by
 obtain⟨a,b,c⟩:=W6 h;cases hj:dP l i with
 |none=>grind
 |some j=>
  obtain⟨a',b',c'⟩:=W6 hj;grind
theorem ZM{l:List Val}(h:jW l=none){i j:Nat}(hij:i<j)(hj:j<l.length):oR l i j=false:=by
 have h1:=s9.1 h i (m8.2 (by omega));have h2:dP l i=none:=by simpa using h1
 have h3:=s9.1 h2 j (m8.2 hj);simpa[hij]using h3
variable{I:Opq}
theorem d4{x:Val}{j:Nat}:(I.upd 4000 [x,.vi j]).w 4000=x/\(I.upd 4000 [x,.vi j]).w 4001= .vi j:=⟨by rfl,by rfl⟩
theorem dw9(f858: ∀a,I.f 858 a=qd a)(f859: ∀a,I.f 859 a=kW a){l:List Val}(h0:I.w 2000= .vi l.length)(h2:(I.w 2002).toL=l)(hn:l.length<=1000)(i:Nat)(hi:i<=l.length):
 R0 MP (I.upd 4000 [.vb false,.vi i])=if i<l.length then(match dP l i with|some j=>some (2,[.vi (bM l i j).length,.vb true,.vi i,.vl (bM l i j)])|none=>some (0,[.vb false,.vi (i+1:Nat)]))else some (1,[.vb false,.vi i]):=by
 obtain⟨v0,v1⟩:=d4 (I:=I) (x:= .vb false) (j:=i);have w0:(I.upd 4000 [.vb false,.vi i]).w 2000= .vi l.length:=by grind[bc]
 have w2:((I.upd 4000 [.vb false,.vi i]).w 2002).toL=l:=by grind[bc]
 have wf: ∀a,(I.upd 4000 [.vb false,.vi i]).f 858 a=qd a:=λa=>by grind[cp]
 have wg: ∀a,(I.upd 4000 [.vb false,.vi i]).f 859 a=kW a:=λa=>by grind[cp]
 generalize I.upd 4000 [.vb false,.vi i]=aa at*
 refine R3 (by simp_all[T5,W4,V6,e9]) ?_;by_cases c:i<l.length
 .rw[e8 c];have inc:aS .add .i64 (i:Int) 1=((i+1:Nat):Int):=V8 (n:=1000000) (by omega) (by omega);have di:aM aa (zi (.va 4001))= .vi (i+1:Nat):=by
   show Val.vi (aS .add .i64 (aa.w 4001).toI 1)=_;simp_all
  have d6:aM aa X6=V0 (sO (.vb false) l i):=by
   show aa.f 858 [aa.w 4000,aM aa (zi (.va 4001)),aa.w 2000,aa.w 2002,aa.w 4001]=_;rw[wf];show V0 (sO (aa.w 4000) (aa.w 2002).toL (aa.w 4001).toI.toNat)=_;simp_all
  refine S3 (by simp_all[W5,V6,e9]) (R4 (r:=sO (.vb false) l i) ?_ d6 ?_)
  .show S5 _ [aa.w 4000,aM aa (zi (.va 4001))]=_;grind[dO9]
  .have hR:sO (.vb false) l i=match dP l i with
    |some j=>(1,[.vi (bM l i j).length,.vb true,.vi j,.vl (bM l i j)])
    |none=>(0,[.vb false,.vi l.length]):=rfl
   cases hj:dP l i with
   |none=>
    rw[hj]at hR;rw[hR]at d6⊢;show some (0,[S0 (aM aa X6).toL 1 0,aM aa (zi (.va 4001))])=_;rw[d6,di];rfl
   |some j=>
    rw[hj]at hR;rw[hR]at d6⊢;have e0:aM aa (zo X6 0)= .vi (bM l i j).length:=by show S0 (aM aa X6).toL 1 0=_;rw[d6];rfl
    have e1:aM aa (zo X6 1)= .vb true:=by show S0 (aM aa X6).toL 1 1=_;rw[d6];rfl
    have e3:aM aa (zo X6 3)= .vl (bM l i j):=by show S0 (aM aa X6).toL 1 3=_;rw[d6];rfl
    refine R3 (by rw[bK,S2,e0,e3];exact e9 rfl) ?_;show some (2,[Val.vi (aM aa (zo X6 3)).toL.length,aM aa (zo X6 1),aa.w 4001,aM aa (zo X6 3)])=_;simp_all
 .refine S4 (by rw[W5,V6,V6,v1,w0];exact j5 (by show¬(i:Int)<(l.length:Int);omega)) ?_;show some (1,[aa.w 4000,aa.w 4001])=_;grind
theorem dP0(f858: ∀a,I.f 858 a=qd a)(f859: ∀a,I.f 859 a=kW a){l:List Val}(h0:I.w 2000= .vi l.length)(h2:(I.w 2002).toL=l)(hn:l.length<=1000):
 S5 (λvs=>R0 MP (I.upd 4000 vs)) [.vb false,.vi 0]=some (xD l):=by
 have run:=dw9 f858 f859 h0 h2 hn;unfold xD;cases hf:jW l with
 |none=>
  refine V9 (st:=λm=>[.vb false,.vi m]) (n:=l.length) (λm hm=> ?_) ?_
  .have h1:=s9.1 hf m (m8.2 hm);have h2:dP l m=none:=by simpa using h1
   rw[run _ (by omega),e8 hm,h2]
  grind
 |some i=>
  obtain⟨a,b,c⟩:=W6 hf;obtain⟨j,hj,j1,j2,j3⟩:=Gc hf;refine V9 (st:=λm=>[.vb false,.vi m]) (n:=i) (λm hm=> ?_) ?_
  .have h2:dP l m=none:=by have:=c m hm;simpa using this
   rw[run _ (by omega),e8 (by omega),h2]
  grind
theorem dP1{l:List Val}{b:Bool}:(I.upd 2000 [.vi l.length,.vb b,.vl l]).w 2000= .vi l.length/\(I.upd 2000 [.vi l.length,.vb b,.vl l]).w 2001= .vb b/\(I.upd 2000 [.vi l.length,.vb b,.vl l]).w 2002= .vl l:=
 ⟨by rfl,by rfl,by rfl⟩
theorem TS(f857: ∀a,I.f 857 a=yq a)(f858: ∀a,I.f 858 a=qd a)(f859: ∀a,I.f 859 a=kW a){l:List Val}(hn:l.length<=1000):
 R0 Cw (I.upd 2000 [.vi l.length,.vb true,.vl l])=match jW l with
  |some i=>some (0,[.vi (bM l i ((dP l i).getD 0)).length,.vb true,.vl (bM l i ((dP l i).getD 0))])
  |none=>some (0,[.vi l.length,.vb false,.vl l]):=by
 obtain⟨v0,v1,v2⟩:=dP1 (I:=I) (l:=l) (b:=true);have wf: ∀a,(I.upd 2000 [.vi l.length,.vb true,.vl l]).f 857 a=yq a:=λa=>by grind[cp]
 have wg: ∀a,(I.upd 2000 [.vi l.length,.vb true,.vl l]).f 858 a=qd a:=λa=>by grind[cp]
 have wh: ∀a,(I.upd 2000 [.vi l.length,.vb true,.vl l]).f 859 a=kW a:=λa=>by grind[cp]
 generalize I.upd 2000 [.vi l.length,.vb true,.vl l]=aa at*
 have d7:aM aa X7=V0 (xD l):=by
  show aa.f 857 [.vb false,.vi 0,aa.w 2000,aa.w 2002]=_;rw[wf,v2];rfl
 refine S3 (by show(aa.w 2001).toB=true;rw[v1];rfl) (R4 (r:=xD l) ?_ d7 ?_)
 .exact dP0 wg wh v0 (by rw[v2];rfl) hn
 .have hR:xD l=match jW l with
   |some i=>(1,[.vi (bM l i ((dP l i).getD 0)).length,.vb true,.vi i,.vl (bM l i ((dP l i).getD 0))])
   |none=>(0,[.vb false,.vi l.length]):=rfl
  cases hj:jW l with
  |none=>
   rw[hj]at hR;rw[hR];show some (0,[aa.w 2000,Val.vb false,aa.w 2002])=_;grind
  |some i=>
   rw[hj]at hR;rw[hR]at d7⊢;have e0:aM aa (zo X7 0)= .vi (bM l i ((dP l i).getD 0)).length:=by show S0 (aM aa X7).toL 1 0=_;rw[d7];rfl
   have e1:aM aa (zo X7 1)= .vb true:=by show S0 (aM aa X7).toL 1 1=_;rw[d7];rfl
   have e3:aM aa (zo X7 3)= .vl (bM l i ((dP l i).getD 0)):=by show S0 (aM aa X7).toL 1 3=_;rw[d7];rfl
   refine R3 (by rw[bK,S2,e0,e3];exact e9 rfl) ?_;show some (0,[Val.vi (aM aa (zo X7 3)).toL.length,aM aa (zo X7 1),aM aa (zo X7 3)])=_;simp_all
theorem Xg(l:List Val):R0 Cw (I.upd 2000 [.vi l.length,.vb false,.vl l])=some (1,[.vi l.length,.vb false,.vl l]):=by
 rfl
theorem dP2(f857: ∀a,I.f 857 a=yq a)(f858: ∀a,I.f 858 a=qd a)(f859: ∀a,I.f 859 a=kW a): ∀(f:Nat) (l:List Val),l.length<=f->l.length<=1000->
 Iter (λvs=>R0 Cw (I.upd 2000 vs)) [.vi l.length,.vb true,.vl l] 0 [.vi (kl f l).length,.vb false,.vl (kl f l)]:=by
 intro f;induction f with
 |zero=>
  intro l hf hn;have:l=[]:=A8 (by omega);subst this;exact .more (TS f857 f858 f859 hn) (.out (Xg []))
 |succ f ih=>
  intro l hf hn;have h:=TS f857 f858 f859 hn;unfold kl;cases hj:jW l with
  |none=>
   rw[hj]at h;exact .more h (.out (Xg l))
  |some i=>
   rw[hj]at h;obtain⟨j,h1,h2,h3,h4⟩:=Gc hj;have hl:(bM l i ((dP l i).getD 0)).length+1=l.length:=by grind[Qh]
   exact .more h (ih _ (by omega) (by omega))
theorem dP3(f857: ∀a,I.f 857 a=yq a)(f858: ∀a,I.f 858 a=qd a)(f859: ∀a,I.f 859 a=kW a){l:List Val}(hn:l.length<=1000):
 S5 (λvs=>R0 Cw (I.upd 2000 vs)) [.vi l.length,.vb true,.vl l]=some (0,[.vi (ew l).length,.vb false,.vl (ew l)]):=by
 rw[W2];exact dP2 f857 f858 f859 _ l (i6 _) hn
end Go.Ev.S9
namespace Go.Ev.S9
open Go Go.Ev
def qA(M:List Val)(k:Nat):List Val:=(M.set k (bE (aO M (k+1)))).set (k+1) (bE (aO M k))
def fm:Nat->List Val->Nat×List Val
 |0,M=>(0,M)
 |k+1,M=>if ci (aO M (k+1)) 0<ci (aO M k) 0 then fm k (qA M k)else(k+1,M)
def FJ(a:List Val):Val:=V0 (0,[.vi (fm (aN a 0).toI.toNat (aN a 1).toL).1,.vl (fm (aN a 0).toI.toNat (aN a 1).toL).2])
def db(l:List Val):Nat->List Val
 |0=>[]
 |k+1=>(fm k (db l k++[bE (aO l k)])).2
def UV(a:List Val):Val:=V0 (0,[.vi (aN a 3).toI.toNat,.vi (aN a 3).toI.toNat,.vl (db (aN a 4).toL (aN a 3).toI.toNat)])
theorem Ub: ∀(k:Nat) (M:List Val),(fm k M).2.length=M.length
 |0,M=>rfl
 |k+1,M=>by
  unfold fm;split
  .rw[Ub k];simp[qA]
  .rfl
theorem xV(l:List Val): ∀k,(db l k).length=k
 |0=>rfl
 |k+1=>by show(fm k _).2.length=_;rw[Ub,l5,xV l k];rfl
theorem Ws{M:List Val}{k:Nat}(hk:k+1<M.length)(hM: ∀r∈M,bE r=r)(r:Val):r∈qA M k↔r∈M:=by
 have a1:aO M k∈M:=gp (by omega);have a2:aO M (k+1)∈M:=gp hk;have e:qA M k=(M.set k (aO M (k+1))).set (k+1) (aO M k):=by grind[qA]
 rw[e];constructor
 .grind
 .intro h;obtain⟨m,hm,rfl⟩:=A1 h;have ea: ∀n (h:n<M.length),aO M n=M[n]:=λn h=>by simp[aO,j9,h]
  by_cases c1:m=k
  .grind[List.mem_iff_getElem]
  .by_cases c2:m=k+1
   .refine Q6.2 ⟨k,by simp;omega,?_⟩;grind
   .refine Q6.2 ⟨m,by simp;omega,?_⟩;grind
theorem Rv: ∀(k:Nat) (M:List Val),k<M.length->(∀r∈M,bE r=r)-> ∀r,r∈(fm k M).2↔r∈M
 |0,M,_,_,r=>Iff.rfl
 |k+1,M,hk,hM,r=>by
  unfold fm;split
  .rw[Rv k _ (by simp[qA];omega) (λr hr=>hM r ((Ws hk hM r).1 hr)) r,Ws hk hM]
  rfl
theorem Tj{l:List Val}(hl: ∀r∈l,bE r=r): ∀k,k<=l.length-> ∀r,r∈db l k↔r∈l.take k
 |0,_,r=>by simp[db]
 |k+1,hk,r=>by
  have ih:=Tj hl k (by omega);have ha:=gp (l:=l) (show k<l.length by omega);show r∈(fm k (db l k++[bE (aO l k)])).2↔_;have hs: ∀r∈db l k++[bE (aO l k)],bE r=r:=λr hr=>by
   rcases t7.1 hr with h|h
   .exact hl r (K0 ((ih r).1 h))
   .rw[m9.1 h,hl _ ha,hl _ ha]
  rw[Rv k _ (by rw[l5,xV];simp) hs,t7,m9,ih,hl _ ha,show l.take (k+1)=l.take k++[aO l k] by rw[M5,show l[k]?.toList=[aO l k] by simp[aO,j9,show k<l.length by omega]],t7,m9]
variable{I:Opq}
theorem d3{M:List Val}{j:Nat}:(I.upd 3000 [.vi j,.vl M]).w 3000= .vi j/\(I.upd 3000 [.vi j,.vl M]).w 3001= .vl M:=⟨by rfl,by rfl⟩
theorem dx0{N k:Nat}{M:List Val}(hc:(I.w 2002).toL.length+1=N)(hM:M.length=N)(hk:k+1<N)(hN:N<=1000):
 R0 OO (I.upd 3000 [.vi (k+1:Nat),.vl M])=if ci (aO M (k+1)) 0<ci (aO M k) 0 then some (0,[.vi k,.vl (qA M k)])else some (1,[.vi (k+1:Nat),.vl M]):=by
 obtain⟨v0,v1⟩:=d3 (I:=I) (M:=M) (j:=k+1);have w2:(I.upd 3000 [.vi (k+1:Nat),.vl M]).w 2002=I.w 2002:=bc _ _ _ (by omega);generalize I.upd 3000 [.vi (k+1:Nat),.vl M]=aa at*
 have i1:(aM aa (zm (.va 3000) (.ci 1)))= .vi k:=by
  show Val.vi (aS .sub .i64 (aa.w 3000).toI 1)=_;grind[S6,gv]
 have i1I:(aM aa (zm (.va 3000) (.ci 1))).toI=(k:Int):=by rw[i1];rfl
 have l8:(aM aa X8).toL.length=N:=by
  show((aa.w 2002).toL++[_]).length=N;grind
 have l8I:(aM aa (zL X8)).toI=(N:Int):=by rw[S2,l8]
 have l1I:(aM aa (zl 3001)).toI=(N:Int):=by simp_all[S2,bx]
 have v0I:(aM aa (.va 3000)).toI=((k+1:Nat):Int):=by rw[V6,v0];rfl
 have g1: ∀j:Nat,aM aa (.op .lget [.va 3001,.va 3000,.ci j])=S1 (aO M (k+1)) j:=λj=>by
  show S0 (aa.w 3001).toL (aa.w 3000).toI (j:Int)=_;rw[v1,v0];rfl
 have g0: ∀j:Nat,aM aa (.op .lget [.va 3001,zm (.va 3000) (.ci 1),.ci j])=S1 (aO M k) j:=λj=>by
  show S0 (aa.w 3001).toL (aM aa (zm (.va 3000) (.ci 1))).toI (j:Int)=_;rw[v1,i1];rfl
 have d10:aM aa Fo= .vl (M.set k (bE (aO M (k+1)))):=by
  show Val.vl ((aa.w 3001).toL.set (aM aa (zm (.va 3000) (.ci 1))).toI.toNat (.vl [aM aa (.op .lget [.va 3001,.va 3000,.ci (0:Nat)]),aM aa (.op .lget [.va 3001,.va 3000,.ci (1:Nat)])]))=_;rw[v1,i1,g1,g1];rfl
 refine S3 (by grind[GM,W4,decide_eq_true]) ?_;refine R3 (by grind[Y4,T5,W5,W4,decide_eq_true]) ?_;refine R3 (by grind[W5,decide_eq_true]) ?_;refine R3 (by grind[Y4,T5,W5,W4,decide_eq_true]) ?_;refine R3 (by grind[W5,decide_eq_true]) ?_;have hq:dB aa (.op (.cmp .gtr) [X9,zg 3001 3000 0])=decide (ci (aO M (k+1)) 0<ci (aO M k) 0):=by
  have e1:=congrArg Val.toI (g1 0);have e0:=congrArg Val.toI (g0 0);exact congr (congrArg (λa b:Int=>decide (a<b)) e1) e0
 by_cases c:ci (aO M (k+1)) 0<ci (aO M k) 0
 .rw[e8 c];refine S3 (hq.trans (e9 c)) (R3 ?_ ?_)
  .rw[W5,v0I,S2,d10];show decide (((k+1:Nat):Int)<((M.set k (bE (aO M (k+1)))).length:Int))=true;grind
  .show some (0,[aM aa (zm (.va 3000) (.ci 1)),Val.vl ((aM aa Fo).toL.set (aa.w 3000).toI.toNat (.vl [aM aa (.op .lget [.va 3001,zm (.va 3000) (.ci 1),.ci (0:Nat)]),aM aa (.op .lget [.va 3001,zm (.va 3000) (.ci 1),.ci (1:Nat)])]))])=_;rw[i1,d10,v0,g0,g0];rfl
 .refine S4 (hq.trans (j5 c)) ?_;show some (1,[aa.w 3000,aa.w 3001])=_;grind
theorem dx1{N:Nat}(hc:(I.w 2002).toL.length+1=N)(hN:N<=1000): ∀(k:Nat) (M:List Val),k<N->M.length=N->Iter (λvs=>R0 OO (I.upd 3000 vs)) [.vi k,.vl M] 0 [.vi (fm k M).1,.vl (fm k M).2]
 |0,M,hk,hM=>by
  refine .out ?_;rfl
 |k+1,M,hk,hM=>by
  have hs:=dx0 (I:=I) hc hM hk hN;unfold fm;by_cases c:ci (aO M (k+1)) 0<ci (aO M k) 0
  .rw[e8 c]at hs⊢;exact .more hs (dx1 hc hN k _ (by omega) (by grind[qA]))
  .rw[b9 c]at hs⊢;exact .out hs
theorem dP4(f856: ∀a,I.f 856 a=FJ a){l:List Val}(d3: ∀vs,aM (I.upd 2000 vs) kM= .vi l.length)(d4: ∀vs,aM (I.upd 2000 vs) iq= .vl l)(hn:l.length<=900):
 S5 (λvs=>R0 TG (I.upd 2000 vs)) [.vi 0,.vi 0,.vl []]=some (0,[.vi l.length,.vi l.length,.vl (db l l.length)]):=by
 refine V9 (st:=λk=>[.vi k,.vi k,.vl (db l k)]) (n:=l.length) (λk hk=> ?_) ?_
 .have hl:=xV l k;have hm:db l (k+1)=(fm k (db l k++[bE (aO l k)])).2:=rfl;have hl2:=xV l (k+1);rw[hm]at hl2⊢;generalize db l k=acc at hl hl2⊢;have v0:=oD I 2000 (.vi k) (.vi k) (.vl acc);have v1:=fT I 2000 (.vi k) (.vi k) (.vl acc);have v2:=oK I 2000 (.vi k) (.vi k) (.vl acc);have d3:=d3 [.vi k,.vi k,.vl acc];have d4:=d4 [.vi k,.vi k,.vl acc];have wf: ∀a,(I.upd 2000 [.vi k,.vi k,.vl acc]).f 856 a=FJ a:=λa=>by grind[cp]
  generalize I.upd 2000 [.vi k,.vi k,.vl acc]=aa at*
  have inc:aS .add .i64 (k:Int) 1=((k+1:Nat):Int):=V8 (n:=1000000) (by omega) (by omega);have d8:aM aa X8= .vl (acc++[bE (aO l k)]):=by
   show Val.vl ((aa.w 2002).toL++[.vl [S0 (aM aa iq).toL (aa.w 2001).toI 0,S0 (aM aa iq).toL (aa.w 2001).toI 1]])=_;rw[v2,d4,v1];rfl
  have d12:aM aa xC= .vl (fm k (acc++[bE (aO l k)])).2:=by
   show S0 (aa.f 856 [aa.w 2001,aM aa X8,aM aa kM,aM aa iq,.vi (aM aa X8).toL.length,aM aa X8,aa.w 2001]).toL 1 1=_;rw[wf,d8,v1];rfl
  have e856:aa.f 856 [aa.w 2001,aM aa X8,aM aa kM,aM aa iq,.vi (aM aa X8).toL.length,aM aa X8,aa.w 2001]=V0 (0,[.vi (fm k (acc++[bE (aO l k)])).1,.vl (fm k (acc++[bE (aO l k)])).2]):=by
   rw[wf,d8,v1];rfl
  refine R3 (by simp_all[T5,W4,e9]) (S3 (by simp_all[W5,V6,e9]) ?_);refine R3 (by simp_all[T5,W4,V6,e9]) ?_;refine R3 (by simp_all[W5,V6,S2,e9]) ?_;refine R3 (IA (q:= .va 2000) (l:= .va 2002) (c:=X8) (by grind[bx]) v2 d8 (by omega)) ?_;have ml:(acc++[bE (aO l k)]).length=k+1:=by grind
  refine R4 (r:=(0,[.vi (fm k (acc++[bE (aO l k)])).1,.vl (fm k (acc++[bE (aO l k)])).2])) ?_ e856 (R3 ?_ ?_)
  .show S5 _ [aa.w 2001,aM aa X8]=_;rw[v1,d8,W2];exact dx1 (N:=k+1) (by simp_all) (by omega) k _ (by omega) ml
  .simp_all[bK,S2,e9,bE,aO,fm]
  .show some (0,[Val.vi (aM aa xC).toL.length,Val.vi (aS .add .i64 (aa.w 2001).toI 1),aM aa xC])=_;simp_all
 .have v0:=oD I 2000 (.vi l.length) (.vi l.length) (.vl (db l l.length));have v1:(I.upd 2000 [.vi l.length,.vi l.length,.vl (db l l.length)]).w 2001=_:=fT I 2000 (.vi l.length) (.vi l.length) (.vl (db l l.length));have v2:(I.upd 2000 [.vi l.length,.vi l.length,.vl (db l l.length)]).w 2002=_:=oK I 2000 (.vi l.length) (.vi l.length) (.vl (db l l.length));have d3:=d3 [.vi l.length,.vi l.length,.vl (db l l.length)];generalize I.upd 2000 [.vi l.length,.vi l.length,.vl (db l l.length)]=aa at*
  refine R3 (by rw[T5,W4,d3];exact e9 (by show(0:Int)<=(l.length:Int);omega)) (S4 (by rw[W5,V6,d3,v1];exact j5 (by omega)) ?_);show some (1,[aa.w 2000,aa.w 2001,aa.w 2002])=_;grind
end Go.Ev.S9
namespace Go.Ev.S9
open Go Go.Ev
def cE(g:Int)(l:List Val):List Val:=U4 (jk g l) l.length
def fk(g:Int)(l:List Val):List Val:=db (ew (cE g l)) (ew (cE g l)).length
def ff(g:Int)(l:List Val):Bool:=decide (1<=g)&&(decide (g<=1048576)&&((List.range l.length).find? (qi l)).isNone)
def Gg(a:List Val):Val:= .vl (bif ff (aN a 0).toI (aN a 1).toL then fk (aN a 0).toI (aN a 1).toL else [])
def LH(a:List Val):Val:= .vi (bif ff (aN a 0).toI (aN a 1).toL then 0 else 2)
theorem JW: ∀(f:Nat) (l:List Val),(kl f l).length<=l.length
 |0,l=>i6 _
 |f+1,l=>by
  unfold kl;cases hj:jW l with
  |none=>grind
  |some i=>
   obtain⟨j,h1,h2,h3,h4⟩:=Gc hj;have hl:(bM l i ((dP l i).getD 0)).length+1=l.length:=by grind[Qh]
   exact n8 (JW f _) (by omega)
variable{I:Opq}
theorem dP6(f854: ∀a,I.f 854 a=dW7 a)(f855: ∀a,I.f 855 a=UV a)(f856: ∀a,I.f 856 a=FJ a)(f857: ∀a,I.f 857 a=yq a)(f858: ∀a,I.f 858 a=qd a)(f859: ∀a,I.f 859 a=kW a)(f860: ∀a,I.f 860 a=Xh a)(hn:(I.w 1).toL.length<=100):
 R0 T_sOf I=some (0,[LH [I.w 0,I.w 1],Gg [I.w 0,I.w 1]]):=by
 generalize h0:(I.w 0).toI=g;generalize h1:(I.w 1).toL=l at hn;have e0:aM I gF=V0 (Bx g l):=by
  show I.f 860 [.vi 0,.vi 0,.vi 0,.vl [],I.w 0,.vi 0,.vi (I.w 1).toL.length,I.w 1]=_;rw[f860,<-h0,<-h1];rfl
 have hv:([LH [I.w 0,I.w 1],Gg [I.w 0,I.w 1]]:List Val)=[.vi (bif ff g l then 0 else 2),.vl (bif ff g l then fk g l else [])]:=by
  show [Val.vi (bif ff (I.w 0).toI (I.w 1).toL then 0 else 2),.vl (bif ff (I.w 0).toI (I.w 1).toL then fk (I.w 0).toI (I.w 1).toL else [])]=_;rw[h0,h1]
 rw[hv];unfold T_sOf ff;by_cases g1:1<=g
 .refine S3 (by rw[wu,V6,W4,h0];exact e9 g1) ?_;rw[e9 g1,A5];by_cases g2:g<=1048576
  .refine S4 (by rw[fi,T5,V6,W4,h0,e9 g2];rfl) ?_;rw[e9 g2,A5];refine R4 (r:=Bx g l) (dO7 h0 h1 (by omega)) e0 ?_;unfold Bx at e0⊢;cases hf:(List.range l.length).find? (qi l)with
   |some i=>
    rw[hf]at e0;show some (0,[aM I (zo gF 0),Val.vl []])=_;have:aM I (zo gF 0)= .vi 2:=by show S0 (aM I gF).toL 1 0=_;rw[e0];rfl
    rw[this];rfl
   |none=>
    rw[hf]at e0;have q1:aM I ow= .vl (cE g l):=by show S0 (aM I gF).toL 1 3=_;rw[e0];rfl
    have q01:aM I (zo gF 1)= .vi (cE g l).length:=by show S0 (aM I gF).toL 1 1=_;rw[e0];rfl
    have hL:(cE g l).length=l.length:=jH (λi=> .vl [S1 (aO l i) 0,.vi (aS .add .i64 (ci (aO l i) 0) g)]) l.length;have q2:aM I pG=V0 (0,[.vi (ew (cE g l)).length,.vb false,.vl (ew (cE g l))]):=by
     show I.f 854 [.vi (aM I ow).toL.length,.vb true,aM I ow]=_;rw[f854,q1];rfl
    have q3:aM I kM= .vi (ew (cE g l)).length:=by show S0 (aM I pG).toL 1 0=_;rw[q2];rfl
    have q4:aM I iq= .vl (ew (cE g l)):=by show S0 (aM I pG).toL 1 2=_;rw[q2];rfl
    have hM:(ew (cE g l)).length<=100:=n8 (JW _ _) (by omega);have D2: ∀vs,aM (I.upd 2000 vs) pG=aM I pG:=λvs=>by
     have e:aM (I.upd 2000 vs) gF=aM I gF:=by
      show(I.upd 2000 vs).f 860 [.vi 0,.vi 0,.vi 0,.vl [],(I.upd 2000 vs).w 0,.vi 0,.vi ((I.upd 2000 vs).w 1).toL.length,(I.upd 2000 vs).w 1]=I.f 860 [.vi 0,.vi 0,.vi 0,.vl [],I.w 0,.vi 0,.vi (I.w 1).toL.length,I.w 1];rw[bc _ _ _ (by omega),bc _ _ _ (by omega),cp]
     show(I.upd 2000 vs).f 854 [.vi (S0 (aM (I.upd 2000 vs) gF).toL 1 3).toL.length,.vb true,S0 (aM (I.upd 2000 vs) gF).toL 1 3]=I.f 854 [.vi (S0 (aM I gF).toL 1 3).toL.length,.vb true,S0 (aM I gF).toL 1 3];rw[e,cp]
    have D3: ∀vs,aM (I.upd 2000 vs) kM= .vi (ew (cE g l)).length:=λvs=>by
     show S0 (aM (I.upd 2000 vs) pG).toL 1 0=_;rw[D2,q2];rfl
    have D4: ∀vs,aM (I.upd 2000 vs) iq= .vl (ew (cE g l)):=λvs=>by
     show S0 (aM (I.upd 2000 vs) pG).toL 1 2=_;rw[D2,q2];rfl
    have q5:aM I wJ=V0 (0,[.vi (ew (cE g l)).length,.vi (ew (cE g l)).length,.vl (fk g l)]):=by
     show I.f 855 [.vi 0,.vi 0,.vl [],aM I kM,aM I iq]=_;rw[f855,q3,q4];rfl
    have q6:aM I Iq= .vl (fk g l):=by show S0 (aM I wJ).toL 1 2=_;rw[q5];rfl
    have q50:aM I (zo wJ 0)= .vi (ew (cE g l)).length:=by show S0 (aM I wJ).toL 1 0=_;rw[q5];rfl
    refine R3 (by rw[bK,S2,q01,q1];exact e9 rfl) (R4 (r:=(0,[.vi (ew (cE g l)).length,.vb false,.vl (ew (cE g l))])) ?_ q2 (R4 (r:=(0,[.vi (ew (cE g l)).length,.vi (ew (cE g l)).length,.vl (fk g l)])) ?_ q5 (R3 ?_ ?_)))
    .show S5 _ [Val.vi (aM I ow).toL.length,.vb true,aM I ow]=_;rw[q1];exact dP3 (l:=cE g l) f857 f858 f859 (by omega)
    .exact dP4 f856 D3 D4 (by omega)
    .rw[bK,S2,q50,q6];exact decide_eq_true (by show((ew (cE g l)).length:Int)=((fk g l).length:Int);unfold fk;rw[xV])
    .show some (0,[Val.vi 0,aM I Iq])=_;rw[q6];rfl
  .rw[j5 g2,k9];exact S3 (by rw[fi,T5,V6,W4,h0,j5 g2];rfl) rfl
 .rw[j5 g1,k9];exact S4 (by rw[wu,V6,W4,h0];exact j5 g1) rfl
end Go.Ev.S9
namespace Go.Ev.S9
open Go Go.Ev
def sZ(k s l g:Int)(T:List Val):List Val:=if k=3 then U4 (λi=>[bE (aO (bif ff g T then fk g T else []) i)]) (bif ff g T then fk g T else []).length else U4 (λi=>bh k s l g (S1 (aO T i) 0)) T.length
def jp(k s l g:Int)(ev:List Val)(key:List UInt8):List Val:=sZ k s l g (gE ev key)
def Vr(a:List Val):Val:=ku (gE (aN a 5).toL (aN a 6).toS) (aN a 5).toL.length
def SU(a:List Val):Val:=ku (U4 (λi=>[bE (aO (aN a 4).toL i)]) (aN a 4).toL.length) (aN a 4).toL.length
def iL(k s l g:Int)(T:List Val):List Val:=U4 (λi=>bh k s l g (S1 (aO T i) 0)) T.length
def Um(a:List Val):Val:=ku (iL (aN a 3).toI (aN a 4).toI (aN a 5).toI (aN a 6).toI (aN a 8).toL) (aN a 8).toL.length
def AU(a:List Val):Val:= .vl (jp (aN a 0).toI (aN a 1).toI (aN a 2).toI (aN a 3).toI (aN a 4).toL (aN a 5).toS)
theorem and2{a b:Bool}(h:a=true)(h2:b=true):(a&&b)=true:=by grind
theorem Vq(g:Int)(T:List Val):(fk g T).length<=T.length:=by
 unfold fk;rw[xV];exact n8 (JW _ _) (Nat.le_of_eq (jH (λi=> .vl [S1 (aO T i) 0,.vi (aS .add .i64 (ci (aO T i) 0) g)]) T.length))
theorem Si(l:List Val)(key:List UInt8):(gE l key).length<=l.length:=by
 have:=Y7 (g:=Gi l key) (m:=1) (λi=>by unfold Gi;cases decide ((S1 (aO l i) 1).toS=key)<;>simp) l.length;grind[gE]
variable{I:Opq}
theorem dP7{k s l g:Int}{T:List Val}(f704: ∀a,I.f 704 a= .vl (bh (aN a 0).toI (aN a 1).toI (aN a 2).toI (aN a 3).toI (aN a 4)))(h0:(I.w 0).toI=k)(h1:(I.w 1).toI=s)(h2:(I.w 2).toI=l)(h3:(I.w 3).toI=g)(k3:k≠3)(D1: ∀vs,aM (I.upd 2000 vs) iy= .vi T.length)(D2: ∀vs,aM (I.upd 2000 vs) jI= .vl T)(hn:T.length<=1000):
 S5 (λvs=>R0 MJ (I.upd 2000 vs)) [.vi 0,.vi 0,.vl []]=some (0,[.vi (iL k s l g T).length,.vi T.length,.vl (iL k s l g T)]):=by
 have hlen: ∀i,(U4 (λi=>bh k s l g (S1 (aO T i) 0)) i).length<=i*16:=λi=>Y7 (λi=>xN k3) i
 refine yj (λi acc=>[.vi acc.length,.vi i,.vl acc]) (a0:=[]) (g:=λi=>bh k s l g (S1 (aO T i) 0)) (n:=T.length) rfl (λi hi=> ?_) ?_
 .rw[List.nil_append];have ha:=hlen i;have hb:=xN (k:=k) (s:=s) (l:=l) (g:=g) (t:=S1 (aO T i) 0) k3;generalize U4 (λi=>bh k s l g (S1 (aO T i) 0)) i=acc at ha⊢;have v0:(I.upd 2000 [.vi acc.length,.vi i,.vl acc]).w 2000=_:=oD I 2000 (.vi acc.length) (.vi i) (.vl acc);have v1:(I.upd 2000 [.vi acc.length,.vi i,.vl acc]).w 2001=_:=fT I 2000 (.vi acc.length) (.vi i) (.vl acc);have v2:(I.upd 2000 [.vi acc.length,.vi i,.vl acc]).w 2002=_:=oK I 2000 (.vi acc.length) (.vi i) (.vl acc);have D1:=D1 [.vi acc.length,.vi i,.vl acc];have D2:=D2 [.vi acc.length,.vi i,.vl acc];have u0:((I.upd 2000 [.vi acc.length,.vi i,.vl acc]).w 0).toI=k:=by grind[bc]
  have u1:((I.upd 2000 [.vi acc.length,.vi i,.vl acc]).w 1).toI=s:=by grind[bc]
  have u2:((I.upd 2000 [.vi acc.length,.vi i,.vl acc]).w 2).toI=l:=by grind[bc]
  have u3:((I.upd 2000 [.vi acc.length,.vi i,.vl acc]).w 3).toI=g:=by grind[bc]
  have wf: ∀a,(I.upd 2000 [.vi acc.length,.vi i,.vl acc]).f 704 a= .vl (bh (aN a 0).toI (aN a 1).toI (aN a 2).toI (aN a 3).toI (aN a 4)):=λa=>by grind[cp]
  generalize I.upd 2000 [.vi acc.length,.vi i,.vl acc]=aa at*
  have d16:aM aa uB= .vl (acc++bh k s l g (S1 (aO T i) 0)):=by
   show Val.vl ((aa.w 2002).toL++(aa.f 704 [aa.w 0,aa.w 1,aa.w 2,aa.w 3,S0 (aM aa jI).toL (aa.w 2001).toI 0]).toL)=_;rw[wf,D2,v1,v2];show Val.vl (acc++bh (aa.w 0).toI (aa.w 1).toI (aa.w 2).toI (aa.w 3).toI (S1 (aO T i) 0))=_;grind
  have inc:aS .add .i64 (i:Int) 1=((i+1:Nat):Int):=V8 (n:=1000000) (by omega) (by omega);refine R3 (by simp_all[T5,W4,e9]) (S3 (by simp_all[W5,V6,e9]) ?_);refine R3 (by simp_all[T5,W4,V6,e9]) ?_;refine R3 (by simp_all[W5,V6,S2,e9]) ?_;refine R3 ?_ ?_
  .show(decide ((aa.w 2000).toI=((aa.w 2002).toL.length:Int))&&decide (((aM aa uB).toL.length:Int)<=1000000))=true;rw[v0,v2,d16];exact and2 (e9 rfl) (e9 (by show((acc++bh k s l g (S1 (aO T i) 0)).length:Int)<=1000000;grind))
  .show some (0,[Val.vi (aM aa uB).toL.length,Val.vi (aS .add .i64 (aa.w 2001).toI 1),aM aa uB])=_;simp_all
 .show R0 MJ (I.upd 2000 [.vi (iL k s l g T).length,.vi T.length,.vl (iL k s l g T)])=some (1,[.vi (iL k s l g T).length,.vi T.length,.vl (iL k s l g T)]);refine R3 (by rw[T5,W4,D1];exact e9 (by show(0:Int)<=(T.length:Int);omega)) (S4 (by rw[W5,V6,D1,show(I.upd 2000 [.vi (iL k s l g T).length,.vi T.length,.vl (iL k s l g T)]).w 2001=_ from fT ..];exact j5 (by omega)) ?_);rfl
theorem cL1(f704: ∀a,I.f 704 a= .vl (bh (aN a 0).toI (aN a 1).toI (aN a 2).toI (aN a 3).toI (aN a 4)))(f824: ∀a,I.f 824 a=Gg a)(f861: ∀a,I.f 861 a=Vr a)(f862: ∀a,I.f 862 a=SU a)(f863: ∀a,I.f 863 a=Um a)(hn:(I.w 4).toL.length<=100):
 R0 T_rSpans I=some (0,[AU [I.w 0,I.w 1,I.w 2,I.w 3,I.w 4,I.w 5]]):=by
 generalize h0:(I.w 0).toI=k;generalize h1:(I.w 1).toI=s;generalize h2:(I.w 2).toI=l;generalize h3:(I.w 3).toI=g;generalize h4:(I.w 4).toL=ev at hn;generalize h5:(I.w 5).toS=key;generalize hT:gE ev key=T;have hTl:T.length<=100:=by grind[Nat.le_trans,Si]
 have hv:AU [I.w 0,I.w 1,I.w 2,I.w 3,I.w 4,I.w 5]= .vl (sZ k s l g T):=by
  show Val.vl (sZ (I.w 0).toI (I.w 1).toI (I.w 2).toI (I.w 3).toI (gE (I.w 4).toL (I.w 5).toS))=_;grind
 rw[hv];have e0:aM I pF=V0 (0,[.vi T.length,.vi ev.length,.vl T]):=by
  show I.f 861 [.vi 0,.vi 0,.vl [],.vi 0,.vi (I.w 4).toL.length,I.w 4,I.w 5,I.w 0,I.w 1,I.w 2,I.w 3]=_;rw[f861];show ku (gE (I.w 4).toL (I.w 5).toS) (I.w 4).toL.length=_;rw[h4,h5,hT];rfl
 have D0: ∀vs,aM (I.upd 2000 vs) pF=aM I pF:=λvs=>by
  rfl
 have q1:aM I iy= .vi T.length:=by show S0 (aM I pF).toL 1 0=_;rw[e0];rfl
 have q2:aM I jI= .vl T:=by show S0 (aM I pF).toL 1 2=_;rw[e0];rfl
 have D1: ∀vs,aM (I.upd 2000 vs) iy= .vi T.length:=λvs=>by show S0 (aM (I.upd 2000 vs) pF).toL 1 0=_;rw[D0,e0];rfl
 have D2: ∀vs,aM (I.upd 2000 vs) jI= .vl T:=λvs=>by show S0 (aM (I.upd 2000 vs) pF).toL 1 2=_;rw[D0,e0];rfl
 have q3:aM I vd= .vl T:=by
  show Val.vl (((aM I jI).toL.drop (0:Int).toNat).take ((aM I iy).toI-0).toNat)=_;simp_all
 have D3: ∀vs,aM (I.upd 2000 vs) vd= .vl T:=λvs=>by
  show Val.vl (((aM (I.upd 2000 vs) jI).toL.drop (0:Int).toNat).take ((aM (I.upd 2000 vs) iy).toI-0).toNat)=_;simp_all
 refine R4 (r:=(0,[.vi T.length,.vi ev.length,.vl T])) ?_ e0 ?_
 .have:=Ni (I:=I) (v0:=2000) (N:= (zl 4)) (c:= .op (.scmp .eql) [dp 4 2001 1,.va 5]) (row:= .op .row [dp 4 2001 2]) (p:=λi=>decide ((S1 (aO ev i) 1).toS=key)) (f:=λi=> .vl [S1 (aO ev i) 2]) (n:=ev.length) (by omega) (λvs=> ?_) (λi a acc hi=> ?_) (λi a acc hi=> ?_)
  .rw[<-hT];exact this
  .grind[S2,bx,bc]
  .show decide ((aM (I.upd 2000 [a,.vi i,acc]) (dp 4 2001 (1:Nat))).toS=((I.upd 2000 [a,.vi i,acc]).w 5).toS)=_;rw[qf (fT ..),bc _ _ _ (by omega),bc _ _ _ (by omega),h4,h5]
  .show Val.vl [aM (I.upd 2000 [a,.vi i,acc]) (dp 4 2001 (2:Nat))]=_;rw[qf (fT ..),bc _ _ _ (by omega),h4]
 .unfold sZ;by_cases k3:k=3
  .rw[e8 k3];refine S3 (by grind[bK,V6,W4,decide_eq_true]) (R3 ?_ ?_)
   .show((decide ((0:Int)<=(aM I iy).toI)&&decide ((aM I iy).toI<=((aM I jI).toL.length:Int)))&&decide (((aM I vd).toL.length:Int)<=100))=true;rw[q1,q2,q3];exact and2 (and2 (e9 (by simp_all)) (e9 (by simp_all))) (e9 (by show(T.length:Int)<=100;omega))
   .have q4:aM I jY= .vl (bif ff g T then fk g T else []):=by
     show I.f 824 [I.w 3,aM I vd]=_;rw[f824,q3];show Val.vl (bif ff (I.w 3).toI T then fk (I.w 3).toI T else [])=_;rw[h3]
    have D4: ∀vs,aM (I.upd 2000 vs) jY= .vl (bif ff g T then fk g T else []):=λvs=>by
     show(I.upd 2000 vs).f 824 [(I.upd 2000 vs).w 3,aM (I.upd 2000 vs) vd]=_;rw[D3,bc _ _ _ (by omega),cp,f824];show Val.vl (bif ff (I.w 3).toI T then fk (I.w 3).toI T else [])=_;rw[h3]
    have hSl:(bif ff g T then fk g T else []).length<=100:=by
     cases ff g T with
     |true=>grind[Nat.le_trans,Vq]
     |false=>grind
    generalize (bif ff g T then fk g T else [])=S at q4 D4 hSl⊢;have e5:aM I Ix=V0 (0,[.vi (U4 (λi=>[bE (aO S i)]) S.length).length,.vi S.length,.vl (U4 (λi=>[bE (aO S i)]) S.length)]):=by
     show I.f 862 [.vi 0,.vi 0,.vl [],.vi (aM I jY).toL.length,aM I jY]=_;rw[f862,q4];rfl
    have q6:aM I GV= .vl (U4 (λi=>[bE (aO S i)]) S.length):=by show S0 (aM I Ix).toL 1 2=_;rw[e5];rfl
    refine R4 (r:=(0,[.vi (U4 (λi=>[bE (aO S i)]) S.length).length,.vi S.length,.vl (U4 (λi=>[bE (aO S i)]) S.length)])) ?_ e5 (xT e5 q6 ?_)
    .refine Nx (f:=λi=>bE (aO S i)) (n:=S.length) (by omega) (λvs=> ?_) (λi a acc hi=> ?_)
     .rw[S2,D4];rfl
     .show Val.vl [S0 (aM (I.upd 2000 [a,.vi i,acc]) jY).toL ((I.upd 2000 [a,.vi i,acc]).w (2000+1)).toI 0,S0 (aM (I.upd 2000 [a,.vi i,acc]) jY).toL ((I.upd 2000 [a,.vi i,acc]).w (2000+1)).toI 1]=_;rw[D4,fT];rfl
    .show some (0,[aM I GV])=_;rw[q6]
  .rw[b9 k3];refine S4 (by grind[bK,V6,W4,decide_eq_false]) ?_;have e7:aM I GE=V0 (0,[.vi (iL k s l g T).length,.vi T.length,.vl (iL k s l g T)]):=by
    show I.f 863 [.vi 0,.vi 0,.vl [],I.w 0,I.w 1,I.w 2,I.w 3,aM I iy,aM I jI]=_;rw[f863,q2];show ku (iL (I.w 0).toI (I.w 1).toI (I.w 2).toI (I.w 3).toI T) T.length=_;rw[h0,h1,h2,h3];rfl
   have q8:aM I HK= .vl (iL k s l g T):=by show S0 (aM I GE).toL 1 2=_;rw[e7];rfl
   refine R4 (r:=(0,[.vi (iL k s l g T).length,.vi T.length,.vl (iL k s l g T)])) ?_ e7 (xT e7 q8 ?_)
   .exact dP7 f704 h0 h1 h2 h3 k3 D1 D2 (by omega)
   .show some (0,[aM I HK])=_;rw[q8];rfl
end Go.Ev.S9
namespace Go.Ev.S9
open Go Go.Ev
def nQ(ev:List Val)(key:List UInt8)(s e:Int)(q:Nat):Bool:=decide ((S1 (aO ev q) 1).toS=key)&&(decide (s<=ci (aO ev q) 2)&&decide (ci (aO ev q) 2<e))
def eN(ev:List Val)(key:List UInt8)(s e:Int):List Val:=U4 (λq=>bif nQ ev key s e q then [.vl [S1 (aO ev q) 3]]else []) ev.length
def xo(a:List Val):Val:=ku (eN (aN a 5).toL (aN a 16).toS (aN a 17).toI (aN a 18).toI) (aN a 5).toL.length
def yw(a:List Val):Val:= .vl [.vl (aA (aN a 0).toL)]
def yg(a:List Val):Val:= .vb ((aN a 0).toL.any λr=>decide (R8 r=⟨(aN a 1).toS,(aN a 2).toI,(aN a 3).toI⟩))
def ol(ev:List Val)(key r:Val):Val:= .vl [key,S1 r 0,S1 r 1,(aA (eN ev key.toS (ci r 0) (ci r 1))).getD 0 default,(aA (eN ev key.toS (ci r 0) (ci r 1))).getD 1 default,(aA (eN ev key.toS (ci r 0) (ci r 1))).getD 2 default,(aA (eN ev key.toS (ci r 0) (ci r 1))).getD 3 default]
def jQ(M:List Val)(key r:Val):Bool:=M.any λx=>decide (R8 x=⟨key.toS,ci r 0,ci r 1⟩)
def pH(ev:List Val)(key:Val)(M:List Val)(r:Val):List Val:=bif jQ M key r then []else [ol ev key r]
def bT(ev:List Val)(key:Val)(R M0:List Val):Nat->List Val
 |0=>M0
 |j+1=>bT ev key R M0 j++pH ev key (bT ev key R M0 j) (aO R j)
def kX(ev:List Val)(key:Val)(R M0:List Val)(j:Nat):Bool:= !jQ (bT ev key R M0 j) key (aO R j)&& !decide (sE (eN ev key.toS (ci (aO R j) 0) (ci (aO R j) 1))=0)
def uI(ev:List Val)(key:Val)(R M0:List Val):Nat×List Val:=match(List.range R.length).find? (kX ev key R M0)with
 |some j=>(1,[.vb false,.vi (bT ev key R M0 j).length,.vi j,.vl (bT ev key R M0 j)])
 |none=>(0,[.vb false,.vi (bT ev key R M0 R.length).length,.vi R.length,.vl (bT ev key R M0 R.length)])
def NT(a:List Val):Val:=V0 (uI (aN a 6).toL (S1 (aO (aN a 6).toL (aN a 11).toI.toNat) 1) (aN a 13).toL (aN a 3).toL)
theorem db3(ev:List Val)(key:List UInt8)(s e:Int):(eN ev key s e).length<=ev.length:=by
 have:=Y7 (g:=λq=>bif nQ ev key s e q then [.vl [S1 (aO ev q) 3]]else []) (m:=1) (λi=>by cases nQ ev key s e i<;>simp) ev.length;grind[eN]
theorem LE(ev:List Val)(key:Val)(R M0:List Val): ∀j,(bT ev key R M0 j).length<=M0.length+j
 |0=>i6 _
 |j+1=>by
  have:=LE ev key R M0 j;grind[bT,pH,aO,List.length_append,jQ]
variable{I:Opq}
theorem dP9{ev R:List Val}{i j:Nat}(h4:(I.w 4).toL=ev)(hi:I.w 2002= .vi i)(hj:I.w 4002= .vi j)(D17: ∀vs,aM (I.upd 6000 vs) bC= .vl R)(hjR:j<R.length)(hn:ev.length<=100):
 S5 (λvs=>R0 GI (I.upd 6000 vs)) [.vi 0,.vi 0,.vl []]=some (0,[.vi (eN ev (S1 (aO ev i) 1).toS (ci (aO R j) 0) (ci (aO R j) 1)).length,.vi ev.length,.vl (eN ev (S1 (aO ev i) 1).toS (ci (aO R j) 0) (ci (aO R j) 1))]):=by
 generalize hkey:(S1 (aO ev i) 1).toS=key;generalize hs:ci (aO R j) 0=s;generalize he:ci (aO R j) 1=e;refine yj (λq acc=>[.vi acc.length,.vi q,.vl acc]) (a0:=[]) (g:=λq=>bif nQ ev key s e q then [.vl [S1 (aO ev q) 3]]else []) (n:=ev.length) rfl (λq hq=> ?_) ?_
 .rw[List.nil_append];have ha:(U4 (λq=>bif nQ ev key s e q then [.vl [S1 (aO ev q) 3]]else []) q).length<=q:=by
   have:=Y7 (g:=λq=>bif nQ ev key s e q then [Val.vl [S1 (aO ev q) 3]]else []) (m:=1) (λi=>by cases nQ ev key s e i<;>simp) q;omega
  generalize U4 (λq=>bif nQ ev key s e q then [.vl [S1 (aO ev q) 3]]else []) q=acc at ha;have v0:(I.upd 6000 [.vi acc.length,.vi q,.vl acc]).w 6000= .vi acc.length:=by rw[T1];simp
  have v1:(I.upd 6000 [.vi acc.length,.vi q,.vl acc]).w 6001= .vi q:=by rw[T1];simp
  have v2:(I.upd 6000 [.vi acc.length,.vi q,.vl acc]).w 6002= .vl acc:=by rw[T1];simp
  have w4:((I.upd 6000 [.vi acc.length,.vi q,.vl acc]).w 4).toL=ev:=by rw[bc _ _ _ (by omega),h4]
  have wi:(I.upd 6000 [.vi acc.length,.vi q,.vl acc]).w 2002= .vi i:=by rw[bc _ _ _ (by omega),hi]
  have wj:(I.upd 6000 [.vi acc.length,.vi q,.vl acc]).w 4002= .vi j:=by rw[bc _ _ _ (by omega),hj]
  have D17:=D17 [.vi acc.length,.vi q,.vl acc];generalize I.upd 6000 [.vi acc.length,.vi q,.vl acc]=aa at*
  have inc:aS .add .i64 (q:Int) 1=((q+1:Nat):Int):=V8 (n:=1000000) (by omega) (by omega);have skip:R0 (.ret 0 [.va 6000,zi (.va 6001),.va 6002]) aa=some (0,[.vi acc.length,.vi (q+1:Nat),.vl acc]):=by
   show some (0,[aa.w 6000,Val.vi (aS .add .i64 (aa.w 6001).toI 1),aa.w 6002])=_;rw[v0,v1,v2,S6,inc]
  have dc:aM aa vu= .vl (acc++[.vl [S1 (aO ev q) 3]]):=by
   show Val.vl ((aa.w 6002).toL++[.vl [S0 (aa.w 4).toL (aa.w 6001).toI 3]])=_;rw[v2,w4,v1];rfl
  have c1:dB aa (.op (.scmp .eql) [zg 4 6001 1,zg 4 2002 1])=decide ((S1 (aO ev q) 1).toS=key):=by
   show decide ((S0 (aa.w 4).toL (aa.w 6001).toI 1).toS=(S0 (aa.w 4).toL (aa.w 2002).toI 1).toS)=_;rw[w4,v1,wi,<-hkey];rfl
  have c2:dB aa (.op (.cmp .geq) [zg 4 6001 2,.op .lget [bC,.va 4002,.ci 0]])=decide (s<=ci (aO ev q) 2):=by
   show decide ((S0 (aM aa bC).toL (aa.w 4002).toI 0).toI<=(S0 (aa.w 4).toL (aa.w 6001).toI 2).toI)=_;rw[w4,v1,D17,wj,<-hs];rfl
  have c3:dB aa (zs (zg 4 6001 2) (.op .lget [bC,.va 4002,.ci 1]))=decide (ci (aO ev q) 2<e):=by
   show decide ((S0 (aa.w 4).toL (aa.w 6001).toI 2).toI<(S0 (aM aa bC).toL (aa.w 4002).toI 1).toI)=_;rw[w4,v1,D17,wj,<-he];rfl
  unfold GI nQ;refine S3 (by rw[W5,V6,v1,S2,bx,w4];exact e9 (by show(q:Int)<(ev.length:Int);omega)) (R3 (by rw[T5,W4,V6,v1];exact e9 (by show(0:Int)<=(q:Int);omega)) ?_);by_cases q1:(S1 (aO ev q) 1).toS=key
  .refine S3 (c1.trans (e9 q1)) (R3 ?_ ?_)
   .rw[Y4,T5,W5,W4,V6,wj,S2,D17,e9 (show(0:Int)<=(Val.vi (j:Int)).toI by show(0:Int)<=(j:Int);omega),e9 (show(Val.vi (j:Int)).toI<((Val.vl R).toL.length:Int) by show(j:Int)<(R.length:Int);omega)];rfl
   rw[e9 q1,A5];by_cases q2:s<=ci (aO ev q) 2
   .refine S3 (c2.trans (e9 q2)) ?_;rw[e9 q2,A5];by_cases q3:ci (aO ev q) 2<e
    .rw[e9 q3,cond_true];refine S3 (c3.trans (e9 q3)) (R3 (IA (q:= .va 6000) (l:= .va 6002) (c:=vu) v0 v2 dc (by omega)) ?_);show some (0,[Val.vi (aM aa vu).toL.length,Val.vi (aS .add .i64 (aa.w 6001).toI 1),aM aa vu])=_;rw[dc,v1,S6,inc];rfl
    .rw[j5 q3,cond_false,p9];exact S4 (c3.trans (j5 q3)) skip
   .rw[j5 q2,k9,cond_false,p9];exact S4 (c2.trans (j5 q2)) skip
  simp_all[j5,k9,cond_false,p9,S4]
 .show R0 GI (I.upd 6000 [.vi (eN ev key s e).length,.vi ev.length,.vl (eN ev key s e)])=some (1,[.vi (eN ev key s e).length,.vi ev.length,.vl (eN ev key s e)]);generalize eN ev key s e=acc;have v0:(I.upd 6000 [.vi acc.length,.vi ev.length,.vl acc]).w 6000= .vi acc.length:=by rw[T1];simp
  have v1:(I.upd 6000 [.vi acc.length,.vi ev.length,.vl acc]).w 6001= .vi ev.length:=by rw[T1];simp
  have v2:(I.upd 6000 [.vi acc.length,.vi ev.length,.vl acc]).w 6002= .vl acc:=by rw[T1];simp
  have w4:((I.upd 6000 [.vi acc.length,.vi ev.length,.vl acc]).w 4).toL=ev:=by rw[bc _ _ _ (by omega),h4]
  generalize I.upd 6000 [.vi acc.length,.vi ev.length,.vl acc]=aa at*
  refine S4 (by rw[W5,V6,v1,S2,bx,w4];exact j5 (by show¬(ev.length:Int)<(ev.length:Int);omega)) ?_;show some (1,[aa.w 6000,aa.w 6001,aa.w 6002])=_;grind
end Go.Ev.S9
namespace Go.Ev.S9
open Go Go.Ev
variable{I:Opq}
theorem YA{R:List Val}(h:aM I bC= .vl R){v0:Nat}(hv:2002<v0)(vs:List Val):aM (I.upd v0 vs) bC= .vl R:=by
 show(I.upd v0 vs).f 826 [(I.upd v0 vs).w 0,(I.upd v0 vs).w 1,(I.upd v0 vs).w 2,(I.upd v0 vs).w 3,(I.upd v0 vs).w 4,S0 ((I.upd v0 vs).w 4).toL ((I.upd v0 vs).w 2002).toI 1]=_;rw[bc _ _ _ (by omega),bc _ _ _ (by omega),bc _ _ _ (by omega),bc _ _ _ (by omega),bc _ _ _ (by omega),bc _ _ _ (by omega),cp];exact h
theorem HJ{x n:SX}{M:List Val}(hx:aM I x= .vl M)(hn:aM I n= .vi M.length):aM I (.op .lsub [x,.ci 0,n])= .vl M:=by
 show Val.vl (((aM I x).toL.drop (0:Int).toNat).take ((aM I n).toI-0).toNat)=_;simp_all
theorem bS2{x n:SX}{M:List Val}{c:Int}(hx:aM I x= .vl M)(hn:aM I n= .vi M.length)(hc:(M.length:Int)<=c):dB I (zn (zn (zp n) (.op (.cmp .leq) [n,zL x])) (.op (.cmp .leq) [zL (.op .lsub [x,.ci 0,n]),.ci c]))=true:=by
 simp_all[Y4,T5,S2,HJ,W4,and2,e9]
theorem dx3(f820: ∀a,I.f 820 a=yw a)(f827: ∀a,I.f 827 a=yg a)(f843: ∀a,I.f 843 a= .vi (sE (aN a 0).toL))(f867: ∀a,I.f 867 a=xo a)
 {ev R M:List Val} {i:Nat} (h4:(I.w 4).toL=ev) (hi:I.w 2002= .vi i) (D17:aM I bC= .vl R) (hiv:i<ev.length) (hn:ev.length<=100) (hM:M.length<=100000) (hR:R.length<=100000) (j:Nat) (hj:j<=R.length):
 R0 Qz (I.upd 4000 [.vb false,.vi M.length,.vi j,.vl M])=if j<R.length then(if(!jQ M (S1 (aO ev i) 1) (aO R j)&& !decide (sE (eN ev (S1 (aO ev i) 1).toS (ci (aO R j) 0) (ci (aO R j) 1))=0))=true then some (2,[.vb false,.vi M.length,.vi j,.vl M])else some (0,[.vb false,.vi (M++pH ev (S1 (aO ev i) 1) M (aO R j)).length,.vi (j+1:Nat),.vl (M++pH ev (S1 (aO ev i) 1) M (aO R j))]))else some (1,[.vb false,.vi M.length,.vi j,.vl M]):=by
 have v0:(I.upd 4000 [.vb false,.vi M.length,.vi j,.vl M]).w 4000= .vb false:=by rfl
 have v1:(I.upd 4000 [.vb false,.vi M.length,.vi j,.vl M]).w 4001= .vi M.length:=by rfl
 have v2:(I.upd 4000 [.vb false,.vi M.length,.vi j,.vl M]).w 4002= .vi j:=by rfl
 have v3:(I.upd 4000 [.vb false,.vi M.length,.vi j,.vl M]).w 4003= .vl M:=by rfl
 have w4:((I.upd 4000 [.vb false,.vi M.length,.vi j,.vl M]).w 4).toL=ev:=by grind[bc]
 have wi:(I.upd 4000 [.vb false,.vi M.length,.vi j,.vl M]).w 2002= .vi i:=by grind[bc]
 have D17:=YA D17 (v0:=4000) (by omega) [.vb false,.vi M.length,.vi j,.vl M];have f820: ∀a,(I.upd 4000 [.vb false,.vi M.length,.vi j,.vl M]).f 820 a=yw a:=λa=>by grind[cp]
 have f827: ∀a,(I.upd 4000 [.vb false,.vi M.length,.vi j,.vl M]).f 827 a=yg a:=λa=>by grind[cp]
 have f843: ∀a,(I.upd 4000 [.vb false,.vi M.length,.vi j,.vl M]).f 843 a= .vi (sE (aN a 0).toL):=λa=>by grind[cp]
 have f867: ∀a,(I.upd 4000 [.vb false,.vi M.length,.vi j,.vl M]).f 867 a=xo a:=λa=>by grind[cp]
 generalize I.upd 4000 [.vb false,.vi M.length,.vi j,.vl M]=aa at*
 have kx:aM aa (zg 4 2002 1)=S1 (aO ev i) 1:=by
  show S0 (aa.w 4).toL (aa.w 2002).toI 1=_;rw[w4,wi];rfl
 have sx:aM aa (.op .lget [bC,.va 4002,.ci 0])=S1 (aO R j) 0:=by
  show S0 (aM aa bC).toL (aa.w 4002).toI 0=_;rw[D17,v2];rfl
 have ex:aM aa (.op .lget [bC,.va 4002,.ci 1])=S1 (aO R j) 1:=by
  show S0 (aM aa bC).toL (aa.w 4002).toI 1=_;rw[D17,v2];rfl
 generalize hkey:S1 (aO ev i) 1=key at*
 by_cases c:j<R.length
 .rw[e8 c];have inc:aS .add .i64 (j:Int) 1=((j+1:Nat):Int):=V8 (n:=1000000) (by omega) (by omega);have jx:aM aa (zi (.va 4002))= .vi (j+1:Nat):=by
   show Val.vi (aS .add .i64 (aa.w 4002).toI 1)=_;simp_all
  refine S3 (by simp_all[W5,V6,S2,e9]) ?_;refine R3 (by show dB aa (zn (zp (.va 2002)) (zs (.va 2002) (zl 4)))=true;rw[Y4,T5,W5,W4,V6,wi,S2,bx,w4];simp_all) ?_;refine R3 (by simp_all[T5,W4,V6,e9]) ?_;refine R3 (bS2 (x:= .va 4003) (n:= .va 4001) v3 v1 (by omega)) ?_;have hd:dB aa (.app 827 [.op .lsub [.va 4003,.ci 0,.va 4001],zg 4 2002 1,.op .lget [bC,.va 4002,.ci 0],.op .lget [bC,.va 4002,.ci 1]])=jQ M key (aO R j):=by
   show(aa.f 827 [aM aa (.op .lsub [.va 4003,.ci 0,.va 4001]),aM aa (zg 4 2002 1),aM aa (.op .lget [bC,.va 4002,.ci 0]),aM aa (.op .lget [bC,.va 4002,.ci 1])]).toB=_;rw[f827,HJ (x:= .va 4003) (n:= .va 4001) v3 v1,kx,sx,ex];rfl
  unfold pH;cases hh:jQ M key (aO R j)with
  |true=>
   refine S3 (hd.trans hh) ?_;show some (0,[aa.w 4000,aa.w 4001,aM aa (zi (.va 4002)),aa.w 4003])=_;grind
  |false=>
   refine S4 (hd.trans hh) ?_;generalize hV:eN ev key.toS (ci (aO R j) 0) (ci (aO R j) 1)=V;have hVl:V.length<=100:=by grind[Nat.le_trans,db3]
   have e20:aM aa kG=V0 (0,[.vi V.length,.vi ev.length,.vl V]):=by
    show aa.f 867 [.vi 0,.vi 0,.vl [],.vi 0,.vi (aa.w 4).toL.length,aa.w 4,aa.w 0,aa.w 1,aa.w 2,aa.w 3,aa.w 4001,aa.w 4003,aa.w 2002,.vi (aM aa bC).toL.length,aM aa bC,aa.w 4002,aM aa (zg 4 2002 1),aM aa (.op .lget [bC,.va 4002,.ci 0]),aM aa (.op .lget [bC,.va 4002,.ci 1])]=_;rw[f867,kx,sx,ex];show ku (eN (aa.w 4).toL key.toS (ci (aO R j) 0) (ci (aO R j) 1)) (aa.w 4).toL.length=_;rw[w4,hV];rfl
   have a0:aM aa (zo kG 0)= .vi V.length:=by show S0 (aM aa kG).toL 1 0=_;rw[e20];rfl
   have a2:aM aa (zo kG 2)= .vl V:=by show S0 (aM aa kG).toL 1 2=_;rw[e20];rfl
   have e21:aM aa iB= .vl V:=HJ (x:= (zo kG 2)) (n:= (zo kG 0)) a2 a0;have g820: ∀p:Nat,aM aa (.op .lget [.app 820 [iB],.ci 0,.ci p])=(aA V).getD p default:=λp=>by
    show S0 (aa.f 820 [aM aa iB]).toL 0 (p:Int)=_;rw[f820,e21];rfl
   have h843:dB aa (.op (.cmp .neq) [.app 843 [iB],.ci 0])= !decide (sE V=0):=by
    show(!decide ((aa.f 843 [aM aa iB]).toI=0))=_;rw[f843,e21];rfl
   refine R4 (r:=(0,[.vi V.length,.vi ev.length,.vl V])) ?_ e20 (R3 (bS2 a2 a0 (by omega)) ?_)
   .rw[<-hV,<-hkey];exact dP9 w4 wi v2 (YA D17 (by omega)) c hn
   .by_cases cs:sE V=0
    .have d22:aM aa ti= .vl (M++[ol ev key (aO R j)]):=by
      show Val.vl ((aa.w 4003).toL++[.vl [aM aa (zg 4 2002 1),aM aa (.op .lget [bC,.va 4002,.ci 0]),aM aa (.op .lget [bC,.va 4002,.ci 1]),aM aa (.op .lget [.app 820 [iB],.ci 0,.ci (0:Nat)]),aM aa (.op .lget [.app 820 [iB],.ci 0,.ci (1:Nat)]),aM aa (.op .lget [.app 820 [iB],.ci 0,.ci (2:Nat)]),aM aa (.op .lget [.app 820 [iB],.ci 0,.ci (3:Nat)])]])=_;rw[v3,kx,sx,ex,g820,g820,g820,g820];unfold ol;rw[hV];rfl
     refine S4 (by rw[h843,e9 cs];rfl) (R3 (IA (q:= .va 4001) (l:= .va 4003) (c:=ti) v1 v3 d22 (by omega)) ?_);show some (0,[aa.w 4000,Val.vi (aM aa ti).toL.length,aM aa (zi (.va 4002)),aM aa ti])=_;simp_all
    .refine S3 (by rw[h843,j5 cs];rfl) ?_;show some (2,[Val.vb false,aa.w 4001,aa.w 4002,aa.w 4003])=_;grind
 .refine S4 (by rw[W5,V6,v2,S2,D17];exact j5 (by show¬(j:Int)<(R.length:Int);omega)) ?_;show some (1,[aa.w 4000,aa.w 4001,aa.w 4002,aa.w 4003])=_;grind
theorem dQ0(f820: ∀a,I.f 820 a=yw a)(f827: ∀a,I.f 827 a=yg a)(f843: ∀a,I.f 843 a= .vi (sE (aN a 0).toL))(f867: ∀a,I.f 867 a=xo a)
 {ev R M0:List Val} {i:Nat} (h4:(I.w 4).toL=ev) (hi:I.w 2002= .vi i) (D17:aM I bC= .vl R) (hiv:i<ev.length) (hn:ev.length<=100) (hM:M0.length+R.length<=100000):
 S5 (λvs=>R0 Qz (I.upd 4000 vs)) [.vb false,.vi M0.length,.vi 0,.vl M0]=some (uI ev (S1 (aO ev i) 1) R M0):=by
 have run:=λj hj=>dx3 (M:=bT ev (S1 (aO ev i) 1) R M0 j) f820 f827 f843 f867 h4 hi D17 hiv hn (by grind[LE,S1,aO]) (by omega) j hj
 unfold uI;generalize S1 (aO ev i) 1=key at run⊢;cases hf:(List.range R.length).find? (kX ev key R M0)with
 |none=>
  refine V9 (st:=λm=>[.vb false,.vi (bT ev key R M0 m).length,.vi m,.vl (bT ev key R M0 m)]) (n:=R.length) (λm hm=> ?_) ?_
  .have h1:=s9.1 hf m (m8.2 hm);unfold kX at h1;rw[run m (by omega),e8 hm,b9 h1];rfl
  grind
 |some j=>
  obtain⟨a,b,c⟩:=W6 hf;refine V9 (st:=λm=>[.vb false,.vi (bT ev key R M0 m).length,.vi m,.vl (bT ev key R M0 m)]) (n:=j) (λm hm=> ?_) ?_
  .have h1: ¬kX ev key R M0 m=true:=by grind
   unfold kX at h1;rw[run m (by omega),e8 (by omega),b9 h1];rfl
  .unfold kX at b;grind
end Go.Ev.S9
namespace Go.Ev.S9
open Go Go.Ev
def cH(ev:List Val)(i:Nat):Val:=S1 (aO ev i) 1
def bL(k s l g:Int)(ev:List Val)(i:Nat):List Val:=jp k s l g ev (cH ev i).toS
def bD(k s l g:Int)(ev:List Val):Nat->List Val
 |0=>[]
 |i+1=>bT ev (cH ev i) (bL k s l g ev i) (bD k s l g ev i) (bL k s l g ev i).length
def oS(k s l g:Int)(ev:List Val)(i:Nat):Option Nat:=(List.range (bL k s l g ev i).length).find? (kX ev (cH ev i) (bL k s l g ev i) (bD k s l g ev i))
def CG(k s l g:Int)(ev:List Val)(i:Nat):List Val:=bT ev (cH ev i) (bL k s l g ev i) (bD k s l g ev i) ((oS k s l g ev i).getD 0)
def ye(k s l g:Int)(ev:List Val):Nat×List Val:=match(List.range ev.length).find? (λi=>(oS k s l g ev i).isSome)with
 |some i=>(1,[.vb false,.vi (CG k s l g ev i).length,.vi i,.vl (CG k s l g ev i)])
 |none=>(0,[.vb false,.vi (bD k s l g ev ev.length).length,.vi ev.length,.vl (bD k s l g ev ev.length)])
def ZL(a:List Val):Val:=V0 (ye (aN a 7).toI (aN a 8).toI (aN a 9).toI (aN a 10).toI (aN a 6).toL)
def dU(k s l g:Int)(ev:List Val):Bool:=((List.range ev.length).find? (λi=>(oS k s l g ev i).isSome)).isNone
def Am(a:List Val):Val:= .vb (dU (aN a 0).toI (aN a 1).toI (aN a 2).toI (aN a 3).toI (aN a 4).toL)
def jz(X:Nat->List Val->Val)(a:List Val):Val:=if dU (aN a 0).toI (aN a 1).toI (aN a 2).toI (aN a 3).toI (aN a 4).toL=true then X 490 [.vl (bD (aN a 0).toI (aN a 1).toI (aN a 2).toI (aN a 3).toI (aN a 4).toL (aN a 4).toL.length)]else .vl []
theorem Zg(k s l g:Int)(ev:List Val)(key:List UInt8):(jp k s l g ev key).length<=16*ev.length:=by
 have hT:=Si ev key;unfold jp sZ;generalize gE ev key=T at hT⊢;by_cases k3:k=3
 .rw[e8 k3];generalize hS:(bif ff g T then fk g T else [])=S;have hSl:S.length<=T.length:=by
   rw[<-hS];cases ff g T with
   |true=>exact Vq g T
   |false=>grind
  rw[jH (λi=>bE (aO S i)) S.length];omega
 .rw[b9 k3];have:=Y7 (g:=λi=>bh k s l g (S1 (aO T i) 0)) (m:=16) (λi=>xN k3) T.length;omega
theorem VS(k s l g:Int)(ev:List Val): ∀i,(bD k s l g ev i).length<=i*(16*ev.length)
 |0=>p7 _
 |i+1=>by
  have h1:=VS k s l g ev i;have h2:=LE ev (cH ev i) (bL k s l g ev i) (bD k s l g ev i) (bL k s l g ev i).length;have h3:(bL k s l g ev i).length<=16*ev.length:=Zg k s l g ev _;show(bT ev (cH ev i) (bL k s l g ev i) (bD k s l g ev i) (bL k s l g ev i).length).length<=_;grind
variable{I:Opq}
section
variable(f820: ∀a,I.f 820 a=yw a)(f826: ∀a,I.f 826 a=AU a)(f827: ∀a,I.f 827 a=yg a)(f843: ∀a,I.f 843 a= .vi (sE (aN a 0).toL))(f866: ∀a,I.f 866 a=NT a)(f867: ∀a,I.f 867 a=xo a)
include f820 f826 f827 f843 f866 f867
theorem dx5{k s l g:Int}{ev:List Val}(h0:(I.w 0).toI=k)(h1:(I.w 1).toI=s)(h2:(I.w 2).toI=l)(h3:(I.w 3).toI=g)(h4:(I.w 4).toL=ev)(hn:ev.length<=24)(i:Nat)(hi:i<=ev.length):
 R0 KJ (I.upd 2000 [.vb false,.vi (bD k s l g ev i).length,.vi i,.vl (bD k s l g ev i)])=if i<ev.length then(if(oS k s l g ev i).isSome then some (2,[.vb false,.vi (CG k s l g ev i).length,.vi i,.vl (CG k s l g ev i)])else some (0,[.vb false,.vi (bD k s l g ev (i+1)).length,.vi (i+1:Nat),.vl (bD k s l g ev (i+1))]))else some (1,[.vb false,.vi (bD k s l g ev i).length,.vi i,.vl (bD k s l g ev i)]):=by
 have hM:=VS k s l g ev i;have hMs:bD k s l g ev (i+1)=bT ev (cH ev i) (bL k s l g ev i) (bD k s l g ev i) (bL k s l g ev i).length:=rfl;have hR:(bL k s l g ev i).length<=16*ev.length:=Zg k s l g ev _;have hM2:(bD k s l g ev i).length<=24*384:=n8 hM (F6 (by omega) (by omega));have hX:CG k s l g ev i=bT ev (cH ev i) (bL k s l g ev i) (bD k s l g ev i) ((oS k s l g ev i).getD 0):=rfl;have hF:oS k s l g ev i=(List.range (bL k s l g ev i).length).find? (kX ev (cH ev i) (bL k s l g ev i) (bD k s l g ev i)):=rfl;have hspR:bL k s l g ev i=jp k s l g ev (cH ev i).toS:=rfl;rw[hMs,hX,hF];generalize bL k s l g ev i=R at hR hspR⊢;generalize bD k s l g ev i=M at hM2⊢;have v0:(I.upd 2000 [.vb false,.vi M.length,.vi i,.vl M]).w 2000= .vb false:=by rw[T1];simp
 have v1:(I.upd 2000 [.vb false,.vi M.length,.vi i,.vl M]).w 2001= .vi M.length:=by rw[T1];simp
 have v2:(I.upd 2000 [.vb false,.vi M.length,.vi i,.vl M]).w 2002= .vi i:=by rw[T1];simp
 have v3:(I.upd 2000 [.vb false,.vi M.length,.vi i,.vl M]).w 2003= .vl M:=by rw[T1];simp
 have w0:((I.upd 2000 [.vb false,.vi M.length,.vi i,.vl M]).w 0).toI=k:=by rw[bc _ _ _ (by omega),h0]
 have w1:((I.upd 2000 [.vb false,.vi M.length,.vi i,.vl M]).w 1).toI=s:=by rw[bc _ _ _ (by omega),h1]
 have w2:((I.upd 2000 [.vb false,.vi M.length,.vi i,.vl M]).w 2).toI=l:=by rw[bc _ _ _ (by omega),h2]
 have w3:((I.upd 2000 [.vb false,.vi M.length,.vi i,.vl M]).w 3).toI=g:=by rw[bc _ _ _ (by omega),h3]
 have w4:((I.upd 2000 [.vb false,.vi M.length,.vi i,.vl M]).w 4).toL=ev:=by rw[bc _ _ _ (by omega),h4]
 have f820: ∀a,(I.upd 2000 [.vb false,.vi M.length,.vi i,.vl M]).f 820 a=yw a:=λa=>by exact f820 a
 have f826: ∀a,(I.upd 2000 [.vb false,.vi M.length,.vi i,.vl M]).f 826 a=AU a:=λa=>by exact f826 a
 have f827: ∀a,(I.upd 2000 [.vb false,.vi M.length,.vi i,.vl M]).f 827 a=yg a:=λa=>by exact f827 a
 have f843: ∀a,(I.upd 2000 [.vb false,.vi M.length,.vi i,.vl M]).f 843 a= .vi (sE (aN a 0).toL):=λa=>by exact f843 a
 have f866: ∀a,(I.upd 2000 [.vb false,.vi M.length,.vi i,.vl M]).f 866 a=NT a:=λa=>by exact f866 a
 have f867: ∀a,(I.upd 2000 [.vb false,.vi M.length,.vi i,.vl M]).f 867 a=xo a:=λa=>by exact f867 a
 generalize I.upd 2000 [.vb false,.vi M.length,.vi i,.vl M]=aa at*
 have l4:(aM aa (zl 4)).toI=(ev.length:Int):=by rw[S2,bx,w4]
 by_cases c:i<ev.length
 .rw[e8 c];have d17:aM aa bC= .vl R:=by
   show aa.f 826 [aa.w 0,aa.w 1,aa.w 2,aa.w 3,aa.w 4,S0 (aa.w 4).toL (aa.w 2002).toI 1]=_;rw[f826];show Val.vl (jp (aa.w 0).toI (aa.w 1).toI (aa.w 2).toI (aa.w 3).toI (aa.w 4).toL (S0 (aa.w 4).toL (aa.w 2002).toI 1).toS)=_;rw[w0,w1,w2,w3,w4,v2,hspR];rfl
  have e23:aM aa co=V0 (uI ev (cH ev i) R M):=by
   show aa.f 866 [aa.w 2000,.vi (aa.w 2003).toL.length,.vi 0,aa.w 2003,.vi 0,.vi (aa.w 4).toL.length,aa.w 4,aa.w 0,aa.w 1,aa.w 2,aa.w 3,aa.w 2002,.vi (aM aa bC).toL.length,aM aa bC]=_;rw[f866,d17];show V0 (uI (aa.w 4).toL (S1 (aO (aa.w 4).toL (aa.w 2002).toI.toNat) 1) R (aa.w 2003).toL)=_;rw[w4,v2,v3];rfl
  have i1:aM aa (zi (.va 2002))= .vi (i+1:Nat):=by
   show Val.vi (aS .add .i64 (aa.w 2002).toI 1)=_;rw[v2,S6,V8 (n:=1000000) (by omega) (by omega)]
  refine S3 (by show dB aa (zs (.va 2002) (zl 4))=true;rw[W5,V6,v2,l4];exact e9 (by show(i:Int)<(ev.length:Int);omega)) ?_;refine R3 (by rw[T5,W4,V6,v2];exact e9 (by show(0:Int)<=(i:Int);omega)) ?_;refine R3 (by rw[T5,W4,l4];exact e9 (by omega)) ?_;refine R3 (by show dB aa (.op (.cmp .eql) [.va 2001,zl 2003])=true;rw[bK,V6,v1,S2,bx,v3];exact e9 rfl) ?_;refine R4 (r:=uI ev (cH ev i) R M) ?_ e23 ?_
  .show S5 _ [aa.w 2000,Val.vi (aa.w 2003).toL.length,.vi 0,aa.w 2003]=_;rw[v0,v3];exact dQ0 (M0:=M) f820 f827 f843 f867 w4 v2 d17 c (by omega) (by omega)
  .unfold uI at e23⊢;cases hf:(List.range R.length).find? (kX ev (cH ev i) R M)with
   |none=>
    rw[hf]at e23;have a0:aM aa (zo co 0)= .vb false:=by show S0 (aM aa co).toL 1 0=_;rw[e23];rfl
    have a1:aM aa (zo co 1)= .vi (bT ev (cH ev i) R M R.length).length:=by show S0 (aM aa co).toL 1 1=_;rw[e23];rfl
    have a3:aM aa (zo co 3)= .vl (bT ev (cH ev i) R M R.length):=by show S0 (aM aa co).toL 1 3=_;rw[e23];rfl
    refine R3 (by show dB aa (.op (.cmp .eql) [zo co 1,zL (zo co 3)])=true;rw[bK,S2,a1,a3];exact e9 rfl) ?_;show some (0,[aM aa (zo co 0),Val.vi (aM aa (zo co 3)).toL.length,aM aa (zi (.va 2002)),aM aa (zo co 3)])=_;rw[a0,a3,i1];rfl
   |some j=>
    rw[hf]at e23;have a0:aM aa (zo co 0)= .vb false:=by show S0 (aM aa co).toL 1 0=_;rw[e23];rfl
    have a1:aM aa (zo co 1)= .vi (bT ev (cH ev i) R M j).length:=by show S0 (aM aa co).toL 1 1=_;rw[e23];rfl
    have a3:aM aa (zo co 3)= .vl (bT ev (cH ev i) R M j):=by show S0 (aM aa co).toL 1 3=_;rw[e23];rfl
    refine R3 (by show dB aa (.op (.cmp .eql) [zo co 1,zL (zo co 3)])=true;rw[bK,S2,a1,a3];exact e9 rfl) ?_;show some (2,[aM aa (zo co 0),Val.vi (aM aa (zo co 3)).toL.length,aa.w 2002,aM aa (zo co 3)])=_;rw[a0,a3,v2];rfl
 .rw[b9 c];refine S4 (by show dB aa (zs (.va 2002) (zl 4))=false;rw[W5,V6,v2,l4];exact j5 (by show¬(i:Int)<(ev.length:Int);omega)) ?_;show some (1,[aa.w 2000,aa.w 2001,aa.w 2002,aa.w 2003])=_;rw[v0,v1,v2,v3]
theorem dQ1{k s l g:Int}{ev:List Val}(h0:(I.w 0).toI=k)(h1:(I.w 1).toI=s)(h2:(I.w 2).toI=l)(h3:(I.w 3).toI=g)(h4:(I.w 4).toL=ev)(hn:ev.length<=24):
 S5 (λvs=>R0 KJ (I.upd 2000 vs)) [.vb false,.vi 0,.vi 0,.vl []]=some (ye k s l g ev):=by
 have run:=dx5 f820 f826 f827 f843 f866 f867 h0 h1 h2 h3 h4 hn;unfold ye;cases hf:(List.range ev.length).find? (λi=>(oS k s l g ev i).isSome)with
 |none=>
  refine V9 (st:=λm=>[.vb false,.vi (bD k s l g ev m).length,.vi m,.vl (bD k s l g ev m)]) (n:=ev.length) (λm hm=> ?_) ?_
  .have h1:=s9.1 hf m (m8.2 hm);rw[run m (by omega),e8 hm,b9 h1]
  grind
 |some j=>
  obtain⟨a,b,c⟩:=W6 hf;refine V9 (st:=λm=>[.vb false,.vi (bD k s l g ev m).length,.vi m,.vl (bD k s l g ev m)]) (n:=j) (λm hm=> ?_) ?_
  .rw[run m (by omega),e8 (by omega),b9 (by rw[c m hm];simp)]
  grind
theorem db4{X:Nat->List Val->Val}(f490: ∀a,I.f 490 a=X 490 a)(f865: ∀a,I.f 865 a=ZL a){k s l g:Int}{ev:List Val}(h0:(I.w 0).toI=k)(h1:(I.w 1).toI=s)(h2:(I.w 2).toI=l)(h3:(I.w 3).toI=g)(h4:(I.w 4).toL=ev)(hn:ev.length<=24)
 (hok:dU k s l g ev=true->(bD k s l g ev ev.length).length<=400/\(I.f 431 [.vl (bD k s l g ev ev.length)]).toB=true):
 R0 T_rRows I=some (0,[Am [I.w 0,I.w 1,I.w 2,I.w 3,I.w 4],jz X [I.w 0,I.w 1,I.w 2,I.w 3,I.w 4]]):=by
 have hv:([Am [I.w 0,I.w 1,I.w 2,I.w 3,I.w 4],jz X [I.w 0,I.w 1,I.w 2,I.w 3,I.w 4]]:List Val)=[.vb (dU k s l g ev),if dU k s l g ev=true then X 490 [.vl (bD k s l g ev ev.length)]else .vl []]:=by
  show [Val.vb (dU (I.w 0).toI (I.w 1).toI (I.w 2).toI (I.w 3).toI (I.w 4).toL),if dU (I.w 0).toI (I.w 1).toI (I.w 2).toI (I.w 3).toI (I.w 4).toL=true then X 490 [.vl (bD (I.w 0).toI (I.w 1).toI (I.w 2).toI (I.w 3).toI (I.w 4).toL (I.w 4).toL.length)]else .vl []]=_;grind
 have e0:aM I pI=V0 (ye k s l g ev):=by
  show I.f 865 [.vb false,.vi 0,.vi 0,.vl [],.vi 0,.vi (I.w 4).toL.length,I.w 4,I.w 0,I.w 1,I.w 2,I.w 3]=_;rw[f865,<-h0,<-h1,<-h2,<-h3,<-h4];rfl
 refine R4 (r:=ye k s l g ev) (dQ1 f820 f826 f827 f843 f866 f867 h0 h1 h2 h3 h4 hn) e0 ?_;unfold dU ye at*
 cases hf:(List.range ev.length).find? (λi=>(oS k s l g ev i).isSome)with
 |none=>
  rw[hf]at e0 hok;obtain⟨k1,k2⟩:=hok rfl;generalize bD k s l g ev ev.length=M at*
  have a1:aM I Ai= .vi M.length:=by show S0 (aM I pI).toL 1 1=_;rw[e0];rfl
  have a2:aM I Eb= .vl M:=by show S0 (aM I pI).toL 1 3=_;rw[e0];rfl
  have a3:aM I wl= .vl M:=HJ (x:=Eb) (n:=Ai) a2 a1;refine R3 ?_ ?_
  .rw[Y4,Y4,Y4,T5,T5,T5,S2,S2,a1,a2,a3,W4,W4];have:dB I (.app 431 [wl])=true:=by
    show(I.f 431 [aM I wl]).toB=true;grind
   exact and2 (and2 (e9 (by simp_all)) (e9 (by simp_all))) (and2 (e9 (by show(M.length:Int)<=400;omega)) this)
  .show some (0,[Val.vb true,I.f 490 [aM I wl]])=_;grind
 |some i=>
  rw[hf]at e0;show some (0,[aM I (zo pI 0),Val.vl []])=_;have:aM I (zo pI 0)= .vb false:=by show S0 (aM I pI).toL 1 0=_;rw[e0];rfl
  grind
end
end Go.Ev.S9
namespace Go.Ev.S9
open Go Go.Ev
def pB(L:List Val)(mark:Int)(i:Nat):Bool:=decide (mark<ci (aO L i) 2)
def xh(L:List Val)(mark:Int):Nat×List Val:=fA (.vi 0) (λk=>[.vi k,.vi k]) (pB L mark) L.length
def SJ(a:List Val):Val:=V0 (xh (aN a 3).toL (aN a 4).toI)
def ce(L:List Val)(mark:Int)(k:Nat):Nat->Nat×List Val
 |0=>(k,L)
 |j+1=>if ci (aO (ce L mark k j).2 (k+1+j)) 2<=mark then((ce L mark k j).1+1,(ce L mark k j).2.set (ce L mark k j).1 (W3 (aO (ce L mark k j).2 (k+1+j))))else ce L mark k j
def wB(L:List Val)(mark:Int)(k:Nat):Nat×List Val:=(0,[.vi (ce L mark k (L.length-(k+1))).1,.vi L.length,.vl (ce L mark k (L.length-(k+1))).2])
def YC(a:List Val):Val:=V0 (wB (aN a 2).toL (aN a 5).toI (aN a 0).toI.toNat)
def cW(mark:Int)(r:Val):Bool:=decide (ci r 2<=mark)
def pW(X:Nat->List Val->Val)(a:List Val):Val:= .vl ((X 490 [aN a 0]).toL.filter (cW (aN a 1).toI))
theorem kV{l:List Val}{i:Nat}(h:i<l.length):aO l i=l[i]:=by simp[aO,j9,h]
theorem Iz{l:List Val}{i:Nat}(h:i<l.length):l.take (i+1)=l.take i++[aO l i]:=by
 rw[M5,show l[i]?.toList=[aO l i] by simp[aO,j9,h]]
theorem Mc{L:List Val}{mark:Int}{k:Nat}(hL: ∀r∈L,W3 r=r)(hk:(L.take k).filter (cW mark)=L.take k)(hkn:k<L.length)(hkp:cW mark (aO L k)=false): ∀j,k+1+j<=L.length->
 (ce L mark k j).1<=k+j/\k<=(ce L mark k j).1/\(ce L mark k j).2.length=L.length/\(∀q,k+1+j<=q->aO (ce L mark k j).2 q=aO L q)/\(ce L mark k j).2.take (ce L mark k j).1=(L.take (k+1+j)).filter (cW mark)
 |0,_=>by
  refine⟨i6 _,i6 _,rfl,λ_ _=>rfl,?_⟩;show L.take k=(L.take (k+1)).filter (cW mark);rw[Iz hkn,C5,hk,List.filter_cons_of_neg (by rw[hkp];simp)];simp
 |j+1,hj=>by
  obtain⟨h1,h2,h3,h4,h5⟩:=Mc hL hk hkn hkp j (by omega);have ha:=h4 (k+1+j) (i6 _);have hs:(L.take (k+1+(j+1))).filter (cW mark)=(L.take (k+1+j)).filter (cW mark)++(if cW mark (aO L (k+1+j))then [aO L (k+1+j)]else []):=by
   rw[show k+1+(j+1)=(k+1+j)+1 by omega,Iz (by omega),C5];cases hc:cW mark (aO L (k+1+j))with
   |true=>rw[List.filter_cons_of_pos hc];rfl
   |false=>rw[List.filter_cons_of_neg (by rw[hc];simp)];rfl
  unfold ce;rw[ha,hs,<-h5];by_cases c:ci (aO L (k+1+j)) 2<=mark
  .rw[e8 c,e8 (show cW mark (aO L (k+1+j))=true from e9 c),hL _ (gp (by omega))];generalize ce L mark k j=p at*
   obtain⟨w,M⟩:=p;refine⟨by omega,by omega,by simpa using h3,λq hq=> ?_,?_⟩
   .have:=h4 q (by omega);rw[<-this];show(M.set w (aO L (k+1+j))).getD q (.vl [])=M.getD q (.vl []);rw[j9,j9,List.getElem?_set_ne (by omega)]
   .have hM:M.length=L.length:=h3;rw[Iz (by rw[C1,hM];omega),List.take_set_of_le (i6 _)];rw[kV (by rw[C1,hM];omega),List.getElem_set_self]
  .rw[if_neg c,if_neg (show¬cW mark (aO L (k+1+j))=true from by unfold cW;rw[decide_eq_false c];simp),List.append_nil];exact⟨by omega,h2,h3,λq hq=>h4 q (by omega),rfl⟩
variable{I:Opq}
section
variable{L:List Val}{mark:Int}(D0: ∀vs,aM (I.upd 2000 vs) (.app 490 [.va 4])= .vl L)(hm:(I.w 5).toI=mark)
include D0 hm
theorem dQ2(hn:L.length<=400):S5 (λvs=>R0 JR (I.upd 2000 vs)) [.vi 0,.vi 0]=some (xh L mark):=by
 have run: ∀(x:Val) (i:Nat),R0 JR (I.upd 2000 [x,.vi i])=if i<L.length then(if pB L mark i then some (2,[.vi i,.vi i])else some (0,[x,.vi (i+1:Nat)]))else some (1,[x,.vi i]):=λx i=>by
  have v0:(I.upd 2000 [x,.vi i]).w 2000=x:=by rw[T1];simp
  have v1:(I.upd 2000 [x,.vi i]).w 2001= .vi i:=by rw[T1];simp
  have w5:((I.upd 2000 [x,.vi i]).w 5).toI=mark:=by rw[bc _ _ _ (by omega),hm]
  have D0:=D0 [x,.vi i];generalize I.upd 2000 [x,.vi i]=aa at*
  have l0:(aM aa fa).toI=(L.length:Int):=by show((aM aa (.app 490 [.va 4])).toL.length:Int)=_;rw[D0];rfl
  by_cases c:i<L.length
  .rw[e8 c];refine S3 (by rw[W5,V6,v1,l0];exact e9 (by show(i:Int)<(L.length:Int);omega)) (R3 (by rw[T5,W4,V6,v1];exact e9 (by show(0:Int)<=(i:Int);omega)) ?_);have hq:dB aa (.op (.cmp .gtr) [.op .lget [.app 490 [.va 4],.va 2001,.ci 2],.va 5])=pB L mark i:=by
    show decide ((aa.w 5).toI<(S0 (aM aa (.app 490 [.va 4])).toL (aa.w 2001).toI 2).toI)=_;rw[D0,v1,w5];rfl
   cases hl:pB L mark i with
   |true=>
    rw[e8 rfl];refine S3 (hq.trans hl) ?_;show some (2,[aa.w 2001,aa.w 2001])=_;rw[v1]
   |false=>
    rw[b9 (by simp)];refine S4 (hq.trans hl) ?_;show some (0,[aa.w 2000,Val.vi (aS .add .i64 (aa.w 2001).toI 1)])=_;rw[v0,v1,S6,V8 (n:=1000000) (by omega) (by omega)]
  .rw[b9 c];refine S4 (by rw[W5,V6,v1,l0];exact j5 (by show¬(i:Int)<(L.length:Int);omega)) ?_;show some (1,[aa.w 2000,aa.w 2001])=_;rw[v0,v1]
 refine Ak (λi hi hb=> ?_) (λi hi hb=> ?_) ?_
 .rw[run,e8 hi,b9 (by rw[hb];simp)]
 .rw[run,e8 hi,e8 hb]
 grind
theorem dQ3(hL: ∀r∈L,W3 r=r){k:Nat}(hk:(L.take k).filter (cW mark)=L.take k)(hkn:k<L.length)(hkp:cW mark (aO L k)=false)(hn:L.length<=400):
 S5 (λvs=>R0 Mu (I.upd 2000 vs)) [.vi k,.vi (k+1:Nat),.vl L]=some (wB L mark k):=by
 refine V9 (st:=λj=>[.vi (ce L mark k j).1,.vi (k+1+j:Nat),.vl (ce L mark k j).2]) (n:=L.length-(k+1)) (λj hj=> ?_) ?_
 .obtain⟨h1,h2,h3,h4,h5⟩:=Mc hL hk hkn hkp j (by omega);show R0 Mu (I.upd 2000 [.vi (ce L mark k j).1,.vi (k+1+j:Nat),.vl (ce L mark k j).2])=some (0,[.vi (ce L mark k (j+1)).1,.vi (k+1+j+1:Nat),.vl (ce L mark k (j+1)).2]);rw[show ce L mark k (j+1)=if ci (aO (ce L mark k j).2 (k+1+j)) 2<=mark then((ce L mark k j).1+1,(ce L mark k j).2.set (ce L mark k j).1 (W3 (aO (ce L mark k j).2 (k+1+j))))else ce L mark k j from rfl];generalize ce L mark k j=p at*
  obtain⟨wr,M⟩:=p;replace h3:M.length=L.length:=h3;have v0:=oD I 2000 (.vi wr) (.vi (k+1+j:Nat)) (.vl M);have v1:(I.upd 2000 [.vi wr,.vi (k+1+j:Nat),.vl M]).w 2001=_:=fT I 2000 (.vi wr) (.vi (k+1+j:Nat)) (.vl M);have v2:(I.upd 2000 [.vi wr,.vi (k+1+j:Nat),.vl M]).w 2002=_:=oK I 2000 (.vi wr) (.vi (k+1+j:Nat)) (.vl M);have w5:((I.upd 2000 [.vi wr,.vi (k+1+j:Nat),.vl M]).w 5).toI=mark:=by grind[bc]
  have D0:=D0 [.vi wr,.vi (k+1+j:Nat),.vl M];generalize I.upd 2000 [.vi wr,.vi (k+1+j:Nat),.vl M]=aa at*
  generalize hr:k+1+j=r at*
  have l0:(aM aa fa).toI=(L.length:Int):=by show((aM aa (.app 490 [.va 4])).toL.length:Int)=_;rw[D0];rfl
  have gx: ∀c:Nat,aM aa (.op .lget [.va 2002,.va 2001,.ci c])=S1 (aO M r) c:=λc=>by
   show S0 (aa.w 2002).toL (aa.w 2001).toI (c:Int)=_;rw[v1,v2];rfl
  have hq:dB aa (.op (.cmp .gtr) [zg 2002 2001 2,.va 5])=decide (mark<ci (aO M r) 2):=by
   show decide ((aa.w 5).toI<(aM aa (.op .lget [.va 2002,.va 2001,.ci (2:Nat)])).toI)=_;rw[gx,w5];rfl
  have inc:aS .add .i64 (r:Int) 1=((r+1:Nat):Int):=V8 (n:=1000000) (by omega) (by omega);have incw:aS .add .i64 (wr:Int) 1=((wr+1:Nat):Int):=V8 (n:=1000000) (by omega) (by omega);refine S3 (by rw[W5,V6,v1,l0];exact e9 (by show(r:Int)<(L.length:Int);omega)) (R3 (by rw[T5,W4,V6,v1];rfl) (R3 (by rw[W5,V6,v1,S2,bx,v2];exact e9 (by show(r:Int)<(M.length:Int);omega)) ?_));by_cases c:ci (aO M r) 2<=mark
  .rw[e8 c];refine S3 (by grind[fi,decide_eq_false]) (R3 ?_ (R3 ?_ ?_))
   .rw[Y4,T5,W5,W4,V6,show aa.w 2000=_ from v0,l0];exact and2 (e9 (by show(0:Int)<=(wr:Int);omega)) (e9 (by show(wr:Int)<(L.length:Int);omega))
   .rw[W5,V6,show aa.w 2000=_ from v0,S2,bx,v2];exact e9 (by show(wr:Int)<(M.length:Int);omega)
   .show some (0,[Val.vi (aS .add .i64 (aa.w 2000).toI 1),Val.vi (aS .add .i64 (aa.w 2001).toI 1),Val.vl ((aa.w 2002).toL.set (aa.w 2000).toI.toNat (.vl [aM aa (.op .lget [.va 2002,.va 2001,.ci (0:Nat)]),aM aa (.op .lget [.va 2002,.va 2001,.ci (1:Nat)]),aM aa (.op .lget [.va 2002,.va 2001,.ci (2:Nat)]),aM aa (.op .lget [.va 2002,.va 2001,.ci (3:Nat)]),aM aa (.op .lget [.va 2002,.va 2001,.ci (4:Nat)]),aM aa (.op .lget [.va 2002,.va 2001,.ci (5:Nat)]),aM aa (.op .lget [.va 2002,.va 2001,.ci (6:Nat)])]))])=_;rw[gx,gx,gx,gx,gx,gx,gx,show aa.w 2000=_ from v0,v1,v2,S6,S6,inc,incw];rfl
  .refine S4 (by rw[fi,hq,e9 (by omega)];rfl) ?_;show some (0,[aa.w 2000,Val.vi (aS .add .i64 (aa.w 2001).toI 1),aa.w 2002])=_;grind[S6]
 .rw[show k+1+(L.length-(k+1))=L.length by omega];generalize ce L mark k (L.length-(k+1))=p;have D0:=D0 [.vi p.1,.vi L.length,.vl p.2];have v0:(I.upd 2000 [.vi p.1,.vi L.length,.vl p.2]).w 2000=_:=oD ..;have v1:(I.upd 2000 [.vi p.1,.vi L.length,.vl p.2]).w 2001=_:=fT ..;have v2:(I.upd 2000 [.vi p.1,.vi L.length,.vl p.2]).w 2002=_:=oK ..;generalize I.upd 2000 [.vi p.1,.vi L.length,.vl p.2]=aa at*
  have l0:(aM aa fa).toI=(L.length:Int):=by show((aM aa (.app 490 [.va 4])).toL.length:Int)=_;rw[D0];rfl
  refine S4 (by rw[W5,V6,v1,l0];exact j5 (by show¬(L.length:Int)<(L.length:Int);omega)) ?_;show some (1,[aa.w 2000,aa.w 2001,aa.w 2002])=_;grind
end
end Go.Ev.S9
namespace Go.Ev.S9
open Go Go.Ev
variable{I:Opq}
theorem db5{X:Nat->List Val->Val}(f490: ∀a,I.f 490 a=X 490 a)(h490: ∀v,(I.f 431 [v]).toB=true-> ∃l',X 490 [v]= .vl l'/\l'.Perm v.toL/\ ∀r∈l',W3 r=r)
 (f763: ∀a,I.f 763 a=SJ a) (f764: ∀a,I.f 764 a=YC a) (hn:(I.w 4).toL.length<=400) (h431:(I.f 431 [I.w 4]).toB=true) (h491:(I.f 491 [I.w 4]).toB=true):
 R0 T_fired I=some (0,[pW X [I.w 4,I.w 5]]):=by
 obtain⟨L,hL,hp,hL7⟩:=h490 _ h431;have hLn:L.length<=400:=by rw[hp.length_eq];exact hn
 generalize hm:(I.w 5).toI=mark;have hv:pW X [I.w 4,I.w 5]= .vl (L.filter (cW mark)):=by
  show Val.vl ((X 490 [I.w 4]).toL.filter (cW (I.w 5).toI))=_;rw[hL,hm];rfl
 rw[hv];have dL:aM I (.app 490 [.va 4])= .vl L:=by show I.f 490 [I.w 4]=_;rw[f490,hL]
 have D0: ∀vs,aM (I.upd 2000 vs) (.app 490 [.va 4])= .vl L:=λvs=>by
  exact dL
 have l0:aM I fa= .vi L.length:=by show Val.vi ((aM I (.app 490 [.va 4])).toL.length:Int)=_;rw[dL];rfl
 have e1:I.f 763 [.vi 0,.vi 0,aM I fa,aM I (.app 490 [.va 4]),I.w 5,aM I fa]=V0 (xh L mark):=by
  rw[f763,dL];show V0 (xh L (I.w 5).toI)=_;rw[hm]
 refine R3 ?_ (R4 (r:=xh L mark) (dQ2 D0 hm hLn) e1 ?_)
 .rw[Y4,Y4,T5,S2,bx,W4];exact and2 (and2 (e9 (by omega)) h431) h491
 unfold xh at*
 cases hf:(List.range L.length).find? (pB L mark)with
 |none=>
  have hno:L.filter (cW mark)=L:=by
   refine List.filter_eq_self.2 λr hr=> ?_
   obtain⟨i,hi,rfl⟩:=A1 hr;have h1:=s9.1 hf i (m8.2 hi);unfold pB at h1;rw[kV hi]at h1;exact e9 (by simpa using h1)
  have hs:fA (.vi 0) (λk=>[.vi k,.vi k]) (pB L mark) L.length=(0,[.vi 0,.vi L.length]):=by unfold fA;rw[hf]
  rw[hs];show some (0,[aM I (.app 490 [.va 4])])=_;rw[dL,hno]
 |some k=>
  obtain⟨hk,hb,hc⟩:=W6 hf;have hs:fA (.vi 0) (λk=>[.vi k,.vi k]) (pB L mark) L.length=(1,[.vi k,.vi k]):=by unfold fA;rw[hf]
  rw[hs]at e1⊢;have q1:aM I qM= .vi k:=by
   show S0 (I.f 763 [.vi 0,.vi 0,aM I fa,aM I (.app 490 [.va 4]),I.w 5,aM I fa]).toL 1 0=_;rw[e1];rfl
  have q2:aM I AH= .vi (k+1:Nat):=by
   show Val.vi (aS .add .i64 (aM I qM).toI 1)=_;rw[q1,S6,V8 (n:=1000000) (by omega) (by omega)]
  have hk1:(L.take k).filter (cW mark)=L.take k:=by
   refine List.filter_eq_self.2 λr hr=> ?_
   obtain⟨i,hi,rfl⟩:=A1 hr;rw[k7]at hi;have h1:=hc i (by omega);unfold pB at h1;rw[kV (by omega)]at h1;rw[List.getElem_take];exact e9 (by have:=of_decide_eq_false h1;omega)
  have hk2:cW mark (aO L k)=false:=by
   have:=j6 hb;exact j5 (by omega)
  obtain⟨i1,i2,i3,i4,i5⟩:=Mc hL7 hk1 hk hk2 (L.length-(k+1)) (by omega);rw[show k+1+(L.length-(k+1))=L.length by omega,x9]at i5;have e3:aM I Cf=V0 (wB L mark k):=by
   show I.f 764 [aM I qM,aM I AH,aM I (.app 490 [.va 4]),aM I fa,aM I (.app 490 [.va 4]),I.w 5]=_;rw[f764,dL,q1];show V0 (wB L (I.w 5).toI k)=_;rw[hm]
  unfold wB at e3;have hlp:=dQ3 D0 hm hL7 hk1 hk hk2 hLn;unfold wB at hlp;generalize ce L mark k (L.length-(k+1))=p at*
  obtain⟨wr,M⟩:=p;replace i3:M.length=L.length:=i3;have q4:aM I ke= .vi wr:=by show S0 (aM I Cf).toL 1 0=_;rw[e3];rfl
  have q8:aM I rQ= .vl M:=by show S0 (aM I Cf).toL 1 2=_;rw[e3];rfl
  have q5:dB I Kj=true:=by
   show decide ((0:Int)<=(aM I ke).toI)=true;rw[q4];exact e9 (by show(0:Int)<=(wr:Int);omega)
  have q6:aM I tD= .vi ((L.length:Int)-wr):=by
   show Val.vi ((aM I fa).toI-(aM I ke).toI)=_;rw[l0,q4];rfl
  have q7:aM I GA= .vi L.length:=by
   show Val.vi ((aM I ke).toI+(aM I tD).toI)=_;rw[q4,q6];show Val.vi ((wr:Int)+((L.length:Int)-wr))=_;congr 1;omega
  have q9: ∃Z,aM I IC= .vl (M.take wr++Z):=by
   refine⟨(aM I (zc (.op .lrep [tD,.op .row [.cs [],.ci 0,.ci 0,.ci 0,.ci 0,.ci 0,.ci 0]]) (.op .lsub [rQ,GA,zL rQ]))).toL,?_⟩;show Val.vl (((aM I rQ).toL.drop (0:Int).toNat).take ((aM I ke).toI-0).toNat++_)=_;rw[q8,q4];exact congrArg Val.vl (congrArg (· ++_) (by simp))
  obtain⟨Z,q9⟩:=q9;have hwl:(M.take wr).length=wr:=by rw[k7];omega
  refine S4 (by rw[bK,q1,W4];exact j5 (by show¬(k:Int)= -1;omega)) (R4 (r:=(0,[.vi wr,.vi L.length,.vl M])) ?_ e3 (R3 ?_ (R3 ?_ (R3 ?_ ?_))))
  .show S5 _ [aM I qM,aM I AH,aM I (.app 490 [.va 4])]=_;rw[q1,q2,dL];exact hlp
  .rw[Y4,q5,T5,q4,l0];exact and2 rfl (e9 (by show(wr:Int)<=(L.length:Int);omega))
  .rw[Y4,Y4,Y4,q5,T5,T5,T5,q6,q7,S2,q8,W4,W4];exact and2 (and2 rfl (e9 (by show(0:Int)<=(L.length:Int)-wr;omega))) (and2 (e9 (by show(L.length:Int)-wr<=1000000;omega)) (e9 (by show(L.length:Int)<=(M.length:Int);omega)))
  .rw[T5,q4,S2,q9];exact e9 (by show(wr:Int)<=((M.take wr++Z).length:Int);rw[l5];omega)
  .show some (0,[Val.vl (((aM I IC).toL.drop (0:Int).toNat).take ((aM I ke).toI-0).toNat)])=_;rw[q9,q4];show some (0,[Val.vl (((M.take wr++Z).drop 0).take ((wr:Int)-0).toNat)])=_;rw[show((wr:Int)-0).toNat=wr by omega,F9,O6 (by omega),G0 (by omega),i5]
end Go.Ev.S9
namespace Go.Ev.S9
open Go Go.Ev
def ed(l:List Val)(i:Nat):Int:=S8 (ci (aO l i) 0) (S1 (aO l i) 1).toS (ci (aO l i) 2) (ci (aO l i) 3)
def dC(l:List Val)(i:Nat):List Val:=cU (l.take i)
def rE(k s w g:Int)(l:List Val)(i:Nat):Int:=if ed l i≠0 then ed l i else if dU k s w g (dC l (i+1))=true then 0 else 30
def rF(k s w g:Int)(l:List Val):Option Nat:=(List.range l.length).find? λi=>decide (rE k s w g l i≠0)
def wx(k s w g:Int)(l:List Val):Nat×List Val:=match rF k s w g l with
 |some i=>(1,[.vi (rE k s w g l i),.vi i])
 |none=>(0,[.vi 0,.vi l.length])
def Rq(a:List Val):Val:= .vi (S8 (aN a 0).toI (aN a 1).toS (aN a 2).toI (aN a 3).toI)
def MA(a:List Val):Val:= .vl (cU (aN a 0).toL)
def xd(a:List Val):Val:=cR (aN a 0).toL (aN a 0).toL.length
def Ja(a:List Val):Val:= .vl (kI (aN a 0).toL (aN a 1).toI)
def dX6(a:List Val):Val:=V0 (wx (aN a 5).toI (aN a 6).toI (aN a 7).toI (aN a 8).toI (aN a 4).toL)
def pX(k s w g:Int)(l:List Val):Int:=if R9 k s w g=true then(match rF k s w g l with|some i=>rE k s w g l i|none=>0)else 2
def tV(X:Nat->List Val->Val)(k s w g:Int)(l:List Val):Val:=if R9 k s w g=true then(match rF k s w g l with|some _=> .vl []|none=>Ja [jz X [.vi k,.vi s,.vi w,.vi g,.vl (cU l)],xd [.vl l]])else .vl []
def Fx(a:List Val):Val:= .vi (pX (aN a 0).toI (aN a 1).toI (aN a 2).toI (aN a 3).toI (aN a 4).toL)
def Is(X:Nat->List Val->Val)(a:List Val):Val:=tV X (aN a 0).toI (aN a 1).toI (aN a 2).toI (aN a 3).toI (aN a 4).toL
theorem db6{X:Nat->List Val->Val}{a b c d e a' b' c' d' e':Val}(h0:a.toI=a'.toI)(h1:b.toI=b'.toI)(h2:c.toI=c'.toI)(h3:d.toI=d'.toI)(h4:e.toL=e'.toL):jz X [a,b,c,d,e]=jz X [a',b',c',d',e']:=by
 show(if dU a.toI b.toI c.toI d.toI e.toL=true then X 490 [.vl (bD a.toI b.toI c.toI d.toI e.toL e.toL.length)]else .vl [])=_;rw[h0,h1,h2,h3,h4];rfl
variable{I:Opq}
section
variable(f700: ∀a,I.f 700 a= .vb (R9 (aN a 0).toI (aN a 1).toI (aN a 2).toI (aN a 3).toI))(f701: ∀a,I.f 701 a=Rq a)(f829: ∀a,I.f 829 a=Am a)(f830: ∀a,I.f 830 a=MA a)
include f701 f829 f830
theorem dx6{k s w g:Int}{l:List Val}(h0:(I.w 0).toI=k)(h1:(I.w 1).toI=s)(h2:(I.w 2).toI=w)(h3:(I.w 3).toI=g)(h4:(I.w 4).toL=l)(hn:l.length<=100)(i:Nat)(hi:i<l.length)
 (h840:ed l i=0->(dC l (i+1)).length<=100/\(I.f 840 [I.w 0,I.w 1,I.w 2,I.w 3,.vl (dC l (i+1))]).toB=true):
 R0 NH (I.upd 2000 [.vi 0,.vi i])=if rE k s w g l i≠0 then some (2,[.vi (rE k s w g l i),.vi i])else some (0,[.vi 0,.vi (i+1:Nat)]):=by
 have v0:(I.upd 2000 [.vi 0,.vi i]).w 2000= .vi 0:=by rfl
 have v1:(I.upd 2000 [.vi 0,.vi i]).w 2001= .vi i:=by rfl
 have w0:(I.upd 2000 [.vi 0,.vi i]).w 0=I.w 0:=bc _ _ _ (by omega);have w1:(I.upd 2000 [.vi 0,.vi i]).w 1=I.w 1:=bc _ _ _ (by omega);have w2:(I.upd 2000 [.vi 0,.vi i]).w 2=I.w 2:=bc _ _ _ (by omega);have w3:(I.upd 2000 [.vi 0,.vi i]).w 3=I.w 3:=bc _ _ _ (by omega);have w4:((I.upd 2000 [.vi 0,.vi i]).w 4).toL=l:=by grind[bc]
 have f701: ∀a,(I.upd 2000 [.vi 0,.vi i]).f 701 a=Rq a:=λa=>by grind[cp]
 have f829: ∀a,(I.upd 2000 [.vi 0,.vi i]).f 829 a=Am a:=λa=>by grind[cp]
 have f830: ∀a,(I.upd 2000 [.vi 0,.vi i]).f 830 a=MA a:=λa=>by grind[cp]
 have f840:(I.upd 2000 [.vi 0,.vi i]).f 840=I.f 840:=by rfl
 generalize I.upd 2000 [.vi 0,.vi i]=aa at*
 have inc:aS .add .i64 (i:Int) 1=((i+1:Nat):Int):=V8 (n:=1000000) (by omega) (by omega);have j1:aM aa (zi (.va 2001))= .vi (i+1:Nat):=by
  show Val.vi (aS .add .i64 (aa.w 2001).toI 1)=_;simp_all
 have d27:aM aa kf= .vi (i+1:Nat):=by
  show Val.vi (0+(aM aa (zi (.va 2001))).toI)=_;simp_all
 have dpre:aM aa (.op .lsub [.va 4,.ci 0,kf])= .vl (l.take (i+1)):=by
  show Val.vl (((aa.w 4).toL.drop (0:Int).toNat).take ((aM aa kf).toI-0).toNat)=_;simp_all
 have d830:aM aa (.app 830 [.op .lsub [.va 4,.ci 0,kf]])= .vl (dC l (i+1)):=by
  show aa.f 830 [aM aa (.op .lsub [.va 4,.ci 0,kf])]=_;rw[f830,dpre];rfl
 have d25:aM aa FH= .vi (ed l i):=by
  show aa.f 701 [S0 (aa.w 4).toL (aa.w 2001).toI 0,S0 (aa.w 4).toL (aa.w 2001).toI 1,S0 (aa.w 4).toL (aa.w 2001).toI 2,S0 (aa.w 4).toL (aa.w 2001).toI 3]=_;rw[f701,w4,v1];rfl
 have d829:dB aa (.app 829 [.va 0,.va 1,.va 2,.va 3,.app 830 [.op .lsub [.va 4,.ci 0,kf]]])=dU k s w g (dC l (i+1)):=by
  show(aa.f 829 [aa.w 0,aa.w 1,aa.w 2,aa.w 3,aM aa (.app 830 [.op .lsub [.va 4,.ci 0,kf]])]).toB=_;rw[f829,d830];show dU (aa.w 0).toI (aa.w 1).toI (aa.w 2).toI (aa.w 3).toI (dC l (i+1))=_;grind
 have b26:dB aa PX=true:=by
  show dB aa (zp (zi (.va 2001)))=true;rw[T5,W4,j1];rfl
 refine S3 (by show dB aa (zs (.va 2001) (zl 4))=true;simp_all[W5,V6,S2,bx,e9]) (R3 (by simp_all[T5,W4,V6,e9]) ?_);unfold rE;by_cases c:ed l i=0
 .rw[b9 (show¬ed l i≠0 fromλh=>h c)];refine S4 (by rw[gH,d25,W4];simp_all) ?_;refine R3 (by rw[Y4,b26,T5,j1,S2,bx,w4];exact and2 rfl (e9 (by show((i+1:Nat):Int)<=(l.length:Int);omega))) ?_;refine R3 (by rw[Y4,Y4,Y4,b26,T5,T5,T5,d27,S2,S2,dpre,bx,w4,W4,W4];exact and2 (and2 (e9 (by omega)) (and2 rfl (e9 (by show((i+1:Nat):Int)<=(l.length:Int);omega)))) (e9 (by show((l.take (i+1)).length:Int)<=100;grind))) ?_;refine R3 ?_ ?_
  .rw[Y4,T5,S2,d830,W4];refine and2 (e9 (by show((dC l (i+1)).length:Int)<=100;omega)) ?_;show(aa.f 840 [aa.w 0,aa.w 1,aa.w 2,aa.w 3,aM aa (.app 830 [.op .lsub [.va 4,.ci 0,kf]])]).toB=true;grind
  by_cases ho:dU k s w g (dC l (i+1))=true
  .refine S4 (by rw[fi,d829,ho];rfl) ?_;show some (0,[aa.w 2000,aM aa (zi (.va 2001))])=_;grind
  .have e:(if dU k s w g (dC l (i+1))=true then(0:Int)else 30)=30:=b9 ho;rw[e,e8 (by omega)];refine S3 (by grind[fi]) ?_;show some (2,[Val.vi 30,aa.w 2001])=_;rw[v1]
 .refine S3 (by rw[gH,d25,W4];show(!decide (ed l i=0))=true;rw[j5 c];rfl) ?_;show some (2,[aM aa FH,aa.w 2001])=_;grind
theorem dQ5{k s w g:Int}{l:List Val}(h0:(I.w 0).toI=k)(h1:(I.w 1).toI=s)(h2:(I.w 2).toI=w)(h3:(I.w 3).toI=g)(h4:(I.w 4).toL=l)(hn:l.length<=100)
 (h840: ∀i,i<l.length->(∀j,j<=i->ed l j=0)->(dC l (i+1)).length<=100/\(I.f 840 [I.w 0,I.w 1,I.w 2,I.w 3,.vl (dC l (i+1))]).toB=true):
 S5 (λvs=>R0 NH (I.upd 2000 vs)) [.vi 0,.vi 0]=some (wx k s w g l):=by
 have zr: ∀j,rE k s w g l j=0->ed l j=0:=λj h=>by
  unfold rE at h;omega
 have run:=λi hi hj=>dx6 f701 f829 f830 h0 h1 h2 h3 h4 hn i hi hj
 unfold wx;cases hf:rF k s w g l with
 |none=>
  have hz: ∀j,j<l.length->rE k s w g l j=0:=λj hj=>by
   have:=s9.1 hf j (m8.2 hj);grind
  refine V9 (st:=λm=>[.vi 0,.vi m]) (n:=l.length) (λm hm=> ?_) ?_
  .rw[run m hm (λ_=>h840 m hm λj hj=>zr j (hz j (by omega))),b9 (λh=>h (hz m hm))]
  .have v0:(I.upd 2000 [.vi 0,.vi l.length]).w 2000= .vi 0:=by rw[T1];simp
   have v1:(I.upd 2000 [.vi 0,.vi l.length]).w 2001= .vi l.length:=by rw[T1];simp
   have w4:((I.upd 2000 [.vi 0,.vi l.length]).w 4).toL=l:=by rw[bc _ _ _ (by omega),h4]
   generalize I.upd 2000 [.vi 0,.vi l.length]=aa at*
   refine S4 (by show dB aa (zs (.va 2001) (zl 4))=false;rw[W5,V6,v1,S2,bx,w4];exact j5 (by show¬(l.length:Int)<(l.length:Int);omega)) ?_;show some (1,[aa.w 2000,aa.w 2001])=_;grind
 |some i=>
  obtain⟨a,b,c⟩:=W6 hf;have hz: ∀j,j<i->rE k s w g l j=0:=λj hj=>by
   grind
  have hb:rE k s w g l i≠0:=j6 b;refine V9 (st:=λm=>[.vi 0,.vi m]) (n:=i) (λm hm=> ?_) ?_
  .rw[run m (by omega) (λ_=>h840 m (by omega) λj hj=>zr j (hz j (by omega))),b9 (λh=>h (hz m hm))]
  .rw[run i a (λhr=>h840 i a λj hj=>by
    grind),e8 hb]
theorem e13{X:Nat->List Val->Val}(f700: ∀a,I.f 700 a= .vb (R9 (aN a 0).toI (aN a 1).toI (aN a 2).toI (aN a 3).toI))(f828: ∀a,I.f 828 a=jz X a)(f831: ∀a,I.f 831 a=xd a)(f832: ∀a,I.f 832 a=Ja a)(f869: ∀a,I.f 869 a=dX6 a)
 {k s w g:Int} {l:List Val} (h0:(I.w 0).toI=k) (h1:(I.w 1).toI=s) (h2:(I.w 2).toI=w) (h3:(I.w 3).toI=g) (h4:(I.w 4).toL=l) (hn:l.length<=100)
 (h840:R9 k s w g=true-> ∀i,i<=l.length->(∀j,j<i->ed l j=0)->(dC l i).length<=100/\(I.f 840 [I.w 0,I.w 1,I.w 2,I.w 3,.vl (dC l i)]).toB=true)
 (hrow:R9 k s w g=true->rF k s w g l=none->(jz X [.vi k,.vi s,.vi w,.vi g,.vl (cU l)]).toL.length<=400/\(I.f 431 [jz X [.vi k,.vi s,.vi w,.vi g,.vl (cU l)]]).toB=true):
 R0 T_rT I=some (0,[Fx [I.w 0,I.w 1,I.w 2,I.w 3,I.w 4],Is X [I.w 0,I.w 1,I.w 2,I.w 3,I.w 4]]):=by
 have hv:([Fx [I.w 0,I.w 1,I.w 2,I.w 3,I.w 4],Is X [I.w 0,I.w 1,I.w 2,I.w 3,I.w 4]]:List Val)=[.vi (pX k s w g l),tV X k s w g l]:=by
  show [Val.vi (pX (I.w 0).toI (I.w 1).toI (I.w 2).toI (I.w 3).toI (I.w 4).toL),tV X (I.w 0).toI (I.w 1).toI (I.w 2).toI (I.w 3).toI (I.w 4).toL]=_;grind
 rw[hv];have d28:dB I Gs= !R9 k s w g:=by
  show(!(I.f 700 [I.w 0,I.w 1,I.w 2,I.w 3]).toB)=_;rw[f700];show(!R9 (I.w 0).toI (I.w 1).toI (I.w 2).toI (I.w 3).toI)=_;grind
 unfold T_rT pX tV;cases hR:R9 k s w g with
 |false=>exact S3 (by grind) rfl
 |true=>
 have h840:=h840 hR;have hrow:=hrow hR;have e0:I.f 869 [.vi 0,.vi 0,.vi 0,.vi (I.w 4).toL.length,I.w 4,I.w 0,I.w 1,I.w 2,I.w 3]=V0 (wx k s w g l):=by
  rw[f869,<-h0,<-h1,<-h2,<-h3,<-h4];rfl
 refine S4 (by grind) (R4 (r:=wx k s w g l) (dQ5 f701 f829 f830 h0 h1 h2 h3 h4 hn λi hi hj=>h840 (i+1) (by omega) λj hj'=>hj j (by omega)) e0 ?_);unfold wx at*
 rw[e8 rfl,e8 rfl];cases hf:rF k s w g l with
 |some i=>
  rw[hf]at e0;show some (0,[S0 (I.f 869 [.vi 0,.vi 0,.vi 0,.vi (I.w 4).toL.length,I.w 4,I.w 0,I.w 1,I.w 2,I.w 3]).toL 1 0,Val.vl []])=_;rw[e0];rfl
 |none=>
  obtain⟨r1,r2⟩:=hrow hf;have hz: ∀j,j<l.length->ed l j=0:=λj hj=>by
   have h:=s9.1 hf j (m8.2 hj);have h:rE k s w g l j=0:=by simpa using h
   unfold rE at h;omega
  obtain⟨n1,n2⟩:=h840 l.length (i6 _) hz;have hT:dC l l.length=cU l:=by grind[dC,List.take_length]
  rw[hT]at n1 n2;have d830:aM I (.app 830 [.va 4])= .vl (cU l):=by
   show I.f 830 [I.w 4]=_;rw[f830];show Val.vl (cU (I.w 4).toL)=_;rw[h4]
  have drT:aM I xX=jz X [.vi k,.vi s,.vi w,.vi g,.vl (cU l)]:=by
   show I.f 828 [I.w 0,I.w 1,I.w 2,I.w 3,aM I (.app 830 [.va 4])]=_;rw[f828,d830];exact db6 h0 h1 h2 h3 rfl
  refine R3 (by grind[T5,S2,bx,W4,decide_eq_true]) (R3 ?_ (R3 ?_ ?_))
  .rw[Y4,T5,S2,d830,W4];refine and2 (e9 (by show((cU l).length:Int)<=100;omega)) ?_;show(I.f 840 [I.w 0,I.w 1,I.w 2,I.w 3,aM I (.app 830 [.va 4])]).toB=true;grind
  .rw[Y4,T5,S2,drT,W4];refine and2 (e9 (by omega)) ?_;show(I.f 431 [aM I xX]).toB=true;grind
  .show some (0,[Val.vi 0,I.f 832 [aM I xX,I.f 831 [I.w 4]]])=_;rw[f832,f831,drT];have:xd [I.w 4]=xd [.vl l]:=by
    show cR (I.w 4).toL (I.w 4).toL.length=_;rw[h4];rfl
   rw[this]
end
end Go.Ev.S9
