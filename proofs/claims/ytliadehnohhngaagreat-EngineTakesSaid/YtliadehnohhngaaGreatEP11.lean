import Derived.Test.YtliadehnohhngaaGreatEP0
set_option linter.all false
namespace Go.Ev.S9
open Go Go.Ev
variable{l:U0}
def pf(l:U0):Bj:=(List.range l.length).find? λi=>(ij l i).isSome
def Ed(l:U0):Nat×U0:=match pf l with
 |some i=>(1,[.D (eM l i ((ij l i).getD 0)).length,.B true,.D i,.A (eM l i ((ij l i).getD 0))])
 |none=>(0,[.B false,.D l.length])
def Ef(a:U0):Val:=cC (Ed (ce a 3).L)
def pH:Nat->U0->U0
 |0,l=>l
 |f+1,l=>match pf l with
  |some i=>pH f (eM l i ((ij l i).getD 0))
  |none=>l
def iH(l:U0):U0:=pH l.length l
def ek5(a:U0):Val:=cC (0,[.D (iH (ce a 2).L).length,.B false,.A (iH (ce a 2).L)])
def cH1(l:U0){i j:Nat}(h:i<j): ∀n,(cw (jp l i j) n).length+((if i<n then 1 else 0)+(if j<n then 1 else 0))=n
 |0=>rfl
 |n+1=>by have ih:=cH1 l h n;show(cw (jp l i j) n++jp l i j n).length+_=_;unfold jp at ih⊢;grind
theorem Zf{i j:Nat}(h:i<j)(hj:j<l.length):(eM l i j).length+1=l.length:=by have:=cH1 l h l.length;grind[eM,List.length_append]
def MB{i:Nat}(h:pf l=some i): ∃j,ij l i=some j/\i<j/\j<l.length/\uE l i j=true:=by
 obtain⟨a,b,c⟩:=pg h;cases hj:ij l i with
 |none=>grind
 |some j=>
  obtain⟨a',b',c'⟩:=pg hj;grind
def c70(h:pf l=none){i j:Nat}(hij:i<j)(hj:j<l.length):uE l i j=false:=by
 have h1:=B9.1 h i (p7.2 (by omega));have h2:ij l i=none:=by simpa using h1
 have h3:=B9.1 h2 j (p7.2 hj);simpa[hij]using h3
variable{I:Opq}
def d4{x:Val}{j:Nat}:(I.U 4000 [x,.D j]).w 4000=x/\(I.U 4000 [x,.D j]).w 4001= .D j:=⟨by rfl,by rfl⟩
def dS8(f858: ∀a,I.f 858 a=uK a)(f859: ∀a,I.f 859 a=pQ a)(h0:I.w 2000= .D l.length)(h2:(I.w 2002).L=l)(hn:l.length<=1000)(i:Nat)(hi:i<=l.length):
 W5 Sg (I.U 4000 [.B false,.D i])=if i<l.length then(match ij l i with|some j=>some (2,[.D (eM l i j).length,.B true,.D i,.A (eM l i j)])|none=>some (0,[.B false,.D (i+1:Nat)]))else some (1,[.B false,.D i]):=by
 obtain⟨v0,v1⟩:=d4 (I:=I) (x:= .B false) (j:=i);have w0:(I.U 4000 [.B false,.D i]).w 2000= .D l.length:=by grind[cR]
 have w2:((I.U 4000 [.B false,.D i]).w 2002).L=l:=by grind[cR]
 have wf: ∀a,(I.U 4000 [.B false,.D i]).f 858 a=uK a:=λa=>by grind[fh]
 have wg: ∀a,(I.U 4000 [.B false,.D i]).f 859 a=pQ a:=λa=>by grind[fh]
 generalize I.U 4000 [.B false,.D i]=aa at*
 refine W6 (by simp_all[cJ,cG,cI,i6]) ?_;by_cases c:i<l.length
 rw[c9 c];have inc:cr .add .i64 (i:Int) 1=((i+1:Nat):Int):=ft (n:=1000000) (by omega) (by omega);have di:bZ aa (zi bi)= .D (i+1:Nat):=by show Val.D (cr .add .i64 (aa.w 4001).I 1)=_;simp_all
 have d6:bZ aa X6=cC (zC (.B false) l i):=by show aa.f 858 [aa.w 4000,bZ aa (zi bi),aa.w 2000,aa.w 2002,aa.w 4001]=_;rw[wf];show cC (zC (aa.w 4000) (aa.w 2002).L (aa.w 4001).I.toNat)=_;simp_all
 refine cD (by simp_all[cW,cI,i6]) (Y3 (r:=zC (.B false) l i) ?_ d6 ?_);show cQ _ [aa.w 4000,bZ aa (zi bi)]=_;grind[ec0]
 have hR:zC (.B false) l i=match ij l i with
  |some j=>(1,[.D (eM l i j).length,.B true,.D j,.A (eM l i j)])
  |none=>(0,[.B false,.D l.length]):=rfl
 cases hj:ij l i with
 |none=>
  rw[hj]at hR;rw[hR]at d6⊢;show some (0,[ck (bZ aa X6).L 1 0,bZ aa (zi bi)])=_;rw[d6,di];rfl
 |some j=>
  rw[hj]at hR;rw[hR]at d6⊢;have e0:bZ aa (zo X6 0)= .D (eM l i j).length:=by show ck (bZ aa X6).L 1 0=_;rw[d6];rfl
  have e1:bZ aa (zo X6 1)= .B true:=by show ck (bZ aa X6).L 1 1=_;rw[d6];rfl
  have e3:bZ aa (zo X6 3)= .A (eM l i j):=by show ck (bZ aa X6).L 1 3=_;rw[d6];rfl
  refine W6 (by rw[dY,cK,e0,e3];exact i6 rfl) ?_;show some (2,[Val.D (bZ aa (zo X6 3)).L.length,bZ aa (zo X6 1),aa.w 4001,bZ aa (zo X6 3)])=_;simp_all
 .refine Y9 (by rw[cW,cI,cI,v1,w0];exact j7 (by show¬(i:Int)<(l.length:Int);omega)) ?_;show some (1,[aa.w 4000,aa.w 4001])=_;grind
def ec1(f858: ∀a,I.f 858 a=uK a)(f859: ∀a,I.f 859 a=pQ a)(h0:I.w 2000= .D l.length)(h2:(I.w 2002).L=l)(hn:l.length<=1000):
 cQ (λvs=>W5 Sg (I.U 4000 vs)) [.B false,.D 0]=some (Ed l):=by
 have run:=dS8 f858 f859 h0 h2 hn;unfold Ed;cases hf:pf l with
 |none=>
  refine fD (st:=λm=>[.B false,.D m]) (n:=l.length) (λm hm=> ?_) ?_
  have h1:=B9.1 hf m (p7.2 hm);have h2:ij l m=none:=by simpa using h1
  rw[run _ (by omega),c9 hm,h2];grind
 |some i=>
  obtain⟨a,b,c⟩:=pg hf;obtain⟨j,hj,j1,j2,j3⟩:=MB hf;refine fD (st:=λm=>[.B false,.D m]) (n:=i) (λm hm=> ?_) ?_
  have h2:ij l m=none:=by have:=c m hm;simpa using this
  rw[run _ (by omega),c9 (by omega),h2];grind
def ec2{b:Bool}:(I.U 2000 [.D l.length,.B b,.A l]).w 2000= .D l.length/\(I.U 2000 [.D l.length,.B b,.A l]).w 2001= .B b/\(I.U 2000 [.D l.length,.B b,.A l]).w 2002= .A l:=
 ⟨by rfl,by rfl,by rfl⟩
def Zv(f857: ∀a,I.f 857 a=Ef a)(f858: ∀a,I.f 858 a=uK a)(f859: ∀a,I.f 859 a=pQ a)(hn:l.length<=1000):
 W5 FF (I.U 2000 [.D l.length,.B true,.A l])=match pf l with
  |some i=>some (0,[.D (eM l i ((ij l i).getD 0)).length,.B true,.A (eM l i ((ij l i).getD 0))])
  |none=>some (0,[.D l.length,.B false,.A l]):=by
 obtain⟨v0,v1,v2⟩:=ec2 (I:=I) (l:=l) (b:=true);have wf: ∀a,(I.U 2000 [.D l.length,.B true,.A l]).f 857 a=Ef a:=λa=>by grind[fh]
 have wg: ∀a,(I.U 2000 [.D l.length,.B true,.A l]).f 858 a=uK a:=λa=>by grind[fh]
 have wh: ∀a,(I.U 2000 [.D l.length,.B true,.A l]).f 859 a=pQ a:=λa=>by grind[fh]
 generalize I.U 2000 [.D l.length,.B true,.A l]=aa at*
 have d7:bZ aa X7=cC (Ed l):=by show aa.f 857 [.B false,.D 0,aa.w 2000,aa.w 2002]=_;rw[wf,v2];rfl
 refine cD (by show(aa.w 2001).Z=true;rw[v1];rfl) (Y3 (r:=Ed l) ?_ d7 ?_);exact ec1 wg wh v0 (by rw[v2];rfl) hn
 have hR:Ed l=match pf l with
  |some i=>(1,[.D (eM l i ((ij l i).getD 0)).length,.B true,.D i,.A (eM l i ((ij l i).getD 0))])
  |none=>(0,[.B false,.D l.length]):=rfl
 cases hj:pf l with
 |none=>
  rw[hj]at hR;rw[hR];show some (0,[aa.w 2000,Val.B false,aa.w 2002])=_;grind
 |some i=>
  rw[hj]at hR;rw[hR]at d7⊢;have e0:bZ aa (zo X7 0)= .D (eM l i ((ij l i).getD 0)).length:=by show ck (bZ aa X7).L 1 0=_;rw[d7];rfl
  have e1:bZ aa (zo X7 1)= .B true:=by show ck (bZ aa X7).L 1 1=_;rw[d7];rfl
  have e3:bZ aa (zo X7 3)= .A (eM l i ((ij l i).getD 0)):=by show ck (bZ aa X7).L 1 3=_;rw[d7];rfl
  refine W6 (by rw[dY,cK,e0,e3];exact i6 rfl) ?_;show some (0,[Val.D (bZ aa (zo X7 3)).L.length,bZ aa (zo X7 1),bZ aa (zo X7 3)])=_;simp_all
def cH2(l:U0):W5 FF (I.U 2000 [.D l.length,.B false,.A l])=some (1,[.D l.length,.B false,.A l]):=by rfl
def ec3(f857: ∀a,I.f 857 a=Ef a)(f858: ∀a,I.f 858 a=uK a)(f859: ∀a,I.f 859 a=pQ a): ∀(f:Nat) (l:U0),l.length<=f->l.length<=1000->
 Iter (λvs=>W5 FF (I.U 2000 vs)) [.D l.length,.B true,.A l] 0 [.D (pH f l).length,.B false,.A (pH f l)]:=by
 intro f;induction f with
 |zero=>
  intro l hf hn;have:l=[]:=C7 (by omega);subst this;exact .more (Zv f857 f858 f859 hn) (.out (cH2 []))
 |succ f ih=>
  intro l hf hn;have h:=Zv f857 f858 f859 hn;unfold pH;cases hj:pf l with
  |none=>
   rw[hj]at h;exact .more h (.out (cH2 l))
  |some i=>
   rw[hj]at h;obtain⟨j,h1,h2,h3,h4⟩:=MB hj;have hl:(eM l i ((ij l i).getD 0)).length+1=l.length:=by grind[Zf]
   exact .more h (ih _ (by omega) (by omega))
def ec4(f857: ∀a,I.f 857 a=Ef a)(f858: ∀a,I.f 858 a=uK a)(f859: ∀a,I.f 859 a=pQ a)(hn:l.length<=1000):
 cQ (λvs=>W5 FF (I.U 2000 vs)) [.D l.length,.B true,.A l]=some (0,[.D (iH l).length,.B false,.A (iH l)]):=by
 rw[kK];exact ec3 f857 f858 f859 _ l (j5 _) hn
variable{M:U0}
def wM(M:U0)(k:Nat):U0:=(M.set k (ep (cg M (k+1)))).set (k+1) (ep (cg M k))
def jK:Nat->U0->Nat×U0
 |0,M=>(0,M)
 |k+1,M=>if ci (cg M (k+1)) 0<ci (cg M k) 0 then jK k (wM M k)else(k+1,M)
def Pm(a:U0):Val:=cC (0,[.D (jK (ce a 0).I.toNat (ce a 1).L).1,.A (jK (ce a 0).I.toNat (ce a 1).L).2])
def gL(l:U0):Nat->U0
 |0=>[]
 |k+1=>(jK k (gL l k++[ep (cg l k)])).2
def ek6(a:U0):Val:=cC (0,[.D (ce a 3).I.toNat,.D (ce a 3).I.toNat,.A (gL (ce a 4).L (ce a 3).I.toNat)])
def ZV: ∀(k:Nat) (M:U0),(jK k M).2.length=M.length
 |0,M=>rfl
 |k+1,M=>by unfold jK;split;rw[ZV k];simp[wM];rfl
def Dx(l:U0): ∀k,(gL l k).length=k
 |0=>rfl
 |k+1=>by show(jK k _).2.length=_;rw[ZV,k7,Dx l k];rfl
def cH3{k:Nat}(hk:k+1<M.length)(hM: ∀r∈M,ep r=r)(r:Val):r∈wM M k↔r∈M:=by
 have a1:cg M k∈M:=oR (by omega);have a2:cg M (k+1)∈M:=oR hk;have e:wM M k=(M.set k (cg M (k+1))).set (k+1) (cg M k):=by grind[wM]
 rw[e];constructor;grind
 intro h;obtain⟨m,hm,rfl⟩:=C3 h;have ea: ∀n (h:n<M.length),cg M n=M[n]:=λn h=>by simp[cg,k5,h]
 by_cases c1:m=k;grind[List.mem_iff_getElem];by_cases c2:m=k+1;refine T4.2 ⟨k,by simp;omega,?_⟩;grind;refine T4.2 ⟨m,by simp;omega,?_⟩;grind
def c72: ∀(k:Nat) (M:U0),k<M.length->(∀r∈M,ep r=r)-> ∀r,r∈(jK k M).2↔r∈M
 |0,M,_,_,r=>Iff.rfl
 |k+1,M,hk,hM,r=>by unfold jK;split;rw[c72 k _ (by simp[wM];omega) (λr hr=>hM r ((cH3 hk hM r).1 hr)) r,cH3 hk hM];rfl
def c73{l:U0}(hl: ∀r∈l,ep r=r): ∀k,k<=l.length-> ∀r,r∈gL l k↔r∈l.take k
 |0,_,r=>by simp[gL]
 |k+1,hk,r=>by
  have ih:=c73 hl k (by omega);have ha:=oR (l:=l) (show k<l.length by omega);show r∈(jK k (gL l k++[ep (cg l k)])).2↔_;have hs: ∀r∈gL l k++[ep (cg l k)],ep r=r:=λr hr=>by
   rcases x6.1 hr with h|h
   exact hl r (J3 ((ih r).1 h));rw[o7.1 h,hl _ ha,hl _ ha]
  rw[c72 k _ (by rw[k7,Dx];simp) hs,x6,o7,ih,hl _ ha,show l.take (k+1)=l.take k++[cg l k] by rw[P3,show l[k]?.toList=[cg l k] by simp[cg,k5,show k<l.length by omega]],x6,o7]
variable{I:Opq}
def d3{j:Nat}:(I.U 3000 [.D j,.A M]).w 3000= .D j/\(I.U 3000 [.D j,.A M]).w 3001= .A M:=⟨by rfl,by rfl⟩
def dS9{N k:Nat}(hc:(I.w 2002).L.length+1=N)(hM:M.length=N)(hk:k+1<N)(hN:N<=1000):
 W5 VG (I.U 3000 [.D (k+1:Nat),.A M])=if ci (cg M (k+1)) 0<ci (cg M k) 0 then some (0,[.D k,.A (wM M k)])else some (1,[.D (k+1:Nat),.A M]):=by
 obtain⟨v0,v1⟩:=d3 (I:=I) (M:=M) (j:=k+1);have w2:(I.U 3000 [.D (k+1:Nat),.A M]).w 2002=I.w 2002:=cR _ _ _ (by omega);generalize I.U 3000 [.D (k+1:Nat),.A M]=aa at*
 have i1:(bZ aa (zm aY aZ))= .D k:=by show Val.D (cr .sub .i64 (aa.w 3000).I 1)=_;grind[a01,lN]
 have i1I:(bZ aa (zm aY aZ)).I=(k:Int):=by rw[i1];rfl
 have l8:(bZ aa X8).L.length=N:=by show((aa.w 2002).L++[_]).length=N;grind
 have l8I:(bZ aa (zL X8)).I=(N:Int):=by rw[cK,l8]
 have l1I:(bZ aa (zl 3001)).I=(N:Int):=by simp_all[cK,cM]
 have v0I:(bZ aa aY).I=((k+1:Nat):Int):=by rw[cI,v0];rfl
 have g1: ∀j:Nat,bZ aa (.O .G [bc,aY,.C j])=Y5 (cg M (k+1)) j:=λj=>by show ck (aa.w 3001).L (aa.w 3000).I (j:Int)=_;rw[v1,v0];rfl
 have g0: ∀j:Nat,bZ aa (.O .G [bc,zm aY aZ,.C j])=Y5 (cg M k) j:=λj=>by show ck (aa.w 3001).L (bZ aa (zm aY aZ)).I (j:Int)=_;rw[v1,i1];rfl
 have d10:bZ aa PY= .A (M.set k (ep (cg M (k+1)))):=by show Val.A ((aa.w 3001).L.set (bZ aa (zm aY aZ)).I.toNat (.A [bZ aa (.O .G [bc,aY,.C (0:Nat)]),bZ aa (.O .G [bc,aY,.C (1:Nat)])]))=_;rw[v1,i1,g1,g1];rfl
 refine cD (by grind[tD,cG,decide_eq_true]) ?_;refine W6 (by grind[dG,cJ,cW,cG,decide_eq_true]) ?_;refine W6 (by grind[cW,decide_eq_true]) ?_;refine W6 (by grind[dG,cJ,cW,cG,decide_eq_true]) ?_;refine W6 (by grind[cW,decide_eq_true]) ?_;have hq:dB aa (dF X9 (zg 3001 3000 0))=decide (ci (cg M (k+1)) 0<ci (cg M k) 0):=by have e1:=congrArg Val.I (g1 0);have e0:=congrArg Val.I (g0 0);exact congr (congrArg (λa b:Int=>decide (a<b)) e1) e0
 by_cases c:ci (cg M (k+1)) 0<ci (cg M k) 0;rw[c9 c];refine cD (hq.trans (i6 c)) (W6 ?_ ?_);rw[cW,v0I,cK,d10];show decide (((k+1:Nat):Int)<((M.set k (ep (cg M (k+1)))).length:Int))=true;grind;show some (0,[bZ aa (zm aY aZ),Val.A ((bZ aa PY).L.set (aa.w 3000).I.toNat (.A [bZ aa (.O .G [bc,zm aY aZ,.C (0:Nat)]),bZ aa (.O .G [bc,zm aY aZ,.C (1:Nat)])]))])=_;rw[i1,d10,v0,g0,g0];rfl;refine Y9 (hq.trans (j7 c)) ?_;show some (1,[aa.w 3000,aa.w 3001])=_;grind
def dT0{N:Nat}(hc:(I.w 2002).L.length+1=N)(hN:N<=1000): ∀(k:Nat) (M:U0),k<N->M.length=N->Iter (λvs=>W5 VG (I.U 3000 vs)) [.D k,.A M] 0 [.D (jK k M).1,.A (jK k M).2]
 |0,M,hk,hM=>by refine .out ?_;rfl
 |k+1,M,hk,hM=>by have hs:=dS9 (I:=I) hc hM hk hN;unfold jK;by_cases c:ci (cg M (k+1)) 0<ci (cg M k) 0;rw[c9 c]at hs⊢;exact .more hs (dT0 hc hN k _ (by omega) (by grind[wM]));rw[b9 c]at hs⊢;exact .out hs
def ec5(f856: ∀a,I.f 856 a=Pm a){l:U0}(d3: ∀vs,bZ (I.U 2000 vs) pY= .D l.length)(d4: ∀vs,bZ (I.U 2000 vs) nq= .A l)(hn:l.length<=900):
 cQ (λvs=>W5 ej2 (I.U 2000 vs)) [.D 0,.D 0,.A []]=some (0,[.D l.length,.D l.length,.A (gL l l.length)]):=by
 refine fD (st:=λk=>[.D k,.D k,.A (gL l k)]) (n:=l.length) (λk hk=> ?_) ?_
 have hl:=Dx l k;have hm:gL l (k+1)=(jK k (gL l k++[ep (cg l k)])).2:=rfl;have hl2:=Dx l (k+1);rw[hm]at hl2⊢;generalize gL l k=acc at hl hl2⊢;have v0:=ua I 2000 (.D k) (.D k) (.A acc);have v1:=ko I 2000 (.D k) (.D k) (.A acc);have v2:=uu I 2000 (.D k) (.D k) (.A acc);have d3:=d3 [.D k,.D k,.A acc];have d4:=d4 [.D k,.D k,.A acc];have wf: ∀a,(I.U 2000 [.D k,.D k,.A acc]).f 856 a=Pm a:=λa=>by grind[fh]
 generalize I.U 2000 [.D k,.D k,.A acc]=aa at*
 have inc:cr .add .i64 (k:Int) 1=((k+1:Nat):Int):=ft (n:=1000000) (by omega) (by omega);have d8:bZ aa X8= .A (acc++[ep (cg l k)]):=by show Val.A ((aa.w 2002).L++[.A [ck (bZ aa nq).L (aa.w 2001).I 0,ck (bZ aa nq).L (aa.w 2001).I 1]])=_;rw[v2,d4,v1];rfl
 have d12:bZ aa Eo= .A (jK k (acc++[ep (cg l k)])).2:=by show ck (aa.f 856 [aa.w 2001,bZ aa X8,bZ aa pY,bZ aa nq,.D (bZ aa X8).L.length,bZ aa X8,aa.w 2001]).L 1 1=_;rw[wf,d8,v1];rfl
 have e856:aa.f 856 [aa.w 2001,bZ aa X8,bZ aa pY,bZ aa nq,.D (bZ aa X8).L.length,bZ aa X8,aa.w 2001]=cC (0,[.D (jK k (acc++[ep (cg l k)])).1,.A (jK k (acc++[ep (cg l k)])).2]):=by rw[wf,d8,v1];rfl
 refine W6 (by simp_all[cJ,cG,i6]) (cD (by simp_all[cW,cI,i6]) ?_);refine W6 (by simp_all[cJ,cG,cI,i6]) ?_;refine W6 (by simp_all[cW,cI,cK,i6]) ?_;refine W6 (OB (q:= aU) (l:= aW) (c:=X8) (by grind[cM]) v2 d8 (by omega)) ?_;have ml:(acc++[ep (cg l k)]).length=k+1:=by grind
 refine Y3 (r:=(0,[.D (jK k (acc++[ep (cg l k)])).1,.A (jK k (acc++[ep (cg l k)])).2])) ?_ e856 (W6 ?_ ?_);show cQ _ [aa.w 2001,bZ aa X8]=_;rw[v1,d8,kK];exact dT0 (N:=k+1) (by simp_all) (by omega) k _ (by omega) ml;simp_all[dY,cK,i6,ep,cg,jK];show some (0,[Val.D (bZ aa Eo).L.length,Val.D (cr .add .i64 (aa.w 2001).I 1),bZ aa Eo])=_;simp_all
 have v0:=ua I 2000 (.D l.length) (.D l.length) (.A (gL l l.length));have v1:(I.U 2000 [.D l.length,.D l.length,.A (gL l l.length)]).w 2001=_:=ko I 2000 (.D l.length) (.D l.length) (.A (gL l l.length));have v2:(I.U 2000 [.D l.length,.D l.length,.A (gL l l.length)]).w 2002=_:=uu I 2000 (.D l.length) (.D l.length) (.A (gL l l.length));have d3:=d3 [.D l.length,.D l.length,.A (gL l l.length)];generalize I.U 2000 [.D l.length,.D l.length,.A (gL l l.length)]=aa at*
 refine W6 (by rw[cJ,cG,d3];exact i6 (by show(0:Int)<=(l.length:Int);omega)) (Y9 (by rw[cW,cI,d3,v1];exact j7 (by omega)) ?_);show some (1,[aa.w 2000,aa.w 2001,aa.w 2002])=_;grind
def gd(g:Int)(l:U0):U0:=cw (oJ g l) l.length
def jX(g:Int)(l:U0):U0:=gL (iH (gd g l)) (iH (gd g l)).length
def jY(g:Int)(l:U0):Bool:=decide (1<=g)&&(decide (g<=1048576)&&((List.range l.length).find? (uP l)).isNone)
def KE(a:U0):Val:= .A (bif jY (ce a 0).I (ce a 1).L then jX (ce a 0).I (ce a 1).L else [])
def Ut(a:U0):Val:= .D (bif jY (ce a 0).I (ce a 1).L then 0 else 2)
def Up: ∀(f:Nat) (l:U0),(pH f l).length<=l.length
 |0,l=>j5 _
 |f+1,l=>by
  unfold pH;cases hj:pf l with
  |none=>grind
  |some i=>
   obtain⟨j,h1,h2,h3,h4⟩:=MB hj;have hl:(eM l i ((ij l i).getD 0)).length+1=l.length:=by grind[Zf]
   exact l7 (Up f _) (by omega)
variable{I:Opq}
def ec7(f854: ∀a,I.f 854 a=ek5 a)(f855: ∀a,I.f 855 a=ek6 a)(f856: ∀a,I.f 856 a=Pm a)(f857: ∀a,I.f 857 a=Ef a)(f858: ∀a,I.f 858 a=uK a)(f859: ∀a,I.f 859 a=pQ a)(f860: ∀a,I.f 860 a=ek4 a)(hn:(I.w 1).L.length<=100):
 W5 T_sOf I=some (0,[Ut [I.w 0,I.w 1],KE [I.w 0,I.w 1]]):=by
 generalize h0:(I.w 0).I=g;generalize h1:(I.w 1).L=l at hn;have e0:bZ I mf=cC (Jr g l):=by show I.f 860 [.D 0,.D 0,.D 0,.A [],I.w 0,.D 0,.D (I.w 1).L.length,I.w 1]=_;rw[f860,<-h0,<-h1];rfl
 have hv:([Ut [I.w 0,I.w 1],KE [I.w 0,I.w 1]]:U0)=[.D (bif jY g l then 0 else 2),.A (bif jY g l then jX g l else [])]:=by show [Val.D (bif jY (I.w 0).I (I.w 1).L then 0 else 2),.A (bif jY (I.w 0).I (I.w 1).L then jX (I.w 0).I (I.w 1).L else [])]=_;rw[h0,h1]
 rw[hv];unfold T_sOf jY;by_cases g1:1<=g;refine cD (by rw[Eb,cI,cG,h0];exact i6 g1) ?_;rw[i6 g1,B0];by_cases g2:g<=1048576
 refine Y9 (by rw[je,cJ,cI,cG,h0,i6 g2];rfl) ?_;rw[i6 g2,B0];refine Y3 (r:=Jr g l) (eb8 h0 h1 (by omega)) e0 ?_;unfold Jr at e0⊢;cases hf:(List.range l.length).find? (uP l)with
 |some i=>
  rw[hf]at e0;show some (0,[bZ I (zo mf 0),Val.A []])=_;have:bZ I (zo mf 0)= .D 2:=by show ck (bZ I mf).L 1 0=_;rw[e0];rfl
  rw[this];rfl
 |none=>
  rw[hf]at e0;have q1:bZ I tN= .A (gd g l):=by show ck (bZ I mf).L 1 3=_;rw[e0];rfl
  have q01:bZ I (zo mf 1)= .D (gd g l).length:=by show ck (bZ I mf).L 1 1=_;rw[e0];rfl
  have hL:(gd g l).length=l.length:=oI (λi=> .A [Y5 (cg l i) 0,.D (cr .add .i64 (ci (cg l i) 0) g)]) l.length;have q2:bZ I wb=cC (0,[.D (iH (gd g l)).length,.B false,.A (iH (gd g l))]):=by show I.f 854 [.D (bZ I tN).L.length,.B true,bZ I tN]=_;rw[f854,q1];rfl
  have q3:bZ I pY= .D (iH (gd g l)).length:=by show ck (bZ I wb).L 1 0=_;rw[q2];rfl
  have q4:bZ I nq= .A (iH (gd g l)):=by show ck (bZ I wb).L 1 2=_;rw[q2];rfl
  have hM:(iH (gd g l)).length<=100:=l7 (Up _ _) (by omega);have D2: ∀vs,bZ (I.U 2000 vs) wb=bZ I wb:=λvs=>by
   have e:bZ (I.U 2000 vs) mf=bZ I mf:=by show(I.U 2000 vs).f 860 [.D 0,.D 0,.D 0,.A [],(I.U 2000 vs).w 0,.D 0,.D ((I.U 2000 vs).w 1).L.length,(I.U 2000 vs).w 1]=I.f 860 [.D 0,.D 0,.D 0,.A [],I.w 0,.D 0,.D (I.w 1).L.length,I.w 1];rw[cR _ _ _ (by omega),cR _ _ _ (by omega),fh]
   show(I.U 2000 vs).f 854 [.D (ck (bZ (I.U 2000 vs) mf).L 1 3).L.length,.B true,ck (bZ (I.U 2000 vs) mf).L 1 3]=I.f 854 [.D (ck (bZ I mf).L 1 3).L.length,.B true,ck (bZ I mf).L 1 3];rw[e,fh]
  have D3: ∀vs,bZ (I.U 2000 vs) pY= .D (iH (gd g l)).length:=λvs=>by show ck (bZ (I.U 2000 vs) wb).L 1 0=_;rw[D2,q2];rfl
  have D4: ∀vs,bZ (I.U 2000 vs) nq= .A (iH (gd g l)):=λvs=>by show ck (bZ (I.U 2000 vs) wb).L 1 2=_;rw[D2,q2];rfl
  have q5:bZ I Et=cC (0,[.D (iH (gd g l)).length,.D (iH (gd g l)).length,.A (jX g l)]):=by show I.f 855 [.D 0,.D 0,.A [],bZ I pY,bZ I nq]=_;rw[f855,q3,q4];rfl
  have q6:bZ I Oi= .A (jX g l):=by show ck (bZ I Et).L 1 2=_;rw[q5];rfl
  have q50:bZ I (zo Et 0)= .D (iH (gd g l)).length:=by show ck (bZ I Et).L 1 0=_;rw[q5];rfl
  refine W6 (by rw[dY,cK,q01,q1];exact i6 rfl) (Y3 (r:=(0,[.D (iH (gd g l)).length,.B false,.A (iH (gd g l))])) ?_ q2 (Y3 (r:=(0,[.D (iH (gd g l)).length,.D (iH (gd g l)).length,.A (jX g l)])) ?_ q5 (W6 ?_ ?_)));show cQ _ [Val.D (bZ I tN).L.length,.B true,bZ I tN]=_;rw[q1];exact ec4 (l:=gd g l) f857 f858 f859 (by omega);exact ec5 f856 D3 D4 (by omega);rw[dY,cK,q50,q6];exact decide_eq_true (by show((iH (gd g l)).length:Int)=((jX g l).length:Int);unfold jX;rw[Dx]);show some (0,[Val.D 0,bZ I Oi])=_;rw[q6];rfl
 .rw[j7 g2,F8];exact cD (by rw[je,cJ,cI,cG,h0,j7 g2];rfl) rfl
 rw[j7 g1,F8];exact Y9 (by rw[Eb,cI,cG,h0];exact j7 g1) rfl
def BF(k s l g:Int)(T:U0):U0:=if k=3 then cw (λi=>[ep (cg (bif jY g T then jX g T else []) i)]) (bif jY g T then jX g T else []).length else cw (λi=>dy k s l g (Y5 (cg T i) 0)) T.length
def ox(k s l g:Int)(ev:U0)(key:qw):U0:=BF k s l g (md ev key)
def ek7(a:U0):Val:=lW (md (ce a 5).L (ce a 6).S) (ce a 5).L.length
def ZX(a:U0):Val:=lW (cw (λi=>[ep (cg (ce a 4).L i)]) (ce a 4).L.length) (ce a 4).L.length
def mV(k s l g:Int)(T:U0):U0:=cw (λi=>dy k s l g (Y5 (cg T i) 0)) T.length
def ek9(a:U0):Val:=lW (mV (ce a 3).I (ce a 4).I (ce a 5).I (ce a 6).I (ce a 8).L) (ce a 8).L.length
def Iv(a:U0):Val:= .A (ox (ce a 0).I (ce a 1).I (ce a 2).I (ce a 3).I (ce a 4).L (ce a 5).S)
theorem and2{a b:Bool}(h:a=true)(h2:b=true):(a&&b)=true:=by grind
theorem Zk(g:Int)(T:U0):(jX g T).length<=T.length:=by unfold jX;rw[Dx];exact l7 (Up _ _) (Nat.le_of_eq (oI (λi=> .A [Y5 (cg T i) 0,.D (cr .add .i64 (ci (cg T i) 0) g)]) T.length))
theorem c76(l:U0)(key:qw):(md l key).length<=l.length:=by have:=jz (g:=QU l key) (m:=1) (λi=>by unfold QU;cases decide ((Y5 (cg l i) 1).S=key)<;>simp) l.length;grind[md]
variable{I:Opq}
def ec8{k s l g:Int}{T:U0}(f704: ∀a,I.f 704 a= .A (dy (ce a 0).I (ce a 1).I (ce a 2).I (ce a 3).I (ce a 4)))(h0:(I.w 0).I=k)(h1:(I.w 1).I=s)(h2:(I.w 2).I=l)(h3:(I.w 3).I=g)(k3:k≠3)(D1: ∀vs,bZ (I.U 2000 vs) mF= .D T.length)(D2: ∀vs,bZ (I.U 2000 vs) oF= .A T)(hn:T.length<=1000):
 cQ (λvs=>W5 Ur (I.U 2000 vs)) [.D 0,.D 0,.A []]=some (0,[.D (mV k s l g T).length,.D T.length,.A (mV k s l g T)]):=by
 have hlen: ∀i,(cw (λi=>dy k s l g (Y5 (cg T i) 0)) i).length<=i*16:=λi=>jz (λi=>DA k3) i
 refine qj (λi acc=>[.D acc.length,.D i,.A acc]) (a0:=[]) (g:=λi=>dy k s l g (Y5 (cg T i) 0)) (n:=T.length) rfl (λi hi=> ?_) ?_
 rw[List.nil_append];have ha:=hlen i;have hb:=DA (k:=k) (s:=s) (l:=l) (g:=g) (t:=Y5 (cg T i) 0) k3;generalize cw (λi=>dy k s l g (Y5 (cg T i) 0)) i=acc at ha⊢;have v0:(I.U 2000 [.D acc.length,.D i,.A acc]).w 2000=_:=ua I 2000 (.D acc.length) (.D i) (.A acc);have v1:(I.U 2000 [.D acc.length,.D i,.A acc]).w 2001=_:=ko I 2000 (.D acc.length) (.D i) (.A acc);have v2:(I.U 2000 [.D acc.length,.D i,.A acc]).w 2002=_:=uu I 2000 (.D acc.length) (.D i) (.A acc);have D1:=D1 [.D acc.length,.D i,.A acc];have D2:=D2 [.D acc.length,.D i,.A acc];have u0:((I.U 2000 [.D acc.length,.D i,.A acc]).w 0).I=k:=by grind[cR]
 have u1:((I.U 2000 [.D acc.length,.D i,.A acc]).w 1).I=s:=by grind[cR]
 have u2:((I.U 2000 [.D acc.length,.D i,.A acc]).w 2).I=l:=by grind[cR]
 have u3:((I.U 2000 [.D acc.length,.D i,.A acc]).w 3).I=g:=by grind[cR]
 have wf: ∀a,(I.U 2000 [.D acc.length,.D i,.A acc]).f 704 a= .A (dy (ce a 0).I (ce a 1).I (ce a 2).I (ce a 3).I (ce a 4)):=λa=>by grind[fh]
 generalize I.U 2000 [.D acc.length,.D i,.A acc]=aa at*
 have d16:bZ aa Cu= .A (acc++dy k s l g (Y5 (cg T i) 0)):=by show Val.A ((aa.w 2002).L++(aa.f 704 [aa.w 0,aa.w 1,aa.w 2,aa.w 3,ck (bZ aa oF).L (aa.w 2001).I 0]).L)=_;rw[wf,D2,v1,v2];show Val.A (acc++dy (aa.w 0).I (aa.w 1).I (aa.w 2).I (aa.w 3).I (Y5 (cg T i) 0))=_;grind
 have inc:cr .add .i64 (i:Int) 1=((i+1:Nat):Int):=ft (n:=1000000) (by omega) (by omega);refine W6 (by simp_all[cJ,cG,i6]) (cD (by simp_all[cW,cI,i6]) ?_);refine W6 (by simp_all[cJ,cG,cI,i6]) ?_;refine W6 (by simp_all[cW,cI,cK,i6]) ?_;refine W6 ?_ ?_;show(decide ((aa.w 2000).I=((aa.w 2002).L.length:Int))&&decide (((bZ aa Cu).L.length:Int)<=1000000))=true;rw[v0,v2,d16];exact and2 (i6 rfl) (i6 (by show((acc++dy k s l g (Y5 (cg T i) 0)).length:Int)<=1000000;grind));show some (0,[Val.D (bZ aa Cu).L.length,Val.D (cr .add .i64 (aa.w 2001).I 1),bZ aa Cu])=_;simp_all;show W5 Ur (I.U 2000 [.D (mV k s l g T).length,.D T.length,.A (mV k s l g T)])=some (1,[.D (mV k s l g T).length,.D T.length,.A (mV k s l g T)]);refine W6 (by rw[cJ,cG,D1];exact i6 (by show(0:Int)<=(T.length:Int);omega)) (Y9 (by rw[cW,cI,D1,show(I.U 2000 [.D (mV k s l g T).length,.D T.length,.A (mV k s l g T)]).w 2001=_ from ko ..];exact j7 (by omega)) ?_);rfl
def d41(f704: ∀a,I.f 704 a= .A (dy (ce a 0).I (ce a 1).I (ce a 2).I (ce a 3).I (ce a 4)))(f824: ∀a,I.f 824 a=KE a)(f861: ∀a,I.f 861 a=ek7 a)(f862: ∀a,I.f 862 a=ZX a)(f863: ∀a,I.f 863 a=ek9 a)(hn:(I.w 4).L.length<=100):
 W5 T_rSpans I=some (0,[Iv [I.w 0,I.w 1,I.w 2,I.w 3,I.w 4,I.w 5]]):=by
 generalize h0:(I.w 0).I=k;generalize h1:(I.w 1).I=s;generalize h2:(I.w 2).I=l;generalize h3:(I.w 3).I=g;generalize h4:(I.w 4).L=ev at hn;generalize h5:(I.w 5).S=key;generalize hT:md ev key=T;have hTl:T.length<=100:=by grind[Nat.le_trans,c76]
 have hv:Iv [I.w 0,I.w 1,I.w 2,I.w 3,I.w 4,I.w 5]= .A (BF k s l g T):=by show Val.A (BF (I.w 0).I (I.w 1).I (I.w 2).I (I.w 3).I (md (I.w 4).L (I.w 5).S))=_;grind
 rw[hv];have e0:bZ I uM=cC (0,[.D T.length,.D ev.length,.A T]):=by show I.f 861 [.D 0,.D 0,.A [],.D 0,.D (I.w 4).L.length,I.w 4,I.w 5,I.w 0,I.w 1,I.w 2,I.w 3]=_;rw[f861];show lW (md (I.w 4).L (I.w 5).S) (I.w 4).L.length=_;rw[h4,h5,hT];rfl
 have D0: ∀vs,bZ (I.U 2000 vs) uM=bZ I uM:=λvs=>by rfl
 have q1:bZ I mF= .D T.length:=by show ck (bZ I uM).L 1 0=_;rw[e0];rfl
 have q2:bZ I oF= .A T:=by show ck (bZ I uM).L 1 2=_;rw[e0];rfl
 have D1: ∀vs,bZ (I.U 2000 vs) mF= .D T.length:=λvs=>by show ck (bZ (I.U 2000 vs) uM).L 1 0=_;rw[D0,e0];rfl
 have D2: ∀vs,bZ (I.U 2000 vs) oF= .A T:=λvs=>by show ck (bZ (I.U 2000 vs) uM).L 1 2=_;rw[D0,e0];rfl
 have q3:bZ I yI= .A T:=by show Val.A (((bZ I oF).L.drop (0:Int).toNat).take ((bZ I mF).I-0).toNat)=_;simp_all
 have D3: ∀vs,bZ (I.U 2000 vs) yI= .A T:=λvs=>by show Val.A (((bZ (I.U 2000 vs) oF).L.drop (0:Int).toNat).take ((bZ (I.U 2000 vs) mF).I-0).toNat)=_;simp_all
 refine Y3 (r:=(0,[.D T.length,.D ev.length,.A T])) ?_ e0 ?_;have:=Rf (I:=I) (v0:=2000) (N:= (zl 4)) (c:= .O (.scmp .eql) [gU 4 2001 1,bg]) (row:= .O .row [gU 4 2001 2]) (p:=λi=>decide ((Y5 (cg ev i) 1).S=key)) (f:=λi=> .A [Y5 (cg ev i) 2]) (n:=ev.length) (by omega) (λvs=> ?_) (λi a acc hi=> ?_) (λi a acc hi=> ?_);rw[<-hT];exact this;grind[cK,cM,cR];show decide ((bZ (I.U 2000 [a,.D i,acc]) (gU 4 2001 (1:Nat))).S=((I.U 2000 [a,.D i,acc]).w 5).S)=_;rw[vA (ko ..),cR _ _ _ (by omega),cR _ _ _ (by omega),h4,h5];show Val.A [bZ (I.U 2000 [a,.D i,acc]) (gU 4 2001 (2:Nat))]=_;rw[vA (ko ..),cR _ _ _ (by omega),h4];unfold BF;by_cases k3:k=3;rw[c9 k3];refine cD (by grind[dY,cI,cG,decide_eq_true]) (W6 ?_ ?_);show((decide ((0:Int)<=(bZ I mF).I)&&decide ((bZ I mF).I<=((bZ I oF).L.length:Int)))&&decide (((bZ I yI).L.length:Int)<=100))=true;rw[q1,q2,q3];exact and2 (and2 (i6 (by simp_all)) (i6 (by simp_all))) (i6 (by show(T.length:Int)<=100;omega))
 have q4:bZ I pK= .A (bif jY g T then jX g T else []):=by show I.f 824 [I.w 3,bZ I yI]=_;rw[f824,q3];show Val.A (bif jY (I.w 3).I T then jX (I.w 3).I T else [])=_;rw[h3]
 have D4: ∀vs,bZ (I.U 2000 vs) pK= .A (bif jY g T then jX g T else []):=λvs=>by show(I.U 2000 vs).f 824 [(I.U 2000 vs).w 3,bZ (I.U 2000 vs) yI]=_;rw[D3,cR _ _ _ (by omega),fh,f824];show Val.A (bif jY (I.w 3).I T then jX (I.w 3).I T else [])=_;rw[h3]
 have hSl:(bif jY g T then jX g T else []).length<=100:=by
  cases jY g T with
  |true=>grind[Nat.le_trans,Zk]
  |false=>grind
 generalize (bif jY g T then jX g T else [])=S at q4 D4 hSl⊢;have e5:bZ I Mz=cC (0,[.D (cw (λi=>[ep (cg S i)]) S.length).length,.D S.length,.A (cw (λi=>[ep (cg S i)]) S.length)]):=by show I.f 862 [.D 0,.D 0,.A [],.D (bZ I pK).L.length,bZ I pK]=_;rw[f862,q4];rfl
 have q6:bZ I ME= .A (cw (λi=>[ep (cg S i)]) S.length):=by show ck (bZ I Mz).L 1 2=_;rw[e5];rfl
 refine Y3 (r:=(0,[.D (cw (λi=>[ep (cg S i)]) S.length).length,.D S.length,.A (cw (λi=>[ep (cg S i)]) S.length)])) ?_ e5 (GC e5 q6 ?_);refine ZU (f:=λi=>ep (cg S i)) (n:=S.length) (by omega) (λvs=> ?_) (λi a acc hi=> ?_);rw[cK,D4];rfl;show Val.A [ck (bZ (I.U 2000 [a,.D i,acc]) pK).L ((I.U 2000 [a,.D i,acc]).w (2000+1)).I 0,ck (bZ (I.U 2000 [a,.D i,acc]) pK).L ((I.U 2000 [a,.D i,acc]).w (2000+1)).I 1]=_;rw[D4,ko];rfl;show some (0,[bZ I ME])=_;rw[q6]
 rw[b9 k3];refine Y9 (by grind[dY,cI,cG,decide_eq_false]) ?_;have e7:bZ I NZ=cC (0,[.D (mV k s l g T).length,.D T.length,.A (mV k s l g T)]):=by show I.f 863 [.D 0,.D 0,.A [],I.w 0,I.w 1,I.w 2,I.w 3,bZ I mF,bZ I oF]=_;rw[f863,q2];show lW (mV (I.w 0).I (I.w 1).I (I.w 2).I (I.w 3).I T) T.length=_;rw[h0,h1,h2,h3];rfl
 have q8:bZ I Qq= .A (mV k s l g T):=by show ck (bZ I NZ).L 1 2=_;rw[e7];rfl
 refine Y3 (r:=(0,[.D (mV k s l g T).length,.D T.length,.A (mV k s l g T)])) ?_ e7 (GC e7 q8 ?_);exact ec8 f704 h0 h1 h2 h3 k3 D1 D2 (by omega);show some (0,[bZ I Qq])=_;rw[q8];rfl
def uA(ev:U0)(key:qw)(s e:Int)(q:Nat):Bool:=decide ((Y5 (cg ev q) 1).S=key)&&(decide (s<=ci (cg ev q) 2)&&decide (ci (cg ev q) 2<e))
def jf(ev:U0)(key:qw)(s e:Int):U0:=cw (λq=>bif uA ev key s e q then [.A [Y5 (cg ev q) 3]]else []) ev.length
def Fq(a:U0):Val:=lW (jf (ce a 5).L (ce a 16).S (ce a 17).I (ce a 18).I) (ce a 5).L.length
def Fd(a:U0):Val:= .A [.A (aA (ce a 0).L)]
def DX(a:U0):Val:= .B ((ce a 0).L.any λr=>decide (Y2 r=⟨(ce a 1).S,(ce a 2).I,(ce a 3).I⟩))
def uF(ev:U0)(key r:Val):Val:= .A [key,Y5 r 0,Y5 r 1,(aA (jf ev key.S (ci r 0) (ci r 1))).getD 0 default,(aA (jf ev key.S (ci r 0) (ci r 1))).getD 1 default,(aA (jf ev key.S (ci r 0) (ci r 1))).getD 2 default,(aA (jf ev key.S (ci r 0) (ci r 1))).getD 3 default]
def pw(M:U0)(key r:Val):Bool:=M.any λx=>decide (Y2 x=⟨key.S,ci r 0,ci r 1⟩)
def vu(ev:U0)(key:Val)(M:U0)(r:Val):U0:=bif pw M key r then []else [uF ev key r]
def fa(ev:U0)(key:Val)(R M0:U0):Nat->U0
 |0=>M0
 |j+1=>fa ev key R M0 j++vu ev key (fa ev key R M0 j) (cg R j)
def pN(ev:U0)(key:Val)(R M0:U0)(j:Nat):Bool:= !pw (fa ev key R M0 j) key (cg R j)&& !decide (sE (jf ev key.S (ci (cg R j) 0) (ci (cg R j) 1))=0)
def BQ(ev:U0)(key:Val)(R M0:U0):Nat×U0:=match(List.range R.length).find? (pN ev key R M0)with
 |some j=>(1,[.B false,.D (fa ev key R M0 j).length,.D j,.A (fa ev key R M0 j)])
 |none=>(0,[.B false,.D (fa ev key R M0 R.length).length,.D R.length,.A (fa ev key R M0 R.length)])
def Wm(a:U0):Val:=cC (BQ (ce a 6).L (Y5 (cg (ce a 6).L (ce a 11).I.toNat) 1) (ce a 13).L (ce a 3).L)
theorem dv9(ev:U0)(key:qw)(s e:Int):(jf ev key s e).length<=ev.length:=by have:=jz (g:=λq=>bif uA ev key s e q then [.A [Y5 (cg ev q) 3]]else []) (m:=1) (λi=>by cases uA ev key s e i<;>simp) ev.length;grind[jf]
theorem Tc(ev:U0)(key:Val)(R M0:U0): ∀j,(fa ev key R M0 j).length<=M0.length+j
 |0=>j5 _
 |j+1=>by have:=Tc ev key R M0 j;grind[fa,vu,cg,List.length_append,pw]
variable{I:Opq}
def ed0{ev R:U0}{i j:Nat}(h4:(I.w 4).L=ev)(hi:I.w 2002= .D i)(hj:I.w 4002= .D j)(D17: ∀vs,bZ (I.U 6000 vs) eh= .A R)(hjR:j<R.length)(hn:ev.length<=100):
 cQ (λvs=>W5 Qh (I.U 6000 vs)) [.D 0,.D 0,.A []]=some (0,[.D (jf ev (Y5 (cg ev i) 1).S (ci (cg R j) 0) (ci (cg R j) 1)).length,.D ev.length,.A (jf ev (Y5 (cg ev i) 1).S (ci (cg R j) 0) (ci (cg R j) 1))]):=by
 generalize hkey:(Y5 (cg ev i) 1).S=key;generalize hs:ci (cg R j) 0=s;generalize he:ci (cg R j) 1=e;refine qj (λq acc=>[.D acc.length,.D q,.A acc]) (a0:=[]) (g:=λq=>bif uA ev key s e q then [.A [Y5 (cg ev q) 3]]else []) (n:=ev.length) rfl (λq hq=> ?_) ?_
 rw[List.nil_append];have ha:(cw (λq=>bif uA ev key s e q then [.A [Y5 (cg ev q) 3]]else []) q).length<=q:=by have:=jz (g:=λq=>bif uA ev key s e q then [Val.A [Y5 (cg ev q) 3]]else []) (m:=1) (λi=>by cases uA ev key s e i<;>simp) q;omega
 generalize cw (λq=>bif uA ev key s e q then [.A [Y5 (cg ev q) 3]]else []) q=acc at ha;have v0:(I.U 6000 [.D acc.length,.D q,.A acc]).w 6000= .D acc.length:=by rw[Y8];simp
 have v1:(I.U 6000 [.D acc.length,.D q,.A acc]).w 6001= .D q:=by rw[Y8];simp
 have v2:(I.U 6000 [.D acc.length,.D q,.A acc]).w 6002= .A acc:=by rw[Y8];simp
 have w4:((I.U 6000 [.D acc.length,.D q,.A acc]).w 4).L=ev:=by rw[cR _ _ _ (by omega),h4]
 have wi:(I.U 6000 [.D acc.length,.D q,.A acc]).w 2002= .D i:=by rw[cR _ _ _ (by omega),hi]
 have wj:(I.U 6000 [.D acc.length,.D q,.A acc]).w 4002= .D j:=by rw[cR _ _ _ (by omega),hj]
 have D17:=D17 [.D acc.length,.D q,.A acc];generalize I.U 6000 [.D acc.length,.D q,.A acc]=aa at*
 have inc:cr .add .i64 (q:Int) 1=((q+1:Nat):Int):=ft (n:=1000000) (by omega) (by omega);have skip:W5 (.W 0 [bH,zi bz,bD]) aa=some (0,[.D acc.length,.D (q+1:Nat),.A acc]):=by show some (0,[aa.w 6000,Val.D (cr .add .i64 (aa.w 6001).I 1),aa.w 6002])=_;rw[v0,v1,v2,a01,inc]
 have dc:bZ aa zf= .A (acc++[.A [Y5 (cg ev q) 3]]):=by show Val.A ((aa.w 6002).L++[.A [ck (aa.w 4).L (aa.w 6001).I 3]])=_;rw[v2,w4,v1];rfl
 have c1:dB aa (.O (.scmp .eql) [zg 4 6001 1,zg 4 2002 1])=decide ((Y5 (cg ev q) 1).S=key):=by show decide ((ck (aa.w 4).L (aa.w 6001).I 1).S=(ck (aa.w 4).L (aa.w 2002).I 1).S)=_;rw[w4,v1,wi,<-hkey];rfl
 have c2:dB aa (eQ (zg 4 6001 2) (cq eh bn 0))=decide (s<=ci (cg ev q) 2):=by show decide ((ck (bZ aa eh).L (aa.w 4002).I 0).I<=(ck (aa.w 4).L (aa.w 6001).I 2).I)=_;rw[w4,v1,D17,wj,<-hs];rfl
 have c3:dB aa (zs (zg 4 6001 2) (cq eh bn 1))=decide (ci (cg ev q) 2<e):=by show decide ((ck (aa.w 4).L (aa.w 6001).I 2).I<(ck (bZ aa eh).L (aa.w 4002).I 1).I)=_;rw[w4,v1,D17,wj,<-he];rfl
 unfold Qh uA;refine cD (by rw[cW,cI,v1,cK,cM,w4];exact i6 (by show(q:Int)<(ev.length:Int);omega)) (W6 (by rw[cJ,cG,cI,v1];exact i6 (by show(0:Int)<=(q:Int);omega)) ?_);by_cases q1:(Y5 (cg ev q) 1).S=key;refine cD (c1.trans (i6 q1)) (W6 ?_ ?_);rw[dG,cJ,cW,cG,cI,wj,cK,D17,i6 (show(0:Int)<=(Val.D (j:Int)).I by show(0:Int)<=(j:Int);omega),i6 (show(Val.D (j:Int)).I<((Val.A R).L.length:Int) by show(j:Int)<(R.length:Int);omega)];rfl;rw[i6 q1,B0];by_cases q2:s<=ci (cg ev q) 2;refine cD (c2.trans (i6 q2)) ?_;rw[i6 q2,B0];by_cases q3:ci (cg ev q) 2<e;rw[i6 q3,cond_true];refine cD (c3.trans (i6 q3)) (W6 (OB (q:= bH) (l:= bD) (c:=zf) v0 v2 dc (by omega)) ?_);show some (0,[Val.D (bZ aa zf).L.length,Val.D (cr .add .i64 (aa.w 6001).I 1),bZ aa zf])=_;rw[dc,v1,a01,inc];rfl;rw[j7 q3,cond_false,o9];exact Y9 (c3.trans (j7 q3)) skip;rw[j7 q2,F8,cond_false,o9];exact Y9 (c2.trans (j7 q2)) skip;simp_all[j7,F8,cond_false,o9,Y9]
 show W5 Qh (I.U 6000 [.D (jf ev key s e).length,.D ev.length,.A (jf ev key s e)])=some (1,[.D (jf ev key s e).length,.D ev.length,.A (jf ev key s e)]);generalize jf ev key s e=acc;have v0:(I.U 6000 [.D acc.length,.D ev.length,.A acc]).w 6000= .D acc.length:=by rw[Y8];simp
 have v1:(I.U 6000 [.D acc.length,.D ev.length,.A acc]).w 6001= .D ev.length:=by rw[Y8];simp
 have v2:(I.U 6000 [.D acc.length,.D ev.length,.A acc]).w 6002= .A acc:=by rw[Y8];simp
 have w4:((I.U 6000 [.D acc.length,.D ev.length,.A acc]).w 4).L=ev:=by rw[cR _ _ _ (by omega),h4]
 generalize I.U 6000 [.D acc.length,.D ev.length,.A acc]=aa at*
 refine Y9 (by rw[cW,cI,v1,cK,cM,w4];exact j7 (by show¬(ev.length:Int)<(ev.length:Int);omega)) ?_;show some (1,[aa.w 6000,aa.w 6001,aa.w 6002])=_;grind
variable{R M:U0}
variable{I:Opq}
def dd6(h:bZ I eh= .A R){v0:Nat}(hv:2002<v0)(vs:U0):bZ (I.U v0 vs) eh= .A R:=by show(I.U v0 vs).f 826 [(I.U v0 vs).w 0,(I.U v0 vs).w 1,(I.U v0 vs).w 2,(I.U v0 vs).w 3,(I.U v0 vs).w 4,ck ((I.U v0 vs).w 4).L ((I.U v0 vs).w 2002).I 1]=_;rw[cR _ _ _ (by omega),cR _ _ _ (by omega),cR _ _ _ (by omega),cR _ _ _ (by omega),cR _ _ _ (by omega),cR _ _ _ (by omega),fh];exact h
def Ik{x n:SX}(hx:bZ I x= .A M)(hn:bZ I n= .D M.length):bZ I (.O .lsub [x,aM,n])= .A M:=by show Val.A (((bZ I x).L.drop (0:Int).toNat).take ((bZ I n).I-0).toNat)=_;simp_all
def c77{x n:SX}{c:Int}(hx:bZ I x= .A M)(hn:bZ I n= .D M.length)(hc:(M.length:Int)<=c):dB I (zn (zn (zp n) (eE n (zL x))) (eE (zL (.O .lsub [x,aM,n])) (.C c)))=true:=by simp_all[dG,cJ,cK,Ik,cG,and2,i6]
def dT2(f820: ∀a,I.f 820 a=Fd a)(f827: ∀a,I.f 827 a=DX a)(f843: ∀a,I.f 843 a= .D (sE (ce a 0).L))(f867: ∀a,I.f 867 a=Fq a)
 {ev:U0} {i:Nat} (h4:(I.w 4).L=ev) (hi:I.w 2002= .D i) (D17:bZ I eh= .A R) (hiv:i<ev.length) (hn:ev.length<=100) (hM:M.length<=100000) (hR:R.length<=100000) (j:Nat) (hj:j<=R.length):
 W5 Zd (I.U 4000 [.B false,.D M.length,.D j,.A M])=if j<R.length then(if(!pw M (Y5 (cg ev i) 1) (cg R j)&& !decide (sE (jf ev (Y5 (cg ev i) 1).S (ci (cg R j) 0) (ci (cg R j) 1))=0))=true then some (2,[.B false,.D M.length,.D j,.A M])else some (0,[.B false,.D (M++vu ev (Y5 (cg ev i) 1) M (cg R j)).length,.D (j+1:Nat),.A (M++vu ev (Y5 (cg ev i) 1) M (cg R j))]))else some (1,[.B false,.D M.length,.D j,.A M]):=by
 have v0:(I.U 4000 [.B false,.D M.length,.D j,.A M]).w 4000= .B false:=by rfl
 have v1:(I.U 4000 [.B false,.D M.length,.D j,.A M]).w 4001= .D M.length:=by rfl
 have v2:(I.U 4000 [.B false,.D M.length,.D j,.A M]).w 4002= .D j:=by rfl
 have v3:(I.U 4000 [.B false,.D M.length,.D j,.A M]).w 4003= .A M:=by rfl
 have w4:((I.U 4000 [.B false,.D M.length,.D j,.A M]).w 4).L=ev:=by grind[cR]
 have wi:(I.U 4000 [.B false,.D M.length,.D j,.A M]).w 2002= .D i:=by grind[cR]
 have D17:=dd6 D17 (v0:=4000) (by omega) [.B false,.D M.length,.D j,.A M];have f820: ∀a,(I.U 4000 [.B false,.D M.length,.D j,.A M]).f 820 a=Fd a:=λa=>by grind[fh]
 have f827: ∀a,(I.U 4000 [.B false,.D M.length,.D j,.A M]).f 827 a=DX a:=λa=>by grind[fh]
 have f843: ∀a,(I.U 4000 [.B false,.D M.length,.D j,.A M]).f 843 a= .D (sE (ce a 0).L):=λa=>by grind[fh]
 have f867: ∀a,(I.U 4000 [.B false,.D M.length,.D j,.A M]).f 867 a=Fq a:=λa=>by grind[fh]
 generalize I.U 4000 [.B false,.D M.length,.D j,.A M]=aa at*
 have kx:bZ aa (zg 4 2002 1)=Y5 (cg ev i) 1:=by show ck (aa.w 4).L (aa.w 2002).I 1=_;rw[w4,wi];rfl
 have sx:bZ aa (cq eh bn 0)=Y5 (cg R j) 0:=by show ck (bZ aa eh).L (aa.w 4002).I 0=_;rw[D17,v2];rfl
 have ex:bZ aa (cq eh bn 1)=Y5 (cg R j) 1:=by show ck (bZ aa eh).L (aa.w 4002).I 1=_;rw[D17,v2];rfl
 generalize hkey:Y5 (cg ev i) 1=key at*
 by_cases c:j<R.length
 rw[c9 c];have inc:cr .add .i64 (j:Int) 1=((j+1:Nat):Int):=ft (n:=1000000) (by omega) (by omega);have jx:bZ aa (zi bn)= .D (j+1:Nat):=by show Val.D (cr .add .i64 (aa.w 4002).I 1)=_;simp_all
 refine cD (by simp_all[cW,cI,cK,i6]) ?_;refine W6 (by show dB aa (zn (zp aW) (zs aW (zl 4)))=true;rw[dG,cJ,cW,cG,cI,wi,cK,cM,w4];simp_all) ?_;refine W6 (by simp_all[cJ,cG,cI,i6]) ?_;refine W6 (c77 (x:= bF) (n:= bi) v3 v1 (by omega)) ?_;have hd:dB aa (.Q 827 [.O .lsub [bF,aM,bi],zg 4 2002 1,cq eh bn 0,cq eh bn 1])=pw M key (cg R j):=by show(aa.f 827 [bZ aa (.O .lsub [bF,aM,bi]),bZ aa (zg 4 2002 1),bZ aa (cq eh bn 0),bZ aa (cq eh bn 1)]).Z=_;rw[f827,Ik (x:= bF) (n:= bi) v3 v1,kx,sx,ex];rfl
 unfold vu;cases hh:pw M key (cg R j)with
 |true=>
  refine cD (hd.trans hh) ?_;show some (0,[aa.w 4000,aa.w 4001,bZ aa (zi bn),aa.w 4003])=_;grind
 |false=>
  refine Y9 (hd.trans hh) ?_;generalize hV:jf ev key.S (ci (cg R j) 0) (ci (cg R j) 1)=V;have hVl:V.length<=100:=by grind[Nat.le_trans,dv9]
  have e20:bZ aa qa=cC (0,[.D V.length,.D ev.length,.A V]):=by show aa.f 867 [.D 0,.D 0,.A [],.D 0,.D (aa.w 4).L.length,aa.w 4,aa.w 0,aa.w 1,aa.w 2,aa.w 3,aa.w 4001,aa.w 4003,aa.w 2002,.D (bZ aa eh).L.length,bZ aa eh,aa.w 4002,bZ aa (zg 4 2002 1),bZ aa (cq eh bn 0),bZ aa (cq eh bn 1)]=_;rw[f867,kx,sx,ex];show lW (jf (aa.w 4).L key.S (ci (cg R j) 0) (ci (cg R j) 1)) (aa.w 4).L.length=_;rw[w4,hV];rfl
  have a0:bZ aa (zo qa 0)= .D V.length:=by show ck (bZ aa qa).L 1 0=_;rw[e20];rfl
  have a2:bZ aa (zo qa 2)= .A V:=by show ck (bZ aa qa).L 1 2=_;rw[e20];rfl
  have e21:bZ aa nc= .A V:=Ik (x:= (zo qa 2)) (n:= (zo qa 0)) a2 a0;have g820: ∀p:Nat,bZ aa (.O .G [.Q 820 [nc],aM,.C p])=(aA V).getD p default:=λp=>by show ck (aa.f 820 [bZ aa nc]).L 0 (p:Int)=_;rw[f820,e21];rfl
  have h843:dB aa (cX (.Q 843 [nc]) aM)= !decide (sE V=0):=by show(!decide ((aa.f 843 [bZ aa nc]).I=0))=_;rw[f843,e21];rfl
  refine Y3 (r:=(0,[.D V.length,.D ev.length,.A V])) ?_ e20 (W6 (c77 a2 a0 (by omega)) ?_);rw[<-hV,<-hkey];exact ed0 w4 wi v2 (dd6 D17 (by omega)) c hn;by_cases cs:sE V=0
  have d22:bZ aa Cs= .A (M++[uF ev key (cg R j)]):=by show Val.A ((aa.w 4003).L++[.A [bZ aa (zg 4 2002 1),bZ aa (cq eh bn 0),bZ aa (cq eh bn 1),bZ aa (.O .G [.Q 820 [nc],aM,.C (0:Nat)]),bZ aa (.O .G [.Q 820 [nc],aM,.C (1:Nat)]),bZ aa (.O .G [.Q 820 [nc],aM,.C (2:Nat)]),bZ aa (.O .G [.Q 820 [nc],aM,.C (3:Nat)])]])=_;rw[v3,kx,sx,ex,g820,g820,g820,g820];unfold uF;rw[hV];rfl
  refine Y9 (by rw[h843,i6 cs];rfl) (W6 (OB (q:= bi) (l:= bF) (c:=Cs) v1 v3 d22 (by omega)) ?_);show some (0,[aa.w 4000,Val.D (bZ aa Cs).L.length,bZ aa (zi bn),bZ aa Cs])=_;simp_all;refine cD (by rw[h843,j7 cs];rfl) ?_;show some (2,[Val.B false,aa.w 4001,aa.w 4002,aa.w 4003])=_;grind
 .refine Y9 (by rw[cW,cI,v2,cK,D17];exact j7 (by show¬(j:Int)<(R.length:Int);omega)) ?_;show some (1,[aa.w 4000,aa.w 4001,aa.w 4002,aa.w 4003])=_;grind
def ed1(f820: ∀a,I.f 820 a=Fd a)(f827: ∀a,I.f 827 a=DX a)(f843: ∀a,I.f 843 a= .D (sE (ce a 0).L))(f867: ∀a,I.f 867 a=Fq a)
 {ev M0:U0} {i:Nat} (h4:(I.w 4).L=ev) (hi:I.w 2002= .D i) (D17:bZ I eh= .A R) (hiv:i<ev.length) (hn:ev.length<=100) (hM:M0.length+R.length<=100000):
 cQ (λvs=>W5 Zd (I.U 4000 vs)) [.B false,.D M0.length,.D 0,.A M0]=some (BQ ev (Y5 (cg ev i) 1) R M0):=by
 have run:=λj hj=>dT2 (M:=fa ev (Y5 (cg ev i) 1) R M0 j) f820 f827 f843 f867 h4 hi D17 hiv hn (by grind[Tc,Y5,cg]) (by omega) j hj
 unfold BQ;generalize Y5 (cg ev i) 1=key at run⊢;cases hf:(List.range R.length).find? (pN ev key R M0)with
 |none=>
  refine fD (st:=λm=>[.B false,.D (fa ev key R M0 m).length,.D m,.A (fa ev key R M0 m)]) (n:=R.length) (λm hm=> ?_) ?_;have h1:=B9.1 hf m (p7.2 hm);unfold pN at h1;rw[run m (by omega),c9 hm,b9 h1];rfl;grind
 |some j=>
  obtain⟨a,b,c⟩:=pg hf;refine fD (st:=λm=>[.B false,.D (fa ev key R M0 m).length,.D m,.A (fa ev key R M0 m)]) (n:=j) (λm hm=> ?_) ?_
  have h1: ¬pN ev key R M0 m=true:=by grind
  unfold pN at h1;rw[run m (by omega),c9 (by omega),b9 h1];rfl;unfold pN at b;grind
variable{ev:U0}
def gr(ev:U0)(i:Nat):Val:=Y5 (cg ev i) 1
def eG(k s l g:Int)(ev:U0)(i:Nat):U0:=ox k s l g ev (gr ev i).S
def eB(k s l g:Int)(ev:U0):Nat->U0
 |0=>[]
 |i+1=>fa ev (gr ev i) (eG k s l g ev i) (eB k s l g ev i) (eG k s l g ev i).length
def tY(k s l g:Int)(ev:U0)(i:Nat):Bj:=(List.range (eG k s l g ev i).length).find? (pN ev (gr ev i) (eG k s l g ev i) (eB k s l g ev i))
def JS(k s l g:Int)(ev:U0)(i:Nat):U0:=fa ev (gr ev i) (eG k s l g ev i) (eB k s l g ev i) ((tY k s l g ev i).getD 0)
def Fk(k s l g:Int)(ev:U0):Nat×U0:=match(List.range ev.length).find? (λi=>(tY k s l g ev i).isSome)with
 |some i=>(1,[.B false,.D (JS k s l g ev i).length,.D i,.A (JS k s l g ev i)])
 |none=>(0,[.B false,.D (eB k s l g ev ev.length).length,.D ev.length,.A (eB k s l g ev ev.length)])
def el0(a:U0):Val:=cC (Fk (ce a 7).I (ce a 8).I (ce a 9).I (ce a 10).I (ce a 6).L)
def eY(k s l g:Int)(ev:U0):Bool:=((List.range ev.length).find? (λi=>(tY k s l g ev i).isSome)).isNone
def rj(a:U0):Val:= .B (eY (ce a 0).I (ce a 1).I (ce a 2).I (ce a 3).I (ce a 4).L)
def li(X:Nat->U0->Val)(a:U0):Val:=if eY (ce a 0).I (ce a 1).I (ce a 2).I (ce a 3).I (ce a 4).L=true then X 490 [.A (eB (ce a 0).I (ce a 1).I (ce a 2).I (ce a 3).I (ce a 4).L (ce a 4).L.length)]else .A []
def c78(k s l g:Int)(ev:U0)(key:qw):(ox k s l g ev key).length<=16*ev.length:=by
 have hT:=c76 ev key;unfold ox BF;generalize md ev key=T at hT⊢;by_cases k3:k=3
 rw[c9 k3];generalize hS:(bif jY g T then jX g T else [])=S;have hSl:S.length<=T.length:=by
  rw[<-hS];cases jY g T with
  |true=>exact Zk g T
  |false=>grind
 rw[oI (λi=>ep (cg S i)) S.length];omega;rw[b9 k3];have:=jz (g:=λi=>dy k s l g (Y5 (cg T i) 0)) (m:=16) (λi=>DA k3) T.length;omega
def cH5(k s l g:Int)(ev:U0): ∀i,(eB k s l g ev i).length<=i*(16*ev.length)
 |0=>p8 _
 |i+1=>by have h1:=cH5 k s l g ev i;have h2:=Tc ev (gr ev i) (eG k s l g ev i) (eB k s l g ev i) (eG k s l g ev i).length;have h3:(eG k s l g ev i).length<=16*ev.length:=c78 k s l g ev _;show(fa ev (gr ev i) (eG k s l g ev i) (eB k s l g ev i) (eG k s l g ev i).length).length<=_;grind
variable{I:Opq}
section
variable(f820: ∀a,I.f 820 a=Fd a)(f826: ∀a,I.f 826 a=Iv a)(f827: ∀a,I.f 827 a=DX a)(f843: ∀a,I.f 843 a= .D (sE (ce a 0).L))(f866: ∀a,I.f 866 a=Wm a)(f867: ∀a,I.f 867 a=Fq a)
include f820 f826 f827 f843 f866 f867
def dT3{k s l g:Int}(h0:(I.w 0).I=k)(h1:(I.w 1).I=s)(h2:(I.w 2).I=l)(h3:(I.w 3).I=g)(h4:(I.w 4).L=ev)(hn:ev.length<=24)(i:Nat)(hi:i<=ev.length):
 W5 Yj (I.U 2000 [.B false,.D (eB k s l g ev i).length,.D i,.A (eB k s l g ev i)])=if i<ev.length then(if(tY k s l g ev i).isSome then some (2,[.B false,.D (JS k s l g ev i).length,.D i,.A (JS k s l g ev i)])else some (0,[.B false,.D (eB k s l g ev (i+1)).length,.D (i+1:Nat),.A (eB k s l g ev (i+1))]))else some (1,[.B false,.D (eB k s l g ev i).length,.D i,.A (eB k s l g ev i)]):=by
 have hM:=cH5 k s l g ev i;have hMs:eB k s l g ev (i+1)=fa ev (gr ev i) (eG k s l g ev i) (eB k s l g ev i) (eG k s l g ev i).length:=rfl;have hR:(eG k s l g ev i).length<=16*ev.length:=c78 k s l g ev _;have hM2:(eB k s l g ev i).length<=24*384:=l7 hM (N6 (by omega) (by omega));have hX:JS k s l g ev i=fa ev (gr ev i) (eG k s l g ev i) (eB k s l g ev i) ((tY k s l g ev i).getD 0):=rfl;have hF:tY k s l g ev i=(List.range (eG k s l g ev i).length).find? (pN ev (gr ev i) (eG k s l g ev i) (eB k s l g ev i)):=rfl;have hspR:eG k s l g ev i=ox k s l g ev (gr ev i).S:=rfl;rw[hMs,hX,hF];generalize eG k s l g ev i=R at hR hspR⊢;generalize eB k s l g ev i=M at hM2⊢;have v0:(I.U 2000 [.B false,.D M.length,.D i,.A M]).w 2000= .B false:=by rw[Y8];simp
 have v1:(I.U 2000 [.B false,.D M.length,.D i,.A M]).w 2001= .D M.length:=by rw[Y8];simp
 have v2:(I.U 2000 [.B false,.D M.length,.D i,.A M]).w 2002= .D i:=by rw[Y8];simp
 have v3:(I.U 2000 [.B false,.D M.length,.D i,.A M]).w 2003= .A M:=by rw[Y8];simp
 have w0:((I.U 2000 [.B false,.D M.length,.D i,.A M]).w 0).I=k:=by rw[cR _ _ _ (by omega),h0]
 have w1:((I.U 2000 [.B false,.D M.length,.D i,.A M]).w 1).I=s:=by rw[cR _ _ _ (by omega),h1]
 have w2:((I.U 2000 [.B false,.D M.length,.D i,.A M]).w 2).I=l:=by rw[cR _ _ _ (by omega),h2]
 have w3:((I.U 2000 [.B false,.D M.length,.D i,.A M]).w 3).I=g:=by rw[cR _ _ _ (by omega),h3]
 have w4:((I.U 2000 [.B false,.D M.length,.D i,.A M]).w 4).L=ev:=by rw[cR _ _ _ (by omega),h4]
 have f820: ∀a,(I.U 2000 [.B false,.D M.length,.D i,.A M]).f 820 a=Fd a:=λa=>by exact f820 a
 have f826: ∀a,(I.U 2000 [.B false,.D M.length,.D i,.A M]).f 826 a=Iv a:=λa=>by exact f826 a
 have f827: ∀a,(I.U 2000 [.B false,.D M.length,.D i,.A M]).f 827 a=DX a:=λa=>by exact f827 a
 have f843: ∀a,(I.U 2000 [.B false,.D M.length,.D i,.A M]).f 843 a= .D (sE (ce a 0).L):=λa=>by exact f843 a
 have f866: ∀a,(I.U 2000 [.B false,.D M.length,.D i,.A M]).f 866 a=Wm a:=λa=>by exact f866 a
 have f867: ∀a,(I.U 2000 [.B false,.D M.length,.D i,.A M]).f 867 a=Fq a:=λa=>by exact f867 a
 generalize I.U 2000 [.B false,.D M.length,.D i,.A M]=aa at*
 have l4:(bZ aa (zl 4)).I=(ev.length:Int):=by rw[cK,cM,w4]
 by_cases c:i<ev.length
 rw[c9 c];have d17:bZ aa eh= .A R:=by show aa.f 826 [aa.w 0,aa.w 1,aa.w 2,aa.w 3,aa.w 4,ck (aa.w 4).L (aa.w 2002).I 1]=_;rw[f826];show Val.A (ox (aa.w 0).I (aa.w 1).I (aa.w 2).I (aa.w 3).I (aa.w 4).L (ck (aa.w 4).L (aa.w 2002).I 1).S)=_;rw[w0,w1,w2,w3,w4,v2,hspR];rfl
 have e23:bZ aa fK=cC (BQ ev (gr ev i) R M):=by show aa.f 866 [aa.w 2000,.D (aa.w 2003).L.length,.D 0,aa.w 2003,.D 0,.D (aa.w 4).L.length,aa.w 4,aa.w 0,aa.w 1,aa.w 2,aa.w 3,aa.w 2002,.D (bZ aa eh).L.length,bZ aa eh]=_;rw[f866,d17];show cC (BQ (aa.w 4).L (Y5 (cg (aa.w 4).L (aa.w 2002).I.toNat) 1) R (aa.w 2003).L)=_;rw[w4,v2,v3];rfl
 have i1:bZ aa (zi aW)= .D (i+1:Nat):=by show Val.D (cr .add .i64 (aa.w 2002).I 1)=_;rw[v2,a01,ft (n:=1000000) (by omega) (by omega)]
 refine cD (by show dB aa (zs aW (zl 4))=true;rw[cW,cI,v2,l4];exact i6 (by show(i:Int)<(ev.length:Int);omega)) ?_;refine W6 (by rw[cJ,cG,cI,v2];exact i6 (by show(0:Int)<=(i:Int);omega)) ?_;refine W6 (by rw[cJ,cG,l4];exact i6 (by omega)) ?_;refine W6 (by show dB aa (cF aR (zl 2003))=true;rw[dY,cI,v1,cK,cM,v3];exact i6 rfl) ?_;refine Y3 (r:=BQ ev (gr ev i) R M) ?_ e23 ?_;show cQ _ [aa.w 2000,Val.D (aa.w 2003).L.length,.D 0,aa.w 2003]=_;rw[v0,v3];exact ed1 (M0:=M) f820 f827 f843 f867 w4 v2 d17 c (by omega) (by omega)
 unfold BQ at e23⊢;cases hf:(List.range R.length).find? (pN ev (gr ev i) R M)with
 |none=>
  rw[hf]at e23;have a0:bZ aa (zo fK 0)= .B false:=by show ck (bZ aa fK).L 1 0=_;rw[e23];rfl
  have a1:bZ aa (zo fK 1)= .D (fa ev (gr ev i) R M R.length).length:=by show ck (bZ aa fK).L 1 1=_;rw[e23];rfl
  have a3:bZ aa (zo fK 3)= .A (fa ev (gr ev i) R M R.length):=by show ck (bZ aa fK).L 1 3=_;rw[e23];rfl
  refine W6 (by show dB aa (cF (zo fK 1) (zL (zo fK 3)))=true;rw[dY,cK,a1,a3];exact i6 rfl) ?_;show some (0,[bZ aa (zo fK 0),Val.D (bZ aa (zo fK 3)).L.length,bZ aa (zi aW),bZ aa (zo fK 3)])=_;rw[a0,a3,i1];rfl
 |some j=>
  rw[hf]at e23;have a0:bZ aa (zo fK 0)= .B false:=by show ck (bZ aa fK).L 1 0=_;rw[e23];rfl
  have a1:bZ aa (zo fK 1)= .D (fa ev (gr ev i) R M j).length:=by show ck (bZ aa fK).L 1 1=_;rw[e23];rfl
  have a3:bZ aa (zo fK 3)= .A (fa ev (gr ev i) R M j):=by show ck (bZ aa fK).L 1 3=_;rw[e23];rfl
  refine W6 (by show dB aa (cF (zo fK 1) (zL (zo fK 3)))=true;rw[dY,cK,a1,a3];exact i6 rfl) ?_;show some (2,[bZ aa (zo fK 0),Val.D (bZ aa (zo fK 3)).L.length,aa.w 2002,bZ aa (zo fK 3)])=_;rw[a0,a3,v2];rfl
 .rw[b9 c];refine Y9 (by show dB aa (zs aW (zl 4))=false;rw[cW,cI,v2,l4];exact j7 (by show¬(i:Int)<(ev.length:Int);omega)) ?_;show some (1,[aa.w 2000,aa.w 2001,aa.w 2002,aa.w 2003])=_;rw[v0,v1,v2,v3]
def ed2{k s l g:Int}(h0:(I.w 0).I=k)(h1:(I.w 1).I=s)(h2:(I.w 2).I=l)(h3:(I.w 3).I=g)(h4:(I.w 4).L=ev)(hn:ev.length<=24):
 cQ (λvs=>W5 Yj (I.U 2000 vs)) [.B false,.D 0,.D 0,.A []]=some (Fk k s l g ev):=by
 have run:=dT3 f820 f826 f827 f843 f866 f867 h0 h1 h2 h3 h4 hn;unfold Fk;cases hf:(List.range ev.length).find? (λi=>(tY k s l g ev i).isSome)with
 |none=>
  refine fD (st:=λm=>[.B false,.D (eB k s l g ev m).length,.D m,.A (eB k s l g ev m)]) (n:=ev.length) (λm hm=> ?_) ?_;have h1:=B9.1 hf m (p7.2 hm);rw[run m (by omega),c9 hm,b9 h1];grind
 |some j=>
  obtain⟨a,b,c⟩:=pg hf;refine fD (st:=λm=>[.B false,.D (eB k s l g ev m).length,.D m,.A (eB k s l g ev m)]) (n:=j) (λm hm=> ?_) ?_;rw[run m (by omega),c9 (by omega),b9 (by rw[c m hm];simp)];grind
def dw0{X:Nat->U0->Val}(f490: ∀a,I.f 490 a=X 490 a)(f865: ∀a,I.f 865 a=el0 a){k s l g:Int}(h0:(I.w 0).I=k)(h1:(I.w 1).I=s)(h2:(I.w 2).I=l)(h3:(I.w 3).I=g)(h4:(I.w 4).L=ev)(hn:ev.length<=24)
 (hok:eY k s l g ev=true->(eB k s l g ev ev.length).length<=400/\(I.f 431 [.A (eB k s l g ev ev.length)]).Z=true):
 W5 T_rRows I=some (0,[rj [I.w 0,I.w 1,I.w 2,I.w 3,I.w 4],li X [I.w 0,I.w 1,I.w 2,I.w 3,I.w 4]]):=by
 have hv:([rj [I.w 0,I.w 1,I.w 2,I.w 3,I.w 4],li X [I.w 0,I.w 1,I.w 2,I.w 3,I.w 4]]:U0)=[.B (eY k s l g ev),if eY k s l g ev=true then X 490 [.A (eB k s l g ev ev.length)]else .A []]:=by show [Val.B (eY (I.w 0).I (I.w 1).I (I.w 2).I (I.w 3).I (I.w 4).L),if eY (I.w 0).I (I.w 1).I (I.w 2).I (I.w 3).I (I.w 4).L=true then X 490 [.A (eB (I.w 0).I (I.w 1).I (I.w 2).I (I.w 3).I (I.w 4).L (I.w 4).L.length)]else .A []]=_;grind
 have e0:bZ I uQ=cC (Fk k s l g ev):=by show I.f 865 [.B false,.D 0,.D 0,.A [],.D 0,.D (I.w 4).L.length,I.w 4,I.w 0,I.w 1,I.w 2,I.w 3]=_;rw[f865,<-h0,<-h1,<-h2,<-h3,<-h4];rfl
 refine Y3 (r:=Fk k s l g ev) (ed2 f820 f826 f827 f843 f866 f867 h0 h1 h2 h3 h4 hn) e0 ?_;unfold eY Fk at*
 cases hf:(List.range ev.length).find? (λi=>(tY k s l g ev i).isSome)with
 |none=>
  rw[hf]at e0 hok;obtain⟨k1,k2⟩:=hok rfl;generalize eB k s l g ev ev.length=M at*
  have a1:bZ I Ii= .D M.length:=by show ck (bZ I uQ).L 1 1=_;rw[e0];rfl
  have a2:bZ I Nq= .A M:=by show ck (bZ I uQ).L 1 3=_;rw[e0];rfl
  have a3:bZ I zS= .A M:=Ik (x:=Nq) (n:=Ii) a2 a1;refine W6 ?_ ?_
  rw[dG,dG,dG,cJ,cJ,cJ,cK,cK,a1,a2,a3,cG,cG];have:dB I (.Q 431 [zS])=true:=by show(I.f 431 [bZ I zS]).Z=true;grind
  exact and2 (and2 (i6 (by simp_all)) (i6 (by simp_all))) (and2 (i6 (by show(M.length:Int)<=400;omega)) this);show some (0,[Val.B true,I.f 490 [bZ I zS]])=_;grind
 |some i=>
  rw[hf]at e0;show some (0,[bZ I (zo uQ 0),Val.A []])=_;have:bZ I (zo uQ 0)= .B false:=by show ck (bZ I uQ).L 1 0=_;rw[e0];rfl
  grind
end
def vX(L:U0)(mark:Int)(i:Nat):Bool:=decide (mark<ci (cg L i) 2)
def ET(L:U0)(mark:Int):Nat×U0:=gg (.D 0) (λk=>[.D k,.D k]) (vX L mark) L.length
def el1(a:U0):Val:=cC (ET (ce a 3).L (ce a 4).I)
def fw(L:U0)(mark:Int)(k:Nat):Nat->Nat×U0
 |0=>(k,L)
 |j+1=>if ci (cg (fw L mark k j).2 (k+1+j)) 2<=mark then((fw L mark k j).1+1,(fw L mark k j).2.set (fw L mark k j).1 (cO (cg (fw L mark k j).2 (k+1+j))))else fw L mark k j
def CQ(L:U0)(mark:Int)(k:Nat):Nat×U0:=(0,[.D (fw L mark k (L.length-(k+1))).1,.D L.length,.A (fw L mark k (L.length-(k+1))).2])
def el2(a:U0):Val:=cC (CQ (ce a 2).L (ce a 5).I (ce a 0).I.toNat)
def ia(mark:Int)(r:Val):Bool:=decide (ci r 2<=mark)
def eI(X:Nat->U0->Val)(a:U0):Val:= .A ((X 490 [ce a 0]).L.filter (ia (ce a 1).I))
theorem pt{l:U0}{i:Nat}(h:i<l.length):cg l i=l[i]:=by simp[cg,k5,h]
def NN{l:U0}{i:Nat}(h:i<l.length):l.take (i+1)=l.take i++[cg l i]:=by rw[P3,show l[i]?.toList=[cg l i] by simp[cg,k5,h]]
def Vb{L:U0}{mark:Int}{k:Nat}(hL: ∀r∈L,cO r=r)(hk:(L.take k).filter (ia mark)=L.take k)(hkn:k<L.length)(hkp:ia mark (cg L k)=false): ∀j,k+1+j<=L.length->
 (fw L mark k j).1<=k+j/\k<=(fw L mark k j).1/\(fw L mark k j).2.length=L.length/\(∀q,k+1+j<=q->cg (fw L mark k j).2 q=cg L q)/\(fw L mark k j).2.take (fw L mark k j).1=(L.take (k+1+j)).filter (ia mark)
 |0,_=>by refine⟨j5 _,j5 _,rfl,λ_ _=>rfl,?_⟩;show L.take k=(L.take (k+1)).filter (ia mark);rw[NN hkn,E3,hk,V8 (by rw[hkp];simp)];simp
 |j+1,hj=>by
  obtain⟨h1,h2,h3,h4,h5⟩:=Vb hL hk hkn hkp j (by omega);have ha:=h4 (k+1+j) (j5 _);have hs:(L.take (k+1+(j+1))).filter (ia mark)=(L.take (k+1+j)).filter (ia mark)++(if ia mark (cg L (k+1+j))then [cg L (k+1+j)]else []):=by
   rw[show k+1+(j+1)=(k+1+j)+1 by omega,NN (by omega),E3];cases hc:ia mark (cg L (k+1+j))with
   |true=>rw[V9 hc];rfl
   |false=>rw[V8 (by rw[hc];simp)];rfl
  unfold fw;rw[ha,hs,<-h5];by_cases c:ci (cg L (k+1+j)) 2<=mark
  rw[c9 c,c9 (show ia mark (cg L (k+1+j))=true from i6 c),hL _ (oR (by omega))];generalize fw L mark k j=p at*
  obtain⟨w,M⟩:=p;refine⟨by omega,by omega,by simpa using h3,λq hq=> ?_,?_⟩;have:=h4 q (by omega);rw[<-this];show(M.set w (cg L (k+1+j))).getD q (.A [])=M.getD q (.A []);rw[k5,k5,W1 (by omega)];have hM:M.length=L.length:=h3;rw[NN (by rw[C1,hM];omega),List.take_set_of_le (j5 _)];rw[pt (by rw[C1,hM];omega),List.getElem_set_self];rw[if_neg c,if_neg (show¬ia mark (cg L (k+1+j))=true from by unfold ia;rw[decide_eq_false c];simp),List.append_nil];exact⟨by omega,h2,h3,λq hq=>h4 q (by omega),rfl⟩
variable{I:Opq}
section
variable{L:U0}{mark:Int}(D0: ∀vs,bZ (I.U 2000 vs) (.Q 490 [aT])= .A L)(hm:(I.w 5).I=mark)
include D0 hm
def ed3(hn:L.length<=400):cQ (λvs=>W5 Te (I.U 2000 vs)) [.D 0,.D 0]=some (ET L mark):=by
 have run: ∀(x:Val) (i:Nat),W5 Te (I.U 2000 [x,.D i])=if i<L.length then(if vX L mark i then some (2,[.D i,.D i])else some (0,[x,.D (i+1:Nat)]))else some (1,[x,.D i]):=λx i=>by
  have v0:(I.U 2000 [x,.D i]).w 2000=x:=by rw[Y8];simp
  have v1:(I.U 2000 [x,.D i]).w 2001= .D i:=by rw[Y8];simp
  have w5:((I.U 2000 [x,.D i]).w 5).I=mark:=by rw[cR _ _ _ (by omega),hm]
  have D0:=D0 [x,.D i];generalize I.U 2000 [x,.D i]=aa at*
  have l0:(bZ aa jt).I=(L.length:Int):=by show((bZ aa (.Q 490 [aT])).L.length:Int)=_;rw[D0];rfl
  by_cases c:i<L.length
  rw[c9 c];refine cD (by rw[cW,cI,v1,l0];exact i6 (by show(i:Int)<(L.length:Int);omega)) (W6 (by rw[cJ,cG,cI,v1];exact i6 (by show(0:Int)<=(i:Int);omega)) ?_);have hq:dB aa (dF (cq (.Q 490 [aT]) aR 2) bg)=vX L mark i:=by show decide ((aa.w 5).I<(ck (bZ aa (.Q 490 [aT])).L (aa.w 2001).I 2).I)=_;rw[D0,v1,w5];rfl
  cases hl:vX L mark i with
  |true=>
   rw[c9 rfl];refine cD (hq.trans hl) ?_;show some (2,[aa.w 2001,aa.w 2001])=_;rw[v1]
  |false=>
   rw[b9 (by simp)];refine Y9 (hq.trans hl) ?_;show some (0,[aa.w 2000,Val.D (cr .add .i64 (aa.w 2001).I 1)])=_;rw[v0,v1,a01,ft (n:=1000000) (by omega) (by omega)]
  .rw[b9 c];refine Y9 (by rw[cW,cI,v1,l0];exact j7 (by show¬(i:Int)<(L.length:Int);omega)) ?_;show some (1,[aa.w 2000,aa.w 2001])=_;rw[v0,v1]
 refine wH (λi hi hb=> ?_) (λi hi hb=> ?_) ?_;rw[run,c9 hi,b9 (by rw[hb];simp)];rw[run,c9 hi,c9 hb];grind
def ed4(hL: ∀r∈L,cO r=r){k:Nat}(hk:(L.take k).filter (ia mark)=L.take k)(hkn:k<L.length)(hkp:ia mark (cg L k)=false)(hn:L.length<=400):
 cQ (λvs=>W5 ST (I.U 2000 vs)) [.D k,.D (k+1:Nat),.A L]=some (CQ L mark k):=by
 refine fD (st:=λj=>[.D (fw L mark k j).1,.D (k+1+j:Nat),.A (fw L mark k j).2]) (n:=L.length-(k+1)) (λj hj=> ?_) ?_
 obtain⟨h1,h2,h3,h4,h5⟩:=Vb hL hk hkn hkp j (by omega);show W5 ST (I.U 2000 [.D (fw L mark k j).1,.D (k+1+j:Nat),.A (fw L mark k j).2])=some (0,[.D (fw L mark k (j+1)).1,.D (k+1+j+1:Nat),.A (fw L mark k (j+1)).2]);rw[show fw L mark k (j+1)=if ci (cg (fw L mark k j).2 (k+1+j)) 2<=mark then((fw L mark k j).1+1,(fw L mark k j).2.set (fw L mark k j).1 (cO (cg (fw L mark k j).2 (k+1+j))))else fw L mark k j from rfl];generalize fw L mark k j=p at*
 obtain⟨wr,M⟩:=p;replace h3:M.length=L.length:=h3;have v0:=ua I 2000 (.D wr) (.D (k+1+j:Nat)) (.A M);have v1:(I.U 2000 [.D wr,.D (k+1+j:Nat),.A M]).w 2001=_:=ko I 2000 (.D wr) (.D (k+1+j:Nat)) (.A M);have v2:(I.U 2000 [.D wr,.D (k+1+j:Nat),.A M]).w 2002=_:=uu I 2000 (.D wr) (.D (k+1+j:Nat)) (.A M);have w5:((I.U 2000 [.D wr,.D (k+1+j:Nat),.A M]).w 5).I=mark:=by grind[cR]
 have D0:=D0 [.D wr,.D (k+1+j:Nat),.A M];generalize I.U 2000 [.D wr,.D (k+1+j:Nat),.A M]=aa at*
 generalize hr:k+1+j=r at*
 have l0:(bZ aa jt).I=(L.length:Int):=by show((bZ aa (.Q 490 [aT])).L.length:Int)=_;rw[D0];rfl
 have gx: ∀c:Nat,bZ aa (.O .G [aW,aR,.C c])=Y5 (cg M r) c:=λc=>by show ck (aa.w 2002).L (aa.w 2001).I (c:Int)=_;rw[v1,v2];rfl
 have hq:dB aa (dF (zg 2002 2001 2) bg)=decide (mark<ci (cg M r) 2):=by show decide ((aa.w 5).I<(bZ aa (.O .G [aW,aR,.C (2:Nat)])).I)=_;rw[gx,w5];rfl
 have inc:cr .add .i64 (r:Int) 1=((r+1:Nat):Int):=ft (n:=1000000) (by omega) (by omega);have incw:cr .add .i64 (wr:Int) 1=((wr+1:Nat):Int):=ft (n:=1000000) (by omega) (by omega);refine cD (by rw[cW,cI,v1,l0];exact i6 (by show(r:Int)<(L.length:Int);omega)) (W6 (by rw[cJ,cG,cI,v1];rfl) (W6 (by rw[cW,cI,v1,cK,cM,v2];exact i6 (by show(r:Int)<(M.length:Int);omega)) ?_));by_cases c:ci (cg M r) 2<=mark;rw[c9 c];refine cD (by grind[je,decide_eq_false]) (W6 ?_ (W6 ?_ ?_));rw[dG,cJ,cW,cG,cI,show aa.w 2000=_ from v0,l0];exact and2 (i6 (by show(0:Int)<=(wr:Int);omega)) (i6 (by show(wr:Int)<(L.length:Int);omega));rw[cW,cI,show aa.w 2000=_ from v0,cK,cM,v2];exact i6 (by show(wr:Int)<(M.length:Int);omega);show some (0,[Val.D (cr .add .i64 (aa.w 2000).I 1),Val.D (cr .add .i64 (aa.w 2001).I 1),Val.A ((aa.w 2002).L.set (aa.w 2000).I.toNat (.A [bZ aa (.O .G [aW,aR,.C (0:Nat)]),bZ aa (.O .G [aW,aR,.C (1:Nat)]),bZ aa (.O .G [aW,aR,.C (2:Nat)]),bZ aa (.O .G [aW,aR,.C (3:Nat)]),bZ aa (.O .G [aW,aR,.C (4:Nat)]),bZ aa (.O .G [aW,aR,.C (5:Nat)]),bZ aa (.O .G [aW,aR,.C (6:Nat)])]))])=_;rw[gx,gx,gx,gx,gx,gx,gx,show aa.w 2000=_ from v0,v1,v2,a01,a01,inc,incw];rfl;refine Y9 (by rw[je,hq,i6 (by omega)];rfl) ?_;show some (0,[aa.w 2000,Val.D (cr .add .i64 (aa.w 2001).I 1),aa.w 2002])=_;grind[a01]
 rw[show k+1+(L.length-(k+1))=L.length by omega];generalize fw L mark k (L.length-(k+1))=p;have D0:=D0 [.D p.1,.D L.length,.A p.2];have v0:(I.U 2000 [.D p.1,.D L.length,.A p.2]).w 2000=_:=ua ..;have v1:(I.U 2000 [.D p.1,.D L.length,.A p.2]).w 2001=_:=ko ..;have v2:(I.U 2000 [.D p.1,.D L.length,.A p.2]).w 2002=_:=uu ..;generalize I.U 2000 [.D p.1,.D L.length,.A p.2]=aa at*
 have l0:(bZ aa jt).I=(L.length:Int):=by show((bZ aa (.Q 490 [aT])).L.length:Int)=_;rw[D0];rfl
 refine Y9 (by rw[cW,cI,v1,l0];exact j7 (by show¬(L.length:Int)<(L.length:Int);omega)) ?_;show some (1,[aa.w 2000,aa.w 2001,aa.w 2002])=_;grind
end
variable{I:Opq}
def dw1{X:Nat->U0->Val}(f490: ∀a,I.f 490 a=X 490 a)(h490: ∀v,(I.f 431 [v]).Z=true-> ∃l',X 490 [v]= .A l'/\l'.Perm v.L/\ ∀r∈l',cO r=r)
 (f763: ∀a,I.f 763 a=el1 a) (f764: ∀a,I.f 764 a=el2 a) (hn:(I.w 4).L.length<=400) (h431:(I.f 431 [I.w 4]).Z=true) (h491:(I.f 491 [I.w 4]).Z=true):
 W5 T_fired I=some (0,[eI X [I.w 4,I.w 5]]):=by
 obtain⟨L,hL,hp,hL7⟩:=h490 _ h431;have hLn:L.length<=400:=by rw[hp.length_eq];exact hn
 generalize hm:(I.w 5).I=mark;have hv:eI X [I.w 4,I.w 5]= .A (L.filter (ia mark)):=by show Val.A ((X 490 [I.w 4]).L.filter (ia (I.w 5).I))=_;rw[hL,hm];rfl
 rw[hv];have dL:bZ I (.Q 490 [aT])= .A L:=by show I.f 490 [I.w 4]=_;rw[f490,hL]
 have D0: ∀vs,bZ (I.U 2000 vs) (.Q 490 [aT])= .A L:=λvs=>by exact dL
 have l0:bZ I jt= .D L.length:=by show Val.D ((bZ I (.Q 490 [aT])).L.length:Int)=_;rw[dL];rfl
 have e1:I.f 763 [.D 0,.D 0,bZ I jt,bZ I (.Q 490 [aT]),I.w 5,bZ I jt]=cC (ET L mark):=by rw[f763,dL];show cC (ET L (I.w 5).I)=_;rw[hm]
 refine W6 ?_ (Y3 (r:=ET L mark) (ed3 D0 hm hLn) e1 ?_);rw[dG,dG,cJ,cK,cM,cG];exact and2 (and2 (i6 (by omega)) h431) h491
 unfold ET at*
 cases hf:(List.range L.length).find? (vX L mark)with
 |none=>
  have hno:L.filter (ia mark)=L:=by
   refine W2.2 λr hr=> ?_
   obtain⟨i,hi,rfl⟩:=C3 hr;have h1:=B9.1 hf i (p7.2 hi);unfold vX at h1;rw[pt hi]at h1;exact i6 (by simpa using h1)
  have hs:gg (.D 0) (λk=>[.D k,.D k]) (vX L mark) L.length=(0,[.D 0,.D L.length]):=by unfold gg;rw[hf]
  rw[hs];show some (0,[bZ I (.Q 490 [aT])])=_;rw[dL,hno]
 |some k=>
  obtain⟨hk,hb,hc⟩:=pg hf;have hs:gg (.D 0) (λk=>[.D k,.D k]) (vX L mark) L.length=(1,[.D k,.D k]):=by unfold gg;rw[hf]
  rw[hs]at e1⊢;have q1:bZ I wT= .D k:=by show ck (I.f 763 [.D 0,.D 0,bZ I jt,bZ I (.Q 490 [aT]),I.w 5,bZ I jt]).L 1 0=_;rw[e1];rfl
  have q2:bZ I HV= .D (k+1:Nat):=by show Val.D (cr .add .i64 (bZ I wT).I 1)=_;rw[q1,a01,ft (n:=1000000) (by omega) (by omega)]
  have hk1:(L.take k).filter (ia mark)=L.take k:=by
   refine W2.2 λr hr=> ?_
   obtain⟨i,hi,rfl⟩:=C3 hr;rw[l5]at hi;have h1:=hc i (by omega);unfold vX at h1;rw[pt (by omega)]at h1;rw[List.getElem_take];exact i6 (by have:=of_decide_eq_false h1;omega)
  have hk2:ia mark (cg L k)=false:=by have:=j6 hb;exact j7 (by omega)
  obtain⟨i1,i2,i3,i4,i5⟩:=Vb hL7 hk1 hk hk2 (L.length-(k+1)) (by omega);rw[show k+1+(L.length-(k+1))=L.length by omega,A6]at i5;have e3:bZ I IK=cC (CQ L mark k):=by show I.f 764 [bZ I wT,bZ I HV,bZ I (.Q 490 [aT]),bZ I jt,bZ I (.Q 490 [aT]),I.w 5]=_;rw[f764,dL,q1];show cC (CQ L (I.w 5).I k)=_;rw[hm]
  unfold CQ at e3;have hlp:=ed4 D0 hm hL7 hk1 hk hk2 hLn;unfold CQ at hlp;generalize fw L mark k (L.length-(k+1))=p at*
  obtain⟨wr,M⟩:=p;replace i3:M.length=L.length:=i3;have q4:bZ I oY= .D wr:=by show ck (bZ I IK).L 1 0=_;rw[e3];rfl
  have q8:bZ I wQ= .A M:=by show ck (bZ I IK).L 1 2=_;rw[e3];rfl
  have q5:dB I Xx=true:=by show decide ((0:Int)<=(bZ I oY).I)=true;rw[q4];exact i6 (by show(0:Int)<=(wr:Int);omega)
  have q6:bZ I yY= .D ((L.length:Int)-wr):=by show Val.D ((bZ I jt).I-(bZ I oY).I)=_;rw[l0,q4];rfl
  have q7:bZ I Md= .D L.length:=by show Val.D ((bZ I oY).I+(bZ I yY).I)=_;rw[q4,q6];show Val.D ((wr:Int)+((L.length:Int)-wr))=_;congr 1;omega
  have q9: ∃Z,bZ I Od= .A (M.take wr++Z):=by refine⟨(bZ I (zc (.O .lrep [yY,.O .row [.cs [],aM,aM,aM,aM,aM,aM]]) (.O .lsub [wQ,Md,zL wQ]))).L,?_⟩;show Val.A (((bZ I wQ).L.drop (0:Int).toNat).take ((bZ I oY).I-0).toNat++_)=_;rw[q8,q4];exact congrArg Val.A (congrArg (· ++_) (by simp))
  obtain⟨Z,q9⟩:=q9;have hwl:(M.take wr).length=wr:=by rw[l5];omega
  refine Y9 (by rw[dY,q1,cG];exact j7 (by show¬(k:Int)= -1;omega)) (Y3 (r:=(0,[.D wr,.D L.length,.A M])) ?_ e3 (W6 ?_ (W6 ?_ (W6 ?_ ?_))));show cQ _ [bZ I wT,bZ I HV,bZ I (.Q 490 [aT])]=_;rw[q1,q2,dL];exact hlp;rw[dG,q5,cJ,q4,l0];exact and2 rfl (i6 (by show(wr:Int)<=(L.length:Int);omega));rw[dG,dG,dG,q5,cJ,cJ,cJ,q6,q7,cK,q8,cG,cG];exact and2 (and2 rfl (i6 (by show(0:Int)<=(L.length:Int)-wr;omega))) (and2 (i6 (by show(L.length:Int)-wr<=1000000;omega)) (i6 (by show(L.length:Int)<=(M.length:Int);omega)));rw[cJ,q4,cK,q9];exact i6 (by show(wr:Int)<=((M.take wr++Z).length:Int);rw[k7];omega);show some (0,[Val.A (((bZ I Od).L.drop (0:Int).toNat).take ((bZ I oY).I-0).toNat)])=_;rw[q9,q4];show some (0,[Val.A (((M.take wr++Z).drop 0).take ((wr:Int)-0).toNat)])=_;rw[show((wr:Int)-0).toNat=wr by omega,G1,T5 (by omega),J9 (by omega),i5]
variable{l:U0}{X:Nat->U0->Val}
def Qe(l:U0)(i:Nat):Int:=Y4 (ci (cg l i) 0) (Y5 (cg l i) 1).S (ci (cg l i) 2) (ci (cg l i) 3)
def evT(l:U0)(i:Nat):U0:=lO (l.take i)
def rE(k s w g:Int)(l:U0)(i:Nat):Int:=if Qe l i≠0 then Qe l i else if eY k s w g (evT l (i+1))=true then 0 else 30
def rF(k s w g:Int)(l:U0):Bj:=(List.range l.length).find? λi=>decide (rE k s w g l i≠0)
def eq3(k s w g:Int)(l:U0):Nat×U0:=match rF k s w g l with
 |some i=>(1,[.D (rE k s w g l i),.D i])
 |none=>(0,[.D 0,.D l.length])
def eq4(a:U0):Val:= .D (Y4 (ce a 0).I (ce a 1).S (ce a 2).I (ce a 3).I)
def oG(a:U0):Val:= .A (lO (ce a 0).L)
def mZ(a:U0):Val:=pb (ce a 0).L (ce a 0).L.length
def oU(a:U0):Val:= .A (sA (ce a 0).L (ce a 1).I)
def eq5(a:U0):Val:=cC (eq3 (ce a 5).I (ce a 6).I (ce a 7).I (ce a 8).I (ce a 4).L)
def rTe(k s w g:Int)(l:U0):Int:=if cY k s w g=true then(match rF k s w g l with|some i=>rE k s w g l i|none=>0)else 2
def rTr(X:Nat->U0->Val)(k s w g:Int)(l:U0):Val:=if cY k s w g=true then(match rF k s w g l with|some _=> .A []|none=>oU [li X [.D k,.D s,.D w,.D g,.A (lO l)],mZ [.A l]])else .A []
def eq6(a:U0):Val:= .D (rTe (ce a 0).I (ce a 1).I (ce a 2).I (ce a 3).I (ce a 4).L)
def eq7(X:Nat->U0->Val)(a:U0):Val:=rTr X (ce a 0).I (ce a 1).I (ce a 2).I (ce a 3).I (ce a 4).L
variable{I:Opq}
section
variable(f700: ∀a,I.f 700 a= .B (cY (ce a 0).I (ce a 1).I (ce a 2).I (ce a 3).I))(f701: ∀a,I.f 701 a=eq4 a)(f829: ∀a,I.f 829 a=rj a)(f830: ∀a,I.f 830 a=oG a)
include f701 f829 f830
