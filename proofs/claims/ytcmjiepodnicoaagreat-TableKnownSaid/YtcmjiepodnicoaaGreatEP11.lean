import Derived.Test.YtcmjiepodnicoaaGreatEP0
set_option linter.unusedSimpArgs false
set_option linter.unusedVariables false
namespace Go.Ev.S9
open Go Go.Ev
variable{l:List Val}
def oQ(l:List Val):Option Nat:=(List.range l.length).find? λi=>(ik l i).isSome
def Df(l:List Val):Nat×List Val:=match oQ l with
 |some i=>(1,[.vi (fa l i ((ik l i).getD 0)).length,.vb true,.vi i,.vl (fa l i ((ik l i).getD 0))])
 |none=>(0,[.vb false,.vi l.length])
def CM(a:List Val):Val:=cA (Df (ce a 3).toL)
def oi:Nat->List Val->List Val
 |0,l=>l
 |f+1,l=>match oQ l with
  |some i=>oi f (fa l i ((ik l i).getD 0))
  |none=>l
def iu(l:List Val):List Val:=oi l.length l
def e63(a:List Val):Val:=cA (0,[.vi (iu (ce a 2).toL).length,.vb false,.vl (iu (ce a 2).toL)])
theorem Xt(l:List Val){i j:Nat}(h:i<j): ∀n,(cB (jj l i j) n).length+((if i<n then 1 else 0)+(if j<n then 1 else 0))=n
 |0=>rfl
 |n+1=>by
  have ih:=Xt l h n;show(cB (jj l i j) n++jj l i j n).length+_=_;unfold jj at ih⊢;grind
theorem Vk{i j:Nat}(h:i<j)(hj:j<l.length):(fa l i j).length+1=l.length:=by
 have:=Xt l h l.length;grind[fa,List.length_append]
theorem KX{i:Nat}(h:oQ l=some i): ∃j,ik l i=some j/\i<j/\j<l.length/\tv l i j=true:=by
 obtain⟨a,b,c⟩:=oY h;cases hj:ik l i with
 |none=>grind
 |some j=>
  obtain⟨a',b',c'⟩:=oY hj;grind
theorem bY1(h:oQ l=none){i j:Nat}(hij:i<j)(hj:j<l.length):tv l i j=false:=by
 have h1:=A7.1 h i (r9.2 (by omega));have h2:ik l i=none:=by simpa using h1
 have h3:=A7.1 h2 j (r9.2 hj);simpa[hij]using h3
variable{I:Opq}
theorem d4{x:Val}{j:Nat}:(I.upd 4000 [x,.vi j]).w 4000=x/\(I.upd 4000 [x,.vi j]).w 4001= .vi j:=⟨by rfl,by rfl⟩
theorem dC2(f858: ∀a,I.f 858 a=tK a)(f859: ∀a,I.f 859 a=pC a)(h0:I.w 2000= .vi l.length)(h2:(I.w 2002).toL=l)(hn:l.length<=1000)(i:Nat)(hi:i<=l.length):
 Z0 Ow (I.upd 4000 [.vb false,.vi i])=if i<l.length then(match ik l i with|some j=>some (2,[.vi (fa l i j).length,.vb true,.vi i,.vl (fa l i j)])|none=>some (0,[.vb false,.vi (i+1:Nat)]))else some (1,[.vb false,.vi i]):=by
 obtain⟨v0,v1⟩:=d4 (I:=I) (x:= .vb false) (j:=i);have w0:(I.upd 4000 [.vb false,.vi i]).w 2000= .vi l.length:=by grind[cU]
 have w2:((I.upd 4000 [.vb false,.vi i]).w 2002).toL=l:=by grind[cU]
 have wf: ∀a,(I.upd 4000 [.vb false,.vi i]).f 858 a=tK a:=λa=>by grind[eV]
 have wg: ∀a,(I.upd 4000 [.vb false,.vi i]).f 859 a=pC a:=λa=>by grind[eV]
 generalize I.upd 4000 [.vb false,.vi i]=aa at*
 refine W8 (by simp_all[cI,cF,cy,c9]) ?_;by_cases c:i<l.length
 .rw[e8 c];have inc:cn .add .i64 (i:Int) 1=((i+1:Nat):Int):=eJ (n:=1000000) (by omega) (by omega);have di:bZ aa (zi bg)= .vi (i+1:Nat):=by
   show Val.vi (cn .add .i64 (aa.w 4001).toI 1)=_;simp_all
  have d6:bZ aa X6=cA (yB (.vb false) l i):=by
   show aa.f 858 [aa.w 4000,bZ aa (zi bg),aa.w 2000,aa.w 2002,aa.w 4001]=_;rw[wf];show cA (yB (aa.w 4000) (aa.w 2002).toL (aa.w 4001).toI.toNat)=_;simp_all
  refine cG (by simp_all[cT,cy,c9]) (Z5 (r:=yB (.vb false) l i) ?_ d6 ?_)
  .show cO _ [aa.w 4000,bZ aa (zi bg)]=_;grind[dV4]
  .have hR:yB (.vb false) l i=match ik l i with
    |some j=>(1,[.vi (fa l i j).length,.vb true,.vi j,.vl (fa l i j)])
    |none=>(0,[.vb false,.vi l.length]):=rfl
   cases hj:ik l i with
   |none=>
    rw[hj]at hR;rw[hR]at d6⊢;show some (0,[co (bZ aa X6).toL 1 0,bZ aa (zi bg)])=_;rw[d6,di];rfl
   |some j=>
    rw[hj]at hR;rw[hR]at d6⊢;have e0:bZ aa (zo X6 0)= .vi (fa l i j).length:=by show co (bZ aa X6).toL 1 0=_;rw[d6];rfl
    have e1:bZ aa (zo X6 1)= .vb true:=by show co (bZ aa X6).toL 1 1=_;rw[d6];rfl
    have e3:bZ aa (zo X6 3)= .vl (fa l i j):=by show co (bZ aa X6).toL 1 3=_;rw[d6];rfl
    refine W8 (by rw[eo,Z8,e0,e3];exact c9 rfl) ?_;show some (2,[Val.vi (bZ aa (zo X6 3)).toL.length,bZ aa (zo X6 1),aa.w 4001,bZ aa (zo X6 3)])=_;simp_all
 .refine cE (by rw[cT,cy,cy,v1,w0];exact i6 (by show¬(i:Int)<(l.length:Int);omega)) ?_;show some (1,[aa.w 4000,aa.w 4001])=_;grind
theorem dV5(f858: ∀a,I.f 858 a=tK a)(f859: ∀a,I.f 859 a=pC a)(h0:I.w 2000= .vi l.length)(h2:(I.w 2002).toL=l)(hn:l.length<=1000):
 cO (λvs=>Z0 Ow (I.upd 4000 vs)) [.vb false,.vi 0]=some (Df l):=by
 have run:=dC2 f858 f859 h0 h2 hn;unfold Df;cases hf:oQ l with
 |none=>
  refine eE (st:=λm=>[.vb false,.vi m]) (n:=l.length) (λm hm=> ?_) ?_
  .have h1:=A7.1 hf m (r9.2 hm);have h2:ik l m=none:=by simpa using h1
   rw[run _ (by omega),e8 hm,h2]
  grind
 |some i=>
  obtain⟨a,b,c⟩:=oY hf;obtain⟨j,hj,j1,j2,j3⟩:=KX hf;refine eE (st:=λm=>[.vb false,.vi m]) (n:=i) (λm hm=> ?_) ?_
  .have h2:ik l m=none:=by have:=c m hm;simpa using this
   rw[run _ (by omega),e8 (by omega),h2]
  grind
theorem dV6{b:Bool}:(I.upd 2000 [.vi l.length,.vb b,.vl l]).w 2000= .vi l.length/\(I.upd 2000 [.vi l.length,.vb b,.vl l]).w 2001= .vb b/\(I.upd 2000 [.vi l.length,.vb b,.vl l]).w 2002= .vl l:=
 ⟨by rfl,by rfl,by rfl⟩
theorem cY2(f857: ∀a,I.f 857 a=CM a)(f858: ∀a,I.f 858 a=tK a)(f859: ∀a,I.f 859 a=pC a)(hn:l.length<=1000):
 Z0 FZ (I.upd 2000 [.vi l.length,.vb true,.vl l])=match oQ l with
  |some i=>some (0,[.vi (fa l i ((ik l i).getD 0)).length,.vb true,.vl (fa l i ((ik l i).getD 0))])
  |none=>some (0,[.vi l.length,.vb false,.vl l]):=by
 obtain⟨v0,v1,v2⟩:=dV6 (I:=I) (l:=l) (b:=true);have wf: ∀a,(I.upd 2000 [.vi l.length,.vb true,.vl l]).f 857 a=CM a:=λa=>by grind[eV]
 have wg: ∀a,(I.upd 2000 [.vi l.length,.vb true,.vl l]).f 858 a=tK a:=λa=>by grind[eV]
 have wh: ∀a,(I.upd 2000 [.vi l.length,.vb true,.vl l]).f 859 a=pC a:=λa=>by grind[eV]
 generalize I.upd 2000 [.vi l.length,.vb true,.vl l]=aa at*
 have d7:bZ aa X7=cA (Df l):=by
  show aa.f 857 [.vb false,.vi 0,aa.w 2000,aa.w 2002]=_;rw[wf,v2];rfl
 refine cG (by show(aa.w 2001).toB=true;rw[v1];rfl) (Z5 (r:=Df l) ?_ d7 ?_)
 .exact dV5 wg wh v0 (by rw[v2];rfl) hn
 .have hR:Df l=match oQ l with
   |some i=>(1,[.vi (fa l i ((ik l i).getD 0)).length,.vb true,.vi i,.vl (fa l i ((ik l i).getD 0))])
   |none=>(0,[.vb false,.vi l.length]):=rfl
  cases hj:oQ l with
  |none=>
   rw[hj]at hR;rw[hR];show some (0,[aa.w 2000,Val.vb false,aa.w 2002])=_;grind
  |some i=>
   rw[hj]at hR;rw[hR]at d7⊢;have e0:bZ aa (zo X7 0)= .vi (fa l i ((ik l i).getD 0)).length:=by show co (bZ aa X7).toL 1 0=_;rw[d7];rfl
   have e1:bZ aa (zo X7 1)= .vb true:=by show co (bZ aa X7).toL 1 1=_;rw[d7];rfl
   have e3:bZ aa (zo X7 3)= .vl (fa l i ((ik l i).getD 0)):=by show co (bZ aa X7).toL 1 3=_;rw[d7];rfl
   refine W8 (by rw[eo,Z8,e0,e3];exact c9 rfl) ?_;show some (0,[Val.vi (bZ aa (zo X7 3)).toL.length,bZ aa (zo X7 1),bZ aa (zo X7 3)])=_;simp_all
theorem Yv(l:List Val):Z0 FZ (I.upd 2000 [.vi l.length,.vb false,.vl l])=some (1,[.vi l.length,.vb false,.vl l]):=by
 rfl
theorem dV7(f857: ∀a,I.f 857 a=CM a)(f858: ∀a,I.f 858 a=tK a)(f859: ∀a,I.f 859 a=pC a): ∀(f:Nat) (l:List Val),l.length<=f->l.length<=1000->
 Iter (λvs=>Z0 FZ (I.upd 2000 vs)) [.vi l.length,.vb true,.vl l] 0 [.vi (oi f l).length,.vb false,.vl (oi f l)]:=by
 intro f;induction f with
 |zero=>
  intro l hf hn;have:l=[]:=C1 (by omega);subst this;exact .more (cY2 f857 f858 f859 hn) (.out (Yv []))
 |succ f ih=>
  intro l hf hn;have h:=cY2 f857 f858 f859 hn;unfold oi;cases hj:oQ l with
  |none=>
   rw[hj]at h;exact .more h (.out (Yv l))
  |some i=>
   rw[hj]at h;obtain⟨j,h1,h2,h3,h4⟩:=KX hj;have hl:(fa l i ((ik l i).getD 0)).length+1=l.length:=by grind[Vk]
   exact .more h (ih _ (by omega) (by omega))
theorem dV8(f857: ∀a,I.f 857 a=CM a)(f858: ∀a,I.f 858 a=tK a)(f859: ∀a,I.f 859 a=pC a)(hn:l.length<=1000):
 cO (λvs=>Z0 FZ (I.upd 2000 vs)) [.vi l.length,.vb true,.vl l]=some (0,[.vi (iu l).length,.vb false,.vl (iu l)]):=by
 rw[nJ];exact dV7 f857 f858 f859 _ l (e9 _) hn
end Go.Ev.S9
namespace Go.Ev.S9
open Go Go.Ev
variable{M:List Val}
def vK(M:List Val)(k:Nat):List Val:=(M.set k (eB (cg M (k+1)))).set (k+1) (eB (cg M k))
def jw:Nat->List Val->Nat×List Val
 |0,M=>(0,M)
 |k+1,M=>if ci (cg M (k+1)) 0<ci (cg M k) 0 then jw k (vK M k)else(k+1,M)
def JP(a:List Val):Val:=cA (0,[.vi (jw (ce a 0).toI.toNat (ce a 1).toL).1,.vl (jw (ce a 0).toI.toNat (ce a 1).toL).2])
def gL(l:List Val):Nat->List Val
 |0=>[]
 |k+1=>(jw k (gL l k++[eB (cg l k)])).2
def e65(a:List Val):Val:=cA (0,[.vi (ce a 3).toI.toNat,.vi (ce a 3).toI.toNat,.vl (gL (ce a 4).toL (ce a 3).toI.toNat)])
theorem bY2: ∀(k:Nat) (M:List Val),(jw k M).2.length=M.length
 |0,M=>rfl
 |k+1,M=>by
  unfold jw;split
  .rw[bY2 k];simp[vK]
  .rfl
theorem Dd(l:List Val): ∀k,(gL l k).length=k
 |0=>rfl
 |k+1=>by show(jw k _).2.length=_;rw[bY2,k5,Dd l k];rfl
theorem cx0{k:Nat}(hk:k+1<M.length)(hM: ∀r∈M,eB r=r)(r:Val):r∈vK M k↔r∈M:=by
 have a1:cg M k∈M:=iN (by omega);have a2:cg M (k+1)∈M:=iN hk;have e:vK M k=(M.set k (cg M (k+1))).set (k+1) (cg M k):=by grind[vK]
 rw[e];constructor
 .grind
 .intro h;obtain⟨m,hm,rfl⟩:=B3 h;have ea: ∀n (h:n<M.length),cg M n=M[n]:=λn h=>by simp[cg,j8,h]
  by_cases c1:m=k
  .grind[List.mem_iff_getElem]
  .by_cases c2:m=k+1
   .refine T7.2 ⟨k,by simp;omega,?_⟩;grind
   .refine T7.2 ⟨m,by simp;omega,?_⟩;grind
theorem bY3: ∀(k:Nat) (M:List Val),k<M.length->(∀r∈M,eB r=r)-> ∀r,r∈(jw k M).2↔r∈M
 |0,M,_,_,r=>Iff.rfl
 |k+1,M,hk,hM,r=>by
  unfold jw;split
  .rw[bY3 k _ (by simp[vK];omega) (λr hr=>hM r ((cx0 hk hM r).1 hr)) r,cx0 hk hM]
  rfl
theorem Zm{l:List Val}(hl: ∀r∈l,eB r=r): ∀k,k<=l.length-> ∀r,r∈gL l k↔r∈l.take k
 |0,_,r=>by simp[gL]
 |k+1,hk,r=>by
  have ih:=Zm hl k (by omega);have ha:=iN (l:=l) (show k<l.length by omega);show r∈(jw k (gL l k++[eB (cg l k)])).2↔_;have hs: ∀r∈gL l k++[eB (cg l k)],eB r=r:=λr hr=>by
   rcases z8.1 hr with h|h
   .exact hl r (I0 ((ih r).1 h))
   .rw[n5.1 h,hl _ ha,hl _ ha]
  rw[bY3 k _ (by rw[k5,Dd];simp) hs,z8,n5,ih,hl _ ha,show l.take (k+1)=l.take k++[cg l k] by rw[O7,show l[k]?.toList=[cg l k] by simp[cg,j8,show k<l.length by omega]],z8,n5]
variable{I:Opq}
theorem d3{j:Nat}:(I.upd 3000 [.vi j,.vl M]).w 3000= .vi j/\(I.upd 3000 [.vi j,.vl M]).w 3001= .vl M:=⟨by rfl,by rfl⟩
theorem dC3{N k:Nat}(hc:(I.w 2002).toL.length+1=N)(hM:M.length=N)(hk:k+1<N)(hN:N<=1000):
 Z0 Rr (I.upd 3000 [.vi (k+1:Nat),.vl M])=if ci (cg M (k+1)) 0<ci (cg M k) 0 then some (0,[.vi k,.vl (vK M k)])else some (1,[.vi (k+1:Nat),.vl M]):=by
 obtain⟨v0,v1⟩:=d3 (I:=I) (M:=M) (j:=k+1);have w2:(I.upd 3000 [.vi (k+1:Nat),.vl M]).w 2002=I.w 2002:=cU _ _ _ (by omega);generalize I.upd 3000 [.vi (k+1:Nat),.vl M]=aa at*
 have i1:(bZ aa (zm aY aZ))= .vi k:=by
  show Val.vi (cn .sub .i64 (aa.w 3000).toI 1)=_;grind[a09,kN]
 have i1I:(bZ aa (zm aY aZ)).toI=(k:Int):=by rw[i1];rfl
 have l8:(bZ aa X8).toL.length=N:=by
  show((aa.w 2002).toL++[_]).length=N;grind
 have l8I:(bZ aa (zL X8)).toI=(N:Int):=by rw[Z8,l8]
 have l1I:(bZ aa (zl 3001)).toI=(N:Int):=by simp_all[Z8,dR]
 have v0I:(bZ aa aY).toI=((k+1:Nat):Int):=by rw[cy,v0];rfl
 have g1: ∀j:Nat,bZ aa (.op .lget [bc,aY,.ci j])=Z7 (cg M (k+1)) j:=λj=>by
  show co (aa.w 3001).toL (aa.w 3000).toI (j:Int)=_;rw[v1,v0];rfl
 have g0: ∀j:Nat,bZ aa (.op .lget [bc,zm aY aZ,.ci j])=Z7 (cg M k) j:=λj=>by
  show co (aa.w 3001).toL (bZ aa (zm aY aZ)).toI (j:Int)=_;rw[v1,i1];rfl
 have d10:bZ aa Jk= .vl (M.set k (eB (cg M (k+1)))):=by
  show Val.vl ((aa.w 3001).toL.set (bZ aa (zm aY aZ)).toI.toNat (.vl [bZ aa (.op .lget [bc,aY,.ci (0:Nat)]),bZ aa (.op .lget [bc,aY,.ci (1:Nat)])]))=_;rw[v1,i1,g1,g1];rfl
 refine cG (by grind[Ki,cF,decide_eq_true]) ?_;refine W8 (by grind[cX,cI,cT,cF,decide_eq_true]) ?_;refine W8 (by grind[cT,decide_eq_true]) ?_;refine W8 (by grind[cX,cI,cT,cF,decide_eq_true]) ?_;refine W8 (by grind[cT,decide_eq_true]) ?_;have hq:dB aa (fV X9 (zg 3001 3000 0))=decide (ci (cg M (k+1)) 0<ci (cg M k) 0):=by
  have e1:=congrArg Val.toI (g1 0);have e0:=congrArg Val.toI (g0 0);exact congr (congrArg (λa b:Int=>decide (a<b)) e1) e0
 by_cases c:ci (cg M (k+1)) 0<ci (cg M k) 0
 .rw[e8 c];refine cG (hq.trans (c9 c)) (W8 ?_ ?_)
  .rw[cT,v0I,Z8,d10];show decide (((k+1:Nat):Int)<((M.set k (eB (cg M (k+1)))).length:Int))=true;grind
  .show some (0,[bZ aa (zm aY aZ),Val.vl ((bZ aa Jk).toL.set (aa.w 3000).toI.toNat (.vl [bZ aa (.op .lget [bc,zm aY aZ,.ci (0:Nat)]),bZ aa (.op .lget [bc,zm aY aZ,.ci (1:Nat)])]))])=_;rw[i1,d10,v0,g0,g0];rfl
 .refine cE (hq.trans (i6 c)) ?_;show some (1,[aa.w 3000,aa.w 3001])=_;grind
theorem WE{N:Nat}(hc:(I.w 2002).toL.length+1=N)(hN:N<=1000): ∀(k:Nat) (M:List Val),k<N->M.length=N->Iter (λvs=>Z0 Rr (I.upd 3000 vs)) [.vi k,.vl M] 0 [.vi (jw k M).1,.vl (jw k M).2]
 |0,M,hk,hM=>by
  refine .out ?_;rfl
 |k+1,M,hk,hM=>by
  have hs:=dC3 (I:=I) hc hM hk hN;unfold jw;by_cases c:ci (cg M (k+1)) 0<ci (cg M k) 0
  .rw[e8 c]at hs⊢;exact .more hs (WE hc hN k _ (by omega) (by grind[vK]))
  .rw[b9 c]at hs⊢;exact .out hs
theorem dV9(f856: ∀a,I.f 856 a=JP a){l:List Val}(d3: ∀vs,bZ (I.upd 2000 vs) oV= .vi l.length)(d4: ∀vs,bZ (I.upd 2000 vs) nq= .vl l)(hn:l.length<=900):
 cO (λvs=>Z0 e54 (I.upd 2000 vs)) [.vi 0,.vi 0,.vl []]=some (0,[.vi l.length,.vi l.length,.vl (gL l l.length)]):=by
 refine eE (st:=λk=>[.vi k,.vi k,.vl (gL l k)]) (n:=l.length) (λk hk=> ?_) ?_
 .have hl:=Dd l k;have hm:gL l (k+1)=(jw k (gL l k++[eB (cg l k)])).2:=rfl;have hl2:=Dd l (k+1);rw[hm]at hl2⊢;generalize gL l k=acc at hl hl2⊢;have v0:=lB I 2000 (.vi k) (.vi k) (.vl acc);have v1:=gr I 2000 (.vi k) (.vi k) (.vl acc);have v2:=kW I 2000 (.vi k) (.vi k) (.vl acc);have d3:=d3 [.vi k,.vi k,.vl acc];have d4:=d4 [.vi k,.vi k,.vl acc];have wf: ∀a,(I.upd 2000 [.vi k,.vi k,.vl acc]).f 856 a=JP a:=λa=>by grind[eV]
  generalize I.upd 2000 [.vi k,.vi k,.vl acc]=aa at*
  have inc:cn .add .i64 (k:Int) 1=((k+1:Nat):Int):=eJ (n:=1000000) (by omega) (by omega);have d8:bZ aa X8= .vl (acc++[eB (cg l k)]):=by
   show Val.vl ((aa.w 2002).toL++[.vl [co (bZ aa nq).toL (aa.w 2001).toI 0,co (bZ aa nq).toL (aa.w 2001).toI 1]])=_;rw[v2,d4,v1];rfl
  have d12:bZ aa DC= .vl (jw k (acc++[eB (cg l k)])).2:=by
   show co (aa.f 856 [aa.w 2001,bZ aa X8,bZ aa oV,bZ aa nq,.vi (bZ aa X8).toL.length,bZ aa X8,aa.w 2001]).toL 1 1=_;rw[wf,d8,v1];rfl
  have e856:aa.f 856 [aa.w 2001,bZ aa X8,bZ aa oV,bZ aa nq,.vi (bZ aa X8).toL.length,bZ aa X8,aa.w 2001]=cA (0,[.vi (jw k (acc++[eB (cg l k)])).1,.vl (jw k (acc++[eB (cg l k)])).2]):=by
   rw[wf,d8,v1];rfl
  refine W8 (by simp_all[cI,cF,c9]) (cG (by simp_all[cT,cy,c9]) ?_);refine W8 (by simp_all[cI,cF,cy,c9]) ?_;refine W8 (by simp_all[cT,cy,Z8,c9]) ?_;refine W8 (NW (q:= aV) (l:= aW) (c:=X8) (by grind[dR]) v2 d8 (by omega)) ?_;have ml:(acc++[eB (cg l k)]).length=k+1:=by grind
  refine Z5 (r:=(0,[.vi (jw k (acc++[eB (cg l k)])).1,.vl (jw k (acc++[eB (cg l k)])).2])) ?_ e856 (W8 ?_ ?_)
  .show cO _ [aa.w 2001,bZ aa X8]=_;rw[v1,d8,nJ];exact WE (N:=k+1) (by simp_all) (by omega) k _ (by omega) ml
  .simp_all[eo,Z8,c9,eB,cg,jw]
  .show some (0,[Val.vi (bZ aa DC).toL.length,Val.vi (cn .add .i64 (aa.w 2001).toI 1),bZ aa DC])=_;simp_all
 .have v0:=lB I 2000 (.vi l.length) (.vi l.length) (.vl (gL l l.length));have v1:(I.upd 2000 [.vi l.length,.vi l.length,.vl (gL l l.length)]).w 2001=_:=gr I 2000 (.vi l.length) (.vi l.length) (.vl (gL l l.length));have v2:(I.upd 2000 [.vi l.length,.vi l.length,.vl (gL l l.length)]).w 2002=_:=kW I 2000 (.vi l.length) (.vi l.length) (.vl (gL l l.length));have d3:=d3 [.vi l.length,.vi l.length,.vl (gL l l.length)];generalize I.upd 2000 [.vi l.length,.vi l.length,.vl (gL l l.length)]=aa at*
  refine W8 (by rw[cI,cF,d3];exact c9 (by show(0:Int)<=(l.length:Int);omega)) (cE (by rw[cT,cy,d3,v1];exact i6 (by omega)) ?_);show some (1,[aa.w 2000,aa.w 2001,aa.w 2002])=_;grind
end Go.Ev.S9
namespace Go.Ev.S9
open Go Go.Ev
def gn(g:Int)(l:List Val):List Val:=cB (nE g l) l.length
def jA(g:Int)(l:List Val):List Val:=gL (iu (gn g l)) (iu (gn g l)).length
def jL(g:Int)(l:List Val):Bool:=decide (1<=g)&&(decide (g<=1048576)&&((List.range l.length).find? (uH l)).isNone)
def NF(a:List Val):Val:= .vl (bif jL (ce a 0).toI (ce a 1).toL then jA (ce a 0).toI (ce a 1).toL else [])
def Vr(a:List Val):Val:= .vi (bif jL (ce a 0).toI (ce a 1).toL then 0 else 2)
theorem TL: ∀(f:Nat) (l:List Val),(oi f l).length<=l.length
 |0,l=>e9 _
 |f+1,l=>by
  unfold oi;cases hj:oQ l with
  |none=>grind
  |some i=>
   obtain⟨j,h1,h2,h3,h4⟩:=KX hj;have hl:(fa l i ((ik l i).getD 0)).length+1=l.length:=by grind[Vk]
   exact m7 (TL f _) (by omega)
variable{I:Opq}
theorem dW1(f854: ∀a,I.f 854 a=e63 a)(f855: ∀a,I.f 855 a=e65 a)(f856: ∀a,I.f 856 a=JP a)(f857: ∀a,I.f 857 a=CM a)(f858: ∀a,I.f 858 a=tK a)(f859: ∀a,I.f 859 a=pC a)(f860: ∀a,I.f 860 a=e62 a)(hn:(I.w 1).toL.length<=100):
 Z0 T_sOf I=some (0,[Vr [I.w 0,I.w 1],NF [I.w 0,I.w 1]]):=by
 generalize h0:(I.w 0).toI=g;generalize h1:(I.w 1).toL=l at hn;have e0:bZ I lD=cA (Hp g l):=by
  show I.f 860 [.vi 0,.vi 0,.vi 0,.vl [],I.w 0,.vi 0,.vi (I.w 1).toL.length,I.w 1]=_;rw[f860,<-h0,<-h1];rfl
 have hv:([Vr [I.w 0,I.w 1],NF [I.w 0,I.w 1]]:List Val)=[.vi (bif jL g l then 0 else 2),.vl (bif jL g l then jA g l else [])]:=by
  show [Val.vi (bif jL (I.w 0).toI (I.w 1).toL then 0 else 2),.vl (bif jL (I.w 0).toI (I.w 1).toL then jA (I.w 0).toI (I.w 1).toL else [])]=_;rw[h0,h1]
 rw[hv];unfold T_sOf jL;by_cases g1:1<=g
 .refine cG (by rw[vG,cy,cF,h0];exact c9 g1) ?_;rw[c9 g1,A9];by_cases g2:g<=1048576
  .refine cE (by rw[fm,cI,cy,cF,h0,c9 g2];rfl) ?_;rw[c9 g2,A9];refine Z5 (r:=Hp g l) (dV2 h0 h1 (by omega)) e0 ?_;unfold Hp at e0⊢;cases hf:(List.range l.length).find? (uH l)with
   |some i=>
    rw[hf]at e0;show some (0,[bZ I (zo lD 0),Val.vl []])=_;have:bZ I (zo lD 0)= .vi 2:=by show co (bZ I lD).toL 1 0=_;rw[e0];rfl
    rw[this];rfl
   |none=>
    rw[hf]at e0;have q1:bZ I sy= .vl (gn g l):=by show co (bZ I lD).toL 1 3=_;rw[e0];rfl
    have q01:bZ I (zo lD 1)= .vi (gn g l).length:=by show co (bZ I lD).toL 1 1=_;rw[e0];rfl
    have hL:(gn g l).length=l.length:=mO (λi=> .vl [Z7 (cg l i) 0,.vi (cn .add .i64 (ci (cg l i) 0) g)]) l.length;have q2:bZ I uY=cA (0,[.vi (iu (gn g l)).length,.vb false,.vl (iu (gn g l))]):=by
     show I.f 854 [.vi (bZ I sy).toL.length,.vb true,bZ I sy]=_;rw[f854,q1];rfl
    have q3:bZ I oV= .vi (iu (gn g l)).length:=by show co (bZ I uY).toL 1 0=_;rw[q2];rfl
    have q4:bZ I nq= .vl (iu (gn g l)):=by show co (bZ I uY).toL 1 2=_;rw[q2];rfl
    have hM:(iu (gn g l)).length<=100:=m7 (TL _ _) (by omega);have D2: ∀vs,bZ (I.upd 2000 vs) uY=bZ I uY:=λvs=>by
     have e:bZ (I.upd 2000 vs) lD=bZ I lD:=by
      show(I.upd 2000 vs).f 860 [.vi 0,.vi 0,.vi 0,.vl [],(I.upd 2000 vs).w 0,.vi 0,.vi ((I.upd 2000 vs).w 1).toL.length,(I.upd 2000 vs).w 1]=I.f 860 [.vi 0,.vi 0,.vi 0,.vl [],I.w 0,.vi 0,.vi (I.w 1).toL.length,I.w 1];rw[cU _ _ _ (by omega),cU _ _ _ (by omega),eV]
     show(I.upd 2000 vs).f 854 [.vi (co (bZ (I.upd 2000 vs) lD).toL 1 3).toL.length,.vb true,co (bZ (I.upd 2000 vs) lD).toL 1 3]=I.f 854 [.vi (co (bZ I lD).toL 1 3).toL.length,.vb true,co (bZ I lD).toL 1 3];rw[e,eV]
    have D3: ∀vs,bZ (I.upd 2000 vs) oV= .vi (iu (gn g l)).length:=λvs=>by
     show co (bZ (I.upd 2000 vs) uY).toL 1 0=_;rw[D2,q2];rfl
    have D4: ∀vs,bZ (I.upd 2000 vs) nq= .vl (iu (gn g l)):=λvs=>by
     show co (bZ (I.upd 2000 vs) uY).toL 1 2=_;rw[D2,q2];rfl
    have q5:bZ I CA=cA (0,[.vi (iu (gn g l)).length,.vi (iu (gn g l)).length,.vl (jA g l)]):=by
     show I.f 855 [.vi 0,.vi 0,.vl [],bZ I oV,bZ I nq]=_;rw[f855,q3,q4];rfl
    have q6:bZ I JK= .vl (jA g l):=by show co (bZ I CA).toL 1 2=_;rw[q5];rfl
    have q50:bZ I (zo CA 0)= .vi (iu (gn g l)).length:=by show co (bZ I CA).toL 1 0=_;rw[q5];rfl
    refine W8 (by rw[eo,Z8,q01,q1];exact c9 rfl) (Z5 (r:=(0,[.vi (iu (gn g l)).length,.vb false,.vl (iu (gn g l))])) ?_ q2 (Z5 (r:=(0,[.vi (iu (gn g l)).length,.vi (iu (gn g l)).length,.vl (jA g l)])) ?_ q5 (W8 ?_ ?_)))
    .show cO _ [Val.vi (bZ I sy).toL.length,.vb true,bZ I sy]=_;rw[q1];exact dV8 (l:=gn g l) f857 f858 f859 (by omega)
    .exact dV9 f856 D3 D4 (by omega)
    .rw[eo,Z8,q50,q6];exact decide_eq_true (by show((iu (gn g l)).length:Int)=((jA g l).length:Int);unfold jA;rw[Dd])
    .show some (0,[Val.vi 0,bZ I JK])=_;rw[q6];rfl
  .rw[i6 g2,G2];exact cG (by rw[fm,cI,cy,cF,h0,i6 g2];rfl) rfl
 .rw[i6 g1,G2];exact cE (by rw[vG,cy,cF,h0];exact i6 g1) rfl
end Go.Ev.S9
namespace Go.Ev.S9
open Go Go.Ev
def yc(k s l g:Int)(T:List Val):List Val:=if k=3 then cB (λi=>[eB (cg (bif jL g T then jA g T else []) i)]) (bif jL g T then jA g T else []).length else cB (λi=>dw k s l g (Z7 (cg T i) 0)) T.length
def nR(k s l g:Int)(ev:List Val)(key:List UInt8):List Val:=yc k s l g (lT ev key)
def e66(a:List Val):Val:=mP (lT (ce a 5).toL (ce a 6).toS) (ce a 5).toL.length
def Zi(a:List Val):Val:=mP (cB (λi=>[eB (cg (ce a 4).toL i)]) (ce a 4).toL.length) (ce a 4).toL.length
def mG(k s l g:Int)(T:List Val):List Val:=cB (λi=>dw k s l g (Z7 (cg T i) 0)) T.length
def e68(a:List Val):Val:=mP (mG (ce a 3).toI (ce a 4).toI (ce a 5).toI (ce a 6).toI (ce a 8).toL) (ce a 8).toL.length
def EX(a:List Val):Val:= .vl (nR (ce a 0).toI (ce a 1).toI (ce a 2).toI (ce a 3).toI (ce a 4).toL (ce a 5).toS)
theorem and2{a b:Bool}(h:a=true)(h2:b=true):(a&&b)=true:=by grind
theorem bY6(g:Int)(T:List Val):(jA g T).length<=T.length:=by
 unfold jA;rw[Dd];exact m7 (TL _ _) (S1 (mO (λi=> .vl [Z7 (cg T i) 0,.vi (cn .add .i64 (ci (cg T i) 0) g)]) T.length))
theorem Xr(l:List Val)(key:List UInt8):(lT l key).length<=l.length:=by
 have:=jD (g:=Of l key) (m:=1) (λi=>by unfold Of;cases decide ((Z7 (cg l i) 1).toS=key)<;>simp) l.length;grind[lT]
variable{I:Opq}
theorem dW2{k s l g:Int}{T:List Val}(f704: ∀a,I.f 704 a= .vl (dw (ce a 0).toI (ce a 1).toI (ce a 2).toI (ce a 3).toI (ce a 4)))(h0:(I.w 0).toI=k)(h1:(I.w 1).toI=s)(h2:(I.w 2).toI=l)(h3:(I.w 3).toI=g)(k3:k≠3)(D1: ∀vs,bZ (I.upd 2000 vs) nl= .vi T.length)(D2: ∀vs,bZ (I.upd 2000 vs) nP= .vl T)(hn:T.length<=1000):
 cO (λvs=>Z0 OJ (I.upd 2000 vs)) [.vi 0,.vi 0,.vl []]=some (0,[.vi (mG k s l g T).length,.vi T.length,.vl (mG k s l g T)]):=by
 have hlen: ∀i,(cB (λi=>dw k s l g (Z7 (cg T i) 0)) i).length<=i*16:=λi=>jD (λi=>BO k3) i
 refine Da (λi acc=>[.vi acc.length,.vi i,.vl acc]) (a0:=[]) (g:=λi=>dw k s l g (Z7 (cg T i) 0)) (n:=T.length) rfl (λi hi=> ?_) ?_
 .rw[List.nil_append];have ha:=hlen i;have hb:=BO (k:=k) (s:=s) (l:=l) (g:=g) (t:=Z7 (cg T i) 0) k3;generalize cB (λi=>dw k s l g (Z7 (cg T i) 0)) i=acc at ha⊢;have v0:(I.upd 2000 [.vi acc.length,.vi i,.vl acc]).w 2000=_:=lB I 2000 (.vi acc.length) (.vi i) (.vl acc);have v1:(I.upd 2000 [.vi acc.length,.vi i,.vl acc]).w 2001=_:=gr I 2000 (.vi acc.length) (.vi i) (.vl acc);have v2:(I.upd 2000 [.vi acc.length,.vi i,.vl acc]).w 2002=_:=kW I 2000 (.vi acc.length) (.vi i) (.vl acc);have D1:=D1 [.vi acc.length,.vi i,.vl acc];have D2:=D2 [.vi acc.length,.vi i,.vl acc];have u0:((I.upd 2000 [.vi acc.length,.vi i,.vl acc]).w 0).toI=k:=by grind[cU]
  have u1:((I.upd 2000 [.vi acc.length,.vi i,.vl acc]).w 1).toI=s:=by grind[cU]
  have u2:((I.upd 2000 [.vi acc.length,.vi i,.vl acc]).w 2).toI=l:=by grind[cU]
  have u3:((I.upd 2000 [.vi acc.length,.vi i,.vl acc]).w 3).toI=g:=by grind[cU]
  have wf: ∀a,(I.upd 2000 [.vi acc.length,.vi i,.vl acc]).f 704 a= .vl (dw (ce a 0).toI (ce a 1).toI (ce a 2).toI (ce a 3).toI (ce a 4)):=λa=>by grind[eV]
  generalize I.upd 2000 [.vi acc.length,.vi i,.vl acc]=aa at*
  have d16:bZ aa ye= .vl (acc++dw k s l g (Z7 (cg T i) 0)):=by
   show Val.vl ((aa.w 2002).toL++(aa.f 704 [aa.w 0,aa.w 1,aa.w 2,aa.w 3,co (bZ aa nP).toL (aa.w 2001).toI 0]).toL)=_;rw[wf,D2,v1,v2];show Val.vl (acc++dw (aa.w 0).toI (aa.w 1).toI (aa.w 2).toI (aa.w 3).toI (Z7 (cg T i) 0))=_;grind
  have inc:cn .add .i64 (i:Int) 1=((i+1:Nat):Int):=eJ (n:=1000000) (by omega) (by omega);refine W8 (by simp_all[cI,cF,c9]) (cG (by simp_all[cT,cy,c9]) ?_);refine W8 (by simp_all[cI,cF,cy,c9]) ?_;refine W8 (by simp_all[cT,cy,Z8,c9]) ?_;refine W8 ?_ ?_
  .show(decide ((aa.w 2000).toI=((aa.w 2002).toL.length:Int))&&decide (((bZ aa ye).toL.length:Int)<=1000000))=true;rw[v0,v2,d16];exact and2 (c9 rfl) (c9 (by show((acc++dw k s l g (Z7 (cg T i) 0)).length:Int)<=1000000;grind))
  .show some (0,[Val.vi (bZ aa ye).toL.length,Val.vi (cn .add .i64 (aa.w 2001).toI 1),bZ aa ye])=_;simp_all
 .show Z0 OJ (I.upd 2000 [.vi (mG k s l g T).length,.vi T.length,.vl (mG k s l g T)])=some (1,[.vi (mG k s l g T).length,.vi T.length,.vl (mG k s l g T)]);refine W8 (by rw[cI,cF,D1];exact c9 (by show(0:Int)<=(T.length:Int);omega)) (cE (by rw[cT,cy,D1,show(I.upd 2000 [.vi (mG k s l g T).length,.vi T.length,.vl (mG k s l g T)]).w 2001=_ from gr ..];exact i6 (by omega)) ?_);rfl
theorem cO8(f704: ∀a,I.f 704 a= .vl (dw (ce a 0).toI (ce a 1).toI (ce a 2).toI (ce a 3).toI (ce a 4)))(f824: ∀a,I.f 824 a=NF a)(f861: ∀a,I.f 861 a=e66 a)(f862: ∀a,I.f 862 a=Zi a)(f863: ∀a,I.f 863 a=e68 a)(hn:(I.w 4).toL.length<=100):
 Z0 T_rSpans I=some (0,[EX [I.w 0,I.w 1,I.w 2,I.w 3,I.w 4,I.w 5]]):=by
 generalize h0:(I.w 0).toI=k;generalize h1:(I.w 1).toI=s;generalize h2:(I.w 2).toI=l;generalize h3:(I.w 3).toI=g;generalize h4:(I.w 4).toL=ev at hn;generalize h5:(I.w 5).toS=key;generalize hT:lT ev key=T;have hTl:T.length<=100:=by grind[Nat.le_trans,Xr]
 have hv:EX [I.w 0,I.w 1,I.w 2,I.w 3,I.w 4,I.w 5]= .vl (yc k s l g T):=by
  show Val.vl (yc (I.w 0).toI (I.w 1).toI (I.w 2).toI (I.w 3).toI (lT (I.w 4).toL (I.w 5).toS))=_;grind
 rw[hv];have e0:bZ I uS=cA (0,[.vi T.length,.vi ev.length,.vl T]):=by
  show I.f 861 [.vi 0,.vi 0,.vl [],.vi 0,.vi (I.w 4).toL.length,I.w 4,I.w 5,I.w 0,I.w 1,I.w 2,I.w 3]=_;rw[f861];show mP (lT (I.w 4).toL (I.w 5).toS) (I.w 4).toL.length=_;rw[h4,h5,hT];rfl
 have D0: ∀vs,bZ (I.upd 2000 vs) uS=bZ I uS:=λvs=>by
  rfl
 have q1:bZ I nl= .vi T.length:=by show co (bZ I uS).toL 1 0=_;rw[e0];rfl
 have q2:bZ I nP= .vl T:=by show co (bZ I uS).toL 1 2=_;rw[e0];rfl
 have D1: ∀vs,bZ (I.upd 2000 vs) nl= .vi T.length:=λvs=>by show co (bZ (I.upd 2000 vs) uS).toL 1 0=_;rw[D0,e0];rfl
 have D2: ∀vs,bZ (I.upd 2000 vs) nP= .vl T:=λvs=>by show co (bZ (I.upd 2000 vs) uS).toL 1 2=_;rw[D0,e0];rfl
 have q3:bZ I Be= .vl T:=by
  show Val.vl (((bZ I nP).toL.drop (0:Int).toNat).take ((bZ I nl).toI-0).toNat)=_;simp_all
 have D3: ∀vs,bZ (I.upd 2000 vs) Be= .vl T:=λvs=>by
  show Val.vl (((bZ (I.upd 2000 vs) nP).toL.drop (0:Int).toNat).take ((bZ (I.upd 2000 vs) nl).toI-0).toNat)=_;simp_all
 refine Z5 (r:=(0,[.vi T.length,.vi ev.length,.vl T])) ?_ e0 ?_
 .have:=cX8 (I:=I) (v0:=2000) (N:= (zl 4)) (c:= .op (.scmp .eql) [jy 4 2001 1,be]) (row:= .op .row [jy 4 2001 2]) (p:=λi=>decide ((Z7 (cg ev i) 1).toS=key)) (f:=λi=> .vl [Z7 (cg ev i) 2]) (n:=ev.length) (by omega) (λvs=> ?_) (λi a acc hi=> ?_) (λi a acc hi=> ?_)
  .rw[<-hT];exact this
  .grind[Z8,dR,cU]
  .show decide ((bZ (I.upd 2000 [a,.vi i,acc]) (jy 4 2001 (1:Nat))).toS=((I.upd 2000 [a,.vi i,acc]).w 5).toS)=_;rw[tG (gr ..),cU _ _ _ (by omega),cU _ _ _ (by omega),h4,h5]
  .show Val.vl [bZ (I.upd 2000 [a,.vi i,acc]) (jy 4 2001 (2:Nat))]=_;rw[tG (gr ..),cU _ _ _ (by omega),h4]
 .unfold yc;by_cases k3:k=3
  .rw[e8 k3];refine cG (by grind[eo,cy,cF,decide_eq_true]) (W8 ?_ ?_)
   .show((decide ((0:Int)<=(bZ I nl).toI)&&decide ((bZ I nl).toI<=((bZ I nP).toL.length:Int)))&&decide (((bZ I Be).toL.length:Int)<=100))=true;rw[q1,q2,q3];exact and2 (and2 (c9 (by simp_all)) (c9 (by simp_all))) (c9 (by show(T.length:Int)<=100;omega))
   .have q4:bZ I ot= .vl (bif jL g T then jA g T else []):=by
     show I.f 824 [I.w 3,bZ I Be]=_;rw[f824,q3];show Val.vl (bif jL (I.w 3).toI T then jA (I.w 3).toI T else [])=_;rw[h3]
    have D4: ∀vs,bZ (I.upd 2000 vs) ot= .vl (bif jL g T then jA g T else []):=λvs=>by
     show(I.upd 2000 vs).f 824 [(I.upd 2000 vs).w 3,bZ (I.upd 2000 vs) Be]=_;rw[D3,cU _ _ _ (by omega),eV,f824];show Val.vl (bif jL (I.w 3).toI T then jA (I.w 3).toI T else [])=_;rw[h3]
    have hSl:(bif jL g T then jA g T else []).length<=100:=by
     cases jL g T with
     |true=>grind[Nat.le_trans,bY6]
     |false=>grind
    generalize (bif jL g T then jA g T else [])=S at q4 D4 hSl⊢;have e5:bZ I NO=cA (0,[.vi (cB (λi=>[eB (cg S i)]) S.length).length,.vi S.length,.vl (cB (λi=>[eB (cg S i)]) S.length)]):=by
     show I.f 862 [.vi 0,.vi 0,.vl [],.vi (bZ I ot).toL.length,bZ I ot]=_;rw[f862,q4];rfl
    have q6:bZ I Mt= .vl (cB (λi=>[eB (cg S i)]) S.length):=by show co (bZ I NO).toL 1 2=_;rw[e5];rfl
    refine Z5 (r:=(0,[.vi (cB (λi=>[eB (cg S i)]) S.length).length,.vi S.length,.vl (cB (λi=>[eB (cg S i)]) S.length)])) ?_ e5 (JX e5 q6 ?_)
    .refine cX9 (f:=λi=>eB (cg S i)) (n:=S.length) (by omega) (λvs=> ?_) (λi a acc hi=> ?_)
     .rw[Z8,D4];rfl
     .show Val.vl [co (bZ (I.upd 2000 [a,.vi i,acc]) ot).toL ((I.upd 2000 [a,.vi i,acc]).w (2000+1)).toI 0,co (bZ (I.upd 2000 [a,.vi i,acc]) ot).toL ((I.upd 2000 [a,.vi i,acc]).w (2000+1)).toI 1]=_;rw[D4,gr];rfl
    .show some (0,[bZ I Mt])=_;rw[q6]
  .rw[b9 k3];refine cE (by grind[eo,cy,cF,decide_eq_false]) ?_;have e7:bZ I Ke=cA (0,[.vi (mG k s l g T).length,.vi T.length,.vl (mG k s l g T)]):=by
    show I.f 863 [.vi 0,.vi 0,.vl [],I.w 0,I.w 1,I.w 2,I.w 3,bZ I nl,bZ I nP]=_;rw[f863,q2];show mP (mG (I.w 0).toI (I.w 1).toI (I.w 2).toI (I.w 3).toI T) T.length=_;rw[h0,h1,h2,h3];rfl
   have q8:bZ I Mw= .vl (mG k s l g T):=by show co (bZ I Ke).toL 1 2=_;rw[e7];rfl
   refine Z5 (r:=(0,[.vi (mG k s l g T).length,.vi T.length,.vl (mG k s l g T)])) ?_ e7 (JX e7 q8 ?_)
   .exact dW2 f704 h0 h1 h2 h3 k3 D1 D2 (by omega)
   .show some (0,[bZ I Mw])=_;rw[q8];rfl
end Go.Ev.S9
namespace Go.Ev.S9
open Go Go.Ev
def su(ev:List Val)(key:List UInt8)(s e:Int)(q:Nat):Bool:=decide ((Z7 (cg ev q) 1).toS=key)&&(decide (s<=ci (cg ev q) 2)&&decide (ci (cg ev q) 2<e))
def iX(ev:List Val)(key:List UInt8)(s e:Int):List Val:=cB (λq=>bif su ev key s e q then [.vl [Z7 (cg ev q) 3]]else []) ev.length
def BC(a:List Val):Val:=mP (iX (ce a 5).toL (ce a 16).toS (ce a 17).toI (ce a 18).toI) (ce a 5).toL.length
def BU(a:List Val):Val:= .vl [.vl (aA (ce a 0).toL)]
def wT(a:List Val):Val:= .vb ((ce a 0).toL.any λr=>decide (Z6 r=⟨(ce a 1).toS,(ce a 2).toI,(ce a 3).toI⟩))
def td(ev:List Val)(key r:Val):Val:= .vl [key,Z7 r 0,Z7 r 1,(aA (iX ev key.toS (ci r 0) (ci r 1))).getD 0 default,(aA (iX ev key.toS (ci r 0) (ci r 1))).getD 1 default,(aA (iX ev key.toS (ci r 0) (ci r 1))).getD 2 default,(aA (iX ev key.toS (ci r 0) (ci r 1))).getD 3 default]
def oI(M:List Val)(key r:Val):Bool:=M.any λx=>decide (Z6 x=⟨key.toS,ci r 0,ci r 1⟩)
def uN(ev:List Val)(key:Val)(M:List Val)(r:Val):List Val:=bif oI M key r then []else [td ev key r]
def fD(ev:List Val)(key:Val)(R M0:List Val):Nat->List Val
 |0=>M0
 |j+1=>fD ev key R M0 j++uN ev key (fD ev key R M0 j) (cg R j)
def pG(ev:List Val)(key:Val)(R M0:List Val)(j:Nat):Bool:= !oI (fD ev key R M0 j) key (cg R j)&& !decide (sE (iX ev key.toS (ci (cg R j) 0) (ci (cg R j) 1))=0)
def Af(ev:List Val)(key:Val)(R M0:List Val):Nat×List Val:=match(List.range R.length).find? (pG ev key R M0)with
 |some j=>(1,[.vb false,.vi (fD ev key R M0 j).length,.vi j,.vl (fD ev key R M0 j)])
 |none=>(0,[.vb false,.vi (fD ev key R M0 R.length).length,.vi R.length,.vl (fD ev key R M0 R.length)])
def Ty(a:List Val):Val:=cA (Af (ce a 6).toL (Z7 (cg (ce a 6).toL (ce a 11).toI.toNat) 1) (ce a 13).toL (ce a 3).toL)
theorem dh3(ev:List Val)(key:List UInt8)(s e:Int):(iX ev key s e).length<=ev.length:=by
 have:=jD (g:=λq=>bif su ev key s e q then [.vl [Z7 (cg ev q) 3]]else []) (m:=1) (λi=>by cases su ev key s e i<;>simp) ev.length;grind[iX]
theorem PM(ev:List Val)(key:Val)(R M0:List Val): ∀j,(fD ev key R M0 j).length<=M0.length+j
 |0=>e9 _
 |j+1=>by
  have:=PM ev key R M0 j;grind[fD,uN,cg,List.length_append,oI]
variable{I:Opq}
theorem dW4{ev R:List Val}{i j:Nat}(h4:(I.w 4).toL=ev)(hi:I.w 2002= .vi i)(hj:I.w 4002= .vi j)(D17: ∀vs,bZ (I.upd 6000 vs) ep= .vl R)(hjR:j<R.length)(hn:ev.length<=100):
 cO (λvs=>Z0 Kq (I.upd 6000 vs)) [.vi 0,.vi 0,.vl []]=some (0,[.vi (iX ev (Z7 (cg ev i) 1).toS (ci (cg R j) 0) (ci (cg R j) 1)).length,.vi ev.length,.vl (iX ev (Z7 (cg ev i) 1).toS (ci (cg R j) 0) (ci (cg R j) 1))]):=by
 generalize hkey:(Z7 (cg ev i) 1).toS=key;generalize hs:ci (cg R j) 0=s;generalize he:ci (cg R j) 1=e;refine Da (λq acc=>[.vi acc.length,.vi q,.vl acc]) (a0:=[]) (g:=λq=>bif su ev key s e q then [.vl [Z7 (cg ev q) 3]]else []) (n:=ev.length) rfl (λq hq=> ?_) ?_
 .rw[List.nil_append];have ha:(cB (λq=>bif su ev key s e q then [.vl [Z7 (cg ev q) 3]]else []) q).length<=q:=by
   have:=jD (g:=λq=>bif su ev key s e q then [Val.vl [Z7 (cg ev q) 3]]else []) (m:=1) (λi=>by cases su ev key s e i<;>simp) q;omega
  generalize cB (λq=>bif su ev key s e q then [.vl [Z7 (cg ev q) 3]]else []) q=acc at ha;have v0:(I.upd 6000 [.vi acc.length,.vi q,.vl acc]).w 6000= .vi acc.length:=by rw[cN];simp
  have v1:(I.upd 6000 [.vi acc.length,.vi q,.vl acc]).w 6001= .vi q:=by rw[cN];simp
  have v2:(I.upd 6000 [.vi acc.length,.vi q,.vl acc]).w 6002= .vl acc:=by rw[cN];simp
  have w4:((I.upd 6000 [.vi acc.length,.vi q,.vl acc]).w 4).toL=ev:=by rw[cU _ _ _ (by omega),h4]
  have wi:(I.upd 6000 [.vi acc.length,.vi q,.vl acc]).w 2002= .vi i:=by rw[cU _ _ _ (by omega),hi]
  have wj:(I.upd 6000 [.vi acc.length,.vi q,.vl acc]).w 4002= .vi j:=by rw[cU _ _ _ (by omega),hj]
  have D17:=D17 [.vi acc.length,.vi q,.vl acc];generalize I.upd 6000 [.vi acc.length,.vi q,.vl acc]=aa at*
  have inc:cn .add .i64 (q:Int) 1=((q+1:Nat):Int):=eJ (n:=1000000) (by omega) (by omega);have skip:Z0 (.ret 0 [bH,zi bz,bD]) aa=some (0,[.vi acc.length,.vi (q+1:Nat),.vl acc]):=by
   show some (0,[aa.w 6000,Val.vi (cn .add .i64 (aa.w 6001).toI 1),aa.w 6002])=_;rw[v0,v1,v2,a09,inc]
  have dc:bZ aa AX= .vl (acc++[.vl [Z7 (cg ev q) 3]]):=by
   show Val.vl ((aa.w 6002).toL++[.vl [co (aa.w 4).toL (aa.w 6001).toI 3]])=_;rw[v2,w4,v1];rfl
  have c1:dB aa (.op (.scmp .eql) [zg 4 6001 1,zg 4 2002 1])=decide ((Z7 (cg ev q) 1).toS=key):=by
   show decide ((co (aa.w 4).toL (aa.w 6001).toI 1).toS=(co (aa.w 4).toL (aa.w 2002).toI 1).toS)=_;rw[w4,v1,wi,<-hkey];rfl
  have c2:dB aa (gY (zg 4 6001 2) (cj ep bn 0))=decide (s<=ci (cg ev q) 2):=by
   show decide ((co (bZ aa ep).toL (aa.w 4002).toI 0).toI<=(co (aa.w 4).toL (aa.w 6001).toI 2).toI)=_;rw[w4,v1,D17,wj,<-hs];rfl
  have c3:dB aa (zs (zg 4 6001 2) (cj ep bn 1))=decide (ci (cg ev q) 2<e):=by
   show decide ((co (aa.w 4).toL (aa.w 6001).toI 2).toI<(co (bZ aa ep).toL (aa.w 4002).toI 1).toI)=_;rw[w4,v1,D17,wj,<-he];rfl
  unfold Kq su;refine cG (by rw[cT,cy,v1,Z8,dR,w4];exact c9 (by show(q:Int)<(ev.length:Int);omega)) (W8 (by rw[cI,cF,cy,v1];exact c9 (by show(0:Int)<=(q:Int);omega)) ?_);by_cases q1:(Z7 (cg ev q) 1).toS=key
  .refine cG (c1.trans (c9 q1)) (W8 ?_ ?_)
   .rw[cX,cI,cT,cF,cy,wj,Z8,D17,c9 (show(0:Int)<=(Val.vi (j:Int)).toI by show(0:Int)<=(j:Int);omega),c9 (show(Val.vi (j:Int)).toI<((Val.vl R).toL.length:Int) by show(j:Int)<(R.length:Int);omega)];rfl
   rw[c9 q1,A9];by_cases q2:s<=ci (cg ev q) 2
   .refine cG (c2.trans (c9 q2)) ?_;rw[c9 q2,A9];by_cases q3:ci (cg ev q) 2<e
    .rw[c9 q3,cond_true];refine cG (c3.trans (c9 q3)) (W8 (NW (q:= bH) (l:= bD) (c:=AX) v0 v2 dc (by omega)) ?_);show some (0,[Val.vi (bZ aa AX).toL.length,Val.vi (cn .add .i64 (aa.w 6001).toI 1),bZ aa AX])=_;rw[dc,v1,a09,inc];rfl
    .rw[i6 q3,cond_false,s8];exact cE (c3.trans (i6 q3)) skip
   .rw[i6 q2,G2,cond_false,s8];exact cE (c2.trans (i6 q2)) skip
  simp_all[i6,G2,cond_false,s8,cE]
 .show Z0 Kq (I.upd 6000 [.vi (iX ev key s e).length,.vi ev.length,.vl (iX ev key s e)])=some (1,[.vi (iX ev key s e).length,.vi ev.length,.vl (iX ev key s e)]);generalize iX ev key s e=acc;have v0:(I.upd 6000 [.vi acc.length,.vi ev.length,.vl acc]).w 6000= .vi acc.length:=by rw[cN];simp
  have v1:(I.upd 6000 [.vi acc.length,.vi ev.length,.vl acc]).w 6001= .vi ev.length:=by rw[cN];simp
  have v2:(I.upd 6000 [.vi acc.length,.vi ev.length,.vl acc]).w 6002= .vl acc:=by rw[cN];simp
  have w4:((I.upd 6000 [.vi acc.length,.vi ev.length,.vl acc]).w 4).toL=ev:=by rw[cU _ _ _ (by omega),h4]
  generalize I.upd 6000 [.vi acc.length,.vi ev.length,.vl acc]=aa at*
  refine cE (by rw[cT,cy,v1,Z8,dR,w4];exact i6 (by show¬(ev.length:Int)<(ev.length:Int);omega)) ?_;show some (1,[aa.w 6000,aa.w 6001,aa.w 6002])=_;grind
end Go.Ev.S9
namespace Go.Ev.S9
open Go Go.Ev
variable{R M:List Val}
variable{I:Opq}
theorem cY4(h:bZ I ep= .vl R){v0:Nat}(hv:2002<v0)(vs:List Val):bZ (I.upd v0 vs) ep= .vl R:=by
 show(I.upd v0 vs).f 826 [(I.upd v0 vs).w 0,(I.upd v0 vs).w 1,(I.upd v0 vs).w 2,(I.upd v0 vs).w 3,(I.upd v0 vs).w 4,co ((I.upd v0 vs).w 4).toL ((I.upd v0 vs).w 2002).toI 1]=_;rw[cU _ _ _ (by omega),cU _ _ _ (by omega),cU _ _ _ (by omega),cU _ _ _ (by omega),cU _ _ _ (by omega),cU _ _ _ (by omega),eV];exact h
theorem BS{x n:SX}(hx:bZ I x= .vl M)(hn:bZ I n= .vi M.length):bZ I (.op .lsub [x,aM,n])= .vl M:=by
 show Val.vl (((bZ I x).toL.drop (0:Int).toNat).take ((bZ I n).toI-0).toNat)=_;simp_all
theorem bY8{x n:SX}{c:Int}(hx:bZ I x= .vl M)(hn:bZ I n= .vi M.length)(hc:(M.length:Int)<=c):dB I (zn (zn (zp n) (fO n (zL x))) (fO (zL (.op .lsub [x,aM,n])) (.ci c)))=true:=by
 simp_all[cX,cI,Z8,BS,cF,and2,c9]
theorem dC6(f820: ∀a,I.f 820 a=BU a)(f827: ∀a,I.f 827 a=wT a)(f843: ∀a,I.f 843 a= .vi (sE (ce a 0).toL))(f867: ∀a,I.f 867 a=BC a)
 {ev:List Val} {i:Nat} (h4:(I.w 4).toL=ev) (hi:I.w 2002= .vi i) (D17:bZ I ep= .vl R) (hiv:i<ev.length) (hn:ev.length<=100) (hM:M.length<=100000) (hR:R.length<=100000) (j:Nat) (hj:j<=R.length):
 Z0 RV (I.upd 4000 [.vb false,.vi M.length,.vi j,.vl M])=if j<R.length then(if(!oI M (Z7 (cg ev i) 1) (cg R j)&& !decide (sE (iX ev (Z7 (cg ev i) 1).toS (ci (cg R j) 0) (ci (cg R j) 1))=0))=true then some (2,[.vb false,.vi M.length,.vi j,.vl M])else some (0,[.vb false,.vi (M++uN ev (Z7 (cg ev i) 1) M (cg R j)).length,.vi (j+1:Nat),.vl (M++uN ev (Z7 (cg ev i) 1) M (cg R j))]))else some (1,[.vb false,.vi M.length,.vi j,.vl M]):=by
 have v0:(I.upd 4000 [.vb false,.vi M.length,.vi j,.vl M]).w 4000= .vb false:=by rfl
 have v1:(I.upd 4000 [.vb false,.vi M.length,.vi j,.vl M]).w 4001= .vi M.length:=by rfl
 have v2:(I.upd 4000 [.vb false,.vi M.length,.vi j,.vl M]).w 4002= .vi j:=by rfl
 have v3:(I.upd 4000 [.vb false,.vi M.length,.vi j,.vl M]).w 4003= .vl M:=by rfl
 have w4:((I.upd 4000 [.vb false,.vi M.length,.vi j,.vl M]).w 4).toL=ev:=by grind[cU]
 have wi:(I.upd 4000 [.vb false,.vi M.length,.vi j,.vl M]).w 2002= .vi i:=by grind[cU]
 have D17:=cY4 D17 (v0:=4000) (by omega) [.vb false,.vi M.length,.vi j,.vl M];have f820: ∀a,(I.upd 4000 [.vb false,.vi M.length,.vi j,.vl M]).f 820 a=BU a:=λa=>by grind[eV]
 have f827: ∀a,(I.upd 4000 [.vb false,.vi M.length,.vi j,.vl M]).f 827 a=wT a:=λa=>by grind[eV]
 have f843: ∀a,(I.upd 4000 [.vb false,.vi M.length,.vi j,.vl M]).f 843 a= .vi (sE (ce a 0).toL):=λa=>by grind[eV]
 have f867: ∀a,(I.upd 4000 [.vb false,.vi M.length,.vi j,.vl M]).f 867 a=BC a:=λa=>by grind[eV]
 generalize I.upd 4000 [.vb false,.vi M.length,.vi j,.vl M]=aa at*
 have kx:bZ aa (zg 4 2002 1)=Z7 (cg ev i) 1:=by
  show co (aa.w 4).toL (aa.w 2002).toI 1=_;rw[w4,wi];rfl
 have sx:bZ aa (cj ep bn 0)=Z7 (cg R j) 0:=by
  show co (bZ aa ep).toL (aa.w 4002).toI 0=_;rw[D17,v2];rfl
 have ex:bZ aa (cj ep bn 1)=Z7 (cg R j) 1:=by
  show co (bZ aa ep).toL (aa.w 4002).toI 1=_;rw[D17,v2];rfl
 generalize hkey:Z7 (cg ev i) 1=key at*
 by_cases c:j<R.length
 .rw[e8 c];have inc:cn .add .i64 (j:Int) 1=((j+1:Nat):Int):=eJ (n:=1000000) (by omega) (by omega);have jx:bZ aa (zi bn)= .vi (j+1:Nat):=by
   show Val.vi (cn .add .i64 (aa.w 4002).toI 1)=_;simp_all
  refine cG (by simp_all[cT,cy,Z8,c9]) ?_;refine W8 (by show dB aa (zn (zp aW) (zs aW (zl 4)))=true;rw[cX,cI,cT,cF,cy,wi,Z8,dR,w4];simp_all) ?_;refine W8 (by simp_all[cI,cF,cy,c9]) ?_;refine W8 (bY8 (x:= bF) (n:= bg) v3 v1 (by omega)) ?_;have hd:dB aa (.app 827 [.op .lsub [bF,aM,bg],zg 4 2002 1,cj ep bn 0,cj ep bn 1])=oI M key (cg R j):=by
   show(aa.f 827 [bZ aa (.op .lsub [bF,aM,bg]),bZ aa (zg 4 2002 1),bZ aa (cj ep bn 0),bZ aa (cj ep bn 1)]).toB=_;rw[f827,BS (x:= bF) (n:= bg) v3 v1,kx,sx,ex];rfl
  unfold uN;cases hh:oI M key (cg R j)with
  |true=>
   refine cG (hd.trans hh) ?_;show some (0,[aa.w 4000,aa.w 4001,bZ aa (zi bn),aa.w 4003])=_;grind
  |false=>
   refine cE (hd.trans hh) ?_;generalize hV:iX ev key.toS (ci (cg R j) 0) (ci (cg R j) 1)=V;have hVl:V.length<=100:=by grind[Nat.le_trans,dh3]
   have e20:bZ aa ph=cA (0,[.vi V.length,.vi ev.length,.vl V]):=by
    show aa.f 867 [.vi 0,.vi 0,.vl [],.vi 0,.vi (aa.w 4).toL.length,aa.w 4,aa.w 0,aa.w 1,aa.w 2,aa.w 3,aa.w 4001,aa.w 4003,aa.w 2002,.vi (bZ aa ep).toL.length,bZ aa ep,aa.w 4002,bZ aa (zg 4 2002 1),bZ aa (cj ep bn 0),bZ aa (cj ep bn 1)]=_;rw[f867,kx,sx,ex];show mP (iX (aa.w 4).toL key.toS (ci (cg R j) 0) (ci (cg R j) 1)) (aa.w 4).toL.length=_;rw[w4,hV];rfl
   have a0:bZ aa (zo ph 0)= .vi V.length:=by show co (bZ aa ph).toL 1 0=_;rw[e20];rfl
   have a2:bZ aa (zo ph 2)= .vl V:=by show co (bZ aa ph).toL 1 2=_;rw[e20];rfl
   have e21:bZ aa mA= .vl V:=BS (x:= (zo ph 2)) (n:= (zo ph 0)) a2 a0;have g820: ∀p:Nat,bZ aa (.op .lget [.app 820 [mA],aM,.ci p])=(aA V).getD p default:=λp=>by
    show co (aa.f 820 [bZ aa mA]).toL 0 (p:Int)=_;rw[f820,e21];rfl
   have h843:dB aa (cZ (.app 843 [mA]) aM)= !decide (sE V=0):=by
    show(!decide ((aa.f 843 [bZ aa mA]).toI=0))=_;rw[f843,e21];rfl
   refine Z5 (r:=(0,[.vi V.length,.vi ev.length,.vl V])) ?_ e20 (W8 (bY8 a2 a0 (by omega)) ?_)
   .rw[<-hV,<-hkey];exact dW4 w4 wi v2 (cY4 D17 (by omega)) c hn
   .by_cases cs:sE V=0
    .have d22:bZ aa xg= .vl (M++[td ev key (cg R j)]):=by
      show Val.vl ((aa.w 4003).toL++[.vl [bZ aa (zg 4 2002 1),bZ aa (cj ep bn 0),bZ aa (cj ep bn 1),bZ aa (.op .lget [.app 820 [mA],aM,.ci (0:Nat)]),bZ aa (.op .lget [.app 820 [mA],aM,.ci (1:Nat)]),bZ aa (.op .lget [.app 820 [mA],aM,.ci (2:Nat)]),bZ aa (.op .lget [.app 820 [mA],aM,.ci (3:Nat)])]])=_;rw[v3,kx,sx,ex,g820,g820,g820,g820];unfold td;rw[hV];rfl
     refine cE (by rw[h843,c9 cs];rfl) (W8 (NW (q:= bg) (l:= bF) (c:=xg) v1 v3 d22 (by omega)) ?_);show some (0,[aa.w 4000,Val.vi (bZ aa xg).toL.length,bZ aa (zi bn),bZ aa xg])=_;simp_all
    .refine cG (by rw[h843,i6 cs];rfl) ?_;show some (2,[Val.vb false,aa.w 4001,aa.w 4002,aa.w 4003])=_;grind
 .refine cE (by rw[cT,cy,v2,Z8,D17];exact i6 (by show¬(j:Int)<(R.length:Int);omega)) ?_;show some (1,[aa.w 4000,aa.w 4001,aa.w 4002,aa.w 4003])=_;grind
theorem dW5(f820: ∀a,I.f 820 a=BU a)(f827: ∀a,I.f 827 a=wT a)(f843: ∀a,I.f 843 a= .vi (sE (ce a 0).toL))(f867: ∀a,I.f 867 a=BC a)
 {ev M0:List Val} {i:Nat} (h4:(I.w 4).toL=ev) (hi:I.w 2002= .vi i) (D17:bZ I ep= .vl R) (hiv:i<ev.length) (hn:ev.length<=100) (hM:M0.length+R.length<=100000):
 cO (λvs=>Z0 RV (I.upd 4000 vs)) [.vb false,.vi M0.length,.vi 0,.vl M0]=some (Af ev (Z7 (cg ev i) 1) R M0):=by
 have run:=λj hj=>dC6 (M:=fD ev (Z7 (cg ev i) 1) R M0 j) f820 f827 f843 f867 h4 hi D17 hiv hn (by grind[PM,Z7,cg]) (by omega) j hj
 unfold Af;generalize Z7 (cg ev i) 1=key at run⊢;cases hf:(List.range R.length).find? (pG ev key R M0)with
 |none=>
  refine eE (st:=λm=>[.vb false,.vi (fD ev key R M0 m).length,.vi m,.vl (fD ev key R M0 m)]) (n:=R.length) (λm hm=> ?_) ?_
  .have h1:=A7.1 hf m (r9.2 hm);unfold pG at h1;rw[run m (by omega),e8 hm,b9 h1];rfl
  grind
 |some j=>
  obtain⟨a,b,c⟩:=oY hf;refine eE (st:=λm=>[.vb false,.vi (fD ev key R M0 m).length,.vi m,.vl (fD ev key R M0 m)]) (n:=j) (λm hm=> ?_) ?_
  .have h1: ¬pG ev key R M0 m=true:=by grind
   unfold pG at h1;rw[run m (by omega),e8 (by omega),b9 h1];rfl
  .unfold pG at b;grind
end Go.Ev.S9
namespace Go.Ev.S9
open Go Go.Ev
variable{ev:List Val}
def gy(ev:List Val)(i:Nat):Val:=Z7 (cg ev i) 1
def eT(k s l g:Int)(ev:List Val)(i:Nat):List Val:=nR k s l g ev (gy ev i).toS
def eL(k s l g:Int)(ev:List Val):Nat->List Val
 |0=>[]
 |i+1=>fD ev (gy ev i) (eT k s l g ev i) (eL k s l g ev i) (eT k s l g ev i).length
def sZ(k s l g:Int)(ev:List Val)(i:Nat):Option Nat:=(List.range (eT k s l g ev i).length).find? (pG ev (gy ev i) (eT k s l g ev i) (eL k s l g ev i))
def Ff(k s l g:Int)(ev:List Val)(i:Nat):List Val:=fD ev (gy ev i) (eT k s l g ev i) (eL k s l g ev i) ((sZ k s l g ev i).getD 0)
def Cc(k s l g:Int)(ev:List Val):Nat×List Val:=match(List.range ev.length).find? (λi=>(sZ k s l g ev i).isSome)with
 |some i=>(1,[.vb false,.vi (Ff k s l g ev i).length,.vi i,.vl (Ff k s l g ev i)])
 |none=>(0,[.vb false,.vi (eL k s l g ev ev.length).length,.vi ev.length,.vl (eL k s l g ev ev.length)])
def e69(a:List Val):Val:=cA (Cc (ce a 7).toI (ce a 8).toI (ce a 9).toI (ce a 10).toI (ce a 6).toL)
def gg(k s l g:Int)(ev:List Val):Bool:=((List.range ev.length).find? (λi=>(sZ k s l g ev i).isSome)).isNone
def Hf(a:List Val):Val:= .vb (gg (ce a 0).toI (ce a 1).toI (ce a 2).toI (ce a 3).toI (ce a 4).toL)
def oL(X:Nat->List Val->Val)(a:List Val):Val:=if gg (ce a 0).toI (ce a 1).toI (ce a 2).toI (ce a 3).toI (ce a 4).toL=true then X 490 [.vl (eL (ce a 0).toI (ce a 1).toI (ce a 2).toI (ce a 3).toI (ce a 4).toL (ce a 4).toL.length)]else .vl []
theorem bY9(k s l g:Int)(ev:List Val)(key:List UInt8):(nR k s l g ev key).length<=16*ev.length:=by
 have hT:=Xr ev key;unfold nR yc;generalize lT ev key=T at hT⊢;by_cases k3:k=3
 .rw[e8 k3];generalize hS:(bif jL g T then jA g T else [])=S;have hSl:S.length<=T.length:=by
   rw[<-hS];cases jL g T with
   |true=>exact bY6 g T
   |false=>grind
  rw[mO (λi=>eB (cg S i)) S.length];omega
 .rw[b9 k3];have:=jD (g:=λi=>dw k s l g (Z7 (cg T i) 0)) (m:=16) (λi=>BO k3) T.length;omega
theorem cx1(k s l g:Int)(ev:List Val): ∀i,(eL k s l g ev i).length<=i*(16*ev.length)
 |0=>s7 _
 |i+1=>by
  have h1:=cx1 k s l g ev i;have h2:=PM ev (gy ev i) (eT k s l g ev i) (eL k s l g ev i) (eT k s l g ev i).length;have h3:(eT k s l g ev i).length<=16*ev.length:=bY9 k s l g ev _;show(fD ev (gy ev i) (eT k s l g ev i) (eL k s l g ev i) (eT k s l g ev i).length).length<=_;grind
variable{I:Opq}
section
variable(f820: ∀a,I.f 820 a=BU a)(f826: ∀a,I.f 826 a=EX a)(f827: ∀a,I.f 827 a=wT a)(f843: ∀a,I.f 843 a= .vi (sE (ce a 0).toL))(f866: ∀a,I.f 866 a=Ty a)(f867: ∀a,I.f 867 a=BC a)
include f820 f826 f827 f843 f866 f867
theorem dC8{k s l g:Int}(h0:(I.w 0).toI=k)(h1:(I.w 1).toI=s)(h2:(I.w 2).toI=l)(h3:(I.w 3).toI=g)(h4:(I.w 4).toL=ev)(hn:ev.length<=24)(i:Nat)(hi:i<=ev.length):
 Z0 PI (I.upd 2000 [.vb false,.vi (eL k s l g ev i).length,.vi i,.vl (eL k s l g ev i)])=if i<ev.length then(if(sZ k s l g ev i).isSome then some (2,[.vb false,.vi (Ff k s l g ev i).length,.vi i,.vl (Ff k s l g ev i)])else some (0,[.vb false,.vi (eL k s l g ev (i+1)).length,.vi (i+1:Nat),.vl (eL k s l g ev (i+1))]))else some (1,[.vb false,.vi (eL k s l g ev i).length,.vi i,.vl (eL k s l g ev i)]):=by
 have hM:=cx1 k s l g ev i;have hMs:eL k s l g ev (i+1)=fD ev (gy ev i) (eT k s l g ev i) (eL k s l g ev i) (eT k s l g ev i).length:=rfl;have hR:(eT k s l g ev i).length<=16*ev.length:=bY9 k s l g ev _;have hM2:(eL k s l g ev i).length<=24*384:=m7 hM (N0 (by omega) (by omega));have hX:Ff k s l g ev i=fD ev (gy ev i) (eT k s l g ev i) (eL k s l g ev i) ((sZ k s l g ev i).getD 0):=rfl;have hF:sZ k s l g ev i=(List.range (eT k s l g ev i).length).find? (pG ev (gy ev i) (eT k s l g ev i) (eL k s l g ev i)):=rfl;have hspR:eT k s l g ev i=nR k s l g ev (gy ev i).toS:=rfl;rw[hMs,hX,hF];generalize eT k s l g ev i=R at hR hspR⊢;generalize eL k s l g ev i=M at hM2⊢;have v0:(I.upd 2000 [.vb false,.vi M.length,.vi i,.vl M]).w 2000= .vb false:=by rw[cN];simp
 have v1:(I.upd 2000 [.vb false,.vi M.length,.vi i,.vl M]).w 2001= .vi M.length:=by rw[cN];simp
 have v2:(I.upd 2000 [.vb false,.vi M.length,.vi i,.vl M]).w 2002= .vi i:=by rw[cN];simp
 have v3:(I.upd 2000 [.vb false,.vi M.length,.vi i,.vl M]).w 2003= .vl M:=by rw[cN];simp
 have w0:((I.upd 2000 [.vb false,.vi M.length,.vi i,.vl M]).w 0).toI=k:=by rw[cU _ _ _ (by omega),h0]
 have w1:((I.upd 2000 [.vb false,.vi M.length,.vi i,.vl M]).w 1).toI=s:=by rw[cU _ _ _ (by omega),h1]
 have w2:((I.upd 2000 [.vb false,.vi M.length,.vi i,.vl M]).w 2).toI=l:=by rw[cU _ _ _ (by omega),h2]
 have w3:((I.upd 2000 [.vb false,.vi M.length,.vi i,.vl M]).w 3).toI=g:=by rw[cU _ _ _ (by omega),h3]
 have w4:((I.upd 2000 [.vb false,.vi M.length,.vi i,.vl M]).w 4).toL=ev:=by rw[cU _ _ _ (by omega),h4]
 have f820: ∀a,(I.upd 2000 [.vb false,.vi M.length,.vi i,.vl M]).f 820 a=BU a:=λa=>by exact f820 a
 have f826: ∀a,(I.upd 2000 [.vb false,.vi M.length,.vi i,.vl M]).f 826 a=EX a:=λa=>by exact f826 a
 have f827: ∀a,(I.upd 2000 [.vb false,.vi M.length,.vi i,.vl M]).f 827 a=wT a:=λa=>by exact f827 a
 have f843: ∀a,(I.upd 2000 [.vb false,.vi M.length,.vi i,.vl M]).f 843 a= .vi (sE (ce a 0).toL):=λa=>by exact f843 a
 have f866: ∀a,(I.upd 2000 [.vb false,.vi M.length,.vi i,.vl M]).f 866 a=Ty a:=λa=>by exact f866 a
 have f867: ∀a,(I.upd 2000 [.vb false,.vi M.length,.vi i,.vl M]).f 867 a=BC a:=λa=>by exact f867 a
 generalize I.upd 2000 [.vb false,.vi M.length,.vi i,.vl M]=aa at*
 have l4:(bZ aa (zl 4)).toI=(ev.length:Int):=by rw[Z8,dR,w4]
 by_cases c:i<ev.length
 .rw[e8 c];have d17:bZ aa ep= .vl R:=by
   show aa.f 826 [aa.w 0,aa.w 1,aa.w 2,aa.w 3,aa.w 4,co (aa.w 4).toL (aa.w 2002).toI 1]=_;rw[f826];show Val.vl (nR (aa.w 0).toI (aa.w 1).toI (aa.w 2).toI (aa.w 3).toI (aa.w 4).toL (co (aa.w 4).toL (aa.w 2002).toI 1).toS)=_;rw[w0,w1,w2,w3,w4,v2,hspR];rfl
  have e23:bZ aa fS=cA (Af ev (gy ev i) R M):=by
   show aa.f 866 [aa.w 2000,.vi (aa.w 2003).toL.length,.vi 0,aa.w 2003,.vi 0,.vi (aa.w 4).toL.length,aa.w 4,aa.w 0,aa.w 1,aa.w 2,aa.w 3,aa.w 2002,.vi (bZ aa ep).toL.length,bZ aa ep]=_;rw[f866,d17];show cA (Af (aa.w 4).toL (Z7 (cg (aa.w 4).toL (aa.w 2002).toI.toNat) 1) R (aa.w 2003).toL)=_;rw[w4,v2,v3];rfl
  have i1:bZ aa (zi aW)= .vi (i+1:Nat):=by
   show Val.vi (cn .add .i64 (aa.w 2002).toI 1)=_;rw[v2,a09,eJ (n:=1000000) (by omega) (by omega)]
  refine cG (by show dB aa (zs aW (zl 4))=true;rw[cT,cy,v2,l4];exact c9 (by show(i:Int)<(ev.length:Int);omega)) ?_;refine W8 (by rw[cI,cF,cy,v2];exact c9 (by show(0:Int)<=(i:Int);omega)) ?_;refine W8 (by rw[cI,cF,l4];exact c9 (by omega)) ?_;refine W8 (by show dB aa (cJ aR (zl 2003))=true;rw[eo,cy,v1,Z8,dR,v3];exact c9 rfl) ?_;refine Z5 (r:=Af ev (gy ev i) R M) ?_ e23 ?_
  .show cO _ [aa.w 2000,Val.vi (aa.w 2003).toL.length,.vi 0,aa.w 2003]=_;rw[v0,v3];exact dW5 (M0:=M) f820 f827 f843 f867 w4 v2 d17 c (by omega) (by omega)
  .unfold Af at e23⊢;cases hf:(List.range R.length).find? (pG ev (gy ev i) R M)with
   |none=>
    rw[hf]at e23;have a0:bZ aa (zo fS 0)= .vb false:=by show co (bZ aa fS).toL 1 0=_;rw[e23];rfl
    have a1:bZ aa (zo fS 1)= .vi (fD ev (gy ev i) R M R.length).length:=by show co (bZ aa fS).toL 1 1=_;rw[e23];rfl
    have a3:bZ aa (zo fS 3)= .vl (fD ev (gy ev i) R M R.length):=by show co (bZ aa fS).toL 1 3=_;rw[e23];rfl
    refine W8 (by show dB aa (cJ (zo fS 1) (zL (zo fS 3)))=true;rw[eo,Z8,a1,a3];exact c9 rfl) ?_;show some (0,[bZ aa (zo fS 0),Val.vi (bZ aa (zo fS 3)).toL.length,bZ aa (zi aW),bZ aa (zo fS 3)])=_;rw[a0,a3,i1];rfl
   |some j=>
    rw[hf]at e23;have a0:bZ aa (zo fS 0)= .vb false:=by show co (bZ aa fS).toL 1 0=_;rw[e23];rfl
    have a1:bZ aa (zo fS 1)= .vi (fD ev (gy ev i) R M j).length:=by show co (bZ aa fS).toL 1 1=_;rw[e23];rfl
    have a3:bZ aa (zo fS 3)= .vl (fD ev (gy ev i) R M j):=by show co (bZ aa fS).toL 1 3=_;rw[e23];rfl
    refine W8 (by show dB aa (cJ (zo fS 1) (zL (zo fS 3)))=true;rw[eo,Z8,a1,a3];exact c9 rfl) ?_;show some (2,[bZ aa (zo fS 0),Val.vi (bZ aa (zo fS 3)).toL.length,aa.w 2002,bZ aa (zo fS 3)])=_;rw[a0,a3,v2];rfl
 .rw[b9 c];refine cE (by show dB aa (zs aW (zl 4))=false;rw[cT,cy,v2,l4];exact i6 (by show¬(i:Int)<(ev.length:Int);omega)) ?_;show some (1,[aa.w 2000,aa.w 2001,aa.w 2002,aa.w 2003])=_;rw[v0,v1,v2,v3]
theorem dW6{k s l g:Int}(h0:(I.w 0).toI=k)(h1:(I.w 1).toI=s)(h2:(I.w 2).toI=l)(h3:(I.w 3).toI=g)(h4:(I.w 4).toL=ev)(hn:ev.length<=24):
 cO (λvs=>Z0 PI (I.upd 2000 vs)) [.vb false,.vi 0,.vi 0,.vl []]=some (Cc k s l g ev):=by
 have run:=dC8 f820 f826 f827 f843 f866 f867 h0 h1 h2 h3 h4 hn;unfold Cc;cases hf:(List.range ev.length).find? (λi=>(sZ k s l g ev i).isSome)with
 |none=>
  refine eE (st:=λm=>[.vb false,.vi (eL k s l g ev m).length,.vi m,.vl (eL k s l g ev m)]) (n:=ev.length) (λm hm=> ?_) ?_
  .have h1:=A7.1 hf m (r9.2 hm);rw[run m (by omega),e8 hm,b9 h1]
  grind
 |some j=>
  obtain⟨a,b,c⟩:=oY hf;refine eE (st:=λm=>[.vb false,.vi (eL k s l g ev m).length,.vi m,.vl (eL k s l g ev m)]) (n:=j) (λm hm=> ?_) ?_
  .rw[run m (by omega),e8 (by omega),b9 (by rw[c m hm];simp)]
  grind
theorem dh4{X:Nat->List Val->Val}(f490: ∀a,I.f 490 a=X 490 a)(f865: ∀a,I.f 865 a=e69 a){k s l g:Int}(h0:(I.w 0).toI=k)(h1:(I.w 1).toI=s)(h2:(I.w 2).toI=l)(h3:(I.w 3).toI=g)(h4:(I.w 4).toL=ev)(hn:ev.length<=24)
 (hok:gg k s l g ev=true->(eL k s l g ev ev.length).length<=400/\(I.f 431 [.vl (eL k s l g ev ev.length)]).toB=true):
 Z0 T_rRows I=some (0,[Hf [I.w 0,I.w 1,I.w 2,I.w 3,I.w 4],oL X [I.w 0,I.w 1,I.w 2,I.w 3,I.w 4]]):=by
 have hv:([Hf [I.w 0,I.w 1,I.w 2,I.w 3,I.w 4],oL X [I.w 0,I.w 1,I.w 2,I.w 3,I.w 4]]:List Val)=[.vb (gg k s l g ev),if gg k s l g ev=true then X 490 [.vl (eL k s l g ev ev.length)]else .vl []]:=by
  show [Val.vb (gg (I.w 0).toI (I.w 1).toI (I.w 2).toI (I.w 3).toI (I.w 4).toL),if gg (I.w 0).toI (I.w 1).toI (I.w 2).toI (I.w 3).toI (I.w 4).toL=true then X 490 [.vl (eL (I.w 0).toI (I.w 1).toI (I.w 2).toI (I.w 3).toI (I.w 4).toL (I.w 4).toL.length)]else .vl []]=_;grind
 have e0:bZ I uz=cA (Cc k s l g ev):=by
  show I.f 865 [.vb false,.vi 0,.vi 0,.vl [],.vi 0,.vi (I.w 4).toL.length,I.w 4,I.w 0,I.w 1,I.w 2,I.w 3]=_;rw[f865,<-h0,<-h1,<-h2,<-h3,<-h4];rfl
 refine Z5 (r:=Cc k s l g ev) (dW6 f820 f826 f827 f843 f866 f867 h0 h1 h2 h3 h4 hn) e0 ?_;unfold gg Cc at*
 cases hf:(List.range ev.length).find? (λi=>(sZ k s l g ev i).isSome)with
 |none=>
  rw[hf]at e0 hok;obtain⟨k1,k2⟩:=hok rfl;generalize eL k s l g ev ev.length=M at*
  have a1:bZ I GN= .vi M.length:=by show co (bZ I uz).toL 1 1=_;rw[e0];rfl
  have a2:bZ I Ms= .vl M:=by show co (bZ I uz).toL 1 3=_;rw[e0];rfl
  have a3:bZ I zJ= .vl M:=BS (x:=Ms) (n:=GN) a2 a1;refine W8 ?_ ?_
  .rw[cX,cX,cX,cI,cI,cI,Z8,Z8,a1,a2,a3,cF,cF];have:dB I (.app 431 [zJ])=true:=by
    show(I.f 431 [bZ I zJ]).toB=true;grind
   exact and2 (and2 (c9 (by simp_all)) (c9 (by simp_all))) (and2 (c9 (by show(M.length:Int)<=400;omega)) this)
  .show some (0,[Val.vb true,I.f 490 [bZ I zJ]])=_;grind
 |some i=>
  rw[hf]at e0;show some (0,[bZ I (zo uz 0),Val.vl []])=_;have:bZ I (zo uz 0)= .vb false:=by show co (bZ I uz).toL 1 0=_;rw[e0];rfl
  grind
end
end Go.Ev.S9
namespace Go.Ev.S9
open Go Go.Ev
def uE(L:List Val)(mark:Int)(i:Nat):Bool:=decide (mark<ci (cg L i) 2)
def CX(L:List Val)(mark:Int):Nat×List Val:=gZ (.vi 0) (λk=>[.vi k,.vi k]) (uE L mark) L.length
def Wf(a:List Val):Val:=cA (CX (ce a 3).toL (ce a 4).toI)
def fM(L:List Val)(mark:Int)(k:Nat):Nat->Nat×List Val
 |0=>(k,L)
 |j+1=>if ci (cg (fM L mark k j).2 (k+1+j)) 2<=mark then((fM L mark k j).1+1,(fM L mark k j).2.set (fM L mark k j).1 (cQ (cg (fM L mark k j).2 (k+1+j))))else fM L mark k j
def Cz(L:List Val)(mark:Int)(k:Nat):Nat×List Val:=(0,[.vi (fM L mark k (L.length-(k+1))).1,.vi L.length,.vl (fM L mark k (L.length-(k+1))).2])
def Zt(a:List Val):Val:=cA (Cz (ce a 2).toL (ce a 5).toI (ce a 0).toI.toNat)
def fj(mark:Int)(r:Val):Bool:=decide (ci r 2<=mark)
def NZ(X:Nat->List Val->Val)(a:List Val):Val:= .vl ((X 490 [ce a 0]).toL.filter (fj (ce a 1).toI))
theorem nC{l:List Val}{i:Nat}(h:i<l.length):cg l i=l[i]:=by simp[cg,j8,h]
theorem KM{l:List Val}{i:Nat}(h:i<l.length):l.take (i+1)=l.take i++[cg l i]:=by
 rw[O7,show l[i]?.toList=[cg l i] by simp[cg,j8,h]]
theorem Vq{L:List Val}{mark:Int}{k:Nat}(hL: ∀r∈L,cQ r=r)(hk:(L.take k).filter (fj mark)=L.take k)(hkn:k<L.length)(hkp:fj mark (cg L k)=false): ∀j,k+1+j<=L.length->
 (fM L mark k j).1<=k+j/\k<=(fM L mark k j).1/\(fM L mark k j).2.length=L.length/\(∀q,k+1+j<=q->cg (fM L mark k j).2 q=cg L q)/\(fM L mark k j).2.take (fM L mark k j).1=(L.take (k+1+j)).filter (fj mark)
 |0,_=>by
  refine⟨e9 _,e9 _,rfl,λ_ _=>rfl,?_⟩;show L.take k=(L.take (k+1)).filter (fj mark);rw[KM hkn,C5,hk,W1 (by rw[hkp];simp)];simp
 |j+1,hj=>by
  obtain⟨h1,h2,h3,h4,h5⟩:=Vq hL hk hkn hkp j (by omega);have ha:=h4 (k+1+j) (e9 _);have hs:(L.take (k+1+(j+1))).filter (fj mark)=(L.take (k+1+j)).filter (fj mark)++(if fj mark (cg L (k+1+j))then [cg L (k+1+j)]else []):=by
   rw[show k+1+(j+1)=(k+1+j)+1 by omega,KM (by omega),C5];cases hc:fj mark (cg L (k+1+j))with
   |true=>rw[W2 hc];rfl
   |false=>rw[W1 (by rw[hc];simp)];rfl
  unfold fM;rw[ha,hs,<-h5];by_cases c:ci (cg L (k+1+j)) 2<=mark
  .rw[e8 c,e8 (show fj mark (cg L (k+1+j))=true from c9 c),hL _ (iN (by omega))];generalize fM L mark k j=p at*
   obtain⟨w,M⟩:=p;refine⟨by omega,by omega,by simpa using h3,λq hq=> ?_,?_⟩
   .have:=h4 q (by omega);rw[<-this];show(M.set w (cg L (k+1+j))).getD q (.vl [])=M.getD q (.vl []);rw[j8,j8,W3 (by omega)]
   .have hM:M.length=L.length:=h3;rw[KM (by rw[D8,hM];omega),List.take_set_of_le (e9 _)];rw[nC (by rw[D8,hM];omega),List.getElem_set_self]
  .rw[if_neg c,if_neg (show¬fj mark (cg L (k+1+j))=true from by unfold fj;rw[decide_eq_false c];simp),List.append_nil];exact⟨by omega,h2,h3,λq hq=>h4 q (by omega),rfl⟩
variable{I:Opq}
section
variable{L:List Val}{mark:Int}(D0: ∀vs,bZ (I.upd 2000 vs) (.app 490 [aS])= .vl L)(hm:(I.w 5).toI=mark)
include D0 hm
theorem dW7(hn:L.length<=400):cO (λvs=>Z0 SK (I.upd 2000 vs)) [.vi 0,.vi 0]=some (CX L mark):=by
 have run: ∀(x:Val) (i:Nat),Z0 SK (I.upd 2000 [x,.vi i])=if i<L.length then(if uE L mark i then some (2,[.vi i,.vi i])else some (0,[x,.vi (i+1:Nat)]))else some (1,[x,.vi i]):=λx i=>by
  have v0:(I.upd 2000 [x,.vi i]).w 2000=x:=by rw[cN];simp
  have v1:(I.upd 2000 [x,.vi i]).w 2001= .vi i:=by rw[cN];simp
  have w5:((I.upd 2000 [x,.vi i]).w 5).toI=mark:=by rw[cU _ _ _ (by omega),hm]
  have D0:=D0 [x,.vi i];generalize I.upd 2000 [x,.vi i]=aa at*
  have l0:(bZ aa jo).toI=(L.length:Int):=by show((bZ aa (.app 490 [aS])).toL.length:Int)=_;rw[D0];rfl
  by_cases c:i<L.length
  .rw[e8 c];refine cG (by rw[cT,cy,v1,l0];exact c9 (by show(i:Int)<(L.length:Int);omega)) (W8 (by rw[cI,cF,cy,v1];exact c9 (by show(0:Int)<=(i:Int);omega)) ?_);have hq:dB aa (fV (cj (.app 490 [aS]) aR 2) be)=uE L mark i:=by
    show decide ((aa.w 5).toI<(co (bZ aa (.app 490 [aS])).toL (aa.w 2001).toI 2).toI)=_;rw[D0,v1,w5];rfl
   cases hl:uE L mark i with
   |true=>
    rw[e8 rfl];refine cG (hq.trans hl) ?_;show some (2,[aa.w 2001,aa.w 2001])=_;rw[v1]
   |false=>
    rw[b9 (by simp)];refine cE (hq.trans hl) ?_;show some (0,[aa.w 2000,Val.vi (cn .add .i64 (aa.w 2001).toI 1)])=_;rw[v0,v1,a09,eJ (n:=1000000) (by omega) (by omega)]
  .rw[b9 c];refine cE (by rw[cT,cy,v1,l0];exact i6 (by show¬(i:Int)<(L.length:Int);omega)) ?_;show some (1,[aa.w 2000,aa.w 2001])=_;rw[v0,v1]
 refine xu (λi hi hb=> ?_) (λi hi hb=> ?_) ?_
 .rw[run,e8 hi,b9 (by rw[hb];simp)]
 .rw[run,e8 hi,e8 hb]
 grind
theorem dW8(hL: ∀r∈L,cQ r=r){k:Nat}(hk:(L.take k).filter (fj mark)=L.take k)(hkn:k<L.length)(hkp:fj mark (cg L k)=false)(hn:L.length<=400):
 cO (λvs=>Z0 PU (I.upd 2000 vs)) [.vi k,.vi (k+1:Nat),.vl L]=some (Cz L mark k):=by
 refine eE (st:=λj=>[.vi (fM L mark k j).1,.vi (k+1+j:Nat),.vl (fM L mark k j).2]) (n:=L.length-(k+1)) (λj hj=> ?_) ?_
 .obtain⟨h1,h2,h3,h4,h5⟩:=Vq hL hk hkn hkp j (by omega);show Z0 PU (I.upd 2000 [.vi (fM L mark k j).1,.vi (k+1+j:Nat),.vl (fM L mark k j).2])=some (0,[.vi (fM L mark k (j+1)).1,.vi (k+1+j+1:Nat),.vl (fM L mark k (j+1)).2]);rw[show fM L mark k (j+1)=if ci (cg (fM L mark k j).2 (k+1+j)) 2<=mark then((fM L mark k j).1+1,(fM L mark k j).2.set (fM L mark k j).1 (cQ (cg (fM L mark k j).2 (k+1+j))))else fM L mark k j from rfl];generalize fM L mark k j=p at*
  obtain⟨wr,M⟩:=p;replace h3:M.length=L.length:=h3;have v0:=lB I 2000 (.vi wr) (.vi (k+1+j:Nat)) (.vl M);have v1:(I.upd 2000 [.vi wr,.vi (k+1+j:Nat),.vl M]).w 2001=_:=gr I 2000 (.vi wr) (.vi (k+1+j:Nat)) (.vl M);have v2:(I.upd 2000 [.vi wr,.vi (k+1+j:Nat),.vl M]).w 2002=_:=kW I 2000 (.vi wr) (.vi (k+1+j:Nat)) (.vl M);have w5:((I.upd 2000 [.vi wr,.vi (k+1+j:Nat),.vl M]).w 5).toI=mark:=by grind[cU]
  have D0:=D0 [.vi wr,.vi (k+1+j:Nat),.vl M];generalize I.upd 2000 [.vi wr,.vi (k+1+j:Nat),.vl M]=aa at*
  generalize hr:k+1+j=r at*
  have l0:(bZ aa jo).toI=(L.length:Int):=by show((bZ aa (.app 490 [aS])).toL.length:Int)=_;rw[D0];rfl
  have gx: ∀c:Nat,bZ aa (.op .lget [aW,aR,.ci c])=Z7 (cg M r) c:=λc=>by
   show co (aa.w 2002).toL (aa.w 2001).toI (c:Int)=_;rw[v1,v2];rfl
  have hq:dB aa (fV (zg 2002 2001 2) be)=decide (mark<ci (cg M r) 2):=by
   show decide ((aa.w 5).toI<(bZ aa (.op .lget [aW,aR,.ci (2:Nat)])).toI)=_;rw[gx,w5];rfl
  have inc:cn .add .i64 (r:Int) 1=((r+1:Nat):Int):=eJ (n:=1000000) (by omega) (by omega);have incw:cn .add .i64 (wr:Int) 1=((wr+1:Nat):Int):=eJ (n:=1000000) (by omega) (by omega);refine cG (by rw[cT,cy,v1,l0];exact c9 (by show(r:Int)<(L.length:Int);omega)) (W8 (by rw[cI,cF,cy,v1];rfl) (W8 (by rw[cT,cy,v1,Z8,dR,v2];exact c9 (by show(r:Int)<(M.length:Int);omega)) ?_));by_cases c:ci (cg M r) 2<=mark
  .rw[e8 c];refine cG (by grind[fm,decide_eq_false]) (W8 ?_ (W8 ?_ ?_))
   .rw[cX,cI,cT,cF,cy,show aa.w 2000=_ from v0,l0];exact and2 (c9 (by show(0:Int)<=(wr:Int);omega)) (c9 (by show(wr:Int)<(L.length:Int);omega))
   .rw[cT,cy,show aa.w 2000=_ from v0,Z8,dR,v2];exact c9 (by show(wr:Int)<(M.length:Int);omega)
   .show some (0,[Val.vi (cn .add .i64 (aa.w 2000).toI 1),Val.vi (cn .add .i64 (aa.w 2001).toI 1),Val.vl ((aa.w 2002).toL.set (aa.w 2000).toI.toNat (.vl [bZ aa (.op .lget [aW,aR,.ci (0:Nat)]),bZ aa (.op .lget [aW,aR,.ci (1:Nat)]),bZ aa (.op .lget [aW,aR,.ci (2:Nat)]),bZ aa (.op .lget [aW,aR,.ci (3:Nat)]),bZ aa (.op .lget [aW,aR,.ci (4:Nat)]),bZ aa (.op .lget [aW,aR,.ci (5:Nat)]),bZ aa (.op .lget [aW,aR,.ci (6:Nat)])]))])=_;rw[gx,gx,gx,gx,gx,gx,gx,show aa.w 2000=_ from v0,v1,v2,a09,a09,inc,incw];rfl
  .refine cE (by rw[fm,hq,c9 (by omega)];rfl) ?_;show some (0,[aa.w 2000,Val.vi (cn .add .i64 (aa.w 2001).toI 1),aa.w 2002])=_;grind[a09]
 .rw[show k+1+(L.length-(k+1))=L.length by omega];generalize fM L mark k (L.length-(k+1))=p;have D0:=D0 [.vi p.1,.vi L.length,.vl p.2];have v0:(I.upd 2000 [.vi p.1,.vi L.length,.vl p.2]).w 2000=_:=lB ..;have v1:(I.upd 2000 [.vi p.1,.vi L.length,.vl p.2]).w 2001=_:=gr ..;have v2:(I.upd 2000 [.vi p.1,.vi L.length,.vl p.2]).w 2002=_:=kW ..;generalize I.upd 2000 [.vi p.1,.vi L.length,.vl p.2]=aa at*
  have l0:(bZ aa jo).toI=(L.length:Int):=by show((bZ aa (.app 490 [aS])).toL.length:Int)=_;rw[D0];rfl
  refine cE (by rw[cT,cy,v1,l0];exact i6 (by show¬(L.length:Int)<(L.length:Int);omega)) ?_;show some (1,[aa.w 2000,aa.w 2001,aa.w 2002])=_;grind
end
end Go.Ev.S9
namespace Go.Ev.S9
open Go Go.Ev
variable{I:Opq}
theorem dh5{X:Nat->List Val->Val}(f490: ∀a,I.f 490 a=X 490 a)(h490: ∀v,(I.f 431 [v]).toB=true-> ∃l',X 490 [v]= .vl l'/\l'.Perm v.toL/\ ∀r∈l',cQ r=r)
 (f763: ∀a,I.f 763 a=Wf a) (f764: ∀a,I.f 764 a=Zt a) (hn:(I.w 4).toL.length<=400) (h431:(I.f 431 [I.w 4]).toB=true) (h491:(I.f 491 [I.w 4]).toB=true):
 Z0 T_fired I=some (0,[NZ X [I.w 4,I.w 5]]):=by
 obtain⟨L,hL,hp,hL7⟩:=h490 _ h431;have hLn:L.length<=400:=by rw[hp.length_eq];exact hn
 generalize hm:(I.w 5).toI=mark;have hv:NZ X [I.w 4,I.w 5]= .vl (L.filter (fj mark)):=by
  show Val.vl ((X 490 [I.w 4]).toL.filter (fj (I.w 5).toI))=_;rw[hL,hm];rfl
 rw[hv];have dL:bZ I (.app 490 [aS])= .vl L:=by show I.f 490 [I.w 4]=_;rw[f490,hL]
 have D0: ∀vs,bZ (I.upd 2000 vs) (.app 490 [aS])= .vl L:=λvs=>by
  exact dL
 have l0:bZ I jo= .vi L.length:=by show Val.vi ((bZ I (.app 490 [aS])).toL.length:Int)=_;rw[dL];rfl
 have e1:I.f 763 [.vi 0,.vi 0,bZ I jo,bZ I (.app 490 [aS]),I.w 5,bZ I jo]=cA (CX L mark):=by
  rw[f763,dL];show cA (CX L (I.w 5).toI)=_;rw[hm]
 refine W8 ?_ (Z5 (r:=CX L mark) (dW7 D0 hm hLn) e1 ?_)
 .rw[cX,cX,cI,Z8,dR,cF];exact and2 (and2 (c9 (by omega)) h431) h491
 unfold CX at*
 cases hf:(List.range L.length).find? (uE L mark)with
 |none=>
  have hno:L.filter (fj mark)=L:=by
   refine W4.2 λr hr=> ?_
   obtain⟨i,hi,rfl⟩:=B3 hr;have h1:=A7.1 hf i (r9.2 hi);unfold uE at h1;rw[nC hi]at h1;exact c9 (by simpa using h1)
  have hs:gZ (.vi 0) (λk=>[.vi k,.vi k]) (uE L mark) L.length=(0,[.vi 0,.vi L.length]):=by unfold gZ;rw[hf]
  rw[hs];show some (0,[bZ I (.app 490 [aS])])=_;rw[dL,hno]
 |some k=>
  obtain⟨hk,hb,hc⟩:=oY hf;have hs:gZ (.vi 0) (λk=>[.vi k,.vi k]) (uE L mark) L.length=(1,[.vi k,.vi k]):=by unfold gZ;rw[hf]
  rw[hs]at e1⊢;have q1:bZ I vY= .vi k:=by
   show co (I.f 763 [.vi 0,.vi 0,bZ I jo,bZ I (.app 490 [aS]),I.w 5,bZ I jo]).toL 1 0=_;rw[e1];rfl
  have q2:bZ I Hv= .vi (k+1:Nat):=by
   show Val.vi (cn .add .i64 (bZ I vY).toI 1)=_;rw[q1,a09,eJ (n:=1000000) (by omega) (by omega)]
  have hk1:(L.take k).filter (fj mark)=L.take k:=by
   refine W4.2 λr hr=> ?_
   obtain⟨i,hi,rfl⟩:=B3 hr;rw[l5]at hi;have h1:=hc i (by omega);unfold uE at h1;rw[nC (by omega)]at h1;rw[List.getElem_take];exact c9 (by have:=of_decide_eq_false h1;omega)
  have hk2:fj mark (cg L k)=false:=by
   have:=j5 hb;exact i6 (by omega)
  obtain⟨i1,i2,i3,i4,i5⟩:=Vq hL7 hk1 hk hk2 (L.length-(k+1)) (by omega);rw[show k+1+(L.length-(k+1))=L.length by omega,A8]at i5;have e3:bZ I IE=cA (Cz L mark k):=by
   show I.f 764 [bZ I vY,bZ I Hv,bZ I (.app 490 [aS]),bZ I jo,bZ I (.app 490 [aS]),I.w 5]=_;rw[f764,dL,q1];show cA (Cz L (I.w 5).toI k)=_;rw[hm]
  unfold Cz at e3;have hlp:=dW8 D0 hm hL7 hk1 hk hk2 hLn;unfold Cz at hlp;generalize fM L mark k (L.length-(k+1))=p at*
  obtain⟨wr,M⟩:=p;replace i3:M.length=L.length:=i3;have q4:bZ I oK= .vi wr:=by show co (bZ I IE).toL 1 0=_;rw[e3];rfl
  have q8:bZ I wN= .vl M:=by show co (bZ I IE).toL 1 2=_;rw[e3];rfl
  have q5:dB I Rj=true:=by
   show decide ((0:Int)<=(bZ I oK).toI)=true;rw[q4];exact c9 (by show(0:Int)<=(wr:Int);omega)
  have q6:bZ I xX= .vi ((L.length:Int)-wr):=by
   show Val.vi ((bZ I jo).toI-(bZ I oK).toI)=_;rw[l0,q4];rfl
  have q7:bZ I Mo= .vi L.length:=by
   show Val.vi ((bZ I oK).toI+(bZ I xX).toI)=_;rw[q4,q6];show Val.vi ((wr:Int)+((L.length:Int)-wr))=_;congr 1;omega
  have q9: ∃Z,bZ I LW= .vl (M.take wr++Z):=by
   refine⟨(bZ I (zc (.op .lrep [xX,.op .row [.cs [],aM,aM,aM,aM,aM,aM]]) (.op .lsub [wN,Mo,zL wN]))).toL,?_⟩;show Val.vl (((bZ I wN).toL.drop (0:Int).toNat).take ((bZ I oK).toI-0).toNat++_)=_;rw[q8,q4];exact congrArg Val.vl (congrArg (· ++_) (by simp))
  obtain⟨Z,q9⟩:=q9;have hwl:(M.take wr).length=wr:=by rw[l5];omega
  refine cE (by rw[eo,q1,cF];exact i6 (by show¬(k:Int)= -1;omega)) (Z5 (r:=(0,[.vi wr,.vi L.length,.vl M])) ?_ e3 (W8 ?_ (W8 ?_ (W8 ?_ ?_))))
  .show cO _ [bZ I vY,bZ I Hv,bZ I (.app 490 [aS])]=_;rw[q1,q2,dL];exact hlp
  .rw[cX,q5,cI,q4,l0];exact and2 rfl (c9 (by show(wr:Int)<=(L.length:Int);omega))
  .rw[cX,cX,cX,q5,cI,cI,cI,q6,q7,Z8,q8,cF,cF];exact and2 (and2 rfl (c9 (by show(0:Int)<=(L.length:Int)-wr;omega))) (and2 (c9 (by show(L.length:Int)-wr<=1000000;omega)) (c9 (by show(L.length:Int)<=(M.length:Int);omega)))
  .rw[cI,q4,Z8,q9];exact c9 (by show(wr:Int)<=((M.take wr++Z).length:Int);rw[k5];omega)
  .show some (0,[Val.vl (((bZ I LW).toL.drop (0:Int).toNat).take ((bZ I oK).toI-0).toNat)])=_;rw[q9,q4];show some (0,[Val.vl (((M.take wr++Z).drop 0).take ((wr:Int)-0).toNat)])=_;rw[show((wr:Int)-0).toNat=wr by omega,R3,W5 (by omega),I5 (by omega),i5]
end Go.Ev.S9
namespace Go.Ev.S9
open Go Go.Ev
variable{l:List Val}{X:Nat->List Val->Val}
def KY(l:List Val)(i:Nat):Int:=dH (ci (cg l i) 0) (Z7 (cg l i) 1).toS (ci (cg l i) 2) (ci (cg l i) 3)
def evT(l:List Val)(i:Nat):List Val:=JE (l.take i)
def rE(k s w g:Int)(l:List Val)(i:Nat):Int:=if KY l i≠0 then KY l i else if gg k s w g (evT l (i+1))=true then 0 else 30
def rF(k s w g:Int)(l:List Val):Option Nat:=(List.range l.length).find? λi=>decide (rE k s w g l i≠0)
def eb5(k s w g:Int)(l:List Val):Nat×List Val:=match rF k s w g l with
 |some i=>(1,[.vi (rE k s w g l i),.vi i])
 |none=>(0,[.vi 0,.vi l.length])
def e72(a:List Val):Val:= .vi (dH (ce a 0).toI (ce a 1).toS (ce a 2).toI (ce a 3).toI)
def e73(a:List Val):Val:= .vl (JE (ce a 0).toL)
def WY(a:List Val):Val:=EF (ce a 0).toL (ce a 0).toL.length
def VQ(a:List Val):Val:= .vl (tp (ce a 0).toL (ce a 1).toI)
def eb6(a:List Val):Val:=cA (eb5 (ce a 5).toI (ce a 6).toI (ce a 7).toI (ce a 8).toI (ce a 4).toL)
def rTe(k s w g:Int)(l:List Val):Int:=if cV k s w g=true then(match rF k s w g l with|some i=>rE k s w g l i|none=>0)else 2
def rTr(X:Nat->List Val->Val)(k s w g:Int)(l:List Val):Val:=if cV k s w g=true then(match rF k s w g l with|some _=> .vl []|none=>VQ [oL X [.vi k,.vi s,.vi w,.vi g,.vl (JE l)],WY [.vl l]])else .vl []
def eb7(a:List Val):Val:= .vi (rTe (ce a 0).toI (ce a 1).toI (ce a 2).toI (ce a 3).toI (ce a 4).toL)
def eb8(X:Nat->List Val->Val)(a:List Val):Val:=rTr X (ce a 0).toI (ce a 1).toI (ce a 2).toI (ce a 3).toI (ce a 4).toL
variable{I:Opq}
section
variable(f700: ∀a,I.f 700 a= .vb (cV (ce a 0).toI (ce a 1).toI (ce a 2).toI (ce a 3).toI))(f701: ∀a,I.f 701 a=e72 a)(f829: ∀a,I.f 829 a=Hf a)(f830: ∀a,I.f 830 a=e73 a)
include f701 f829 f830
end
end Go.Ev.S9
