import Derived.Test.YtcmjiepodnicoaaGreatEL1
set_option linter.unusedSimpArgs false
set_option linter.unusedVariables false
namespace Go.Ev.S9
open Go Go.Ev
theorem Da{step:List Val->Option (Nat×List Val)}{n:Nat}{a0:List Val}{g:Nat->List Val}(mk:Nat->List Val->List Val){s0 p:List Val}(h0:s0=mk 0 a0)
 (h1: ∀i,i<n->step (mk i (a0++cB g i))=some (0,mk (i+1) (a0++cB g i++g i))) (h2:step (mk n (a0++cB g n))=some (1,p)):cO step s0=some (0,p):=by
 have:=eE (step:=step) (st:=λi=>mk i (a0++cB g i)) (n:=n) (j:=0) (p:=p) (λi hi=>by
  show step (mk i (a0++cB g i))=some (0,mk (i+1) (a0++(cB g i++g i)));rw[h1 i hi,A5]) h2
 rw[h0];simpa only[cB,s8]using this
theorem mO(f:Nat->Val): ∀n,(cB (λi=>[f i]) n).length=n
 |0=>rfl
 |n+1=>by rw[cB,k5,mO f n];rfl
theorem Ip{s l:Int}(h:s % l=0)(hl:1<=l)(hs:1<=s):((s/l).toNat:Int)*l=s/\1<=(s/l).toNat:=by
 grind[Int.ediv_nonneg,Int.emod_def,Int.toNat_of_nonneg,Int.mul_comm,Nat.eq_zero_or_pos]
theorem Yd{I:Opq}{B:VT}{st step size:Int}{n:Nat}(hB: ∀(i:Nat) (acc:List Val),i<n->acc.length=i->Z0 B (I.upd 2000 [.vi i,.vi (st+i*step),.vl acc])=some (0,[.vi (i+1:Nat),.vi (st+(i+1:Nat)*step),.vl (acc++jc st step size i)]))
 (hE: ∀acc:List Val,Z0 B (I.upd 2000 [.vi n,.vi (st+n*step),.vl acc])=some (1,[.vi n,.vi (st+n*step),.vl acc])):
 cO (λvs=>Z0 B (I.upd 2000 vs)) [.vi 0,.vi st,.vl []]=some (0,[.vi n,.vi (st+n*step),.vl (cB (jc st step size) n)]):=by
 refine Da (λi acc=>[.vi i,.vi (st+i*step),.vl acc]) (a0:=[]) (g:=jc st step size) (n:=n) ?_ (λi hi=> ?_) ?_
 .simp
 .exact hB i _ hi (by exact mO _ i)
 grind
theorem vG{I:Opq}(a b:SX):dB I (gY a b)=decide ((bZ I b).toI<=(bZ I a).toI):=rfl
theorem cI{I:Opq}(a b:SX):dB I (fO a b)=decide ((bZ I a).toI<=(bZ I b).toI):=rfl
theorem eo{I:Opq}(a b:SX):dB I (cJ a b)=decide ((bZ I a).toI=(bZ I b).toI):=rfl
theorem fm{I:Opq}(a:SX):dB I (dP a)= !dB I a:=rfl
theorem cX{I:Opq}(a b:SX):dB I (zn a b)=(dB I a&&dB I b):=rfl
theorem cF{I:Opq}(n:Int):(bZ I (.ci n)).toI=n:=rfl
theorem cy{I:Opq}(n:Nat):(bZ I (.va n)).toI=(I.w n).toI:=rfl
section
variable{X:Nat->List Val->Val}{I:Opq}(hf: ∀i a,I.f i a=FT X i a)
include hf
theorem t_wOf:Z0 T_wOf I=some (0,[FT X 704 [I.w 0,I.w 1,I.w 2,I.w 3,I.w 4]]):=by
 show Z0 T_wOf I=some (0,[Val.vl (dw (I.w 0).toI (I.w 1).toI (I.w 2).toI (I.w 3).toI (I.w 4))]);generalize hk:(I.w 0).toI=k;generalize hs:(I.w 1).toI=s;generalize hl:(I.w 2).toI=l;generalize hg:(I.w 3).toI=g;unfold T_wOf dw;generalize ht:(I.w 4).toI=t;have r0:bZ I (.app 700 [aN,aO,aT,aU])= .vb (cV k s l g):=by
  show I.f 700 [I.w 0,I.w 1,I.w 2,I.w 3]=_;rw[hf,<-hk,<-hs,<-hl,<-hg];rfl
 cases hR:cV k s l g with
 |false=>
  refine cG ?_ rfl;show(!(bZ I (.app 700 [aN,aO,aT,aU])).toB)=true;rw[r0,hR];rfl
 |true=>
 refine cE (by show(!(bZ I (.app 700 [aN,aO,aT,aU])).toB)=false;rw[r0,hR];rfl) ?_;by_cases t1: ¬ -1099511627776<=t
 .have e:eU t=false:=by unfold eU;rw[decide_eq_false t1];rfl
  rw[e];exact cE (by rw[vG,cF,cy,ht];exact i6 t1) rfl
 replace t1:=Classical.not_not.1 t1;refine cG (by rw[vG,cF,cy,ht];exact c9 t1) ?_;by_cases t2: ¬t<=1099511627776
 .have e:eU t=false:=by unfold eU;rw[decide_eq_false t2,Bool.and_false]
  rw[e];exact cG (by rw[fm,cI,cF,cy,ht,i6 t2];rfl) rfl
 replace t2:=Classical.not_not.1 t2;have e:eU t=true:=by unfold eU;rw[decide_eq_true t1,decide_eq_true t2];rfl
 rw[e];refine cE (by rw[fm,cI,cF,cy,ht,c9 t2];rfl) ?_;show Z0 _ I=some (0,[Val.vl (if k=3 then [.vl [I.w 4,.vi (t+g)]]else cB (jc (fU t (dT k s l)-s+dT k s l) (dT k s l) s) (fP k s l))]);by_cases k3:k=3
 .rw[e8 k3];refine cG (by show decide ((I.w 0).toI=3)=true;rw[hk];exact c9 k3) ?_;have:cn .add .i64 t g=t+g:=by
   unfold cV at hR;simp[k3]at hR;exact gj (by omega) (by omega)
  show some (0,[Val.vl [Val.vl [I.w 4,Val.vi (cn .add .i64 (I.w 4).toI (I.w 3).toI)]]])=_;rw[ht,hg,this]
 rw[b9 k3];refine cE (by show decide ((I.w 0).toI=3)=false;rw[hk];exact i6 k3) ?_;by_cases k2:k=2
 .refine cG (by show decide ((I.w 0).toI=2)=true;rw[hk];exact c9 k2) ?_;have hR':(1<=s/\s<=1048576)/\(1<=l/\l<=1048576)/\s % l=0/\s/l<=16:=by
   unfold cV at hR;simp[k2]at hR;omega
  obtain⟨⟨s1,s2⟩,⟨l1,l2⟩,sl,sq⟩:=hR';obtain⟨n1,n2⟩:=Ip sl l1 s1;have hst:dT k s l=l:=e8 k2;have hN:fP k s l=(s/l).toNat:=by unfold fP;rw[hst]
  rw[hst,hN];have hn16:(s/l).toNat<=16:=by omega
  generalize (s/l).toNat=n at n1 n2 hN hn16;have q0:=I9 t (show l≠0 by omega);have q1:=J0 t (show 0<l by omega);have hd:bZ I (.app 709 [aS,aT])= .vi (fU t l):=by
   show I.f 709 [I.w 4,I.w 2]=_;rw[hf,<-ht,<-hl];rfl
  have hD:fU t l=t-t % l:=rfl;generalize fU t l=D at hd hD;have a1:cn .sub .i64 D s=D-s:=kN (by omega) (by omega);have a2:cn .add .i64 (D-s) l=D-s+l:=gj (by omega) (by omega);have hw0:bZ I Hb= .vi (D-s+l):=by
   show Val.vi (cn .add .i64 (cn .sub .i64 (bZ I (.app 709 [aS,aT])).toI (I.w 1).toI) (I.w 2).toI)=_;rw[hd,hs,hl];show Val.vi (cn .add .i64 (cn .sub .i64 D s) l)=_;rw[a1,a2]
  have e0:bZ I Fd=cA (0,[.vi n,.vi (D-s+l+n*l),.vl (cB (jc (D-s+l) l s) n)]):=by
   show I.f 753 [.vi 0,bZ I Hb,.vl [],I.w 0,I.w 1,I.w 2,I.w 3,bZ I (.app 709 [aS,aT])]=_;rw[hf,hw0];show cA (0,[.vi (fP (I.w 0).toI (I.w 1).toI (I.w 2).toI),.vi (D-s+l+fP (I.w 0).toI (I.w 1).toI (I.w 2).toI*dT (I.w 0).toI (I.w 1).toI (I.w 2).toI),.vl (cB (jc (D-s+l) (dT (I.w 0).toI (I.w 1).toI (I.w 2).toI) (I.w 1).toI) (fP (I.w 0).toI (I.w 1).toI (I.w 2).toI))])=_;rw[hk,hs,hl,hN,hst]
  have e1:bZ I Fu= .vl (cB (jc (D-s+l) l s) n):=by show co (bZ I Fd).toL 1 2=_;rw[e0];rfl
  refine W8 (by
   rw[cX,cI,cI,cF,cF,cy,hl,c9 l1,c9 l2];rfl) (Z5 (r:=(0,[.vi n,.vi (D-s+l+n*l),.vl (cB (jc (D-s+l) l s) n)])) ?_ e0 (W8 ?_ ?_))
  .show cO _ [.vi 0,bZ I Hb,.vl []]=_;rw[hw0];have hd':I.f 709 [I.w 4,I.w 2]= .vi D:=hd;refine Yd (size:=s) (λi acc hi hacc=> ?_) (λacc=> ?_)
   .have b1:(i:Int)*l+l<=n*l:=by
     have:((i:Int)+1)*l<=n*l:=G4 (by omega) (by omega);rw[F9]at this;omega
    have b2:0<=(i:Int)*l:=J1 (by omega) (by omega);have b3:((i+1:Nat):Int)*l=(i:Int)*l+l:=by rw[Int.natCast_add,F9];simp
    have p1:D-s+l+(i:Int)*l<=D:=by omega
    have p2:cn .add .i64 (D-s+l+(i:Int)*l) l=D-s+l+((i:Int)*l+l):=by rw[gj (by omega) (by omega)];omega
    have p3:cn .add .i64 (D-s+l+(i:Int)*l) s=D-s+l+(i:Int)*l+s:=gj (by omega) (by omega);have p4:(i:Int)+1<=1000000:=by omega
    rw[b3];unfold Rx jc;generalize (i:Int)*l=z at*
    simp[Z0,ck,bZ,dB,cK,cN,eV,hd',hk,hs,hl,k2,p1,p2,p3,p4,hacc]
   .have p1: ¬D-s+l+(n:Int)*l<=D:=by omega
    unfold Rx;simp[Z0,ck,bZ,dB,cK,cN,eV,hd',p1]
  .show decide ((co (bZ I Fd).toL 1 0).toI=((bZ I Fu).toL.length:Int))=true;rw[e1,e0];exact c9 (congrArg Int.ofNat (mO _ n).symm)
  .show some (0,[bZ I Fu])=_;rw[e1]
 .refine cE (by show decide ((I.w 0).toI=2)=false;rw[hk];exact i6 k2) ?_;have hR':1<=s/\s<=1048576:=by
   unfold cV at hR;by_cases k1:k=1
   .simp[k1]at hR;omega
   .simp[k1,k2,k3]at hR
  obtain⟨s1,s2⟩:=hR';have sl:s % s=0:=Int.emod_self;obtain⟨n1,n2⟩:=Ip sl s1 s1;have hst:dT k s l=s:=b9 k2;have hN:fP k s l=(s/s).toNat:=by unfold fP;rw[hst]
  rw[hst,hN];have hn16:(s/s).toNat<=16:=by rw[P0 (by omega)];decide
  generalize (s/s).toNat=n at n1 n2 hN hn16;have q0:=I9 t (show s≠0 by omega);have q1:=J0 t (show 0<s by omega);have hd:bZ I (.app 709 [aS,aO])= .vi (fU t s):=by
   show I.f 709 [I.w 4,I.w 1]=_;rw[hf,<-ht,<-hs];rfl
  have hD:fU t s=t-t % s:=rfl;generalize fU t s=D at hd hD;have a1:cn .sub .i64 D s=D-s:=kN (by omega) (by omega);have a2:cn .add .i64 (D-s) s=D-s+s:=gj (by omega) (by omega);have hw0:bZ I It= .vi (D-s+s):=by
   show Val.vi (cn .add .i64 (cn .sub .i64 (bZ I (.app 709 [aS,aO])).toI (I.w 1).toI) (I.w 1).toI)=_;rw[hd,hs];show Val.vi (cn .add .i64 (cn .sub .i64 D s) s)=_;rw[a1,a2]
  have e0:bZ I Fx=cA (0,[.vi n,.vi (D-s+s+n*s),.vl (cB (jc (D-s+s) s s) n)]):=by
   show I.f 753 [.vi 0,bZ I It,.vl [],I.w 0,I.w 1,I.w 2,I.w 3,bZ I (.app 709 [aS,aO])]=_;rw[hf,hw0];show cA (0,[.vi (fP (I.w 0).toI (I.w 1).toI (I.w 2).toI),.vi (D-s+s+fP (I.w 0).toI (I.w 1).toI (I.w 2).toI*dT (I.w 0).toI (I.w 1).toI (I.w 2).toI),.vl (cB (jc (D-s+s) (dT (I.w 0).toI (I.w 1).toI (I.w 2).toI) (I.w 1).toI) (fP (I.w 0).toI (I.w 1).toI (I.w 2).toI))])=_;rw[hk,hs,hl,hN,hst]
  have e1:bZ I HD= .vl (cB (jc (D-s+s) s s) n):=by show co (bZ I Fx).toL 1 2=_;rw[e0];rfl
  refine W8 (by
   rw[cX,cI,cI,cF,cF,cy,hs,c9 s1,c9 s2];rfl) (Z5 (r:=(0,[.vi n,.vi (D-s+s+n*s),.vl (cB (jc (D-s+s) s s) n)])) ?_ e0 (W8 ?_ ?_))
  .show cO _ [.vi 0,bZ I It,.vl []]=_;rw[hw0];have hd':I.f 709 [I.w 4,I.w 1]= .vi D:=hd;refine Yd (size:=s) (λi acc hi hacc=> ?_) (λacc=> ?_)
   .have b1:(i:Int)*s+s<=n*s:=by
     have:((i:Int)+1)*s<=n*s:=G4 (by omega) (by omega);rw[F9]at this;omega
    have b2:0<=(i:Int)*s:=J1 (by omega) (by omega);have b3:((i+1:Nat):Int)*s=(i:Int)*s+s:=by rw[Int.natCast_add,F9];simp
    have p1:D-s+s+(i:Int)*s<=D:=by omega
    have p2:cn .add .i64 (D-s+s+(i:Int)*s) s=D-s+s+((i:Int)*s+s):=by rw[gj (by omega) (by omega)];omega
    have p3:cn .add .i64 (D-s+s+(i:Int)*s) s=D-s+s+(i:Int)*s+s:=gj (by omega) (by omega);have p4:(i:Int)+1<=1000000:=by omega
    rw[b3];unfold QX jc;generalize (i:Int)*s=z at*
    simp only[Int.sub_add_cancel]at p1 p2 p3⊢;simp[Z0,ck,bZ,dB,cK,cN,eV,hd',hk,hs,k2,p1,p2,p3,p4,hacc];omega
   .have p1: ¬D-s+s+(n:Int)*s<=D:=by omega
    unfold QX;simp only[Int.sub_add_cancel]at p1⊢;simp[Z0,ck,bZ,dB,cK,cN,eV,hd',p1]
  .show decide ((co (bZ I Fx).toL 1 0).toI=((bZ I HD).toL.length:Int))=true;rw[e1,e0];exact c9 (congrArg Int.ofNat (mO _ n).symm)
  .show some (0,[bZ I HD])=_;rw[e1]
end
end Go.Ev.S9
namespace Go.Ev.S9
open Go Go.Ev
theorem a3{p q r:Prop} [Decidable p] [Decidable q] [Decidable r](hp:p)(hq:q)(hr:r):(decide p&&decide q&&decide r)=true:=by grind
theorem dz3(l:List Val)(c k:Nat):(jG l c k).length<=1:=by grind[jG,uL,cg]
theorem Yr(l:List Val): ∀k,(cB (jG l 1) k).length=(cB (jG l 0) k).length
 |0=>rfl
 |k+1=>by
  rw[cB,cB,k5,k5,Yr l k];grind[jG,uL,cg]
theorem Nq(l:List Val): ∀k,∃a b c d,jS l k=[a,b,c,d]
 |0=>⟨_,_,_,_,rfl⟩
 |k+1=>by
  unfold jS;cases uL (cg l k)with
  |true=>exact Nq l k
  |false=>
   split<;>exact⟨_,_,_,_,rfl⟩
def BM(l:List Val)(k:Nat):List Val:=[.vi (cB (jG l 0) k).length,.vi (cB (jG l 1) k).length,.vi k]++jS l k++[.vl (cB (jG l 0) k),.vl (cB (jG l 1) k)]
section
variable{X:Nat->List Val->Val}{I:Opq}(hf: ∀i a,I.f i a=FT X i a)
include hf
theorem t_join(hn:(I.w 0).toL.length<=1000):Z0 T_join I=some (0,[(jR (I.w 0).toL).getD 0 default,(jR (I.w 0).toL).getD 1 default,(jR (I.w 0).toL).getD 2 default,(jR (I.w 0).toL).getD 3 default,FT X 706 [I.w 0]]):=by
 have gl: ∀k,(cB (jG (I.w 0).toL 0) k).length<=k:=λk=>by simpa using jD (g:=jG (I.w 0).toL 0) (m:=1) (λ_=>dz3 _ _ _) k
 have gs: ∀k,(cB (jG (I.w 0).toL 1) k).length=(cB (jG (I.w 0).toL 0) k).length:=λk=>Yr _ k
 have e0:bZ I kI=cA (0,BM (I.w 0).toL (I.w 0).toL.length):=by
  show I.f 752 [.vi 0,.vi 0,.vi 0,.vi 0,.vi 0,.vi 0,.vi 0,.vl [],.vl [],.vi 0,.vi (I.w 0).toL.length,I.w 0,.vi (I.w 0).toL.length]=_;rw[hf];rfl
 have lp:cO (λvs=>Z0 MK (I.upd 2000 vs)) [.vi 0,.vi 0,.vi 0,.vi 0,.vi 0,.vi 0,.vi 0,.vl [],.vl []]=some (0,BM (I.w 0).toL (I.w 0).toL.length):=by
  refine eE (st:=BM (I.w 0).toL) (n:=(I.w 0).toL.length) (λk hk=> ?_) ?_
  .have p1:(k:Int)<((I.w 0).toL.length:Int):=by omega
   have p2:(0:Int)<=(k:Int):=by omega
   have p3:=eJ hk (by omega);have p4: ∀j:Nat,co (I.w 0).toL (k:Int) (j:Int)=Z7 (cg (I.w 0).toL k) j:=λ_=>rfl
   have q0:=p4 0;have q1:=p4 1;have q2:=p4 2;have q3:=p4 3;simp only[Int.natCast_zero,show((1:Nat):Int)=1 from rfl,show((2:Nat):Int)=2 from rfl,show((3:Nat):Int)=3 from rfl]at q0 q1 q2 q3;have g1:=gl k;have g2:=gs k;obtain⟨a,b,c,d,hS⟩:=Nq (I.w 0).toL k;unfold BM;rw[cB,cB,jS,hS];generalize cB (jG (I.w 0).toL 0) k=C at*
   generalize cB (jG (I.w 0).toL 1) k=T at*
   have g3:(C.length:Int)+1<=1000000:=by omega
   have g4:(T.length:Int)=(C.length:Int):=by omega
   unfold jG uL rU ci;generalize hr:cg (I.w 0).toL k=r at*
   unfold MK;by_cases hb:(Z7 r 0).toI=0/\(Z7 r 1).toI=0/\(Z7 r 2).toI=0/\(Z7 r 3).toI=0
   .simp_all[Z0,ck,bZ,dB,cK,cN]
   .have hb':(decide ((Z7 r 0).toI=0)&&(decide ((Z7 r 1).toI=0)&&(decide ((Z7 r 2).toI=0)&&decide ((Z7 r 3).toI=0))))=false:=by
     rw[<-B6];intro h;exact hb (by simpa using h)
    simp only[hb',cond_false];by_cases hz:C.length=0
    .simp[Z0,ck,bZ,dB,cK,cN,p1,p2,p3,q0,q1,q2,q3,hb,hz,g2,g3,g4]
    simp_all[Z0,ck,bZ,dB,cK,cN]
  .obtain⟨a,b,c,d,hS⟩:=Nq (I.w 0).toL (I.w 0).toL.length;unfold BM MK;simp_all[Z0,ck,bZ,dB,cK,cN]
 obtain⟨a,b,c,d,hS⟩:=Nq (I.w 0).toL (I.w 0).toL.length;have cl:(jC (I.w 0).toL).length<=1000:=m7 (gl _) hn;have tl:(jT (I.w 0).toL).length<=1000:=by grind[jT]
 have e1:bZ I kI=cA (0,[.vi (jC (I.w 0).toL).length,.vi (jT (I.w 0).toL).length,.vi (I.w 0).toL.length,a,b,c,d,.vl (jC (I.w 0).toL),.vl (jT (I.w 0).toL)]):=by
  rw[e0];unfold BM;rw[hS];rfl
 have d1:bZ I Iy= .vi (jC (I.w 0).toL).length:=by show co (bZ I kI).toL 1 0=_;rw[e1];rfl
 have d2:bZ I EU= .vl (jC (I.w 0).toL):=by show co (bZ I kI).toL 1 7=_;rw[e1];rfl
 have d4:bZ I GV= .vi (jT (I.w 0).toL).length:=by show co (bZ I kI).toL 1 1=_;rw[e1];rfl
 have d5:bZ I El= .vl (jT (I.w 0).toL):=by show co (bZ I kI).toL 1 8=_;rw[e1];rfl
 have d6:bZ I (zo kI 5)=c:=by show co (bZ I kI).toL 1 5=_;rw[e1];rfl
 have d7:bZ I (zo kI 6)=d:=by show co (bZ I kI).toL 1 6=_;rw[e1];rfl
 have ls: ∀l:List Val,(l.drop (0:Int).toNat).take ((l.length:Int)-0).toNat=l:=λl=>by simp
 have d3:bZ I rp= .vl (jC (I.w 0).toL):=by
  show Val.vl (((bZ I EU).toL.drop (0:Int).toNat).take ((bZ I Iy).toI-0).toNat)=_;simp_all
 have d8:bZ I tq= .vl (jT (I.w 0).toL):=by
  show Val.vl (((bZ I El).toL.drop (0:Int).toNat).take ((bZ I GV).toI-0).toNat)=_;simp_all
 unfold T_join;refine Z5 lp e0 (W8 ?_ (W8 ?_ ?_))
 .rw[cX,cX,cI,cI,cI,cF,cF,d1];show((decide ((0:Int)<=((jC (I.w 0).toL).length:Int))&&decide (((jC (I.w 0).toL).length:Int)<=((bZ I EU).toL.length:Int)))&&decide (((bZ I rp).toL.length:Int)<=1000000))=true;rw[d2,d3];exact a3 (by omega) (x5 _) (by show((jC (I.w 0).toL).length:Int)<=1000000;omega)
 .rw[cX,cX,cI,cI,cI,cF,cF,d4];show((decide ((0:Int)<=((jT (I.w 0).toL).length:Int))&&decide (((jT (I.w 0).toL).length:Int)<=((bZ I El).toL.length:Int)))&&decide (((bZ I tq).toL.length:Int)<=1000000))=true;rw[d5,d8];exact a3 (by omega) (x5 _) (by show((jT (I.w 0).toL).length:Int)<=1000000;omega)
 .have f1:I.f 703 [bZ I rp]= .vi (gC (jC (I.w 0).toL)):=by rw[hf,d3];rfl
  have f2:I.f 703 [bZ I tq]= .vi (gC (jT (I.w 0).toL)):=by rw[hf,d8];rfl
  have f3:I.f 702 [bZ I rp]= .vi (pQ (jC (I.w 0).toL)):=by rw[hf,d3];rfl
  have f4:I.f 702 [bZ I tq]= .vi (pQ (jT (I.w 0).toL)):=by rw[hf,d8];rfl
  show Z0 (.ite (cZ (.app 703 [rp]) aM) _ _) I=some (0,[(jR (I.w 0).toL).getD 0 default,(jR (I.w 0).toL).getD 1 default,(jR (I.w 0).toL).getD 2 default,(jR (I.w 0).toL).getD 3 default,.vi (jE (I.w 0).toL)]);unfold jR jE;rw[hS];by_cases h1:gC (jC (I.w 0).toL)=0
  .refine cE ?_ ?_
   .show(!decide ((I.f 703 [bZ I rp]).toI=0))=false;simp_all
   .by_cases h2:gC (jT (I.w 0).toL)=0
    .rw[b9 (by omega),b9 (by omega)];refine cE ?_ ?_
     .show(!decide ((I.f 703 [bZ I tq]).toI=0))=false;simp_all
     .show some (0,[I.f 702 [bZ I rp],I.f 702 [bZ I tq],bZ I (zo kI 5),bZ I (zo kI 6),.vi 0])=_;grind
    .rw[e8 (.inr h2),e8 (.inr h2)];refine cG ?_ rfl;show(!decide ((I.f 703 [bZ I tq]).toI=0))=true;simp_all
  .rw[e8 (.inl h1),e8 (.inl h1)];refine cG ?_ rfl;show(!decide ((I.f 703 [bZ I rp]).toI=0))=true;simp_all
end
end Go.Ev.S9
namespace Go.Ev.S9
open Go Go.Ev
theorem b40{I:Opq}{hd:LHd}{l:SX}{b k:VT}{ks:List VT}{D:List Val}{x:Option (Nat×List Val)}(h1:Dv (λvs=>Z0 b (I.upd hd.v0 vs)) (dL I l).length (ck I hd.s0) D)(h2:I.f hd.id (ck I (hd.s0++hd.fv))=cA (0,[.vi D.length,.vl D]))(h3:Z0 k I=x):Z0 (.mloop hd l b (k::ks)) I=x:=by
 rw[Z0,e8 ⟨D,h1,h2⟩];exact h3
theorem run_map{step:List Val->Option (Nat×List Val)}{g:Nat->List Val}(hg: ∀i,(g i).length<=1)
 (h: ∀(i:Nat) (A:List Val),A.length<1000000->step [.vi A.length,.vl A,.vi i]=some (0,[.vi (A++g i).length,.vl (A++g i)])): ∀(p:List Nat) (A:List Val),A.length+p.length<=1000000->
 iY step p [.vi A.length,.vl A]=some [.vi (A++p.flatMap g).length,.vl (A++p.flatMap g)]
 | [],A,_=>by rw[List.flatMap_nil,s8];rfl
 |i::p,A,hl=>by
  rw[List.length_cons]at hl;have:=hg i;have ih:=run_map hg h p (A++g i) (by rw[k5];omega);rw[iY];show(match step [.vi A.length,.vl A,.vi i]with|some (0,s')=>iY step p s'|_=>none)=_;rw[h i A (by omega)];show iY _ p [.vi (A++g i).length,.vl (A++g i)]=_;rw[ih,A5];rfl
theorem map_map{step:List Val->Option (Nat×List Val)}{g:Nat->List Val}{n:Nat}(hn:n<=1000000)(hg: ∀i,(g i).length<=1)
 (h: ∀(i:Nat) (A:List Val),A.length<1000000->step [.vi A.length,.vl A,.vi i]=some (0,[.vi (A++g i).length,.vl (A++g i)])):Dv step n [.vi (0:Nat),.vl []] (cB g n):=by
 rw[rC];constructor
 .exact run_map hg h (List.range n) [] (by simpa using hn)
 .intro p hp;have:=run_map hg h p [] (by rw[hp.length_eq];simpa using hn);exact⟨_,this,hp.flatMap_right _⟩
section
variable{X:Nat->List Val->Val}{I:Opq}(hf: ∀i a,I.f i a=FT X i a)
include hf
theorem t_aput:Z0 T_aput I=some (0,[(ou (I.w 0) (I.w 1) (I.w 2) (I.w 3) (I.w 4)).getD 0 default,(ou (I.w 0) (I.w 1) (I.w 2) (I.w 3) (I.w 4)).getD 1 default,(ou (I.w 0) (I.w 1) (I.w 2) (I.w 3) (I.w 4)).getD 2 default,(ou (I.w 0) (I.w 1) (I.w 2) (I.w 3) (I.w 4)).getD 3 default,FT X 708 [I.w 0,I.w 1,I.w 2,I.w 3,I.w 4]]):=by
 have r0:bZ I lw= .vl (pR (I.w 0) (I.w 1) (I.w 2) (I.w 3) (I.w 4)):=rfl;have f6:I.f 706 [bZ I lw]= .vi (jE (pR (I.w 0) (I.w 1) (I.w 2) (I.w 3) (I.w 4))):=by rw[hf,r0];rfl
 have f5:I.f 705 [bZ I lw]= .vl [.vl (jR (pR (I.w 0) (I.w 1) (I.w 2) (I.w 3) (I.w 4)))]:=by rw[hf,r0];rfl
 have f8:FT X 708 [I.w 0,I.w 1,I.w 2,I.w 3,I.w 4]= .vi (jE (pR (I.w 0) (I.w 1) (I.w 2) (I.w 3) (I.w 4))):=rfl;rw[f8];unfold T_aput ou;generalize pR (I.w 0) (I.w 1) (I.w 2) (I.w 3) (I.w 4)=l at r0 f5 f6;refine W8 (by rw[cI,cF];exact c9 (by show(2:Int)<=1000;omega)) ?_;by_cases h:jE l=0
 .rw[b9 (by simp[h])];refine cE ?_ ?_
  .show(!decide ((I.f 706 [bZ I lw]).toI=0))=false;rw[f6];simp[h]
  .show some (0,[co (I.f 705 [bZ I lw]).toL 0 0,co (I.f 705 [bZ I lw]).toL 0 1,co (I.f 705 [bZ I lw]).toL 0 2,co (I.f 705 [bZ I lw]).toL 0 3,.vi 0])=_;rw[f5,h];rfl
 .rw[e8 h];refine cG ?_ ?_
  .show(!decide ((I.f 706 [bZ I lw]).toI=0))=true;rw[f6];simp[h]
  .show some (0,[I.w 0,I.w 1,I.w 2,I.w 3,I.f 706 [bZ I lw]])=_;rw[f6];rfl
omit hf in
theorem t_tget:Z0 T_tget I=some (0,[ii (I.w 4).toL (.vl [I.w 5,I.w 6,I.w 7]) 3,ii (I.w 4).toL (.vl [I.w 5,I.w 6,I.w 7]) 4,ii (I.w 4).toL (.vl [I.w 5,I.w 6,I.w 7]) 5,ii (I.w 4).toL (.vl [I.w 5,I.w 6,I.w 7]) 6,FT X 722 [I.w 4,I.w 5,I.w 6,I.w 7]]):=by
 have h1:bZ I oE= .vb (gO (I.w 4).toL (.vl [I.w 5,I.w 6,I.w 7])):=by
  show Val.vb (decide ((gV (I.w 4).toL (.vl [I.w 5,I.w 6,I.w 7]):Int)<((I.w 4).toL.length:Int)))=_;unfold gO;congr 1;rw[decide_eq_decide];omega
 have h2: ∀j:Nat,bZ I (.op .ite [oE,.op .lget [aS,sK,.ci (j:Int)],aM])=ii (I.w 4).toL (.vl [I.w 5,I.w 6,I.w 7]) j:=λj=>by
  show(bif (bZ I oE).toB then co (I.w 4).toL ((gV (I.w 4).toL (.vl [I.w 5,I.w 6,I.w 7]):Nat):Int) (j:Int)else Val.vi 0)=_;rw[h1];rfl
 show some (0,[bZ I (.op .ite [oE,.op .lget [aS,sK,.ci ((3:Nat):Int)],aM]),bZ I (.op .ite [oE,.op .lget [aS,sK,.ci ((4:Nat):Int)],aM]),bZ I (.op .ite [oE,.op .lget [aS,sK,.ci ((5:Nat):Int)],aM]),bZ I (.op .ite [oE,.op .lget [aS,sK,.ci ((6:Nat):Int)],aM]),bZ I oE])=_;rw[h2,h2,h2,h2,h1];rfl
theorem t_trows(h431: ∀v:Val,(X 431 [v]).toB=true->v= .vl v.toL/\ ∀r∈v.toL,cQ r=r)(hn:dB I (zn (zn (zb (zl 4) 400) (.app 431 [aS])) (.app 491 [aS]))=true):
 Z0 T_trows I=some (0,[X 490 [I.w 4]]):=by
 obtain⟨n1,n2⟩:=Z1 (show(dB I (zn (zb (zl 4) 400) (.app 431 [aS]))&&dB I (.app 491 [aS]))=true from hn);obtain⟨n3,n4⟩:=Z1 (show(dB I (zb (zl 4) 400)&&dB I (.app 431 [aS]))=true from n1);have n3':((I.w 4).toL.length:Int)<=400:=j5 n3;obtain⟨e4,hk⟩:=h431 (I.w 4) (by rw[show X 431 [I.w 4]=I.f 431 [I.w 4]from(hf 431 [I.w 4]).symm];exact n4);have hm:(I.w 4).toL.map cQ=(I.w 4).toL:=by
  conv=>rhs;rw[<-G5 (I.w 4).toL]
  exact s9 hk
 have e0:bZ I CO=cA (0,[.vi (I.w 4).toL.length,I.w 4]):=by
  show I.f 750 [.vi 0,.vl [],I.w 4]=_;rw[hf];show cA (0,[.vi (I.w 4).toL.length,.vl ((I.w 4).toL.map cQ)])=_;rw[hm,<-e4]
 have e1:bZ I qi=I.w 4:=by show co (bZ I CO).toL 1 1=_;rw[e0];rfl
 have hga:cB (λi=>[cQ (cg (I.w 4).toL i)]) (I.w 4).toL.length=(I.w 4).toL:=by
  rw[rC];refine Eq.trans ?_ hm;rw[<-T4];refine J5 (by simp) (λi h1 h2=> ?_);have hi:i<(I.w 4).toL.length:=by simpa using h1
  simp[cg,j8,hi]
 unfold T_trows;refine b40 (D:=(I.w 4).toL) ?_ ?_ (W8 ?_ ?_)
 .show Dv _ (I.w 4).toL.length [.vi ((0:Nat):Int),.vl []] (I.w 4).toL;have:=map_map (step:=λvs=>Z0 UJ (I.upd 2000 vs)) (g:=λi=>[cQ (cg (I.w 4).toL i)]) (n:=(I.w 4).toL.length) (by omega) (λ_=>e9 _) (λi A hA=> ?_)
  .rw[hga]at this;exact this
  .have p4: ∀j:Nat,co (I.w 4).toL (i:Int) (j:Int)=Z7 (cg (I.w 4).toL i) j:=λ_=>rfl
   have q0:=p4 0;have q1:=p4 1;have q2:=p4 2;have q3:=p4 3;have q4:=p4 4;have q5:=p4 5;have q6:=p4 6;simp only[Int.natCast_zero,show((1:Nat):Int)=1 from rfl,show((2:Nat):Int)=2 from rfl,show((3:Nat):Int)=3 from rfl,show((4:Nat):Int)=4 from rfl,show((5:Nat):Int)=5 from rfl,show((6:Nat):Int)=6 from rfl]at q0 q1 q2 q3 q4 q5 q6;have g3:(A.length:Int)+1<=1000000:=by omega
   unfold UJ cQ;simp[Z0,ck,bZ,dB,cK,cN,q0,q1,q2,q3,q4,q5,q6,g3]
 .show bZ I CO=_;rw[e0];conv=>lhs;rw[e4]
  rfl
 .show(decide ((co (bZ I CO).toL 1 0).toI=((bZ I qi).toL.length:Int))&&(decide (((bZ I qi).toL.length:Int)<=400)&&(I.f 431 [bZ I qi]).toB&&(I.f 491 [bZ I qi]).toB))=true;rw[e1,e0];have m1:(I.f 431 [I.w 4]).toB=true:=n4;have m2:(I.f 491 [I.w 4]).toB=true:=n2;rw[m1,m2];show(decide (((I.w 4).toL.length:Int)=((I.w 4).toL.length:Int))&&(decide (((I.w 4).toL.length:Int)<=400)&&true&&true))=true;simp;omega
 .show some (0,[I.f 490 [bZ I qi]])=_;rw[e1,hf];rfl
end
end Go.Ev.S9
namespace Go.Ev.S9
open Go Go.Ev
theorem ea8{a b c:Bool}(h1:a=true)(h2:b=true)(h3:c=true):(a&&(b&&c))=true:=by grind
theorem HP(x y:Val):Go.Proofs.ltOf spanV x y=decide (ci x 1<ci y 1\/ci x 1=ci y 1/\ci x 0<ci y 0):=by
 unfold Go.Proofs.ltOf spanV DK;grind
theorem swo_spanV:Go.Sort.SWO (Go.Proofs.ltOf spanV)where
 irrefl x:=by grind[HP,decide_eq_false]
 trans x y z h1 h2:=by
  rw[HP]at*
  grind
 ntrans x y z h1 h2:=by
  grind[HP,of_decide_eq_false,decide_eq_false]
theorem cs9(l:List Val)(key:List UInt8)(i:Nat):(Dh l key i).length<=1:=by
 grind[Dh,decide,Z7,cg]
def Js(key:List UInt8)(r:Val):List Val:=bif decide ((Z7 r 0).toS=key)then [.vl [Z7 r 1,Z7 r 2]]else []
theorem bW4(l:List Val)(key:List UInt8):gK l key=l.flatMap (Js key):=by
 unfold gK;rw[rC];show((List.range l.length).flatMap λi=>Js key (l.getD i (.vl [])))=_;induction l with
 |nil=>rfl
 |cons a l ih=>
  simp_all[List.length_cons,J6,B7,K5]
theorem EA(l:List Val)(key:List UInt8):(gK l key).length<=l.length:=by unfold gK;simpa using jD (g:=Dh l key) (m:=1) (cs9 l key) l.length
theorem ZD{l:List Val}(key:List UInt8)(h:(l.map Z6).Nodup):((gK l key).map Z9).Nodup:=by
 rw[bW4];induction l with
 |nil=>grind
 |cons a l ih=>
  rw[l9,F7]at h;rw[B7,n8];unfold Js;cases hk:decide ((Z7 a 0).toS=key)with
  |false=>exact ih h.2
  |true=>
   show(Z9 (.vl [Z7 a 1,Z7 a 2])::_).Nodup;rw[F7];refine⟨λhm=>h.1 ?_,ih h.2⟩;obtain⟨x,hx,e⟩:=j7.1 hm;obtain⟨r,hr,hx⟩:=D7.1 hx;cases hk':decide ((Z7 r 0).toS=key)with
   |false=>grind
   |true=>
    rw[hk']at hx;have hx:x∈[Val.vl [Z7 r 1,Z7 r 2]]:=hx;rw[n5]at hx;subst hx;have e1:(Z7 r 1).toI=(Z7 a 1).toI:=congrArg Prod.fst e;have e2:(Z7 r 2).toI=(Z7 a 2).toI:=congrArg Prod.snd e;grind[Z6]
section
variable{X:Nat->List Val->Val}{I:Opq}(hf: ∀i a,I.f i a=FT X i a)
include hf
theorem t_tsess(h491: ∀v:Val,(X 491 [v]).toB=true->(v.toL.map Z6).Nodup)(hn:dB I (zn (zb (zl 4) 400) (.app 491 [aS]))=true):
 Z0 T_tsess I=some (0,[FT X 723 [I.w 4,I.w 5]]):=by
 obtain⟨n3,n4⟩:=Z1 (show(dB I (zb (zl 4) 400)&&dB I (.app 491 [aS]))=true from hn);have n3':((I.w 4).toL.length:Int)<=400:=j5 n3;have nd:=h491 (I.w 4) (by rw[show X 491 [I.w 4]=I.f 491 [I.w 4]from(hf 491 [I.w 4]).symm];exact n4);have sl:=EA (I.w 4).toL (I.w 5).toS;have sn:=ZD (I.w 5).toS nd;have e0:bZ I Im=cA (0,[.vi (gK (I.w 4).toL (I.w 5).toS).length,.vl (gK (I.w 4).toL (I.w 5).toS)]):=by
  show I.f 757 [.vi 0,.vl [],I.w 5,I.w 4]=_;rw[hf];rfl
 have hs:FT X 723 [I.w 4,I.w 5]= .vl (ic spanV (gK (I.w 4).toL (I.w 5).toS)):=rfl;rw[hs];have hg: ∀i,(Dh (I.w 4).toL (I.w 5).toS i).length<=1:=cs9 _ _;have hmap:Dv (λvs=>Z0 Rl (I.upd 2000 vs)) (I.w 4).toL.length [.vi ((0:Nat):Int),.vl []] (gK (I.w 4).toL (I.w 5).toS):=by
  refine map_map (by omega) hg (λi A hA=> ?_);have p4: ∀j:Nat,co (I.w 4).toL (i:Int) (j:Int)=Z7 (cg (I.w 4).toL i) j:=λ_=>rfl
  have q0:=p4 0;have q1:=p4 1;have q2:=p4 2;simp at q0 q1 q2;have g3:(A.length:Int)+1<=1000000:=by omega
  unfold Rl Dh;by_cases hk:(Z7 (cg (I.w 4).toL i) 0).toS=(I.w 5).toS
  .simp[Z0,ck,bZ,dB,cK,cN,q0,q1,q2,g3,hk]
  simp_all[Z0,ck,bZ,dB,cK,cN]
 generalize gK (I.w 4).toL (I.w 5).toS=D at*
 have e1:bZ I FN= .vi D.length:=by show co (bZ I Im).toL 1 0=_;rw[e0];rfl
 have e2:bZ I pu= .vl D:=by show co (bZ I Im).toL 1 1=_;rw[e0];rfl
 have e3:I.f 715 [bZ I pu]= .vl (ic spanV D):=by rw[e2,hf];rfl
 refine b40 (D:=D) hmap e0 (W8 ?_ (W8 ?_ ?_))
 .show(decide ((bZ I FN).toI=((bZ I pu).toL.length:Int))&&(decide (((bZ I pu).toL.length:Int)<=1000000)&&(I.f 716 [bZ I pu]).toB))=true;rw[e1,e2,hf];exact ea8 (c9 rfl) (c9 (by show(D.length:Int)<=1000000;omega)) (c9 sn)
 .show decide ((bZ I FN).toI=((I.f 715 [bZ I pu]).toL.length:Int))=true;simp_all[c9,congrArg,IX,swo_spanV]
 .show some (0,[I.f 715 [bZ I pu]])=_;rw[e3]
end
end Go.Ev.S9
namespace Go.Ev.S9
open Go Go.Ev
section
variable{X:Nat->List Val->Val}{I:Opq}(hf: ∀i a,I.f i a=FT X i a)
include hf
omit hf in
theorem ct0{i:Nat}(hn:(I.w 1).toL.length<=400)(hi:i<(I.w 1).toL.length):
 Z0 De (I.upd 2000 [.vb false,.vi i])=if mj (I.w 0).toI (I.w 1).toL i=true then some (2,[.vb false,.vi i])else some (0,[.vb false,.vi (i+1:Nat)]):=by
 have p1:(i:Int)<((I.w 1).toL.length:Int):=by omega
 have p2:(0:Int)<=(i:Int):=by omega
 have p3:=eJ hi (by omega);have p0:(co (I.w 1).toL (i:Int) (0:Int)).toI=ci (cg (I.w 1).toL i) 0:=rfl;have p4:(co (I.w 1).toL (i:Int) (1:Int)).toI=ci (cg (I.w 1).toL i) 1:=rfl;have p5:0<i->cn .sub .i64 (i:Int) 1=((i-1:Nat):Int):=λh=>by grind[kN]
 have p6:(co (I.w 1).toL ((i-1:Nat):Int) (1:Int)).toI=ci (cg (I.w 1).toL (i-1)) 1:=rfl;unfold mj dz1;generalize hs:ci (cg (I.w 1).toL i) 0=s at*
 generalize he:ci (cg (I.w 1).toL i) 1=e at*
 generalize hp:ci (cg (I.w 1).toL (i-1)) 1=p at*
 generalize hg:(I.w 0).toI=g;generalize hw:cn .sub .i64 e s=w;unfold De;have z1:((i-1:Nat):Int)<((I.w 1).toL.length:Int):=by omega
 have z2:(0:Int)<=((i-1:Nat):Int):=by omega
 rcases N1 i with i0|i0
 .subst i0;have h0:(0:Int)<((I.w 1).toL.length:Int):=by omega
  have p3':cn .add .i64 0 1=1:=p3;have p0':(co (I.w 1).toL 0 0).toI=s:=p0;have p4':(co (I.w 1).toL 0 1).toI=e:=p4;clear p0 p1 p2 p3 p4 p5 p6 z1 z2 hp;by_cases a1:0<=e<;>by_cases a2:0<=s<;>by_cases a3:0<=w<;>by_cases a4:e<=s<;>by_cases a5:w<g<;>
   simp[Z0,ck,bZ,dB,cK,cN,hi,h0,p3',p0',p4',hg,hw,a1,a2,a3,a4,a5]
 .have p5:=p5 i0;have i1:(0:Int)<(i:Int):=by omega
  by_cases a1:0<=e<;>by_cases a2:0<=s<;>by_cases a3:0<=w<;>by_cases a4:e<=s<;>by_cases a5:w<g<;>by_cases a6:s<p<;>
   simp[Z0,ck,bZ,dB,cK,cN,p1,p2,p3,p0,p4,p5,p6,hg,hw,a1,a2,a3,a4,a5,a6,i0,i1,z1,z2]
theorem t_sRight(hn:dB I (zb (zl 1) 400)=true):Z0 T_sRight I=some (0,[FT X 711 [I.w 0,I.w 1]]):=by
 have hn:((I.w 1).toL.length:Int)<=400:=j5 hn;have hF:FT X 711 [I.w 0,I.w 1]= .vb (!(List.range (I.w 1).toL.length).any (mj (I.w 0).toI (I.w 1).toL)):=rfl;have h0:=GP (x:= .vb false) (px:=λk=>[.vb false,.vi k]) (bad:=mj (I.w 0).toI (I.w 1).toL) (n:=(I.w 1).toL.length);have e0:I.f 754 [.vb false,.vi 0,I.w 0,.vi 0,.vi (I.w 1).toL.length,I.w 1,.vi 0,.vi (I.w 1).toL.length,I.w 1,.vi (I.w 1).toL.length]=cA (gZ (.vb false) (λk=>[.vb false,.vi k]) (mj (I.w 0).toI (I.w 1).toL) (I.w 1).toL.length):=by rw[hf];rfl
 rw[hF];unfold T_sRight;refine Z5 (r:=gZ (.vb false) (λk=>[.vb false,.vi k]) (mj (I.w 0).toI (I.w 1).toL) (I.w 1).toL.length) ?_ e0 ?_
 .show cO _ [.vb false,.vi 0]=_;refine xu (λi hi hb=> ?_) (λi hi hb=> ?_) ?_
  .show Z0 De (I.upd 2000 [.vb false,.vi i])=_;rw[ct0 (by omega) hi,hb];rfl
  .show Z0 De (I.upd 2000 [.vb false,.vi i])=_;rw[ct0 (by omega) hi,hb];rfl
  simp_all[De,Z0,ck,bZ,dB,cK,cN]
 .rw[h0]at e0;rw[h0];cases hb:(List.range (I.w 1).toL.length).any (mj (I.w 0).toI (I.w 1).toL)with
  |true=>
   rw[hb]at e0;show some (0,[co (I.f 754 [.vb false,.vi 0,I.w 0,.vi 0,.vi (I.w 1).toL.length,I.w 1,.vi 0,.vi (I.w 1).toL.length,I.w 1,.vi (I.w 1).toL.length]).toL 1 0])=_;rw[e0];rfl
  |false=>rfl
end
end Go.Ev.S9
namespace Go.Ev.S9
open Go Go.Ev
theorem ct1(l:List Val)(t o:Int)(i:Nat):(By l t o i).length<=1:=by grind[By,qW,cg]
theorem XR(l:List Val)(t o:Int)(i:Nat):(zA l t o i).length<=1:=by grind[zA,qW,cg]
theorem QB(l:List Val)(x:Int): ∀n i j:Nat,i<=j->j-i<=n->i<=nO l x n i j/\nO l x n i j<=j
 |0,i,j,h,h2=>by grind[nO]
 |n+1,i,j,h,h2=>by
  unfold nO;split
  .split
   .have:=QB l x n ((i+j)/2+1) j (by omega) (by omega);omega
   .have:=QB l x n i ((i+j)/2) (by omega) (by omega);omega
  .omega
theorem SH{step:List Val->Option (Nat×List Val)}{l:List Val}{x:Int}{m:Nat}
 (h1: ∀i j:Nat,i<j->j<=m->step [.vi i,.vi j]=some (0,if ci (cg l ((i+j)/2)) 0<x then [.vi ((i+j)/2+1:Nat),.vi j]else [.vi i,.vi ((i+j)/2:Nat)]))
 (h2: ∀i:Nat,step [.vi i,.vi i]=some (1,[.vi i,.vi i])): ∀n i j:Nat,i<=j->j<=m->j-i<=n->cO step [.vi i,.vi j]=some (0,[.vi (nO l x n i j),.vi (nO l x n i j)])
 |0,i,j,a,b,c=>by
  obtain rfl:i=j:=by omega
  rw[nJ];exact .out (h2 i)
 |n+1,i,j,a,b,c=>by
  unfold nO;by_cases h:i<j
  .rw[e8 h];have s:=h1 i j h b;by_cases q:ci (cg l ((i+j)/2)) 0<x
   .rw[e8 q]at s⊢;have:=SH h1 h2 n ((i+j)/2+1) j (by omega) b (by omega);rw[nJ]at this⊢;exact .more s this
   .rw[b9 q]at s⊢;have:=SH h1 h2 n i ((i+j)/2) (by omega) (by omega) (by omega);rw[nJ]at this⊢;exact .more s this
  .rw[b9 h];obtain rfl:i=j:=by omega
   rw[nJ];exact .out (h2 i)
def Au(l:List Val)(t o:Val)(k:Nat):List Val:=[.vi (cB (By l t.toI o.toI) k).length,.vi (cB (zA l t.toI o.toI) k).length,.vi k,(lV l t o k).1,(lV l t o k).2,.vl (cB (By l t.toI o.toI) k),.vl (cB (zA l t.toI o.toI) k)]
theorem dR1{I:Opq}{l:List Val}(h2:(I.w 2).toL=l)(hl:l.length<=24):
 cO (λvs=>Z0 Jb (I.upd 2000 vs)) [.vi 0,.vi 0,.vi 0,I.w 1,.vi (cn .add .i64 (I.w 1).toI (I.w 0).toI),.vl [],.vl []]=some (0,Au l (I.w 1) (.vi (cn .add .i64 (I.w 1).toI (I.w 0).toI)) l.length):=by
 refine eE (st:=Au l (I.w 1) (.vi (cn .add .i64 (I.w 1).toI (I.w 0).toI))) (n:=l.length) (λk hk=> ?_) ?_
 .have p1:(k:Int)<(l.length:Int):=by omega
  have p2:(0:Int)<=(k:Int):=by omega
  have p3:=eJ hk (by omega);have p4: ∀j:Nat,co l (k:Int) (j:Int)=Z7 (cg l k) j:=λ_=>rfl
  have q0:=p4 0;have q1:=p4 1;simp only[Int.natCast_zero,show((1:Nat):Int)=1 from rfl]at q0 q1;have g1:=jD (λi=>ct1 l (I.w 1).toI (cn .add .i64 (I.w 1).toI (I.w 0).toI) i) k;have g2:=jD (λi=>XR l (I.w 1).toI (cn .add .i64 (I.w 1).toI (I.w 0).toI) i) k;unfold Au;simp only[cB,lV,a09];generalize cB (By l (I.w 1).toI (cn .add .i64 (I.w 1).toI (I.w 0).toI)) k=J at*
  generalize cB (zA l (I.w 1).toI (cn .add .i64 (I.w 1).toI (I.w 0).toI)) k=A at*
  generalize lV l (I.w 1) (.vi (cn .add .i64 (I.w 1).toI (I.w 0).toI)) k=N at*
  unfold By zA qW eB ci;have g3:(J.length:Int)+1<=1000000:=by omega
  have g4:(A.length:Int)+1<=1000000:=by omega
  generalize hr:cg l k=r at*
  generalize ho:cn .add .i64 (I.w 1).toI (I.w 0).toI=o at*
  unfold Jb;by_cases c1:(Z7 r 0).toI<o<;>by_cases c2:(I.w 1).toI<(Z7 r 1).toI<;>
   simp[Z0,ck,bZ,dB,cK,cN,h2,p1,p2,p3,q0,q1,ho,g3,g4,c1,c2]
 .unfold Au Jb;simp_all[Z0,ck,bZ,dB,cK,cN]
def kD:SX:= zh aV aR
theorem dd7:Pj= .ite (zs aV aR) (.need (zn (zp kD) (zs kD gM)) (.need (zs kD (zL iz)) (.ite (zs (cj iz kD 0) gN) (.ret 0 [zi kD,aR]) (.ite (fV (cj iz kD 0) gN) (.ret 0 [aV,kD]) (.ret 0 [aV,kD]))))) (.ret 1 [aV,aR]):=rfl
theorem dd8{i j m:Nat}(h:i<j)(hj:j<=m)(hm:m<=1000000):IntKind.i64.wrap (cn .shr .u64 (IntKind.u64.wrap (cn .add .i64 (i:Int) (j:Int))) 1)=(((i+j)/2:Nat):Int):=by
 rw[gj (by omega) (by omega)];have e1:IntKind.u64.wrap ((i:Int)+(j:Int))=(i:Int)+(j:Int):=by
  simp only[IntKind.wrap,IntKind.bits,IntKind.signed];simp;omega
 have e2:cn .shr .u64 ((i:Int)+(j:Int)) 1=(((i+j)/2:Nat):Int):=by
  show((i:Int)+(j:Int)).fdiv (2^(min (1:Int).toNat IntKind.u64.bits))=_;rw[show(2:Int)^(min (1:Int).toNat IntKind.u64.bits)=2 from rfl,P7 _ (by omega)];omega
 grind[lu]
theorem dR2{I:Opq}{A:List Val}{x:Val}(hA:A.length<=24)(d2: ∀vs,bZ (I.upd 2000 vs) gM= .vi A.length)(d3: ∀vs,bZ (I.upd 2000 vs) iz= .vl A)(d4: ∀vs,bZ (I.upd 2000 vs) gN=x):
 cO (λvs=>Z0 Pj (I.upd 2000 vs)) [.vi 0,.vi A.length]=some (0,[.vi (nO A x.toI A.length 0 A.length),.vi (nO A x.toI A.length 0 A.length)]):=by
 refine SH (m:=A.length) (λi j h hj=> ?_) (λi=> ?_) A.length 0 A.length (by omega) (e9 _) (by omega)
 .have d2:=d2 [.vi i,.vi j];have d3:=d3 [.vi i,.vi j];have d4:=d4 [.vi i,.vi j];have v0:(I.upd 2000 [.vi i,.vi j]).w 2000= .vi i:=by rfl
  have v1:(I.upd 2000 [.vi i,.vi j]).w 2001= .vi j:=by rfl
  generalize I.upd 2000 [.vi i,.vi j]=aa at*
  have dh:bZ aa kD= .vi ((i+j)/2:Nat):=by
   show Val.vi (IntKind.i64.wrap (cn .shr .u64 (IntKind.u64.wrap (cn .add .i64 (aa.w 2000).toI (aa.w 2001).toI)) 1))=_;rw[v0,v1];exact congrArg Val.vi (dd8 h hj (by omega))
  have hlt:(i+j)/2<A.length:=by omega
  have dg:bZ aa (cj iz kD 0)=Z7 (cg A ((i+j)/2)) 0:=by
   show co (bZ aa iz).toL (bZ aa kD).toI 0=_;rw[d3,dh];rfl
  rw[dd7];refine cG ?_ (W8 ?_ (W8 ?_ ?_))
  .show decide ((aa.w 2000).toI<(aa.w 2001).toI)=true;simp_all
  .rw[cX,cI,cF,dh];show(decide ((0:Int)<=(((i+j)/2:Nat):Int))&&decide ((bZ aa kD).toI<(bZ aa gM).toI))=true;rw[dh,d2,c9 (show(0:Int)<=(((i+j)/2:Nat):Int) by omega)];exact c9 (by show(((i+j)/2:Nat):Int)<(A.length:Int);omega)
  .show decide ((bZ aa kD).toI<((bZ aa iz).toL.length:Int))=true;rw[dh,d3];exact c9 (by show(((i+j)/2:Nat):Int)<(A.length:Int);omega)
  .by_cases q:ci (cg A ((i+j)/2)) 0<x.toI
   .rw[e8 q];refine cG ?_ ?_
    .show decide ((bZ aa (cj iz kD 0)).toI<(bZ aa gN).toI)=true;rw[dg,d4];exact c9 q
    .show some (0,[Val.vi (cn .add .i64 (bZ aa kD).toI 1),aa.w 2001])=_;rw[dh,v1];rw[show cn .add .i64 (Val.vi (((i+j)/2:Nat):Int)).toI 1=(((i+j)/2+1:Nat):Int)from eJ hlt (by omega)]
   .rw[b9 q];refine cE ?_ ?_
    .show decide ((bZ aa (cj iz kD 0)).toI<(bZ aa gN).toI)=false;rw[dg,d4];exact i6 q
    .have e:some (0,[aa.w 2000,bZ aa kD])=some ((0:Nat),[Val.vi i,Val.vi (((i+j)/2:Nat):Int)]):=by grind
     cases hc:dB aa (fV (cj iz kD 0) gN)with
     |true=>exact cG hc e
     |false=>exact cE hc e
 .have v0:(I.upd 2000 [.vi i,.vi i]).w 2000= .vi i:=by rfl
  have v1:(I.upd 2000 [.vi i,.vi i]).w 2001= .vi i:=by rfl
  generalize I.upd 2000 [.vi i,.vi i]=aa at*
  refine cE ?_ ?_
  .show decide ((aa.w 2000).toI<(aa.w 2001).toI)=false;grind
  .show some (1,[aa.w 2000,aa.w 2001])=_;grind
theorem ct4(x a b:Int)(h:a<=b):x=max a (min x b)↔a<=x/\x<=b:=by omega
section
variable{X:Nat->List Val->Val}{I:Opq}(hf: ∀i a,I.f i a=FT X i a)
include hf
theorem t_sinsert(hn:dB I (zb (zl 2) 24)=true):Z0 T_sinsert I=some (0,[co (FT X 718 [I.w 0,I.w 1,I.w 2]).toL 0 0,co (FT X 718 [I.w 0,I.w 1,I.w 2]).toL 0 1,FT X 720 [I.w 0,I.w 1,I.w 2],FT X 717 [I.w 0,I.w 1,I.w 2],FT X 719 [I.w 0,I.w 1,I.w 2]]):=by
 have hn:((I.w 2).toL.length:Int)<=24:=j5 hn;have a8:FT X 718 [I.w 0,I.w 1,I.w 2]= .vl [.vl (bif ju (I.w 0).toI (I.w 1).toI (I.w 2).toL then [(iT (I.w 0) (I.w 1) (I.w 2).toL).1,(iT (I.w 0) (I.w 1) (I.w 2).toL).2]else [.vi 0,.vi 0])]:=rfl;have a0:FT X 720 [I.w 0,I.w 1,I.w 2]= .vi (bif ju (I.w 0).toI (I.w 1).toI (I.w 2).toL then 0 else 2):=rfl;have a7:FT X 717 [I.w 0,I.w 1,I.w 2]= .vl (bif ju (I.w 0).toI (I.w 1).toI (I.w 2).toL then rB (I.w 0) (I.w 1) (I.w 2).toL else []):=rfl;have a9:FT X 719 [I.w 0,I.w 1,I.w 2]= .vl (bif ju (I.w 0).toI (I.w 1).toI (I.w 2).toL then IA (ja (I.w 0) (I.w 1) (I.w 2).toL) (ox (I.w 0) (I.w 1) (I.w 2).toL) (iT (I.w 0) (I.w 1) (I.w 2).toL).1 (iT (I.w 0) (I.w 1) (I.w 2).toL).2 else []):=rfl;rw[a8,a0,a7,a9];have c1:dB I (cJ aN (.op .imax [aZ,.op .imin [aN,bY]]))=(decide (1<=(I.w 0).toI)&&decide ((I.w 0).toI<=1048576)):=by
  rw[eo,cy,show(bZ I (.op .imax [aZ,.op .imin [aN,bY]])).toI=max 1 (min (I.w 0).toI 1048576)from rfl,<-Bool.decide_and,decide_eq_decide];omega
 have c2:dB I (cZ aO (.op .imax [.ci (-1099511627776),.op .imin [aO,bO]]))= !eU (I.w 1).toI:=by
  show(!decide ((I.w 1).toI=max (-1099511627776) (min (I.w 1).toI 1099511627776)))=_;simp_all[eU,Bool.decide_and,decide_eq_decide,ct4]
 have c3:dB I (dP (.app 711 [aN,aT]))=(List.range (I.w 2).toL.length).any (mj (I.w 0).toI (I.w 2).toL):=by
  show(!(I.f 711 [I.w 0,I.w 2]).toB)=_;rw[hf];exact R6 _
 cases g1:(decide (1<=(I.w 0).toI)&&decide ((I.w 0).toI<=1048576))with
 |false=>
  have:ju (I.w 0).toI (I.w 1).toI (I.w 2).toL=false:=by grind[ju]
  rw[this];exact cE (c1.trans g1) rfl
 |true=>
 refine cG (c1.trans g1) ?_;cases g2:eU (I.w 1).toI with
 |false=>
  have:ju (I.w 0).toI (I.w 1).toI (I.w 2).toL=false:=by grind[ju]
  rw[this];exact cG (by grind) rfl
 |true=>
 refine cE (by grind) (W8 (by grind[cI,cF,decide_eq_true]) ?_);cases g3:(List.range (I.w 2).toL.length).any (mj (I.w 0).toI (I.w 2).toL)with
 |true=>
  have:ju (I.w 0).toI (I.w 1).toI (I.w 2).toL=false:=by grind[ju]
  rw[this];exact cG (c3.trans g3) rfl
 |false=>
 have hok:ju (I.w 0).toI (I.w 1).toI (I.w 2).toL=true:=by grind[ju]
 rw[hok];refine cE (c3.trans g3) ?_;obtain⟨l,h2⟩: ∃l,(I.w 2).toL=l:=⟨_,rfl⟩;rw[h2]at hn⊢;have own:bZ I nU=pE (I.w 0).toI (I.w 1).toI:=rfl;have E1: ∀vs,bZ (I.upd 2000 vs) kg=cA (0,Au l (I.w 1) (pE (I.w 0).toI (I.w 1).toI) l.length):=λvs=>by
  have w0:(I.upd 2000 vs).w 0=I.w 0:=by rfl
  have w1:(I.upd 2000 vs).w 1=I.w 1:=by rfl
  have w2:(I.upd 2000 vs).w 2=I.w 2:=by rfl
  have wf:(I.upd 2000 vs).f=I.f:=rfl;generalize I.upd 2000 vs=aa at*
  have own':bZ aa nU=pE (I.w 0).toI (I.w 1).toI:=by
   show Val.vi (cn .add .i64 (aa.w 1).toI (aa.w 0).toI)=_;rw[w0,w1];rfl
  show aa.f 755 [.vi 0,.vi 0,.vi 0,aa.w 1,bZ aa nU,.vl [],.vl [],aa.w 1,bZ aa nU,aa.w 1,bZ aa nU,.vi 0,.vi (aa.w 2).toL.length,aa.w 2,.vi (aa.w 2).toL.length]=_;rw[wf,hf,w1,w2,own',<-h2];rfl
 have e1:bZ I kg=cA (0,Au l (I.w 1) (pE (I.w 0).toI (I.w 1).toI) l.length):=by
  show I.f 755 [.vi 0,.vi 0,.vi 0,I.w 1,bZ I nU,.vl [],.vl [],I.w 1,bZ I nU,I.w 1,bZ I nU,.vi 0,.vi (I.w 2).toL.length,I.w 2,.vi (I.w 2).toL.length]=_;rw[hf,own,<-h2];rfl
 have lA:(ja (I.w 0) (I.w 1) l).length<=24:=by
  have:=jD (λi=>XR l (I.w 1).toI (pE (I.w 0).toI (I.w 1).toI).toI i) l.length;grind[ja,Jr]
 have D2: ∀vs,bZ (I.upd 2000 vs) gM= .vi (ja (I.w 0) (I.w 1) l).length:=λvs=>by
  show co (bZ (I.upd 2000 vs) kg).toL 1 1=_;rw[E1];rfl
 have D3: ∀vs,bZ (I.upd 2000 vs) iz= .vl (ja (I.w 0) (I.w 1) l):=λvs=>by
  show co (bZ (I.upd 2000 vs) kg).toL 1 6=_;rw[E1];rfl
 have D4: ∀vs,bZ (I.upd 2000 vs) gN=(iT (I.w 0) (I.w 1) l).1:=λvs=>by
  show co (bZ (I.upd 2000 vs) kg).toL 1 3=_;rw[E1];rfl
 have d2:bZ I gM= .vi (ja (I.w 0) (I.w 1) l).length:=by show co (bZ I kg).toL 1 1=_;rw[e1];rfl
 have d3:bZ I iz= .vl (ja (I.w 0) (I.w 1) l):=by show co (bZ I kg).toL 1 6=_;rw[e1];rfl
 have d4:bZ I gN=(iT (I.w 0) (I.w 1) l).1:=by show co (bZ I kg).toL 1 3=_;rw[e1];rfl
 have d5:bZ I mQ=(iT (I.w 0) (I.w 1) l).2:=by show co (bZ I kg).toL 1 4=_;rw[e1];rfl
 have d9:bZ I uG= .vl (rB (I.w 0) (I.w 1) l):=by show co (bZ I kg).toL 1 5=_;rw[e1];rfl
 have dj:bZ I (zo kg 0)= .vi (rB (I.w 0) (I.w 1) l).length:=by show co (bZ I kg).toL 1 0=_;rw[e1];rfl
 have e6:I.f 756 [.vi 0,bZ I gM,bZ I gM,bZ I iz,bZ I gN,bZ I mQ,bZ I gM]=cA (0,[.vi (ox (I.w 0) (I.w 1) l),.vi (ox (I.w 0) (I.w 1) l)]):=by
  rw[hf,d2,d3,d4,d5];rfl
 have d6:bZ I pq= .vi (ox (I.w 0) (I.w 1) l):=by
  show co (I.f 756 [.vi 0,bZ I gM,bZ I gM,bZ I iz,bZ I gN,bZ I mQ,bZ I gM]).toL 1 0=_;rw[e6];rfl
 obtain⟨b1,b2⟩:=QB (ja (I.w 0) (I.w 1) l) (iT (I.w 0) (I.w 1) l).1.toI (ja (I.w 0) (I.w 1) l).length 0 (ja (I.w 0) (I.w 1) l).length (by omega) (by omega);have b2:ox (I.w 0) (I.w 1) l<=(ja (I.w 0) (I.w 1) l).length:=b2;have d8:dB I CS=true:=by
  show(I.f 713 [bZ I iz,bZ I gM,bZ I pq,bZ I gN,bZ I mQ]).toB=true;rw[hf,d2,d3,d4,d5,d6];show(decide (((ja (I.w 0) (I.w 1) l).length:Int)=((ja (I.w 0) (I.w 1) l).length:Int))&&decide ((0:Int)<=((ox (I.w 0) (I.w 1) l:Nat):Int))&&decide (((ox (I.w 0) (I.w 1) l:Nat):Int)<=((ja (I.w 0) (I.w 1) l).length:Int))&&decide ((ja (I.w 0) (I.w 1) l).length<=24))=true;grind
 have d10:dB I BB=true:=by
  show decide ((bZ I (zo kg 0)).toI=((bZ I uG).toL.length:Int))=true;simp_all
 have d11:bZ I xA= .vl (IA (ja (I.w 0) (I.w 1) l) (ox (I.w 0) (I.w 1) l) (iT (I.w 0) (I.w 1) l).1 (iT (I.w 0) (I.w 1) l).2):=by
  show I.f 714 [bZ I iz,bZ I gM,bZ I pq,bZ I gN,bZ I mQ]=_;rw[hf,d2,d3,d4,d5,d6];rfl
 have fin:Z0 (.need CS (.need BB (.ret 0 [gN,mQ,aM,uG,xA]))) I=some (0,[(iT (I.w 0) (I.w 1) l).1,(iT (I.w 0) (I.w 1) l).2,.vi 0,.vl (rB (I.w 0) (I.w 1) l),.vl (IA (ja (I.w 0) (I.w 1) l) (ox (I.w 0) (I.w 1) l) (iT (I.w 0) (I.w 1) l).1 (iT (I.w 0) (I.w 1) l).2)]):=by
  refine W8 d8 (W8 d10 ?_);show some (0,[bZ I gN,bZ I mQ,.vi 0,bZ I uG,bZ I xA])=_;grind
 refine Z5 (r:=(0,Au l (I.w 1) (pE (I.w 0).toI (I.w 1).toI) l.length)) (dR1 h2 (by omega)) e1 (W8 ?_ (Z5 (r:=(0,[.vi (ox (I.w 0) (I.w 1) l),.vi (ox (I.w 0) (I.w 1) l)])) ?_ e6 ?_))
 .simp_all[cI,cF,c9,ja]
 .show cO _ [.vi 0,bZ I gM]=_;rw[d2];exact dR2 lA D2 D3 D4
 .cases h7:dB I (zs pq gM)with
  |false=>exact cE h7 fin
  |true=>
   have h7':(bZ I pq).toI<(bZ I gM).toI:=j5 h7;refine cG h7 (W8 ?_ (W8 ?_ ?_))
   .simp_all[cI,cF,c9,ox]
   .show decide ((bZ I pq).toI<((bZ I iz).toL.length:Int))=true;simp_all
   .cases q1:dB I (zs LZ gN)with
    |true=>exact cG q1 fin
    |false=>
     refine cE q1 ?_;cases q2:dB I (fV LZ gN)with
     |true=>exact cG q2 fin
     |false=>exact cE q2 fin
end
end Go.Ev.S9
namespace Go.Ev.S9
open Go Go.Ev
theorem dd9(g t:Val)(l:List Val):(rB g t l).length<=l.length:=by
 have:=jD (λi=>ct1 l t.toI (pE g.toI t.toI).toI i) l.length;grind[rB,Bh]
theorem TT(g:Val)(m:List Val)(key t:Val):(lG g m key t).length<=m.length:=by
 have h1:=IX swo_spanV (gK m key.toS);have h2:=EA m key.toS;unfold lG;cases ju g.toI t.toI (dv m key)
 .exact s7 _
 grind[dd9,dv,rB]
theorem Bi(f:Val->Val)(l:List Val):cB (λi=>[f (cg l i)]) l.length=l.map f:=by
 rw[rC,<-T4];refine J5 (by simp) (λi h1 h2=> ?_);have hi:i<l.length:=by simpa using h1
 simp[cg,j8,hi]
def Jc:SX:= zc aW (.op .row [.op .row [bd,cj kM aR 0,cj kM aR 1]])
theorem dR3{I:Opq}{J:List Val}(hJ:J.length<=24)(d3: ∀vs,bZ (I.upd 2000 vs) kM= .vl J):
 cO (λvs=>Z0 e43 (I.upd 2000 vs)) [.vi 0,.vi 0,.vl []]=some (0,[.vi J.length,.vi J.length,.vl (J.map (fY (I.w 6)))]):=by
 have hl:(J.map (fY (I.w 6))).length=J.length:=k6 ..;refine Da (λi acc=>[.vi acc.length,.vi i,.vl acc]) (a0:=[]) (g:=λi=>[fY (I.w 6) (cg J i)]) (n:=J.length) rfl (λi hi=> ?_) ?_
 .rw[List.nil_append];have hg:=mO (λi=>fY (I.w 6) (cg J i)) i;generalize cB (λi=>[fY (I.w 6) (cg J i)]) i=acc at*
  have d3:=d3 [.vi acc.length,.vi i,.vl acc];have v0:(I.upd 2000 [.vi acc.length,.vi i,.vl acc]).w 2000= .vi acc.length:=by rfl
  have v1:(I.upd 2000 [.vi acc.length,.vi i,.vl acc]).w 2001= .vi i:=by rfl
  have v2:(I.upd 2000 [.vi acc.length,.vi i,.vl acc]).w 2002= .vl acc:=by rfl
  have v6:(I.upd 2000 [.vi acc.length,.vi i,.vl acc]).w 6=I.w 6:=by rfl
  generalize I.upd 2000 [.vi acc.length,.vi i,.vl acc]=aa at*
  have dc:bZ aa Jc= .vl (acc++[fY (I.w 6) (cg J i)]):=by
   show Val.vl ((aa.w 2002).toL++[.vl [aa.w 6,co (bZ aa kM).toL (aa.w 2001).toI 0,co (bZ aa kM).toL (aa.w 2001).toI 1]])=_;rw[v1,v2,v6,d3];rfl
  refine cG ?_ (W8 ?_ (W8 ?_ ?_))
  .show decide ((aa.w 2001).toI<((bZ aa kM).toL.length:Int))=true;simp_all
  .simp_all[cI,cF,cy,c9]
  .show(decide ((aa.w 2000).toI=((aa.w 2002).toL.length:Int))&&decide (((bZ aa Jc).toL.length:Int)<=1000000))=true;rw[v0,v2,dc];rw[j6];exact⟨c9 rfl,c9 (by show((acc++[_]).length:Int)<=1000000;grind)⟩
  .show some (0,[Val.vi ((bZ aa Jc).toL.length:Int),Val.vi (cn .add .i64 (aa.w 2001).toI 1),bZ aa Jc])=_;rw[dc,v1];rw[show cn .add .i64 (Val.vi (i:Int)).toI 1=((i+1:Nat):Int)from eJ hi (by omega)];rfl
 .rw[List.nil_append,Bi (fY (I.w 6)) J,hl];have d3:=d3 [.vi J.length,.vi J.length,.vl (J.map (fY (I.w 6)))];have v0:(I.upd 2000 [.vi J.length,.vi J.length,.vl (J.map (fY (I.w 6)))]).w 2000= .vi J.length:=by rfl
  have v1:(I.upd 2000 [.vi J.length,.vi J.length,.vl (J.map (fY (I.w 6)))]).w 2001= .vi J.length:=by rfl
  have v2:(I.upd 2000 [.vi J.length,.vi J.length,.vl (J.map (fY (I.w 6)))]).w 2002= .vl (J.map (fY (I.w 6))):=by rfl
  generalize I.upd 2000 [.vi J.length,.vi J.length,.vl (J.map (fY (I.w 6)))]=aa at*
  refine cE ?_ ?_
  .show decide ((aa.w 2001).toI<((bZ aa kM).toL.length:Int))=false;simp_all
  .show some (1,[aa.w 2000,aa.w 2001,aa.w 2002])=_;grind
section
variable{X:Nat->List Val->Val}{I:Opq}(hf: ∀i a,I.f i a=FT X i a)
include hf
theorem t_joined(hn:dB I (zn (zb (zl 4) 24) (.app 491 [aS]))=true):Z0 T_joined I=some (0,[co (FT X 725 [I.w 3,I.w 4,I.w 6,I.w 7]).toL 0 0,co (FT X 725 [I.w 3,I.w 4,I.w 6,I.w 7]).toL 0 1,co (FT X 725 [I.w 3,I.w 4,I.w 6,I.w 7]).toL 0 2,FT X 724 [I.w 3,I.w 4,I.w 6,I.w 7]]):=by
 obtain⟨n3,n4⟩:=Z1 (show(dB I (zb (zl 4) 24)&&dB I (.app 491 [aS]))=true from hn);have n3':((I.w 4).toL.length:Int)<=24:=j5 n3;have hs:I.f 723 [I.w 4,I.w 6]= .vl (dv (I.w 4).toL (I.w 6)):=by rw[hf];rfl
 have hl:(dv (I.w 4).toL (I.w 6)).length<=24:=by
  grind[IX,swo_spanV,gK,EA,dv]
 have jl:(lG (I.w 3) (I.w 4).toL (I.w 6) (I.w 7)).length<=24:=by grind[TT]
 have d3:bZ I kM= .vl (lG (I.w 3) (I.w 4).toL (I.w 6) (I.w 7)):=by
  show I.f 717 [I.w 3,I.w 7,I.f 723 [I.w 4,I.w 6]]=_;rw[hs,hf];rfl
 have D3: ∀vs,bZ (I.upd 2000 vs) kM= .vl (lG (I.w 3) (I.w 4).toL (I.w 6) (I.w 7)):=λvs=>by
  have w3:(I.upd 2000 vs).w 3=I.w 3:=by rfl
  have w4:(I.upd 2000 vs).w 4=I.w 4:=by rfl
  have w6:(I.upd 2000 vs).w 6=I.w 6:=by rfl
  have w7:(I.upd 2000 vs).w 7=I.w 7:=by rfl
  have wf:(I.upd 2000 vs).f=I.f:=rfl;generalize I.upd 2000 vs=aa at*
  show aa.f 717 [aa.w 3,aa.w 7,aa.f 723 [aa.w 4,aa.w 6]]=_;rw[w3,w4,w6,w7,wf];exact d3
 have d0:bZ I Ga= .vl [.vl (lU (I.w 3) (I.w 4).toL (I.w 6) (I.w 7))]:=by
  show I.f 718 [I.w 3,I.w 7,I.f 723 [I.w 4,I.w 6]]=_;rw[hs,hf];rfl
 have d1:bZ I Dn=(lU (I.w 3) (I.w 4).toL (I.w 6) (I.w 7)).getD 0 default:=by show co (bZ I Ga).toL 0 0=_;rw[d0];rfl
 have d2:bZ I DF=(lU (I.w 3) (I.w 4).toL (I.w 6) (I.w 7)).getD 1 default:=by show co (bZ I Ga).toL 0 1=_;rw[d0];rfl
 have a1:co (FT X 725 [I.w 3,I.w 4,I.w 6,I.w 7]).toL 0 0=I.w 6:=rfl;have a2:co (FT X 725 [I.w 3,I.w 4,I.w 6,I.w 7]).toL 0 1=(lU (I.w 3) (I.w 4).toL (I.w 6) (I.w 7)).getD 0 default:=rfl;have a3:co (FT X 725 [I.w 3,I.w 4,I.w 6,I.w 7]).toL 0 2=(lU (I.w 3) (I.w 4).toL (I.w 6) (I.w 7)).getD 1 default:=rfl;have a4:FT X 724 [I.w 3,I.w 4,I.w 6,I.w 7]= .vl ((lG (I.w 3) (I.w 4).toL (I.w 6) (I.w 7)).map (fY (I.w 6))):=rfl;have ml:((lG (I.w 3) (I.w 4).toL (I.w 6) (I.w 7)).map (fY (I.w 6))).length=(lG (I.w 3) (I.w 4).toL (I.w 6) (I.w 7)).length:=k6 ..;generalize lG (I.w 3) (I.w 4).toL (I.w 6) (I.w 7)=J at*
 have e4:bZ I Eb=cA (0,[.vi J.length,.vi J.length,.vl (J.map (fY (I.w 6)))]):=by
  show I.f 758 [.vi 0,.vi 0,.vl [],I.w 5,I.w 6,I.w 7,I.w 8,bZ I Dn,bZ I DF,.vi (bZ I kM).toL.length,bZ I kM,.vi (bZ I kM).toL.length]=_;rw[hf,d3];rfl
 have d5:bZ I Er= .vl (J.map (fY (I.w 6))):=by show co (bZ I Eb).toL 1 2=_;rw[e4];rfl
 refine W8 ?_ (W8 ?_ (Z5 (r:=(0,[.vi J.length,.vi J.length,.vl (J.map (fY (I.w 6)))])) (dR3 jl D3) e4 (W8 ?_ ?_)))
 .rw[cX,j6];grind[cI,cF,decide_eq_true]
 .show decide (((I.f 723 [I.w 4,I.w 6]).toL.length:Int)<=24)=true;rw[hs];exact c9 (by show((dv (I.w 4).toL (I.w 6)).length:Int)<=24;omega)
 .show decide ((co (bZ I Eb).toL 1 0).toI=((bZ I Er).toL.length:Int))=true;rw[d5,e4];exact c9 (congrArg Int.ofNat ml.symm)
 .show some (0,[I.w 6,bZ I Dn,bZ I DF,bZ I Er])=_;grind
end
end Go.Ev.S9
namespace Go.Ev.S9
open Go Go.Ev
theorem Z8{I:Opq}(x:SX):(bZ I (zL x)).toI=((bZ I x).toL.length:Int):=rfl
theorem dR{I:Opq}(n:Nat):bZ I (.va n)=I.w n:=rfl
theorem wb{A:List Val}{x:Val}(h:A.length<1000000):(decide ((Val.vi (A.length:Int)).toI=((Val.vl A).toL.length:Int))&&decide (((Val.vl (A++[x])).toL.length:Int)<=1000000))=true:=by
 grind[a09,a65,List.length_append,List.length_singleton]
theorem Ry(key ns ne r:Val):(kU key ns ne r).length<=1:=by grind[kU,zS]
def Cd(m P:List Val)(key ns ne v:Val)(k:Nat):List Val:=[.vi (cB (λi=>kU key ns ne (cg P i)) k).length,.vi ([Val.vl [.vi 1,v,v,v]]++cB (λi=>[lR m (cg P i)]) k).length,.vi k,.vl (cB (λi=>kU key ns ne (cg P i)) k),.vl ([Val.vl [.vi 1,v,v,v]]++cB (λi=>[lR m (cg P i)]) k)]
theorem dR4{I:Opq}{P:List Val}{key ns ne v:Val}(hP:P.length<=24)(d5: ∀vs,bZ (I.upd 2000 vs) gB= .vl P)(d2: ∀vs,bZ (I.upd 2000 vs) th=key)(d3: ∀vs,bZ (I.upd 2000 vs) tw=ns)(d4: ∀vs,bZ (I.upd 2000 vs) sF=ne):
 cO (λvs=>Z0 e45 (I.upd 2000 vs)) [.vi 0,.vi 1,.vi 0,.vl [],.vl [.vl [.vi 1,v,v,v]]]=some (0,Cd (I.w 4).toL P key ns ne v P.length):=by
 refine eE (st:=Cd (I.w 4).toL P key ns ne v) (n:=P.length) (λk hk=> ?_) ?_
 .have g1:=jD (λi=>Ry key ns ne (cg P i)) k;have g2:=mO (λi=>lR (I.w 4).toL (cg P i)) k;unfold Cd;simp only[cB];rw[<-A5];have g3:([Val.vl [.vi 1,v,v,v]]++cB (λi=>[lR (I.w 4).toL (cg P i)]) k).length=k+1:=by grind
  generalize [Val.vl [.vi 1,v,v,v]]++cB (λi=>[lR (I.w 4).toL (cg P i)]) k=A at*
  generalize cB (λi=>kU key ns ne (cg P i)) k=G at*
  have d2:=d2 [.vi G.length,.vi A.length,.vi k,.vl G,.vl A];have d3:=d3 [.vi G.length,.vi A.length,.vi k,.vl G,.vl A];have d4:=d4 [.vi G.length,.vi A.length,.vi k,.vl G,.vl A];have d5:=d5 [.vi G.length,.vi A.length,.vi k,.vl G,.vl A];have v0:(I.upd 2000 [.vi G.length,.vi A.length,.vi k,.vl G,.vl A]).w 2000= .vi G.length:=by rfl
  have v1:(I.upd 2000 [.vi G.length,.vi A.length,.vi k,.vl G,.vl A]).w 2001= .vi A.length:=by rfl
  have v2:(I.upd 2000 [.vi G.length,.vi A.length,.vi k,.vl G,.vl A]).w 2002= .vi k:=by rfl
  have v3:(I.upd 2000 [.vi G.length,.vi A.length,.vi k,.vl G,.vl A]).w 2003= .vl G:=by rfl
  have v4:(I.upd 2000 [.vi G.length,.vi A.length,.vi k,.vl G,.vl A]).w 2004= .vl A:=by rfl
  have vm:(I.upd 2000 [.vi G.length,.vi A.length,.vi k,.vl G,.vl A]).w 4=I.w 4:=by rfl
  generalize I.upd 2000 [.vi G.length,.vi A.length,.vi k,.vl G,.vl A]=aa at*
  have dk:bZ aa AK=eP (cg P k):=by
   show Val.vl [co (bZ aa gB).toL (aa.w 2002).toI 0,co (bZ aa gB).toL (aa.w 2002).toI 1,co (bZ aa gB).toL (aa.w 2002).toI 2]=_;rw[d5,v2];rfl
  have dc: ∀j:Nat,bZ aa (oA (j:Int))=ii (I.w 4).toL (eP (cg P k)) j:=λj=>by
   show(bif decide (((gV (aa.w 4).toL (bZ aa AK):Nat):Int)<((aa.w 4).toL.length:Int))then co (aa.w 4).toL ((gV (aa.w 4).toL (bZ aa AK):Nat):Int) (j:Int)else Val.vi 0)=_;rw[dk,vm];have e:decide (((gV (I.w 4).toL (eP (cg P k)):Nat):Int)<((I.w 4).toL.length:Int))=gO (I.w 4).toL (eP (cg P k)):=by
    simp_all[gO,decide_eq_decide]
   rw[e];rfl
  have da:bZ aa si= .vl (A++[lR (I.w 4).toL (cg P k)]):=by
   have c3:bZ aa (oA 3)=_:=dc 3;have c4:bZ aa (oA 4)=_:=dc 4;have c5:bZ aa (oA 5)=_:=dc 5;have c6:bZ aa (oA 6)=_:=dc 6;show Val.vl ((aa.w 2004).toL++[.vl [bZ aa (oA 3),bZ aa (oA 4),bZ aa (oA 5),bZ aa (oA 6)]])=_;rw[v4,c3,c4,c5,c6];rfl
  have dg:bZ aa Cu= .vl (G++[eP (cg P k)]):=by
   show Val.vl ((aa.w 2003).toL++[bZ aa AK])=_;simp_all
  have ds:dB aa Zc=zS key ns ne (cg P k):=by
   show(decide ((co (bZ aa gB).toL (aa.w 2002).toI 0).toS=(bZ aa th).toS)&&(decide ((co (bZ aa gB).toL (aa.w 2002).toI 1).toI=(bZ aa tw).toI)&&decide ((co (bZ aa gB).toL (aa.w 2002).toI 2).toI=(bZ aa sF).toI)))=_;rw[d2,d3,d4,d5,v2];rfl
  have inc:cn .add .i64 (Val.vi (k:Int)).toI 1=((k+1:Nat):Int):=eJ hk (by omega);refine cG ?_ (W8 ?_ (W8 ?_ ?_))
  .show decide ((aa.w 2002).toI<((bZ aa gB).toL.length:Int))=true;simp_all
  .simp_all[cI,cF,cy,c9]
  .rw[cX,eo,cI,cF,Z8,Z8,da,cy,dR,v1,v4];grind[wb]
  .unfold kU;cases hS:zS key ns ne (cg P k)with
   |true=>
    refine cE (by rw[fm,ds,hS];rfl) ?_;show some (0,[aa.w 2000,Val.vi ((bZ aa si).toL.length:Int),Val.vi (cn .add .i64 (aa.w 2002).toI 1),aa.w 2003,bZ aa si])=_;simp_all
   |false=>
    refine cG (by grind[fm]) (W8 ?_ ?_)
    .rw[cX,eo,cI,cF,Z8,Z8,dg,cy,dR,v0,v3];grind[wb]
    .show some (0,[Val.vi ((bZ aa Cu).toL.length:Int),Val.vi ((bZ aa si).toL.length:Int),Val.vi (cn .add .i64 (aa.w 2002).toI 1),bZ aa Cu,bZ aa si])=_;simp_all
 .unfold Cd;generalize [Val.vl [.vi 1,v,v,v]]++cB (λi=>[lR (I.w 4).toL (cg P i)]) P.length=A;generalize cB (λi=>kU key ns ne (cg P i)) P.length=G;have d5:=d5 [.vi G.length,.vi A.length,.vi P.length,.vl G,.vl A];have v0:(I.upd 2000 [.vi G.length,.vi A.length,.vi P.length,.vl G,.vl A]).w 2000= .vi G.length:=by rfl
  have v1:(I.upd 2000 [.vi G.length,.vi A.length,.vi P.length,.vl G,.vl A]).w 2001= .vi A.length:=by rfl
  have v2:(I.upd 2000 [.vi G.length,.vi A.length,.vi P.length,.vl G,.vl A]).w 2002= .vi P.length:=by rfl
  have v3:(I.upd 2000 [.vi G.length,.vi A.length,.vi P.length,.vl G,.vl A]).w 2003= .vl G:=by rfl
  have v4:(I.upd 2000 [.vi G.length,.vi A.length,.vi P.length,.vl G,.vl A]).w 2004= .vl A:=by rfl
  generalize I.upd 2000 [.vi G.length,.vi A.length,.vi P.length,.vl G,.vl A]=aa at*
  refine cE ?_ ?_
  .show decide ((aa.w 2002).toI<((bZ aa gB).toL.length:Int))=false;simp_all
  .show some (1,[aa.w 2000,aa.w 2001,aa.w 2002,aa.w 2003,aa.w 2004])=_;grind
theorem eZ{I:Opq}(a b:SX):dB I (cZ a b)= !decide ((bZ I a).toI=(bZ I b).toI):=rfl
theorem ct5(l:List Val):(l.drop (0:Int).toNat).take ((l.length:Int)-0).toNat=l:=by simp
section
variable{X:Nat->List Val->Val}{I:Opq}(hf: ∀i a,I.f i a=FT X i a)
include hf
theorem t_sess(hn:dB I (zn (zb (zl 4) 24) (.app 491 [aS]))=true):Z0 T_sess I=some (0,[FT X 729 [I.w 3,I.w 4,I.w 6,I.w 7,I.w 8],FT X 727 [I.w 3,I.w 4,I.w 6,I.w 7,I.w 8],FT X 728 [I.w 3,I.w 4,I.w 6,I.w 7,I.w 8]]):=by
 obtain⟨n3,n4⟩:=Z1 (show(dB I (zb (zl 4) 24)&&dB I (.app 491 [aS]))=true from hn);have n3':((I.w 4).toL.length:Int)<=24:=j5 n3;have a9:FT X 729 [I.w 3,I.w 4,I.w 6,I.w 7,I.w 8]= .vi (tn (I.w 3) (I.w 4).toL (I.w 6) (I.w 7) (I.w 8)):=rfl;have a7:FT X 727 [I.w 3,I.w 4,I.w 6,I.w 7,I.w 8]= .vl (oj (I.w 3) (I.w 4).toL (I.w 6) (I.w 7) (I.w 8)):=rfl;have a8:FT X 728 [I.w 3,I.w 4,I.w 6,I.w 7,I.w 8]= .vl (oO (I.w 3) (I.w 4).toL (I.w 6) (I.w 7) (I.w 8)):=rfl;rw[a9,a7,a8];have jl:=TT (I.w 3) (I.w 4).toL (I.w 6) (I.w 7);have pl:(jI (I.w 3) (I.w 4).toL (I.w 6) (I.w 7)).length<=24:=by
  unfold jI;rw[List.length_map];omega
 have f4:I.f 724 [I.w 3,I.w 4,I.w 6,I.w 7]= .vl (jI (I.w 3) (I.w 4).toL (I.w 6) (I.w 7)):=by rw[hf];rfl
 have f5:I.f 725 [I.w 3,I.w 4,I.w 6,I.w 7]= .vl [.vl (I.w 6::lU (I.w 3) (I.w 4).toL (I.w 6) (I.w 7))]:=by rw[hf];rfl
 unfold oj oO tn;generalize jI (I.w 3) (I.w 4).toL (I.w 6) (I.w 7)=P at*
 generalize lU (I.w 3) (I.w 4).toL (I.w 6) (I.w 7)=N at*
 have W: ∀vs:List Val,∀n:Nat,n<2000->(I.upd 2000 vs).w n=I.w n:=λvs n hn=>by rw[cN,b9 (by omega)]
 have d5:bZ I gB= .vl P:=f4;have d1:bZ I qe= .vl [.vl (I.w 6::N)]:=f5;have D5: ∀vs,bZ (I.upd 2000 vs) gB= .vl P:=λvs=>by
  exact f4
 have D1: ∀vs,bZ (I.upd 2000 vs) qe= .vl [.vl (I.w 6::N)]:=λvs=>by
  exact f5
 have d2:bZ I th=I.w 6:=by show co (bZ I qe).toL 0 0=_;rw[d1];rfl
 have d3:bZ I tw=N.getD 0 default:=by show co (bZ I qe).toL 0 1=_;rw[d1];rfl
 have d4:bZ I sF=N.getD 1 default:=by show co (bZ I qe).toL 0 2=_;rw[d1];rfl
 have D2: ∀vs,bZ (I.upd 2000 vs) th=I.w 6:=λvs=>by show co (bZ (I.upd 2000 vs) qe).toL 0 0=_;rw[D1];rfl
 have D3: ∀vs,bZ (I.upd 2000 vs) tw=N.getD 0 default:=λvs=>by show co (bZ (I.upd 2000 vs) qe).toL 0 1=_;rw[D1];rfl
 have D4: ∀vs,bZ (I.upd 2000 vs) sF=N.getD 1 default:=λvs=>by show co (bZ (I.upd 2000 vs) qe).toL 0 2=_;rw[D1];rfl
 generalize N.getD 0 default=ns at*
 generalize N.getD 1 default=ne at*
 have d0:bZ I xq= .vl [.vl [.vi 1,I.w 8,I.w 8,I.w 8]]:=rfl;have hA:[Val.vl [.vi 1,I.w 8,I.w 8,I.w 8]]++cB (λi=>[lR (I.w 4).toL (cg P i)]) P.length=lN (I.w 4).toL P (I.w 8):=by
  rw[Bi (lR (I.w 4).toL) P];rfl
 have hst:Cd (I.w 4).toL P (I.w 6) ns ne (I.w 8) P.length=[.vi (jJ P (I.w 6) ns ne).length,.vi (lN (I.w 4).toL P (I.w 8)).length,.vi P.length,.vl (jJ P (I.w 6) ns ne),.vl (lN (I.w 4).toL P (I.w 8))]:=by
  unfold Cd;rw[hA];rfl
 have lp:=dR4 (v:=I.w 8) pl D5 D2 D3 D4;rw[hst]at lp;have al:(lN (I.w 4).toL P (I.w 8)).length<=31:=by
  show(P.map _).length+1<=31;rw[k6];omega
 have e6:bZ I sj=cA (0,[.vi (jJ P (I.w 6) ns ne).length,.vi (lN (I.w 4).toL P (I.w 8)).length,.vi P.length,.vl (jJ P (I.w 6) ns ne),.vl (lN (I.w 4).toL P (I.w 8))]):=by
  show I.f 759 [.vi 0,.vi (bZ I xq).toL.length,.vi 0,.vl [],bZ I xq,I.w 0,I.w 1,I.w 2,I.w 3,I.w 4,bZ I th,bZ I tw,bZ I sF,.vi (bZ I gB).toL.length,bZ I gB,.vi (bZ I gB).toL.length]=_;rw[hf,d0,d2,d3,d4,d5];rfl
 generalize jJ P (I.w 6) ns ne=G at*
 generalize lN (I.w 4).toL P (I.w 8)=A at*
 have d7:bZ I FL= .vi A.length:=by show co (bZ I sj).toL 1 1=_;rw[e6];rfl
 have d8:bZ I Jy= .vl A:=by show co (bZ I sj).toL 1 4=_;rw[e6];rfl
 have dg:bZ I (zo sj 0)= .vi G.length:=by show co (bZ I sj).toL 1 0=_;rw[e6];rfl
 have d10:bZ I NE= .vl G:=by show co (bZ I sj).toL 1 3=_;rw[e6];rfl
 have d9:bZ I kR= .vl A:=by
  show Val.vl (((bZ I Jy).toL.drop (0:Int).toNat).take ((bZ I FL).toI-0).toNat)=_;rw[d7,d8];exact congrArg Val.vl (ct5 A)
 have f6:I.f 706 [bZ I kR]= .vi (jE A):=by rw[d9,hf];rfl
 have f5':I.f 705 [bZ I kR]= .vl [.vl (jR A)]:=by rw[d9,hf];rfl
 refine W8 hn (Z5 (r:=(0,[.vi G.length,.vi A.length,.vi P.length,.vl G,.vl A])) lp e6 (W8 ?_ ?_))
 .rw[cX,cX,cI,cI,cI,cF,cF,Z8,Z8,d7,d8,d9];exact a3 (by show(0:Int)<=(A.length:Int);omega) (x5 _) (by show(A.length:Int)<=1000;omega)
 .have hne:dB I (cZ (.app 706 [kR]) aM)= !decide (jE A=0):=by
   show(!decide ((I.f 706 [bZ I kR]).toI=0))=_;rw[f6];rfl
  by_cases h:jE A=0
  .refine cE (by rw[hne,c9 h];rfl) (W8 ?_ ?_)
   .rw[eo,Z8,dg,d10];exact c9 rfl
   .show some (0,[Val.vi 0,bZ I NE,.vl [.vl [bZ I th,bZ I tw,bZ I sF,co (I.f 705 [bZ I kR]).toL 0 0,co (I.f 705 [bZ I kR]).toL 0 1,co (I.f 705 [bZ I kR]).toL 0 2,co (I.f 705 [bZ I kR]).toL 0 3]]])=_;rw[d10,d2,d3,d4,f5',h];rfl
  .rw[e8 h,e8 h];refine cG (by rw[hne,i6 h];rfl) ?_;show some (0,[I.f 706 [bZ I kR],Val.vl [],Val.vl []])=_;rw[f6]
end
end Go.Ev.S9
namespace Go.Ev.S9
open Go Go.Ev
def Ej(m S:List Val)(key v e0:Val)(k:Nat):List Val:=[.vi (gu m S key v k).length,if k=0 then e0 else .vi 0,.vi k,.vl (gu m S key v k)]
section
variable{X:Nat->List Val->Val}{I:Opq}(hf: ∀i a,I.f i a=FT X i a)
include hf
theorem cW8{S:List Val}{e0:Val}(D1: ∀vs,bZ (I.upd 2000 vs) ie= .vl S){k:Nat}(hk:k<S.length)(hS:S.length<=1000):
 Z0 Nz (I.upd 2000 (Ej (I.w 4).toL S (I.w 6) (I.w 8) e0 k))=if lh (I.w 4).toL (I.w 6) (I.w 8) (cg S k)≠0 then some (1,[.vi k,.vi (lh (I.w 4).toL (I.w 6) (I.w 8) (cg S k)),.vi k,.vl (gu (I.w 4).toL S (I.w 6) (I.w 8) k)])else some (0,Ej (I.w 4).toL S (I.w 6) (I.w 8) e0 (k+1)):=by
 have hl:(gu (I.w 4).toL S (I.w 6) (I.w 8) k).length=k:=mO (λi=>oD (I.w 4).toL (I.w 6) (I.w 8) (cg S i)) k;have hs:gu (I.w 4).toL S (I.w 6) (I.w 8) (k+1)=gu (I.w 4).toL S (I.w 6) (I.w 8) k++[oD (I.w 4).toL (I.w 6) (I.w 8) (cg S k)]:=rfl;unfold Ej;have W: ∀vs:List Val,∀n:Nat,n<2000->(I.upd 2000 vs).w n=I.w n:=λvs n hn=>by simp_all[cN,b9]
 generalize gu (I.w 4).toL S (I.w 6) (I.w 8) k=L at*
 generalize (if k=0 then e0 else Val.vi 0)=ee;have D1:=D1 [.vi L.length,ee,.vi k,.vl L];have W:=W [.vi L.length,ee,.vi k,.vl L];have w4:=W 4 (by omega);have w6:=W 6 (by omega);have w8:=W 8 (by omega);have v0:(I.upd 2000 [.vi L.length,ee,.vi k,.vl L]).w 2000= .vi L.length:=by rfl
 have v2:(I.upd 2000 [.vi L.length,ee,.vi k,.vl L]).w 2002= .vi k:=by rfl
 have v3:(I.upd 2000 [.vi L.length,ee,.vi k,.vl L]).w 2003= .vl L:=by rfl
 have wf:(I.upd 2000 [.vi L.length,ee,.vi k,.vl L]).f=I.f:=rfl;generalize I.upd 2000 [.vi L.length,ee,.vi k,.vl L]=aa at*
 have dk:bZ aa EQ=fY (I.w 6) (cg S k):=by
  show Val.vl [aa.w 6,co (bZ aa ie).toL (aa.w 2002).toI 0,co (bZ aa ie).toL (aa.w 2002).toI 1]=_;rw[D1,v2,w6];rfl
 have dc: ∀j:Nat,bZ aa (jh (j:Int))=qv (I.w 4).toL (I.w 6) (cg S k) j:=λj=>by
  show(bif decide (((gV (aa.w 4).toL (bZ aa EQ):Nat):Int)<((aa.w 4).toL.length:Int))then co (aa.w 4).toL ((gV (aa.w 4).toL (bZ aa EQ):Nat):Int) (j:Int)else Val.vi 0)=_;rw[dk,w4];have e:decide (((gV (I.w 4).toL (fY (I.w 6) (cg S k)):Nat):Int)<((I.w 4).toL.length:Int))=gO (I.w 4).toL (fY (I.w 6) (cg S k)):=by
   simp_all[gO,decide_eq_decide]
  rw[e];rfl
 have c3:bZ aa (jh 3)=_:=dc 3;have c4:bZ aa (jh 4)=_:=dc 4;have c5:bZ aa (jh 5)=_:=dc 5;have c6:bZ aa (jh 6)=_:=dc 6;have de:bZ aa Bv= .vi (lh (I.w 4).toL (I.w 6) (I.w 8) (cg S k)):=by
  show aa.f 708 [bZ aa (jh 3),bZ aa (jh 4),bZ aa (jh 5),bZ aa (jh 6),aa.w 8]=_;rw[wf,hf,c3,c4,c5,c6,w8];rfl
 have dq:bZ aa ud= .vl [.vl (AM (I.w 4).toL (I.w 6) (I.w 8) (cg S k))]:=by
  show aa.f 707 [bZ aa (jh 3),bZ aa (jh 4),bZ aa (jh 5),bZ aa (jh 6),aa.w 8]=_;rw[wf,hf,c3,c4,c5,c6,w8];rfl
 have dr:bZ aa Ct= .vl (L++[oD (I.w 4).toL (I.w 6) (I.w 8) (cg S k)]):=by
  show Val.vl ((aa.w 2003).toL++[.vl [aa.w 6,co (bZ aa ie).toL (aa.w 2002).toI 0,co (bZ aa ie).toL (aa.w 2002).toI 1,co (bZ aa ud).toL 0 0,co (bZ aa ud).toL 0 1,co (bZ aa ud).toL 0 2,co (bZ aa ud).toL 0 3]])=_;rw[v3,w6,D1,v2,dq];rfl
 have inc:cn .add .i64 (Val.vi (k:Int)).toI 1=((k+1:Nat):Int):=eJ hk (by omega);have dn:dB aa (cZ Bv aM)= !decide (lh (I.w 4).toL (I.w 6) (I.w 8) (cg S k)=0):=by
  rw[eZ,cF,de];rfl
 refine cG ?_ (W8 ?_ ?_)
 .show decide ((aa.w 2002).toI<((bZ aa ie).toL.length:Int))=true;simp_all
 .simp_all[cI,cF,cy,c9]
 .by_cases h:lh (I.w 4).toL (I.w 6) (I.w 8) (cg S k)=0
  .refine cE (by grind) (W8 ?_ ?_)
   .rw[cX,eo,cI,cF,Z8,Z8,dr,cy,dR,v0,v3];grind[wb]
   .show some (0,[Val.vi ((bZ aa Ct).toL.length:Int),bZ aa Bv,Val.vi (cn .add .i64 (aa.w 2002).toI 1),bZ aa Ct])=_;simp_all
  .refine cG (by rw[dn,i6 h];rfl) ?_;show some (1,[aa.w 2000,bZ aa Bv,aa.w 2002,aa.w 2003])=_;grind
end
end Go.Ev.S9
namespace Go.Ev.S9
open Go Go.Ev
def rowS(r:Val):Prop:= ∃(k:List UInt8) (a b c d e f:Int),r= .vl [.vs k,.vi a,.vi b,.vi c,.vi d,.vi e,.vi f]/\k.length<=1000
theorem dz5(l:List Val): ∀k,∃a b,(jS l k).getD 2 default= .vi a/\(jS l k).getD 3 default= .vi b
 |0=>⟨0,0,rfl,rfl⟩
 |k+1=>by
  unfold jS;cases uL (cg l k)with
  |true=>exact dz5 l k
  |false=>
   split<;>exact⟨_,_,rfl,rfl⟩
theorem dR5{l:List Val}(h:jE l=0): ∃a b c d,jR l=[.vi a,.vi b,.vi c,.vi d]:=by
 obtain⟨c,d,h1,h2⟩:=dz5 l l.length;have hn: ¬(gC (jC l)≠0\/gC (jT l)≠0):=λhc=>by
  unfold jE at h;rw[if_pos hc]at h;cases h
 unfold jR;rw[b9 hn,h1,h2];exact⟨_,_,_,_,rfl⟩
theorem de0{k s l g:Int}{t:Val}(h3:k≠3): ∀r∈dw k s l g t,∃a b,r= .vl [.vi a,.vi b]:=by
 intro r hr;unfold dw at hr;cases h:(cV k s l g&&eU t.toI)with
 |false=>rw[h]at hr;cases hr
 |true=>
  simp_all;rw[rC]at hr;obtain⟨i,_,hi⟩:=D7.1 hr;unfold jc at hi;rw[n5]at hi;exact⟨_,_,hi⟩
theorem BO{k s l g:Int}{t:Val}(h3:k≠3):(dw k s l g t).length<=16:=by
 unfold dw;cases h:(cV k s l g&&eU t.toI)with
 |false=>grind
 |true=>
  simp[cond_true,b9 h3];rw[show(cB (jc (fU t.toI (dT k s l)-s+dT k s l) (dT k s l) s) (fP k s l)).length=fP k s l from mO _ _];have hw:=(Z1 h).1;unfold cV at hw;unfold fP dT;by_cases k2:k=2
  .grind
  .grind[Int.ediv_self]
theorem Sv(m S:List Val)(key v:Val):ib m S key v<=S.length/\(∀i,i<ib m S key v->lh m key v (cg S i)=0)/\(ib m S key v<S.length->lh m key v (cg S (ib m S key v))≠0):=by
 unfold ib;cases hf:(List.range S.length).find? λi=>decide (lh m key v (cg S i)≠0)with
 |none=>
  grind
 |some k=>
  grind[oY,Nat.le_of_lt]
section
variable{X:Nat->List Val->Val}{I:Opq}(hf: ∀i a,I.f i a=FT X i a)
include hf
theorem dR6{S:List Val}{e0:Val}(D1: ∀vs,bZ (I.upd 2000 vs) ie= .vl S)(hS:S.length<=16):
 cO (λvs=>Z0 Nz (I.upd 2000 vs)) [.vi 0,e0,.vi 0,.vl []]=some (0,[.vi (ib (I.w 4).toL S (I.w 6) (I.w 8)),lE (I.w 4).toL S (I.w 6) (I.w 8) e0,.vi (ib (I.w 4).toL S (I.w 6) (I.w 8)),.vl (gu (I.w 4).toL S (I.w 6) (I.w 8) (ib (I.w 4).toL S (I.w 6) (I.w 8)))]):=by
 obtain⟨k1,k2,k3⟩:=Sv (I.w 4).toL S (I.w 6) (I.w 8);refine eE (st:=Ej (I.w 4).toL S (I.w 6) (I.w 8) e0) (n:=ib (I.w 4).toL S (I.w 6) (I.w 8)) (λk hk=> ?_) ?_
 .rw[cW8 hf D1 (by omega) (by omega),b9 (by grind)]
 .unfold lE;by_cases h:ib (I.w 4).toL S (I.w 6) (I.w 8)<S.length
  .rw[cW8 hf D1 h (by omega),e8 (k3 h),e8 h]
  .have e:ib (I.w 4).toL S (I.w 6) (I.w 8)=S.length:=by omega
   rw[b9 h,e];have hl:(gu (I.w 4).toL S (I.w 6) (I.w 8) S.length).length=S.length:=mO (λi=>oD (I.w 4).toL (I.w 6) (I.w 8) (cg S i)) _;unfold Ej;rw[hl];generalize gu (I.w 4).toL S (I.w 6) (I.w 8) S.length=L at*
   generalize (if S.length=0 then e0 else Val.vi 0)=ee;have D1:=D1 [.vi S.length,ee,.vi S.length,.vl L];have v0:(I.upd 2000 [.vi S.length,ee,.vi S.length,.vl L]).w 2000= .vi S.length:=by rfl
   have v1:(I.upd 2000 [.vi S.length,ee,.vi S.length,.vl L]).w 2001=ee:=by rfl
   have v2:(I.upd 2000 [.vi S.length,ee,.vi S.length,.vl L]).w 2002= .vi S.length:=by rfl
   have v3:(I.upd 2000 [.vi S.length,ee,.vi S.length,.vl L]).w 2003= .vl L:=by rfl
   generalize I.upd 2000 [.vi S.length,ee,.vi S.length,.vl L]=aa at*
   refine cE ?_ ?_
   .show decide ((aa.w 2002).toI<((bZ aa ie).toL.length:Int))=false;simp_all
   .show some (1,[aa.w 2000,aa.w 2001,aa.w 2002,aa.w 2003])=_;grind
end
end Go.Ev.S9
namespace Go.Ev.S9
open Go Go.Ev
def w9(I:Opq):List Val:=[I.w 0,I.w 1,I.w 2,I.w 3,I.w 4,I.w 5,I.w 6,I.w 7,I.w 8]
theorem de1{m:List Val}{key v r:Val}(hk:Te key=true)(hl:key.toS.length<=1000)(hr: ∃a b,r= .vl [.vi a,.vi b])(he:lh m key v r=0):rowS (oD m key v r):=by
 obtain⟨a,b,rfl⟩:=hr;obtain⟨c,d,e,f,hq⟩:=dR5 he;cases key with
 |vs k=>
  refine⟨k,a,b,c,d,e,f,?_,hl⟩;unfold oD AM ou;unfold lh at he;rw[b9 (by simp[he]),hq];rfl
 |vi _=>cases hk
 |vb _=>cases hk
 |vl _=>cases hk
section
variable{X:Nat->List Val->Val}{I:Opq}(hf: ∀i a,I.f i a=FT X i a)
include hf
theorem t_tryE(h431: ∀l:List Val,(∀r∈l,rowS r)->(X 431 [.vl l]).toB=true)
 (hn:dB I (zn (zn (zn (zb (zl 4) 400) (.app 431 [aS])) (.app 491 [aS])) (.app 739 [aN,aS,bd]))=true):
 Z0 T_tryE I=some (0,[.vi (dC (w9 I)),.vl (eF (w9 I)),eS X (w9 I)]):=by
 obtain⟨m1,m2⟩:=Z1 hn;obtain⟨m3,m4⟩:=Z1 m1;have m2:(I.f 739 [I.w 0,I.w 4,I.w 6]).toB=true:=m2;rw[hf]at m2;have m2:((!decide ((I.w 0).toI=3)||decide ((I.w 4).toL.length<=24))&&Te (I.w 6))=true:=m2;obtain⟨m5,m6⟩:=Z1 m2;have t0:bZ I sG= .vi (dH (I.w 5).toI (I.w 6).toS (I.w 7).toI (I.w 8).toI):=by
  show I.f 701 [I.w 5,I.w 6,I.w 7,I.w 8]=_;rw[hf];rfl
 have g9:dC (w9 I)=if dH (I.w 5).toI (I.w 6).toS (I.w 7).toI (I.w 8).toI≠0 then dH (I.w 5).toI (I.w 6).toS (I.w 7).toI (I.w 8).toI else if(I.w 5).toI≠1 then 2 else if(I.w 0).toI=3 then tn (I.w 3) (I.w 4).toL (I.w 6) (I.w 7) (I.w 8)else(lE (I.w 4).toL (dw (I.w 0).toI (I.w 1).toI (I.w 2).toI (I.w 3).toI (I.w 7)) (I.w 6) (I.w 8) (.vi 0)).toI:=rfl
 have gG:eF (w9 I)=if dH (I.w 5).toI (I.w 6).toS (I.w 7).toI (I.w 8).toI≠0\/(I.w 5).toI≠1 then []else if(I.w 0).toI=3 then oj (I.w 3) (I.w 4).toL (I.w 6) (I.w 7) (I.w 8)else []:=rfl
 have gR:eS X (w9 I)=if dH (I.w 5).toI (I.w 6).toS (I.w 7).toI (I.w 8).toI≠0\/(I.w 5).toI≠1 then .vl []else if(I.w 0).toI=3 then .vl (oO (I.w 3) (I.w 4).toL (I.w 6) (I.w 7) (I.w 8))else if dC (w9 I)≠0 then .vl []else X 490 [.vl (gu (I.w 4).toL (dw (I.w 0).toI (I.w 1).toI (I.w 2).toI (I.w 3).toI (I.w 7)) (I.w 6) (I.w 8) (dw (I.w 0).toI (I.w 1).toI (I.w 2).toI (I.w 3).toI (I.w 7)).length)]:=rfl
 rw[gR,g9,gG];have c0:dB I (cZ sG aM)= !decide (dH (I.w 5).toI (I.w 6).toS (I.w 7).toI (I.w 8).toI=0):=by rw[eZ,cF,t0];rfl
 by_cases h0:dH (I.w 5).toI (I.w 6).toS (I.w 7).toI (I.w 8).toI≠0
 .rw[e8 h0,e8 (.inl h0),e8 (.inl h0)];refine cG (by rw[c0,i6 h0];rfl) ?_;show some (0,[bZ I sG,Val.vl [],Val.vl []])=_;rw[t0]
 rw[b9 h0];have hlen:(I.w 5).toI=1->(I.w 6).toS.length<=32:=λh1=>by
  have h:=Classical.not_not.1 h0;rw[h1]at h;unfold dH at h;by_cases q:(I.w 6).toS=[]\/32<(I.w 6).toS.length
  .rw[e8 q]at h;cases h
  .exact C8.1 λhh=>q (.inr hh)
 replace h0:=Classical.not_not.1 h0;refine cE (by rw[c0,c9 h0];rfl) ?_;have c1:dB I (cZ be aZ)= !decide ((I.w 5).toI=1):=by rw[eZ,cF,cy]
 by_cases h1:(I.w 5).toI≠1
 .rw[e8 h1,e8 (.inr h1),e8 (.inr h1)];exact cG (by rw[c1,i6 h1];rfl) rfl
 have hd: ¬(dH (I.w 5).toI (I.w 6).toS (I.w 7).toI (I.w 8).toI≠0\/(I.w 5).toI≠1):=λh=>h.elim (λh=>h h0) h1
 simp only[b9 h1,b9 hd];replace h1:=Classical.not_not.1 h1;refine cE (by rw[c1,c9 h1];rfl) ?_;by_cases h3:(I.w 0).toI=3
 .simp[e8 h3];refine cG (by exact c9 h3) (W8 ?_ ?_)
  .rw[cX,j6];refine⟨?_,m4⟩;rw[c9 h3]at m5;have m5:(I.w 4).toL.length<=24:=j5 m5;exact c9 (by show((I.w 4).toL.length:Int)<=24;omega)
  .show some (0,[I.f 729 [I.w 3,I.w 4,I.w 6,I.w 7,I.w 8],I.f 727 [I.w 3,I.w 4,I.w 6,I.w 7,I.w 8],I.f 728 [I.w 3,I.w 4,I.w 6,I.w 7,I.w 8]])=_;rw[hf,hf,hf];rfl
 simp only[b9 h3];refine cE (by exact i6 h3) ?_;have hS:=BO (k:=(I.w 0).toI) (s:=(I.w 1).toI) (l:=(I.w 2).toI) (g:=(I.w 3).toI) (t:=I.w 7) h3;have hvi:=de0 (k:=(I.w 0).toI) (s:=(I.w 1).toI) (l:=(I.w 2).toI) (g:=(I.w 3).toI) (t:=I.w 7) h3;have d1:bZ I ie= .vl (dw (I.w 0).toI (I.w 1).toI (I.w 2).toI (I.w 3).toI (I.w 7)):=by
  show I.f 704 [I.w 0,I.w 1,I.w 2,I.w 3,I.w 7]=_;rw[hf];rfl
 have W: ∀vs:List Val,∀n:Nat,n<2000->(I.upd 2000 vs).w n=I.w n:=λvs n hn=>by rw[cN,b9 (by omega)]
 have D1: ∀vs,bZ (I.upd 2000 vs) ie= .vl (dw (I.w 0).toI (I.w 1).toI (I.w 2).toI (I.w 3).toI (I.w 7)):=λvs=>by
  exact d1
 generalize dw (I.w 0).toI (I.w 1).toI (I.w 2).toI (I.w 3).toI (I.w 7)=S at*
 have lp:=dR6 hf (e0:= .vi 0) D1 hS;rw[h0]at t0;obtain⟨k1,k2,k3⟩:=Sv (I.w 4).toL S (I.w 6) (I.w 8);have e2:bZ I zq=cA (0,[.vi (ib (I.w 4).toL S (I.w 6) (I.w 8)),lE (I.w 4).toL S (I.w 6) (I.w 8) (.vi 0),.vi (ib (I.w 4).toL S (I.w 6) (I.w 8)),.vl (gu (I.w 4).toL S (I.w 6) (I.w 8) (ib (I.w 4).toL S (I.w 6) (I.w 8)))]):=by
  show I.f 760 [.vi 0,bZ I sG,.vi 0,.vl [],I.w 0,I.w 1,I.w 2,I.w 3,I.w 4,I.w 5,I.w 6,I.w 7,I.w 8,.vi (bZ I ie).toL.length,bZ I ie,.vi (bZ I ie).toL.length]=_;rw[hf,t0,d1];rfl
 have lp':cO (λvs=>Z0 Nz (I.upd 2000 vs)) (ck I [zL cu,sG,aM,cu])=some (0,[.vi (ib (I.w 4).toL S (I.w 6) (I.w 8)),lE (I.w 4).toL S (I.w 6) (I.w 8) (.vi 0),.vi (ib (I.w 4).toL S (I.w 6) (I.w 8)),.vl (gu (I.w 4).toL S (I.w 6) (I.w 8) (ib (I.w 4).toL S (I.w 6) (I.w 8)))]):=by
  show cO _ [.vi 0,bZ I sG,.vi 0,.vl []]=_;rw[t0];exact lp
 have d3:bZ I Is=lE (I.w 4).toL S (I.w 6) (I.w 8) (.vi 0):=by show co (bZ I zq).toL 1 1=_;rw[e2];rfl
 have hX: ∃x,lE (I.w 4).toL S (I.w 6) (I.w 8) (.vi 0)= .vi x:=by
  unfold lE;split
  .exact⟨_,rfl⟩
  .split<;>exact⟨_,rfl⟩
 obtain⟨x,hX⟩:=hX;refine Z5 lp' e2 ?_;have c3:dB I (cZ Is aM)= !decide (x=0):=by rw[eZ,cF,d3,hX];rfl
 by_cases hx:x=0
 .subst hx;have hK:ib (I.w 4).toL S (I.w 6) (I.w 8)=S.length:=by
   refine Nat.le_antisymm k1 (C8.1 λh=> ?_);unfold lE at hX;rw[e8 h]at hX;exact k3 h (Val.vi.inj hX)
  have d4:bZ I FI= .vi S.length:=by show co (bZ I zq).toL 1 0=_;rw[e2,hK];rfl
  have d5:bZ I JY= .vl (gu (I.w 4).toL S (I.w 6) (I.w 8) S.length):=by show co (bZ I zq).toL 1 3=_;rw[e2,hK];rfl
  have hl:(gu (I.w 4).toL S (I.w 6) (I.w 8) S.length).length=S.length:=mO (λi=>oD (I.w 4).toL (I.w 6) (I.w 8) (cg S i)) _;have d6:bZ I Db= .vl (gu (I.w 4).toL S (I.w 6) (I.w 8) S.length):=by
   show Val.vl (((bZ I JY).toL.drop (0:Int).toNat).take ((bZ I FI).toI-0).toNat)=_;rw[d4,d5];have:=ct5 (gu (I.w 4).toL S (I.w 6) (I.w 8) S.length);rw[hl]at this;exact congrArg Val.vl this
  have hrows: ∀r∈gu (I.w 4).toL S (I.w 6) (I.w 8) S.length,rowS r:=λr hr=>by
   unfold gu at hr;rw[rC]at hr;obtain⟨i,hi,hr⟩:=D7.1 hr;rw[n5]at hr;subst hr;have hi:=r9.1 hi;refine de1 m6 (by omega) (hvi _ ?_) (k2 i (by omega));have:cg S i=S[i]:=by simp[cg,j8,hi]
   rw[this];exact B5 hi
  have h43:=h431 _ hrows;rw[hX,b9 (by simp)];generalize gu (I.w 4).toL S (I.w 6) (I.w 8) S.length=L at*
  refine cE (by rw[c3];rfl) (W8 ?_ ?_)
  .rw[cX,cX,cX,cI,cI,cI,cF,cF,Z8,Z8,d4,d5,d6,j6,j6,j6];refine⟨⟨c9 (by show(0:Int)<=(S.length:Int);omega),c9 (by show(S.length:Int)<=(L.length:Int);omega)⟩,c9 (by show(L.length:Int)<=400;omega),?_⟩;show(I.f 431 [bZ I Db]).toB=true;rw[d6,hf];exact h43
  .show some (0,[Val.vi 0,Val.vl [],I.f 490 [bZ I Db]])=_;rw[d6,hf];rfl
 .rw[hX,e8 (by simpa using hx)];refine cG (by rw[c3,i6 hx];rfl) ?_;show some (0,[bZ I Is,Val.vl [],Val.vl []])=_;rw[d3,hX];rfl
end
end Go.Ev.S9
namespace Go.Ev.S9
open Go Go.Ev
def e52:SX:= .op .row [cj iD aV 0,cj iD aV 1,cj iD aV 2]
def Pp:SX:= .op .row [cj eD aV 0,cj eD aV 1,cj eD aV 2]
def TV:SX:= .op .row [cj eD aV 0,cj eD aV 1,cj eD aV 2,cj eD aV 3,cj eD aV 4,cj eD aV 5,cj eD aV 6]
def UR:SX:= .op (.mfind [.str,.int .i64,.int .i64]) [aR,Pp]
theorem dS0{I:Opq}{G:List Val}{m:Val}(hG:G.length<=1000000)(D2: ∀vs,bZ (I.upd 2000 vs) iD= .vl G):
 cO (λvs=>Z0 Vj (I.upd 2000 vs)) [.vi 0,m]=some (0,[.vi G.length,gq m G G.length]):=by
 refine eE (st:=λk=>[.vi k,gq m G k]) (n:=G.length) (λk hk=> ?_) ?_
 .show Z0 Vj (I.upd 2000 [.vi k,gq m G k])=some (0,[.vi (k+1:Nat),.vl ((gq m G k).toL.eraseIdx (gV (gq m G k).toL (eP (cg G k))))]);have D2:=D2 [.vi k,gq m G k];have v0:(I.upd 2000 [.vi k,gq m G k]).w 2000= .vi k:=by rfl
  have v1:(I.upd 2000 [.vi k,gq m G k]).w 2001=gq m G k:=by rfl
  generalize I.upd 2000 [.vi k,gq m G k]=aa at*
  have dk:bZ aa e52=eP (cg G k):=by
   show Val.vl [co (bZ aa iD).toL (aa.w 2000).toI 0,co (bZ aa iD).toL (aa.w 2000).toI 1,co (bZ aa iD).toL (aa.w 2000).toI 2]=_;rw[D2,v0];rfl
  have inc:cn .add .i64 (Val.vi (k:Int)).toI 1=((k+1:Nat):Int):=eJ hk (by omega);refine cG ?_ (W8 ?_ ?_)
  .show decide ((aa.w 2000).toI<((bZ aa iD).toL.length:Int))=true;simp_all
  .simp_all[cI,cF,cy,c9]
  .show some (0,[Val.vi (cn .add .i64 (aa.w 2000).toI 1),Val.vl ((aa.w 2001).toL.eraseIdx (gV (aa.w 2001).toL (bZ aa e52)))])=_;grind
 .have D2:=D2 [.vi G.length,gq m G G.length];have v0:(I.upd 2000 [.vi G.length,gq m G G.length]).w 2000= .vi G.length:=by rfl
  have v1:(I.upd 2000 [.vi G.length,gq m G G.length]).w 2001=gq m G G.length:=by rfl
  generalize I.upd 2000 [.vi G.length,gq m G G.length]=aa at*
  refine cE ?_ ?_
  .show decide ((aa.w 2000).toI<((bZ aa iD).toL.length:Int))=false;simp_all
  .show some (1,[aa.w 2000,aa.w 2001])=_;grind
theorem dS1{I:Opq}{R:List Val}{m:Val}(hR:R.length<=1000000)(D1: ∀vs,(bZ (I.upd 2000 vs) eD).toL=R):
 cO (λvs=>Z0 VK (I.upd 2000 vs)) [.vi 0,m]=some (0,[.vi R.length,fI m R R.length]):=by
 refine eE (st:=λk=>[.vi k,fI m R k]) (n:=R.length) (λk hk=> ?_) ?_
 .show Z0 VK (I.upd 2000 [.vi k,fI m R k])=some (0,[.vi (k+1:Nat),bif gO (fI m R k).toL (eP (cg R k))then .vl ((fI m R k).toL.set (gV (fI m R k).toL (eP (cg R k))) (cQ (cg R k)))else .vl ((fI m R k).toL++[cQ (cg R k)])]);have D1:=D1 [.vi k,fI m R k];have v0:(I.upd 2000 [.vi k,fI m R k]).w 2000= .vi k:=by rfl
  have v1:(I.upd 2000 [.vi k,fI m R k]).w 2001=fI m R k:=by rfl
  generalize I.upd 2000 [.vi k,fI m R k]=aa at*
  generalize fI m R k=M at*
  have dk:bZ aa Pp=eP (cg R k):=by
   show Val.vl [co (bZ aa eD).toL (aa.w 2000).toI 0,co (bZ aa eD).toL (aa.w 2000).toI 1,co (bZ aa eD).toL (aa.w 2000).toI 2]=_;rw[D1,v0];rfl
  have dn:bZ aa TV=cQ (cg R k):=by
   show Val.vl [co (bZ aa eD).toL (aa.w 2000).toI 0,co (bZ aa eD).toL (aa.w 2000).toI 1,co (bZ aa eD).toL (aa.w 2000).toI 2,co (bZ aa eD).toL (aa.w 2000).toI 3,co (bZ aa eD).toL (aa.w 2000).toI 4,co (bZ aa eD).toL (aa.w 2000).toI 5,co (bZ aa eD).toL (aa.w 2000).toI 6]=_;rw[D1,v0];rfl
  have dm:bZ aa UR= .vi (gV M.toL (eP (cg R k)):Nat):=by
   show Val.vi ((gV (aa.w 2001).toL (bZ aa Pp):Nat):Int)=_;grind
  have inc:cn .add .i64 (Val.vi (k:Int)).toI 1=((k+1:Nat):Int):=eJ hk (by omega);have e:decide (((gV M.toL (eP (cg R k)):Nat):Int)<(M.toL.length:Int))=gO M.toL (eP (cg R k)):=by
   simp_all[gO,decide_eq_decide]
  refine cG ?_ (W8 ?_ ?_)
  .show decide ((aa.w 2000).toI<((bZ aa eD).toL.length:Int))=true;simp_all
  .simp_all[cI,cF,cy,c9]
  .show some (0,[Val.vi (cn .add .i64 (aa.w 2000).toI 1),bif decide ((bZ aa UR).toI<((aa.w 2001).toL.length:Int))then Val.vl ((aa.w 2001).toL.set (bZ aa UR).toI.toNat (bZ aa TV))else Val.vl ((aa.w 2001).toL++[bZ aa TV])])=_;simp_all
 .have D1:=D1 [.vi R.length,fI m R R.length];have v0:(I.upd 2000 [.vi R.length,fI m R R.length]).w 2000= .vi R.length:=by rfl
  have v1:(I.upd 2000 [.vi R.length,fI m R R.length]).w 2001=fI m R R.length:=by rfl
  generalize I.upd 2000 [.vi R.length,fI m R R.length]=aa at*
  refine cE ?_ ?_
  .show decide ((aa.w 2000).toI<((bZ aa eD).toL.length:Int))=false;simp_all
  .show some (1,[aa.w 2000,aa.w 2001])=_;grind
section
variable{X:Nat->List Val->Val}{I:Opq}(hf: ∀i a,I.f i a=FT X i a)
include hf
theorem dS2(hG:(eF (w9 I)).length<=1000000)(hR:(eS X (w9 I)).toL.length<=1000000)
 (hn:dB I (zn (zn (zn (zb (zl 4) 400) (.app 431 [aS])) (.app 491 [aS])) (.app 739 [aN,aS,bd]))=true):
 Z0 T_put I=some (0,[.vi (dC (w9 I)),eQ X (w9 I)]):=by
 have W9: ∀vs:List Val,[(I.upd 2000 vs).w 0,(I.upd 2000 vs).w 1,(I.upd 2000 vs).w 2,(I.upd 2000 vs).w 3,(I.upd 2000 vs).w 4,(I.upd 2000 vs).w 5,(I.upd 2000 vs).w 6,(I.upd 2000 vs).w 7,(I.upd 2000 vs).w 8]=w9 I:=λvs=>by
  rfl
 have p0:bZ I HL= .vi (dC (w9 I)):=by
  show I.f 732 (w9 I)=_;rw[hf];rfl
 have p1:bZ I eD=eS X (w9 I):=by
  show I.f 731 (w9 I)=_;rw[hf];rfl
 have p2:bZ I iD= .vl (eF (w9 I)):=by
  show I.f 730 (w9 I)=_;rw[hf];rfl
 have P1: ∀vs,(bZ (I.upd 2000 vs) eD).toL=(eS X (w9 I)).toL:=λvs=>by
  show(I.f 731 [(I.upd 2000 vs).w 0,(I.upd 2000 vs).w 1,(I.upd 2000 vs).w 2,(I.upd 2000 vs).w 3,(I.upd 2000 vs).w 4,(I.upd 2000 vs).w 5,(I.upd 2000 vs).w 6,(I.upd 2000 vs).w 7,(I.upd 2000 vs).w 8]).toL=_;rw[W9,hf];rfl
 have P2: ∀vs,bZ (I.upd 2000 vs) iD= .vl (eF (w9 I)):=λvs=>by
  show I.f 730 [(I.upd 2000 vs).w 0,(I.upd 2000 vs).w 1,(I.upd 2000 vs).w 2,(I.upd 2000 vs).w 3,(I.upd 2000 vs).w 4,(I.upd 2000 vs).w 5,(I.upd 2000 vs).w 6,(I.upd 2000 vs).w 7,(I.upd 2000 vs).w 8]=_;rw[W9,hf];rfl
 have c0:dB I (cZ HL aM)= !decide (dC (w9 I)=0):=by rw[eZ,cF,p0];rfl
 have hm:eQ X (w9 I)=if dC (w9 I)≠0 then I.w 4 else fI (gq (I.w 4) (eF (w9 I)) (eF (w9 I)).length) (eS X (w9 I)).toL (eS X (w9 I)).toL.length:=rfl
 rw[hm];refine W8 hn ?_;by_cases h:dC (w9 I)=0
 .refine cE (by grind) ?_;rw[h];generalize eF (w9 I)=G at*
  have e1:I.f 761 [.vi 0,I.w 4,I.w 0,I.w 1,I.w 2,I.w 3,I.w 4,.vi (bZ I eD).toL.length,bZ I eD,.vi (bZ I iD).toL.length,bZ I iD,.vi (bZ I iD).toL.length]=cA (0,[.vi G.length,gq (I.w 4) G G.length]):=by
   rw[hf,p2];rfl
  have p3:bZ I sO=gq (I.w 4) G G.length:=by
   show co (I.f 761 [.vi 0,I.w 4,I.w 0,I.w 1,I.w 2,I.w 3,I.w 4,.vi (bZ I eD).toL.length,bZ I eD,.vi (bZ I iD).toL.length,bZ I iD,.vi (bZ I iD).toL.length]).toL 1 1=_;rw[e1];rfl
  refine Z5 (r:=(0,[.vi G.length,gq (I.w 4) G G.length])) (dS0 hG P2) e1 ?_;generalize gq (I.w 4) G G.length=M at*
  have e2:I.f 762 [.vi 0,bZ I sO,I.w 0,I.w 1,I.w 2,I.w 3,bZ I sO,.vi (bZ I eD).toL.length,bZ I eD,.vi (bZ I eD).toL.length]=cA (0,[.vi (eS X (w9 I)).toL.length,fI M (eS X (w9 I)).toL (eS X (w9 I)).toL.length]):=by
   rw[hf,p1,p3];rfl
  refine Z5 (r:=(0,[.vi (eS X (w9 I)).toL.length,fI M (eS X (w9 I)).toL (eS X (w9 I)).toL.length])) ?_ e2 ?_
  .show cO _ [.vi 0,bZ I sO]=_;rw[p3];exact dS1 hR P1
  .show some (0,[Val.vi 0,co (I.f 762 [.vi 0,bZ I sO,I.w 0,I.w 1,I.w 2,I.w 3,bZ I sO,.vi (bZ I eD).toL.length,bZ I eD,.vi (bZ I eD).toL.length]).toL 1 1])=_;rw[e2];rfl
 .rw[e8 h];refine cG (by grind) ?_;show some (0,[bZ I HL,I.w 4])=_;rw[p0]
end
end Go.Ev.S9
namespace Go.Ev.S9
open Go Go.Ev
def cP(x:Int):Prop:= -9223372036854775808<=x/\x<9223372036854775808
def pT(g:Nat->Int):Nat->Int
 |0=>0
 |k+1=>pT g k+g k
theorem We{x:Int}(h: -18446744073709551616<=x)(h2:x<18446744073709551616):cP (IntKind.i64.wrap x)/\((cP x/\IntKind.i64.wrap x=x)\/(x< -9223372036854775808/\IntKind.i64.wrap x=x+18446744073709551616)\/(9223372036854775808<=x/\IntKind.i64.wrap x=x-18446744073709551616)):=by
 grind[cP,IntKind.wrap,IntKind.bits,IntKind.signed]
theorem Yy{g:Nat->Int}(hg: ∀k,cP (g k)): ∀n:Nat,n<=1000000->cP (fZ g n).1/\ -(n:Int)<=(fZ g n).2/\(fZ g n).2<=n/\(fZ g n).1+(fZ g n).2*18446744073709551616=pT g n
 |0,_=>⟨⟨by show(-9223372036854775808:Int)<=0;omega,by show(0:Int)<9223372036854775808;omega⟩,by show-((0:Nat):Int)<=0;omega,by show(0:Int)<=((0:Nat):Int);omega,rfl⟩
 |n+1,hn=>by
  obtain⟨a,b,c,d⟩:=Yy hg n (by omega);have hx:=hg n;unfold pT;rw[show fZ g (n+1)=if 0<=(fZ g n).1/\0<=g n/\cn .add .i64 (fZ g n).1 (g n)<0 then(cn .add .i64 (fZ g n).1 (g n),cn .add .i64 (fZ g n).2 1)else if(fZ g n).1<0/\g n<0/\0<=cn .add .i64 (fZ g n).1 (g n)then(cn .add .i64 (fZ g n).1 (g n),cn .sub .i64 (fZ g n).2 1)else(cn .add .i64 (fZ g n).1 (g n),(fZ g n).2)from rfl];generalize (fZ g n).1=s at*
  generalize g n=x at*
  have w:=We (x:=s+x) (by have:=a.1;have:=hx.1;omega) (by have:=a.2;have:=hx.2;omega);grind[cn,gj,kN,cP]
theorem by2{g:Nat->Int}(hg: ∀k,cP (g k)){n:Nat}(hn:n<=1000000):((fZ g n).2=0↔cP (pT g n))/\((fZ g n).2=0->(fZ g n).1=pT g n):=by
 grind[Yy,cP,fZ]
end Go.Ev.S9
