import Derived.Test.YtgeohopencabkaaGreatEL1
set_option linter.all false
namespace Go.Ev.S9
open Go Go.Ev
def Fm{step:U7->Option (Nat×U7)}{n:Nat}{a0:U7}{g:Nat->U7}(mk:Nat->U7->U7){s0 p:U7}(h0:s0=mk 0 a0)
 (h1: ∀i,i<n->step (mk i (a0++cw g i))=some (0,mk (i+1) (a0++cw g i++g i))) (h2:step (mk n (a0++cw g n))=some (1,p)):Y9 step s0=some (0,p):=by
 have:=kr (step:=step) (st:=λi=>mk i (a0++cw g i)) (n:=n) (j:=0) (p:=p) (λi hi=>by show step (mk i (a0++cw g i))=some (0,mk (i+1) (a0++(cw g i++g i)));rw[h1 i hi,A0]) h2;rw[h0];simpa only[cw,x5]using this
def qA(f:Nat->Val): ∀n,(cw (λi=>[f i]) n).length=n
 |0=>rfl
 |n+1=>by rw[cw,k9,qA f n];rfl
theorem LG{s l:Int}(h:s % l=0)(hl:1<=l)(hs:1<=s):((s/l).toNat:Int)*l=s/\1<=(s/l).toNat:=by grind[Int.ediv_nonneg,Int.emod_def,Int.toNat_of_nonneg,Int.mul_comm,Nat.eq_zero_or_pos]
def cD2{I:Opq}{B:VT}{st step size:Int}{n:Nat}(hB: ∀(i:Nat) (acc:U7),i<n->acc.length=i->W6 B (I.U 2000 [.D i,.D (st+i*step),.A acc])=some (0,[.D (i+1:Nat),.D (st+(i+1:Nat)*step),.A (acc++jU st step size i)]))
 (hE: ∀acc:U7,W6 B (I.U 2000 [.D n,.D (st+n*step),.A acc])=some (1,[.D n,.D (st+n*step),.A acc])):
 Y9 (λvs=>W6 B (I.U 2000 vs)) [.D 0,.D st,.A []]=some (0,[.D n,.D (st+n*step),.A (cw (jU st step size) n)]):=by
 refine Fm (λi acc=>[.D i,.D (st+i*step),.A acc]) (a0:=[]) (g:=jU st step size) (n:=n) ?_ (λi hi=> ?_) ?_;simp;exact hB i _ hi (by exact qA _ i);grind
def Xq{I:Opq}(a b:SX):dB I (fT a b)=decide ((bZ I b).I<=(bZ I a).I):=rfl
theorem cZ{I:Opq}(a b:SX):dB I (fW a b)=decide ((bZ I a).I<=(bZ I b).I):=rfl
def mV{I:Opq}(a b:SX):dB I (cG a b)=decide ((bZ I a).I=(bZ I b).I):=rfl
theorem pM{I:Opq}(a:SX):dB I (cY a)= !dB I a:=rfl
def dQ{I:Opq}(a b:SX):dB I (zn a b)=(dB I a&&dB I b):=rfl
theorem cM{I:Opq}(n:Int):(bZ I (.C n)).I=n:=rfl
def ft{I:Opq}(n:Nat):(bZ I (.V n)).I=(I.w n).I:=rfl
section
variable{X:Nat->U7->Val}{I:Opq}(hf: ∀i a,I.f i a=FT X i a)
include hf
def t_wOf:W6 T_wOf I=some (0,[FT X 704 [I.w 0,I.w 1,I.w 2,I.w 3,I.w 4]]):=by
 show W6 T_wOf I=some (0,[Val.A (dF (I.w 0).I (I.w 1).I (I.w 2).I (I.w 3).I (I.w 4))]);generalize hk:(I.w 0).I=k;generalize hs:(I.w 1).I=s;generalize hl:(I.w 2).I=l;generalize hg:(I.w 3).I=g;unfold T_wOf dF;generalize ht:(I.w 4).I=t;have r0:bZ I (.Q 700 [aN,aO,aT,aU])= .B (X9 k s l g):=by show I.f 700 [I.w 0,I.w 1,I.w 2,I.w 3]=_;rw[hf,<-hk,<-hs,<-hl,<-hg];rfl
 cases hR:X9 k s l g with
 |false=>
  refine Y4 ?_ rfl;show(!(bZ I (.Q 700 [aN,aO,aT,aU])).Z)=true;rw[r0,hR];rfl
 |true=>
 refine Y0 (by show(!(bZ I (.Q 700 [aN,aO,aT,aU])).Z)=false;rw[r0,hR];rfl) ?_;by_cases t1: ¬ -1099511627776<=t
 have e:ei t=false:=by unfold ei;rw[decide_eq_false t1];rfl
 rw[e];exact Y0 (by rw[Xq,cM,ft,ht];exact j9 t1) rfl;replace t1:=Classical.not_not.1 t1;refine Y4 (by rw[Xq,cM,ft,ht];exact j0 t1) ?_;by_cases t2: ¬t<=1099511627776
 have e:ei t=false:=by unfold ei;rw[decide_eq_false t2,Bool.and_false]
 rw[e];exact Y4 (by rw[pM,cZ,cM,ft,ht,j9 t2];rfl) rfl
 replace t2:=Classical.not_not.1 t2;have e:ei t=true:=by unfold ei;rw[decide_eq_true t1,decide_eq_true t2];rfl
 rw[e];refine Y0 (by rw[pM,cZ,cM,ft,ht,j0 t2];rfl) ?_;show W6 _ I=some (0,[Val.A (if k=3 then [.A [I.w 4,.D (t+g)]]else cw (jU (kp t (dY k s l)-s+dY k s l) (dY k s l) s) (gi k s l))]);by_cases k3:k=3
 rw[i6 k3];refine Y4 (by show decide ((I.w 0).I=3)=true;rw[hk];exact j0 k3) ?_;have:cq .add .i64 t g=t+g:=by unfold X9 at hR;simp[k3]at hR;exact ij (by omega) (by omega)
 show some (0,[Val.A [Val.A [I.w 4,Val.D (cq .add .i64 (I.w 4).I (I.w 3).I)]]])=_;rw[ht,hg,this];rw[b9 k3];refine Y0 (by show decide ((I.w 0).I=3)=false;rw[hk];exact j9 k3) ?_;by_cases k2:k=2
 refine Y4 (by show decide ((I.w 0).I=2)=true;rw[hk];exact j0 k2) ?_;have hR':(1<=s/\s<=1048576)/\(1<=l/\l<=1048576)/\s % l=0/\s/l<=16:=by unfold X9 at hR;simp[k2]at hR;omega
 obtain⟨⟨s1,s2⟩,⟨l1,l2⟩,sl,sq⟩:=hR';obtain⟨n1,n2⟩:=LG sl l1 s1;have hst:dY k s l=l:=i6 k2;have hN:gi k s l=(s/l).toNat:=by unfold gi;rw[hst]
 rw[hst,hN];have hn16:(s/l).toNat<=16:=by omega
 generalize (s/l).toNat=n at n1 n2 hN hn16;have q0:=O9 t (show l≠0 by omega);have q1:=P0 t (show 0<l by omega);have hd:bZ I (.Q 709 [aS,aT])= .D (kp t l):=by show I.f 709 [I.w 4,I.w 2]=_;rw[hf,<-ht,<-hl];rfl
 have hD:kp t l=t-t % l:=rfl;generalize kp t l=D at hd hD;have a1:cq .sub .i64 D s=D-s:=rZ (by omega) (by omega);have a2:cq .add .i64 (D-s) l=D-s+l:=ij (by omega) (by omega);have hw0:bZ I EI= .D (D-s+l):=by show Val.D (cq .add .i64 (cq .sub .i64 (bZ I (.Q 709 [aS,aT])).I (I.w 1).I) (I.w 2).I)=_;rw[hd,hs,hl];show Val.D (cq .add .i64 (cq .sub .i64 D s) l)=_;rw[a1,a2]
 have e0:bZ I FP=cx (0,[.D n,.D (D-s+l+n*l),.A (cw (jU (D-s+l) l s) n)]):=by show I.f 753 [.D 0,bZ I EI,.A [],I.w 0,I.w 1,I.w 2,I.w 3,bZ I (.Q 709 [aS,aT])]=_;rw[hf,hw0];show cx (0,[.D (gi (I.w 0).I (I.w 1).I (I.w 2).I),.D (D-s+l+gi (I.w 0).I (I.w 1).I (I.w 2).I*dY (I.w 0).I (I.w 1).I (I.w 2).I),.A (cw (jU (D-s+l) (dY (I.w 0).I (I.w 1).I (I.w 2).I) (I.w 1).I) (gi (I.w 0).I (I.w 1).I (I.w 2).I))])=_;rw[hk,hs,hl,hN,hst]
 have e1:bZ I GI= .A (cw (jU (D-s+l) l s) n):=by show Y3 (bZ I FP).L 1 2=_;rw[e0];rfl
 refine X2 (by rw[dQ,cZ,cZ,cM,cM,ft,hl,j0 l1,j0 l2];rfl) (X7 (r:=(0,[.D n,.D (D-s+l+n*l),.A (cw (jU (D-s+l) l s) n)])) ?_ e0 (X2 ?_ ?_));show Y9 _ [.D 0,bZ I EI,.A []]=_;rw[hw0];have hd':I.f 709 [I.w 4,I.w 2]= .D D:=hd;refine cD2 (size:=s) (λi acc hi hacc=> ?_) (λacc=> ?_)
 have b1:(i:Int)*l+l<=n*l:=by have:((i:Int)+1)*l<=n*l:=T2 (by omega) (by omega);rw[M9]at this;omega
 have b2:0<=(i:Int)*l:=T3 (by omega) (by omega);have b3:((i+1:Nat):Int)*l=(i:Int)*l+l:=by rw[Int.natCast_add,M9];simp
 have p1:D-s+l+(i:Int)*l<=D:=by omega
 have p2:cq .add .i64 (D-s+l+(i:Int)*l) l=D-s+l+((i:Int)*l+l):=by rw[ij (by omega) (by omega)];omega
 have p3:cq .add .i64 (D-s+l+(i:Int)*l) s=D-s+l+(i:Int)*l+s:=ij (by omega) (by omega);have p4:(i:Int)+1<=1000000:=by omega
 rw[b3];unfold OQ jU;generalize (i:Int)*l=z at*
 simp[W6,X4,bZ,dB,cD,cT,mG,hd',hk,hs,hl,k2,p1,p2,p3,p4,hacc]
 have p1: ¬D-s+l+(n:Int)*l<=D:=by omega
 unfold OQ;simp[W6,X4,bZ,dB,cD,cT,mG,hd',p1];show decide ((Y3 (bZ I FP).L 1 0).I=((bZ I GI).L.length:Int))=true;rw[e1,e0];exact j0 (congrArg Int.ofNat (qA _ n).symm);show some (0,[bZ I GI])=_;rw[e1]
 refine Y0 (by show decide ((I.w 0).I=2)=false;rw[hk];exact j9 k2) ?_;have hR':1<=s/\s<=1048576:=by unfold X9 at hR;by_cases k1:k=1;simp[k1]at hR;omega;simp[k1,k2,k3]at hR
 obtain⟨s1,s2⟩:=hR';have sl:s % s=0:=Int.emod_self;obtain⟨n1,n2⟩:=LG sl s1 s1;have hst:dY k s l=s:=b9 k2;have hN:gi k s l=(s/s).toNat:=by unfold gi;rw[hst]
 rw[hst,hN];have hn16:(s/s).toNat<=16:=by rw[T4 (by omega)];decide
 generalize (s/s).toNat=n at n1 n2 hN hn16;have q0:=O9 t (show s≠0 by omega);have q1:=P0 t (show 0<s by omega);have hd:bZ I (.Q 709 [aS,aO])= .D (kp t s):=by show I.f 709 [I.w 4,I.w 1]=_;rw[hf,<-ht,<-hs];rfl
 have hD:kp t s=t-t % s:=rfl;generalize kp t s=D at hd hD;have a1:cq .sub .i64 D s=D-s:=rZ (by omega) (by omega);have a2:cq .add .i64 (D-s) s=D-s+s:=ij (by omega) (by omega);have hw0:bZ I HE= .D (D-s+s):=by show Val.D (cq .add .i64 (cq .sub .i64 (bZ I (.Q 709 [aS,aO])).I (I.w 1).I) (I.w 1).I)=_;rw[hd,hs];show Val.D (cq .add .i64 (cq .sub .i64 D s) s)=_;rw[a1,a2]
 have e0:bZ I HT=cx (0,[.D n,.D (D-s+s+n*s),.A (cw (jU (D-s+s) s s) n)]):=by show I.f 753 [.D 0,bZ I HE,.A [],I.w 0,I.w 1,I.w 2,I.w 3,bZ I (.Q 709 [aS,aO])]=_;rw[hf,hw0];show cx (0,[.D (gi (I.w 0).I (I.w 1).I (I.w 2).I),.D (D-s+s+gi (I.w 0).I (I.w 1).I (I.w 2).I*dY (I.w 0).I (I.w 1).I (I.w 2).I),.A (cw (jU (D-s+s) (dY (I.w 0).I (I.w 1).I (I.w 2).I) (I.w 1).I) (gi (I.w 0).I (I.w 1).I (I.w 2).I))])=_;rw[hk,hs,hl,hN,hst]
 have e1:bZ I Hq= .A (cw (jU (D-s+s) s s) n):=by show Y3 (bZ I HT).L 1 2=_;rw[e0];rfl
 refine X2 (by rw[dQ,cZ,cZ,cM,cM,ft,hs,j0 s1,j0 s2];rfl) (X7 (r:=(0,[.D n,.D (D-s+s+n*s),.A (cw (jU (D-s+s) s s) n)])) ?_ e0 (X2 ?_ ?_));show Y9 _ [.D 0,bZ I HE,.A []]=_;rw[hw0];have hd':I.f 709 [I.w 4,I.w 1]= .D D:=hd;refine cD2 (size:=s) (λi acc hi hacc=> ?_) (λacc=> ?_)
 have b1:(i:Int)*s+s<=n*s:=by have:((i:Int)+1)*s<=n*s:=T2 (by omega) (by omega);rw[M9]at this;omega
 have b2:0<=(i:Int)*s:=T3 (by omega) (by omega);have b3:((i+1:Nat):Int)*s=(i:Int)*s+s:=by rw[Int.natCast_add,M9];simp
 have p1:D-s+s+(i:Int)*s<=D:=by omega
 have p2:cq .add .i64 (D-s+s+(i:Int)*s) s=D-s+s+((i:Int)*s+s):=by rw[ij (by omega) (by omega)];omega
 have p3:cq .add .i64 (D-s+s+(i:Int)*s) s=D-s+s+(i:Int)*s+s:=ij (by omega) (by omega);have p4:(i:Int)+1<=1000000:=by omega
 rw[b3];unfold UM jU;generalize (i:Int)*s=z at*
 simp only[Int.sub_add_cancel]at p1 p2 p3⊢;simp[W6,X4,bZ,dB,cD,cT,mG,hd',hk,hs,k2,p1,p2,p3,p4,hacc];omega
 have p1: ¬D-s+s+(n:Int)*s<=D:=by omega
 unfold UM;simp only[Int.sub_add_cancel]at p1⊢;simp[W6,X4,bZ,dB,cD,cT,mG,hd',p1];show decide ((Y3 (bZ I HT).L 1 0).I=((bZ I Hq).L.length:Int))=true;rw[e1,e0];exact j0 (congrArg Int.ofNat (qA _ n).symm);show some (0,[bZ I Hq])=_;rw[e1]
end
theorem a3{p q r:Prop} [Decidable p] [Decidable q] [Decidable r](hp:p)(hq:q)(hr:r):(decide p&&decide q&&decide r)=true:=by grind
def dP6(l:U7)(c k:Nat):(jG l c k).length<=1:=by grind[jG,ui,cg]
def dP7(l:U7): ∀k,(cw (jG l 1) k).length=(cw (jG l 0) k).length
 |0=>rfl
 |k+1=>by rw[cw,cw,k9,k9,dP7 l k];grind[jG,ui,cg]
def Kr(l:U7): ∀k,∃a b c d,jS l k=[a,b,c,d]
 |0=>⟨_,_,_,_,rfl⟩
 |k+1=>by
  unfold jS;cases ui (cg l k)with
  |true=>exact Kr l k
  |false=>
   split<;>exact⟨_,_,_,_,rfl⟩
def Bg(l:U7)(k:Nat):U7:=[.D (cw (jG l 0) k).length,.D (cw (jG l 1) k).length,.D k]++jS l k++[.A (cw (jG l 0) k),.A (cw (jG l 1) k)]
section
variable{X:Nat->U7->Val}{I:Opq}(hf: ∀i a,I.f i a=FT X i a)
include hf
def t_join(hn:(I.w 0).L.length<=1000):W6 T_join I=some (0,[(jR (I.w 0).L).getD 0 default,(jR (I.w 0).L).getD 1 default,(jR (I.w 0).L).getD 2 default,(jR (I.w 0).L).getD 3 default,FT X 706 [I.w 0]]):=by
 have gl: ∀k,(cw (jG (I.w 0).L 0) k).length<=k:=λk=>by simpa using rG (g:=jG (I.w 0).L 0) (m:=1) (λ_=>dP6 _ _ _) k
 have gs: ∀k,(cw (jG (I.w 0).L 1) k).length=(cw (jG (I.w 0).L 0) k).length:=λk=>dP7 _ k
 have e0:bZ I jQ=cx (0,Bg (I.w 0).L (I.w 0).L.length):=by show I.f 752 [.D 0,.D 0,.D 0,.D 0,.D 0,.D 0,.D 0,.A [],.A [],.D 0,.D (I.w 0).L.length,I.w 0,.D (I.w 0).L.length]=_;rw[hf];rfl
 have lp:Y9 (λvs=>W6 JH (I.U 2000 vs)) [.D 0,.D 0,.D 0,.D 0,.D 0,.D 0,.D 0,.A [],.A []]=some (0,Bg (I.w 0).L (I.w 0).L.length):=by
  refine kr (st:=Bg (I.w 0).L) (n:=(I.w 0).L.length) (λk hk=> ?_) ?_
  have p1:(k:Int)<((I.w 0).L.length:Int):=by omega
  have p2:(0:Int)<=(k:Int):=by omega
  have p3:=iZ hk (by omega);have p4: ∀j:Nat,Y3 (I.w 0).L (k:Int) (j:Int)=X1 (cg (I.w 0).L k) j:=λ_=>rfl
  have q0:=p4 0;have q1:=p4 1;have q2:=p4 2;have q3:=p4 3;simp only[Int.natCast_zero,show((1:Nat):Int)=1 from rfl,show((2:Nat):Int)=2 from rfl,show((3:Nat):Int)=3 from rfl]at q0 q1 q2 q3;have g1:=gl k;have g2:=gs k;obtain⟨a,b,c,d,hS⟩:=Kr (I.w 0).L k;unfold Bg;rw[cw,cw,jS,hS];generalize cw (jG (I.w 0).L 0) k=C at*
  generalize cw (jG (I.w 0).L 1) k=T at*
  have g3:(C.length:Int)+1<=1000000:=by omega
  have g4:(T.length:Int)=(C.length:Int):=by omega
  unfold jG ui BB ci;generalize hr:cg (I.w 0).L k=r at*
  unfold JH;by_cases hb:(X1 r 0).I=0/\(X1 r 1).I=0/\(X1 r 2).I=0/\(X1 r 3).I=0;simp_all[W6,X4,bZ,dB,cD,cT]
  have hb':(decide ((X1 r 0).I=0)&&(decide ((X1 r 1).I=0)&&(decide ((X1 r 2).I=0)&&decide ((X1 r 3).I=0))))=false:=by rw[<-v7];intro h;exact hb (by simpa using h)
  simp only[hb',cond_false];by_cases hz:C.length=0;simp[W6,X4,bZ,dB,cD,cT,p1,p2,p3,q0,q1,q2,q3,hb,hz,g2,g3,g4];simp_all[W6,X4,bZ,dB,cD,cT];obtain⟨a,b,c,d,hS⟩:=Kr (I.w 0).L (I.w 0).L.length;unfold Bg JH;simp_all[W6,X4,bZ,dB,cD,cT]
 obtain⟨a,b,c,d,hS⟩:=Kr (I.w 0).L (I.w 0).L.length;have cl:(jC (I.w 0).L).length<=1000:=p9 (gl _) hn;have tl:(jT (I.w 0).L).length<=1000:=by grind[jT]
 have e1:bZ I jQ=cx (0,[.D (jC (I.w 0).L).length,.D (jT (I.w 0).L).length,.D (I.w 0).L.length,a,b,c,d,.A (jC (I.w 0).L),.A (jT (I.w 0).L)]):=by rw[e0];unfold Bg;rw[hS];rfl
 have d1:bZ I DH= .D (jC (I.w 0).L).length:=by show Y3 (bZ I jQ).L 1 0=_;rw[e1];rfl
 have d2:bZ I Gv= .A (jC (I.w 0).L):=by show Y3 (bZ I jQ).L 1 7=_;rw[e1];rfl
 have d4:bZ I Ey= .D (jT (I.w 0).L).length:=by show Y3 (bZ I jQ).L 1 1=_;rw[e1];rfl
 have d5:bZ I DD= .A (jT (I.w 0).L):=by show Y3 (bZ I jQ).L 1 8=_;rw[e1];rfl
 have d6:bZ I (zo jQ 5)=c:=by show Y3 (bZ I jQ).L 1 5=_;rw[e1];rfl
 have d7:bZ I (zo jQ 6)=d:=by show Y3 (bZ I jQ).L 1 6=_;rw[e1];rfl
 have ls: ∀l:U7,(l.drop (0:Int).toNat).take ((l.length:Int)-0).toNat=l:=λl=>by simp
 have d3:bZ I pe= .A (jC (I.w 0).L):=by show Val.A (((bZ I Gv).L.drop (0:Int).toNat).take ((bZ I DH).I-0).toNat)=_;simp_all
 have d8:bZ I sW= .A (jT (I.w 0).L):=by show Val.A (((bZ I DD).L.drop (0:Int).toNat).take ((bZ I Ey).I-0).toNat)=_;simp_all
 unfold T_join;refine X7 lp e0 (X2 ?_ (X2 ?_ ?_));rw[dQ,dQ,cZ,cZ,cZ,cM,cM,d1];show((decide ((0:Int)<=((jC (I.w 0).L).length:Int))&&decide (((jC (I.w 0).L).length:Int)<=((bZ I Gv).L.length:Int)))&&decide (((bZ I pe).L.length:Int)<=1000000))=true;rw[d2,d3];exact a3 (by omega) (x8 _) (by show((jC (I.w 0).L).length:Int)<=1000000;omega);rw[dQ,dQ,cZ,cZ,cZ,cM,cM,d4];show((decide ((0:Int)<=((jT (I.w 0).L).length:Int))&&decide (((jT (I.w 0).L).length:Int)<=((bZ I DD).L.length:Int)))&&decide (((bZ I sW).L.length:Int)<=1000000))=true;rw[d5,d8];exact a3 (by omega) (x8 _) (by show((jT (I.w 0).L).length:Int)<=1000000;omega)
 have f1:I.f 703 [bZ I pe]= .D (fQ (jC (I.w 0).L)):=by rw[hf,d3];rfl
 have f2:I.f 703 [bZ I sW]= .D (fQ (jT (I.w 0).L)):=by rw[hf,d8];rfl
 have f3:I.f 702 [bZ I pe]= .D (qF (jC (I.w 0).L)):=by rw[hf,d3];rfl
 have f4:I.f 702 [bZ I sW]= .D (qF (jT (I.w 0).L)):=by rw[hf,d8];rfl
 show W6 (.J (ew (.Q 703 [pe]) aM) _ _) I=some (0,[(jR (I.w 0).L).getD 0 default,(jR (I.w 0).L).getD 1 default,(jR (I.w 0).L).getD 2 default,(jR (I.w 0).L).getD 3 default,.D (jE (I.w 0).L)]);unfold jR jE;rw[hS];by_cases h1:fQ (jC (I.w 0).L)=0;refine Y0 ?_ ?_;show(!decide ((I.f 703 [bZ I pe]).I=0))=false;simp_all;by_cases h2:fQ (jT (I.w 0).L)=0;rw[b9 (by omega),b9 (by omega)];refine Y0 ?_ ?_;show(!decide ((I.f 703 [bZ I sW]).I=0))=false;simp_all;show some (0,[I.f 702 [bZ I pe],I.f 702 [bZ I sW],bZ I (zo jQ 5),bZ I (zo jQ 6),.D 0])=_;grind;rw[i6 (.inr h2),i6 (.inr h2)];refine Y4 ?_ rfl;show(!decide ((I.f 703 [bZ I sW]).I=0))=true;simp_all;rw[i6 (.inl h1),i6 (.inl h1)];refine Y4 ?_ rfl;show(!decide ((I.f 703 [bZ I pe]).I=0))=true;simp_all
end
def Nc{I:Opq}{hd:LHd}{l:SX}{b k:VT}{ks:abd}{D:U7}{x:Option (Nat×U7)}(h1:tK (λvs=>W6 b (I.U hd.v0 vs)) (dL I l).length (X4 I hd.s0) D)(h2:I.f hd.id (X4 I (hd.s0++hd.fv))=cx (0,[.D D.length,.A D]))(h3:W6 k I=x):W6 (.mloop hd l b (k::ks)) I=x:=by rw[W6,i6 ⟨D,h1,h2⟩];exact h3
theorem run_map{step:U7->Option (Nat×U7)}{g:Nat->U7}(hg: ∀i,(g i).length<=1)
 (h: ∀(i:Nat) (A:U7),A.length<1000000->step [.D A.length,.A A,.D i]=some (0,[.D (A++g i).length,.A (A++g i)])): ∀(p:uq) (A:U7),A.length+p.length<=1000000->
 gd step p [.D A.length,.A A]=some [.D (A++p.flatMap g).length,.A (A++p.flatMap g)]
 | [],A,_=>by rw[List.flatMap_nil,x5];rfl
 |i::p,A,hl=>by rw[List.length_cons]at hl;have:=hg i;have ih:=run_map hg h p (A++g i) (by rw[k9];omega);rw[gd];show(match step [.D A.length,.A A,.D i]with|some (0,s')=>gd step p s'|_=>none)=_;rw[h i A (by omega)];show gd _ p [.D (A++g i).length,.A (A++g i)]=_;rw[ih,A0];rfl
def map_map{step:U7->Option (Nat×U7)}{g:Nat->U7}{n:Nat}(hn:n<=1000000)(hg: ∀i,(g i).length<=1)
 (h: ∀(i:Nat) (A:U7),A.length<1000000->step [.D A.length,.A A,.D i]=some (0,[.D (A++g i).length,.A (A++g i)])):tK step n [.D (0:Nat),.A []] (cw g n):=by
 rw[mX];constructor;exact run_map hg h (List.range n) [] (by simpa using hn);intro p hp;have:=run_map hg h p [] (by rw[hp.length_eq];simpa using hn);exact⟨_,this,hp.flatMap_right _⟩
section
variable{X:Nat->U7->Val}{I:Opq}(hf: ∀i a,I.f i a=FT X i a)
include hf
def t_aput:W6 T_aput I=some (0,[(nK (I.w 0) (I.w 1) (I.w 2) (I.w 3) (I.w 4)).getD 0 default,(nK (I.w 0) (I.w 1) (I.w 2) (I.w 3) (I.w 4)).getD 1 default,(nK (I.w 0) (I.w 1) (I.w 2) (I.w 3) (I.w 4)).getD 2 default,(nK (I.w 0) (I.w 1) (I.w 2) (I.w 3) (I.w 4)).getD 3 default,FT X 708 [I.w 0,I.w 1,I.w 2,I.w 3,I.w 4]]):=by
 have r0:bZ I kw= .A (pR (I.w 0) (I.w 1) (I.w 2) (I.w 3) (I.w 4)):=rfl;have f6:I.f 706 [bZ I kw]= .D (jE (pR (I.w 0) (I.w 1) (I.w 2) (I.w 3) (I.w 4))):=by rw[hf,r0];rfl
 have f5:I.f 705 [bZ I kw]= .A [.A (jR (pR (I.w 0) (I.w 1) (I.w 2) (I.w 3) (I.w 4)))]:=by rw[hf,r0];rfl
 have f8:FT X 708 [I.w 0,I.w 1,I.w 2,I.w 3,I.w 4]= .D (jE (pR (I.w 0) (I.w 1) (I.w 2) (I.w 3) (I.w 4))):=rfl;rw[f8];unfold T_aput nK;generalize pR (I.w 0) (I.w 1) (I.w 2) (I.w 3) (I.w 4)=l at r0 f5 f6;refine X2 (by rw[cZ,cM];exact j0 (by show(2:Int)<=1000;omega)) ?_;by_cases h:jE l=0;rw[b9 (by simp[h])];refine Y0 ?_ ?_;show(!decide ((I.f 706 [bZ I kw]).I=0))=false;rw[f6];simp[h];show some (0,[Y3 (I.f 705 [bZ I kw]).L 0 0,Y3 (I.f 705 [bZ I kw]).L 0 1,Y3 (I.f 705 [bZ I kw]).L 0 2,Y3 (I.f 705 [bZ I kw]).L 0 3,.D 0])=_;rw[f5,h];rfl;rw[i6 h];refine Y4 ?_ ?_;show(!decide ((I.f 706 [bZ I kw]).I=0))=true;rw[f6];simp[h];show some (0,[I.w 0,I.w 1,I.w 2,I.w 3,I.f 706 [bZ I kw]])=_;rw[f6];rfl
def t_trows(h431: ∀v:Val,(X 431 [v]).Z=true->v= .A v.L/\ ∀r∈v.L,X8 r=r)(hn:dB I (zn (zn (zb (zl 4) 400) (.Q 431 [aS])) (.Q 491 [aS]))=true):
 W6 T_trows I=some (0,[X 490 [I.w 4]]):=by
 obtain⟨n1,n2⟩:=W4 (show(dB I (zn (zb (zl 4) 400) (.Q 431 [aS]))&&dB I (.Q 491 [aS]))=true from hn);obtain⟨n3,n4⟩:=W4 (show(dB I (zb (zl 4) 400)&&dB I (.Q 431 [aS]))=true from n1);have n3':((I.w 4).L.length:Int)<=400:=j7 n3;obtain⟨e4,hk⟩:=h431 (I.w 4) (by rw[show X 431 [I.w 4]=I.f 431 [I.w 4]from(hf 431 [I.w 4]).symm];exact n4);have hm:(I.w 4).L.map X8=(I.w 4).L:=by
  conv=>rhs;rw[<-G6 (I.w 4).L]
  exact A1 hk
 have e0:bZ I Cf=cx (0,[.D (I.w 4).L.length,I.w 4]):=by show I.f 750 [.D 0,.A [],I.w 4]=_;rw[hf];show cx (0,[.D (I.w 4).L.length,.A ((I.w 4).L.map X8)])=_;rw[hm,<-e4]
 have e1:bZ I qK=I.w 4:=by show Y3 (bZ I Cf).L 1 1=_;rw[e0];rfl
 have hga:cw (λi=>[X8 (cg (I.w 4).L i)]) (I.w 4).L.length=(I.w 4).L:=by
  rw[mX];refine Eq.trans ?_ hm;rw[<-T5];refine I1 (by simp) (λi h1 h2=> ?_);have hi:i<(I.w 4).L.length:=by simpa using h1
  simp[cg,k5,hi]
 unfold T_trows;refine Nc (D:=(I.w 4).L) ?_ ?_ (X2 ?_ ?_);show tK _ (I.w 4).L.length [.D ((0:Nat):Int),.A []] (I.w 4).L;have:=map_map (step:=λvs=>W6 Tq (I.U 2000 vs)) (g:=λi=>[X8 (cg (I.w 4).L i)]) (n:=(I.w 4).L.length) (by omega) (λ_=>j6 _) (λi A hA=> ?_);rw[hga]at this;exact this
 have p4: ∀j:Nat,Y3 (I.w 4).L (i:Int) (j:Int)=X1 (cg (I.w 4).L i) j:=λ_=>rfl
 have q0:=p4 0;have q1:=p4 1;have q2:=p4 2;have q3:=p4 3;have q4:=p4 4;have q5:=p4 5;have q6:=p4 6;simp only[Int.natCast_zero,show((1:Nat):Int)=1 from rfl,show((2:Nat):Int)=2 from rfl,show((3:Nat):Int)=3 from rfl,show((4:Nat):Int)=4 from rfl,show((5:Nat):Int)=5 from rfl,show((6:Nat):Int)=6 from rfl]at q0 q1 q2 q3 q4 q5 q6;have g3:(A.length:Int)+1<=1000000:=by omega
 unfold Tq X8;simp[W6,X4,bZ,dB,cD,cT,q0,q1,q2,q3,q4,q5,q6,g3]
 show bZ I Cf=_;rw[e0];conv=>lhs;rw[e4]
 rfl;show(decide ((Y3 (bZ I Cf).L 1 0).I=((bZ I qK).L.length:Int))&&(decide (((bZ I qK).L.length:Int)<=400)&&(I.f 431 [bZ I qK]).Z&&(I.f 491 [bZ I qK]).Z))=true;rw[e1,e0];have m1:(I.f 431 [I.w 4]).Z=true:=n4;have m2:(I.f 491 [I.w 4]).Z=true:=n2;rw[m1,m2];show(decide (((I.w 4).L.length:Int)=((I.w 4).L.length:Int))&&(decide (((I.w 4).L.length:Int)<=400)&&true&&true))=true;simp;omega;show some (0,[I.f 490 [bZ I qK]])=_;rw[e1,hf];rfl
end
def Ka{a b c:Bool}(h1:a=true)(h2:b=true)(h3:c=true):(a&&(b&&c))=true:=by grind
theorem DB(x y:Val):Go.Proofs.ltOf spanV x y=decide (ci x 1<ci y 1\/ci x 1=ci y 1/\ci x 0<ci y 0):=by unfold Go.Proofs.ltOf spanV AY;grind
theorem swo_spanV:Go.Sort.SWO (Go.Proofs.ltOf spanV)where
 irrefl x:=by grind[DB,decide_eq_false]
 trans x y z h1 h2:=by
  rw[DB]at*
  grind
 ntrans x y z h1 h2:=by grind[DB,of_decide_eq_false,decide_eq_false]
def Zf(l:U7)(key:zR)(i:Nat):(Cs l key i).length<=1:=by grind[Cs,decide,X1,cg]
def IS(key:zR)(r:Val):U7:=bif decide ((X1 r 0).toS=key)then [.A [X1 r 1,X1 r 2]]else []
def c28(l:U7)(key:zR):fU l key=l.flatMap (IS key):=by
 unfold fU;rw[mX];show((List.range l.length).flatMap λi=>IS key (l.getD i (.A [])))=_;induction l with
 |nil=>rfl
 |cons a l ih=>
  simp_all[List.length_cons,O0,A5,M6]
theorem DT(l:U7)(key:zR):(fU l key).length<=l.length:=by unfold fU;simpa using rG (g:=Cs l key) (m:=1) (Zf l key) l.length
def de0{l:U7}(key:zR)(h:(l.map W7).Nodup):((fU l key).map X3).Nodup:=by
 rw[c28];induction l with
 |nil=>grind
 |cons a l ih=>
  rw[m8,E4]at h;rw[A5,s6];unfold IS;cases hk:decide ((X1 a 0).toS=key)with
  |false=>exact ih h.2
  |true=>
   show(X3 (.A [X1 a 1,X1 a 2])::_).Nodup;rw[E4];refine⟨λhm=>h.1 ?_,ih h.2⟩;obtain⟨x,hx,e⟩:=k6.1 hm;obtain⟨r,hr,hx⟩:=x7.1 hx;cases hk':decide ((X1 r 0).toS=key)with
   |false=>grind
   |true=>
    rw[hk']at hx;have hx:x∈[Val.A [X1 r 1,X1 r 2]]:=hx;rw[m9]at hx;subst hx;have e1:(X1 r 1).I=(X1 a 1).I:=congrArg Prod.fst e;have e2:(X1 r 2).I=(X1 a 2).I:=congrArg Prod.snd e;grind[W7]
section
variable{X:Nat->U7->Val}{I:Opq}(hf: ∀i a,I.f i a=FT X i a)
include hf
def t_tsess(h491: ∀v:Val,(X 491 [v]).Z=true->(v.L.map W7).Nodup)(hn:dB I (zn (zb (zl 4) 400) (.Q 491 [aS]))=true):
 W6 T_tsess I=some (0,[FT X 723 [I.w 4,I.w 5]]):=by
 obtain⟨n3,n4⟩:=W4 (show(dB I (zb (zl 4) 400)&&dB I (.Q 491 [aS]))=true from hn);have n3':((I.w 4).L.length:Int)<=400:=j7 n3;have nd:=h491 (I.w 4) (by rw[show X 491 [I.w 4]=I.f 491 [I.w 4]from(hf 491 [I.w 4]).symm];exact n4);have sl:=DT (I.w 4).L (I.w 5).toS;have sn:=de0 (I.w 5).toS nd;have e0:bZ I Gs=cx (0,[.D (fU (I.w 4).L (I.w 5).toS).length,.A (fU (I.w 4).L (I.w 5).toS)]):=by show I.f 757 [.D 0,.A [],I.w 5,I.w 4]=_;rw[hf];rfl
 have hs:FT X 723 [I.w 4,I.w 5]= .A (fD spanV (fU (I.w 4).L (I.w 5).toS)):=rfl;rw[hs];have hg: ∀i,(Cs (I.w 4).L (I.w 5).toS i).length<=1:=Zf _ _;have hmap:tK (λvs=>W6 Qr (I.U 2000 vs)) (I.w 4).L.length [.D ((0:Nat):Int),.A []] (fU (I.w 4).L (I.w 5).toS):=by
  refine map_map (by omega) hg (λi A hA=> ?_);have p4: ∀j:Nat,Y3 (I.w 4).L (i:Int) (j:Int)=X1 (cg (I.w 4).L i) j:=λ_=>rfl
  have q0:=p4 0;have q1:=p4 1;have q2:=p4 2;simp at q0 q1 q2;have g3:(A.length:Int)+1<=1000000:=by omega
  unfold Qr Cs;by_cases hk:(X1 (cg (I.w 4).L i) 0).toS=(I.w 5).toS;simp[W6,X4,bZ,dB,cD,cT,q0,q1,q2,g3,hk];simp_all[W6,X4,bZ,dB,cD,cT]
 generalize fU (I.w 4).L (I.w 5).toS=D at*
 have e1:bZ I Gy= .D D.length:=by show Y3 (bZ I Gs).L 1 0=_;rw[e0];rfl
 have e2:bZ I oC= .A D:=by show Y3 (bZ I Gs).L 1 1=_;rw[e0];rfl
 have e3:I.f 715 [bZ I oC]= .A (fD spanV D):=by rw[e2,hf];rfl
 refine Nc (D:=D) hmap e0 (X2 ?_ (X2 ?_ ?_));show(decide ((bZ I Gy).I=((bZ I oC).L.length:Int))&&(decide (((bZ I oC).L.length:Int)<=1000000)&&(I.f 716 [bZ I oC]).Z))=true;rw[e1,e2,hf];exact Ka (j0 rfl) (j0 (by show(D.length:Int)<=1000000;omega)) (j0 sn);show decide ((bZ I Gy).I=((I.f 715 [bZ I oC]).L.length:Int))=true;simp_all[j0,congrArg,Ku,swo_spanV];show some (0,[I.f 715 [bZ I oC]])=_;rw[e3]
end
section
variable{X:Nat->U7->Val}{I:Opq}(hf: ∀i a,I.f i a=FT X i a)
include hf
omit hf in
def cD4{i:Nat}(hn:(I.w 1).L.length<=400)(hi:i<(I.w 1).L.length):
 W6 Ci (I.U 2000 [.B false,.D i])=if mn (I.w 0).I (I.w 1).L i=true then some (2,[.B false,.D i])else some (0,[.B false,.D (i+1:Nat)]):=by
 have p1:(i:Int)<((I.w 1).L.length:Int):=by omega
 have p2:(0:Int)<=(i:Int):=by omega
 have p3:=iZ hi (by omega);have p0:(Y3 (I.w 1).L (i:Int) (0:Int)).I=ci (cg (I.w 1).L i) 0:=rfl;have p4:(Y3 (I.w 1).L (i:Int) (1:Int)).I=ci (cg (I.w 1).L i) 1:=rfl;have p5:0<i->cq .sub .i64 (i:Int) 1=((i-1:Nat):Int):=λh=>by grind[rZ]
 have p6:(Y3 (I.w 1).L ((i-1:Nat):Int) (1:Int)).I=ci (cg (I.w 1).L (i-1)) 1:=rfl;unfold mn Wu;generalize hs:ci (cg (I.w 1).L i) 0=s at*
 generalize he:ci (cg (I.w 1).L i) 1=e at*
 generalize hp:ci (cg (I.w 1).L (i-1)) 1=p at*
 generalize hg:(I.w 0).I=g;generalize hw:cq .sub .i64 e s=w;unfold Ci;have z1:((i-1:Nat):Int)<((I.w 1).L.length:Int):=by omega
 have z2:(0:Int)<=((i-1:Nat):Int):=by omega
 rcases N7 i with i0|i0
 subst i0;have h0:(0:Int)<((I.w 1).L.length:Int):=by omega
 have p3':cq .add .i64 0 1=1:=p3;have p0':(Y3 (I.w 1).L 0 0).I=s:=p0;have p4':(Y3 (I.w 1).L 0 1).I=e:=p4;clear p0 p1 p2 p3 p4 p5 p6 z1 z2 hp;by_cases a1:0<=e<;>by_cases a2:0<=s<;>by_cases a3:0<=w<;>by_cases a4:e<=s<;>by_cases a5:w<g<;>
  simp[W6,X4,bZ,dB,cD,cT,hi,h0,p3',p0',p4',hg,hw,a1,a2,a3,a4,a5]
 have p5:=p5 i0;have i1:(0:Int)<(i:Int):=by omega
 by_cases a1:0<=e<;>by_cases a2:0<=s<;>by_cases a3:0<=w<;>by_cases a4:e<=s<;>by_cases a5:w<g<;>by_cases a6:s<p<;>
  simp[W6,X4,bZ,dB,cD,cT,p1,p2,p3,p0,p4,p5,p6,hg,hw,a1,a2,a3,a4,a5,a6,i0,i1,z1,z2]
def t_sRight(hn:dB I (zb (zl 1) 400)=true):W6 T_sRight I=some (0,[FT X 711 [I.w 0,I.w 1]]):=by
 have hn:((I.w 1).L.length:Int)<=400:=j7 hn;have hF:FT X 711 [I.w 0,I.w 1]= .B (!(List.range (I.w 1).L.length).any (mn (I.w 0).I (I.w 1).L)):=rfl;have h0:=bd0 (x:= .B false) (px:=λk=>[.B false,.D k]) (bad:=mn (I.w 0).I (I.w 1).L) (n:=(I.w 1).L.length);have e0:I.f 754 [.B false,.D 0,I.w 0,.D 0,.D (I.w 1).L.length,I.w 1,.D 0,.D (I.w 1).L.length,I.w 1,.D (I.w 1).L.length]=cx (il (.B false) (λk=>[.B false,.D k]) (mn (I.w 0).I (I.w 1).L) (I.w 1).L.length):=by rw[hf];rfl
 rw[hF];unfold T_sRight;refine X7 (r:=il (.B false) (λk=>[.B false,.D k]) (mn (I.w 0).I (I.w 1).L) (I.w 1).L.length) ?_ e0 ?_;show Y9 _ [.B false,.D 0]=_;refine HX (λi hi hb=> ?_) (λi hi hb=> ?_) ?_;show W6 Ci (I.U 2000 [.B false,.D i])=_;rw[cD4 (by omega) hi,hb];rfl;show W6 Ci (I.U 2000 [.B false,.D i])=_;rw[cD4 (by omega) hi,hb];rfl;simp_all[Ci,W6,X4,bZ,dB,cD,cT]
 rw[h0]at e0;rw[h0];cases hb:(List.range (I.w 1).L.length).any (mn (I.w 0).I (I.w 1).L)with
 |true=>
  rw[hb]at e0;show some (0,[Y3 (I.f 754 [.B false,.D 0,I.w 0,.D 0,.D (I.w 1).L.length,I.w 1,.D 0,.D (I.w 1).L.length,I.w 1,.D (I.w 1).L.length]).L 1 0])=_;rw[e0];rfl
 |false=>rfl
end
def Zs(l:U7)(t o:Int)(i:Nat):(yw l t o i).length<=1:=by grind[yw,pY,cg]
def cD6(l:U7)(t o:Int)(i:Nat):(zM l t o i).length<=1:=by grind[zM,pY,cg]
def TK(l:U7)(x:Int): ∀n i j:Nat,i<=j->j-i<=n->i<=ng l x n i j/\ng l x n i j<=j
 |0,i,j,h,h2=>by grind[ng]
 |n+1,i,j,h,h2=>by unfold ng;split;split;have:=TK l x n ((i+j)/2+1) j (by omega) (by omega);omega;have:=TK l x n i ((i+j)/2) (by omega) (by omega);omega;omega
def So{step:U7->Option (Nat×U7)}{l:U7}{x:Int}{m:Nat}
 (h1: ∀i j:Nat,i<j->j<=m->step [.D i,.D j]=some (0,if ci (cg l ((i+j)/2)) 0<x then [.D ((i+j)/2+1:Nat),.D j]else [.D i,.D ((i+j)/2:Nat)]))
 (h2: ∀i:Nat,step [.D i,.D i]=some (1,[.D i,.D i])): ∀n i j:Nat,i<=j->j<=m->j-i<=n->Y9 step [.D i,.D j]=some (0,[.D (ng l x n i j),.D (ng l x n i j)])
 |0,i,j,a,b,c=>by
  obtain rfl:i=j:=by omega
  rw[qV];exact .out (h2 i)
 |n+1,i,j,a,b,c=>by
  unfold ng;by_cases h:i<j;rw[i6 h];have s:=h1 i j h b;by_cases q:ci (cg l ((i+j)/2)) 0<x;rw[i6 q]at s⊢;have:=So h1 h2 n ((i+j)/2+1) j (by omega) b (by omega);rw[qV]at this⊢;exact .more s this;rw[b9 q]at s⊢;have:=So h1 h2 n i ((i+j)/2) (by omega) (by omega) (by omega);rw[qV]at this⊢;exact .more s this
  rw[b9 h];obtain rfl:i=j:=by omega
  rw[qV];exact .out (h2 i)
def xc(l:U7)(t o:Val)(k:Nat):U7:=[.D (cw (yw l t.I o.I) k).length,.D (cw (zM l t.I o.I) k).length,.D k,(kz l t o k).1,(kz l t o k).2,.A (cw (yw l t.I o.I) k),.A (cw (zM l t.I o.I) k)]
def e67{I:Opq}{l:U7}(h2:(I.w 2).L=l)(hl:l.length<=24):
 Y9 (λvs=>W6 LP (I.U 2000 vs)) [.D 0,.D 0,.D 0,I.w 1,.D (cq .add .i64 (I.w 1).I (I.w 0).I),.A [],.A []]=some (0,xc l (I.w 1) (.D (cq .add .i64 (I.w 1).I (I.w 0).I)) l.length):=by
 refine kr (st:=xc l (I.w 1) (.D (cq .add .i64 (I.w 1).I (I.w 0).I))) (n:=l.length) (λk hk=> ?_) ?_
 have p1:(k:Int)<(l.length:Int):=by omega
 have p2:(0:Int)<=(k:Int):=by omega
 have p3:=iZ hk (by omega);have p4: ∀j:Nat,Y3 l (k:Int) (j:Int)=X1 (cg l k) j:=λ_=>rfl
 have q0:=p4 0;have q1:=p4 1;simp only[Int.natCast_zero,show((1:Nat):Int)=1 from rfl]at q0 q1;have g1:=rG (λi=>Zs l (I.w 1).I (cq .add .i64 (I.w 1).I (I.w 0).I) i) k;have g2:=rG (λi=>cD6 l (I.w 1).I (cq .add .i64 (I.w 1).I (I.w 0).I) i) k;unfold xc;simp only[cw,kz,Y1];generalize cw (yw l (I.w 1).I (cq .add .i64 (I.w 1).I (I.w 0).I)) k=J at*
 generalize cw (zM l (I.w 1).I (cq .add .i64 (I.w 1).I (I.w 0).I)) k=A at*
 generalize kz l (I.w 1) (.D (cq .add .i64 (I.w 1).I (I.w 0).I)) k=N at*
 unfold yw zM pY fX ci;have g3:(J.length:Int)+1<=1000000:=by omega
 have g4:(A.length:Int)+1<=1000000:=by omega
 generalize hr:cg l k=r at*
 generalize ho:cq .add .i64 (I.w 1).I (I.w 0).I=o at*
 unfold LP;by_cases c1:(X1 r 0).I<o<;>by_cases c2:(I.w 1).I<(X1 r 1).I<;>
  simp[W6,X4,bZ,dB,cD,cT,h2,p1,p2,p3,q0,q1,ho,g3,g4,c1,c2]
 unfold xc LP;simp_all[W6,X4,bZ,dB,cD,cT]
def jP:SX:= zh aV aR
def dv0:Ub= .J (zs aV aR) (.N (zn (zp jP) (zs jP fZ)) (.N (zs jP (zL gX)) (.J (zs (cr gX jP 0) fY) (.W 0 [zi jP,aR]) (.J (dO (cr gX jP 0) fY) (.W 0 [aV,jP]) (.W 0 [aV,jP]))))) (.W 1 [aV,aR]):=rfl
def dv1{i j m:Nat}(h:i<j)(hj:j<=m)(hm:m<=1000000):IntKind.i64.wrap (cq .shr .u64 (IntKind.u64.wrap (cq .add .i64 (i:Int) (j:Int))) 1)=(((i+j)/2:Nat):Int):=by
 rw[ij (by omega) (by omega)];have e1:IntKind.u64.wrap ((i:Int)+(j:Int))=(i:Int)+(j:Int):=by simp only[IntKind.wrap,IntKind.bits,IntKind.signed];simp;omega
 have e2:cq .shr .u64 ((i:Int)+(j:Int)) 1=(((i+j)/2:Nat):Int):=by show((i:Int)+(j:Int)).fdiv (2^(min (1:Int).toNat IntKind.u64.bits))=_;rw[show(2:Int)^(min (1:Int).toNat IntKind.u64.bits)=2 from rfl,Q2 _ (by omega)];omega
 grind[mQ]
def e68{I:Opq}{A:U7}{x:Val}(hA:A.length<=24)(d2: ∀vs,bZ (I.U 2000 vs) fZ= .D A.length)(d3: ∀vs,bZ (I.U 2000 vs) gX= .A A)(d4: ∀vs,bZ (I.U 2000 vs) fY=x):
 Y9 (λvs=>W6 Ub (I.U 2000 vs)) [.D 0,.D A.length]=some (0,[.D (ng A x.I A.length 0 A.length),.D (ng A x.I A.length 0 A.length)]):=by
 refine So (m:=A.length) (λi j h hj=> ?_) (λi=> ?_) A.length 0 A.length (by omega) (j6 _) (by omega)
 have d2:=d2 [.D i,.D j];have d3:=d3 [.D i,.D j];have d4:=d4 [.D i,.D j];have v0:(I.U 2000 [.D i,.D j]).w 2000= .D i:=by rfl
 have v1:(I.U 2000 [.D i,.D j]).w 2001= .D j:=by rfl
 generalize I.U 2000 [.D i,.D j]=aa at*
 have dh:bZ aa jP= .D ((i+j)/2:Nat):=by show Val.D (IntKind.i64.wrap (cq .shr .u64 (IntKind.u64.wrap (cq .add .i64 (aa.w 2000).I (aa.w 2001).I)) 1))=_;rw[v0,v1];exact congrArg Val.D (dv1 h hj (by omega))
 have hlt:(i+j)/2<A.length:=by omega
 have dg:bZ aa (cr gX jP 0)=X1 (cg A ((i+j)/2)) 0:=by show Y3 (bZ aa gX).L (bZ aa jP).I 0=_;rw[d3,dh];rfl
 rw[dv0];refine Y4 ?_ (X2 ?_ (X2 ?_ ?_));show decide ((aa.w 2000).I<(aa.w 2001).I)=true;simp_all;rw[dQ,cZ,cM,dh];show(decide ((0:Int)<=(((i+j)/2:Nat):Int))&&decide ((bZ aa jP).I<(bZ aa fZ).I))=true;rw[dh,d2,j0 (show(0:Int)<=(((i+j)/2:Nat):Int) by omega)];exact j0 (by show(((i+j)/2:Nat):Int)<(A.length:Int);omega);show decide ((bZ aa jP).I<((bZ aa gX).L.length:Int))=true;rw[dh,d3];exact j0 (by show(((i+j)/2:Nat):Int)<(A.length:Int);omega);by_cases q:ci (cg A ((i+j)/2)) 0<x.I;rw[i6 q];refine Y4 ?_ ?_;show decide ((bZ aa (cr gX jP 0)).I<(bZ aa fY).I)=true;rw[dg,d4];exact j0 q;show some (0,[Val.D (cq .add .i64 (bZ aa jP).I 1),aa.w 2001])=_;rw[dh,v1];rw[show cq .add .i64 (Val.D (((i+j)/2:Nat):Int)).I 1=(((i+j)/2+1:Nat):Int)from iZ hlt (by omega)];rw[b9 q];refine Y0 ?_ ?_;show decide ((bZ aa (cr gX jP 0)).I<(bZ aa fY).I)=false;rw[dg,d4];exact j9 q
 have e:some (0,[aa.w 2000,bZ aa jP])=some ((0:Nat),[Val.D i,Val.D (((i+j)/2:Nat):Int)]):=by grind
 cases hc:dB aa (dO (cr gX jP 0) fY)with
 |true=>exact Y4 hc e
 |false=>exact Y0 hc e
 .have v0:(I.U 2000 [.D i,.D i]).w 2000= .D i:=by rfl
  have v1:(I.U 2000 [.D i,.D i]).w 2001= .D i:=by rfl
  generalize I.U 2000 [.D i,.D i]=aa at*
  refine Y0 ?_ ?_;show decide ((aa.w 2000).I<(aa.w 2001).I)=false;grind;show some (1,[aa.w 2000,aa.w 2001])=_;grind
def cD8(x a b:Int)(h:a<=b):x=max a (min x b)↔a<=x/\x<=b:=by omega
section
variable{X:Nat->U7->Val}{I:Opq}(hf: ∀i a,I.f i a=FT X i a)
include hf
def t_sinsert(hn:dB I (zb (zl 2) 24)=true):W6 T_sinsert I=some (0,[Y3 (FT X 718 [I.w 0,I.w 1,I.w 2]).L 0 0,Y3 (FT X 718 [I.w 0,I.w 1,I.w 2]).L 0 1,FT X 720 [I.w 0,I.w 1,I.w 2],FT X 717 [I.w 0,I.w 1,I.w 2],FT X 719 [I.w 0,I.w 1,I.w 2]]):=by
 have hn:((I.w 2).L.length:Int)<=24:=j7 hn;have a8:FT X 718 [I.w 0,I.w 1,I.w 2]= .A [.A (bif iD (I.w 0).I (I.w 1).I (I.w 2).L then [(ir (I.w 0) (I.w 1) (I.w 2).L).1,(ir (I.w 0) (I.w 1) (I.w 2).L).2]else [.D 0,.D 0])]:=rfl;have a0:FT X 720 [I.w 0,I.w 1,I.w 2]= .D (bif iD (I.w 0).I (I.w 1).I (I.w 2).L then 0 else 2):=rfl;have a7:FT X 717 [I.w 0,I.w 1,I.w 2]= .A (bif iD (I.w 0).I (I.w 1).I (I.w 2).L then qj (I.w 0) (I.w 1) (I.w 2).L else []):=rfl;have a9:FT X 719 [I.w 0,I.w 1,I.w 2]= .A (bif iD (I.w 0).I (I.w 1).I (I.w 2).L then Gk (iy (I.w 0) (I.w 1) (I.w 2).L) (nP (I.w 0) (I.w 1) (I.w 2).L) (ir (I.w 0) (I.w 1) (I.w 2).L).1 (ir (I.w 0) (I.w 1) (I.w 2).L).2 else []):=rfl;rw[a8,a0,a7,a9];have c1:dB I (cG aN (.O .imax [aZ,.O .imin [aN,bW]]))=(decide (1<=(I.w 0).I)&&decide ((I.w 0).I<=1048576)):=by rw[mV,ft,show(bZ I (.O .imax [aZ,.O .imin [aN,bW]])).I=max 1 (min (I.w 0).I 1048576)from rfl,<-Bool.decide_and,decide_eq_decide];omega
 have c2:dB I (ew aO (.O .imax [.C (-1099511627776),.O .imin [aO,bY]]))= !ei (I.w 1).I:=by show(!decide ((I.w 1).I=max (-1099511627776) (min (I.w 1).I 1099511627776)))=_;simp_all[ei,Bool.decide_and,decide_eq_decide,cD8]
 have c3:dB I (cY (.Q 711 [aN,aT]))=(List.range (I.w 2).L.length).any (mn (I.w 0).I (I.w 2).L):=by show(!(I.f 711 [I.w 0,I.w 2]).Z)=_;rw[hf];exact R4 _
 cases g1:(decide (1<=(I.w 0).I)&&decide ((I.w 0).I<=1048576))with
 |false=>
  have:iD (I.w 0).I (I.w 1).I (I.w 2).L=false:=by grind[iD]
  rw[this];exact Y0 (c1.trans g1) rfl
 |true=>
 refine Y4 (c1.trans g1) ?_;cases g2:ei (I.w 1).I with
 |false=>
  have:iD (I.w 0).I (I.w 1).I (I.w 2).L=false:=by grind[iD]
  rw[this];exact Y4 (by grind) rfl
 |true=>
 refine Y0 (by grind) (X2 (by grind[cZ,cM,decide_eq_true]) ?_);cases g3:(List.range (I.w 2).L.length).any (mn (I.w 0).I (I.w 2).L)with
 |true=>
  have:iD (I.w 0).I (I.w 1).I (I.w 2).L=false:=by grind[iD]
  rw[this];exact Y4 (c3.trans g3) rfl
 |false=>
 have hok:iD (I.w 0).I (I.w 1).I (I.w 2).L=true:=by grind[iD]
 rw[hok];refine Y0 (c3.trans g3) ?_;obtain⟨l,h2⟩: ∃l,(I.w 2).L=l:=⟨_,rfl⟩;rw[h2]at hn⊢;have own:bZ I nf=oV (I.w 0).I (I.w 1).I:=rfl;have E1: ∀vs,bZ (I.U 2000 vs) jn=cx (0,xc l (I.w 1) (oV (I.w 0).I (I.w 1).I) l.length):=λvs=>by
  have w0:(I.U 2000 vs).w 0=I.w 0:=by rfl
  have w1:(I.U 2000 vs).w 1=I.w 1:=by rfl
  have w2:(I.U 2000 vs).w 2=I.w 2:=by rfl
  have wf:(I.U 2000 vs).f=I.f:=rfl;generalize I.U 2000 vs=aa at*
  have own':bZ aa nf=oV (I.w 0).I (I.w 1).I:=by show Val.D (cq .add .i64 (aa.w 1).I (aa.w 0).I)=_;rw[w0,w1];rfl
  show aa.f 755 [.D 0,.D 0,.D 0,aa.w 1,bZ aa nf,.A [],.A [],aa.w 1,bZ aa nf,aa.w 1,bZ aa nf,.D 0,.D (aa.w 2).L.length,aa.w 2,.D (aa.w 2).L.length]=_;rw[wf,hf,w1,w2,own',<-h2];rfl
 have e1:bZ I jn=cx (0,xc l (I.w 1) (oV (I.w 0).I (I.w 1).I) l.length):=by show I.f 755 [.D 0,.D 0,.D 0,I.w 1,bZ I nf,.A [],.A [],I.w 1,bZ I nf,I.w 1,bZ I nf,.D 0,.D (I.w 2).L.length,I.w 2,.D (I.w 2).L.length]=_;rw[hf,own,<-h2];rfl
 have lA:(iy (I.w 0) (I.w 1) l).length<=24:=by have:=rG (λi=>cD6 l (I.w 1).I (oV (I.w 0).I (I.w 1).I).I i) l.length;grind[iy,Mg]
 have D2: ∀vs,bZ (I.U 2000 vs) fZ= .D (iy (I.w 0) (I.w 1) l).length:=λvs=>by show Y3 (bZ (I.U 2000 vs) jn).L 1 1=_;rw[E1];rfl
 have D3: ∀vs,bZ (I.U 2000 vs) gX= .A (iy (I.w 0) (I.w 1) l):=λvs=>by show Y3 (bZ (I.U 2000 vs) jn).L 1 6=_;rw[E1];rfl
 have D4: ∀vs,bZ (I.U 2000 vs) fY=(ir (I.w 0) (I.w 1) l).1:=λvs=>by show Y3 (bZ (I.U 2000 vs) jn).L 1 3=_;rw[E1];rfl
 have d2:bZ I fZ= .D (iy (I.w 0) (I.w 1) l).length:=by show Y3 (bZ I jn).L 1 1=_;rw[e1];rfl
 have d3:bZ I gX= .A (iy (I.w 0) (I.w 1) l):=by show Y3 (bZ I jn).L 1 6=_;rw[e1];rfl
 have d4:bZ I fY=(ir (I.w 0) (I.w 1) l).1:=by show Y3 (bZ I jn).L 1 3=_;rw[e1];rfl
 have d5:bZ I lw=(ir (I.w 0) (I.w 1) l).2:=by show Y3 (bZ I jn).L 1 4=_;rw[e1];rfl
 have d9:bZ I tO= .A (qj (I.w 0) (I.w 1) l):=by show Y3 (bZ I jn).L 1 5=_;rw[e1];rfl
 have dj:bZ I (zo jn 0)= .D (qj (I.w 0) (I.w 1) l).length:=by show Y3 (bZ I jn).L 1 0=_;rw[e1];rfl
 have e6:I.f 756 [.D 0,bZ I fZ,bZ I fZ,bZ I gX,bZ I fY,bZ I lw,bZ I fZ]=cx (0,[.D (nP (I.w 0) (I.w 1) l),.D (nP (I.w 0) (I.w 1) l)]):=by rw[hf,d2,d3,d4,d5];rfl
 have d6:bZ I oD= .D (nP (I.w 0) (I.w 1) l):=by show Y3 (I.f 756 [.D 0,bZ I fZ,bZ I fZ,bZ I gX,bZ I fY,bZ I lw,bZ I fZ]).L 1 0=_;rw[e6];rfl
 obtain⟨b1,b2⟩:=TK (iy (I.w 0) (I.w 1) l) (ir (I.w 0) (I.w 1) l).1.I (iy (I.w 0) (I.w 1) l).length 0 (iy (I.w 0) (I.w 1) l).length (by omega) (by omega);have b2:nP (I.w 0) (I.w 1) l<=(iy (I.w 0) (I.w 1) l).length:=b2;have d8:dB I CI=true:=by show(I.f 713 [bZ I gX,bZ I fZ,bZ I oD,bZ I fY,bZ I lw]).Z=true;rw[hf,d2,d3,d4,d5,d6];show(decide (((iy (I.w 0) (I.w 1) l).length:Int)=((iy (I.w 0) (I.w 1) l).length:Int))&&decide ((0:Int)<=((nP (I.w 0) (I.w 1) l:Nat):Int))&&decide (((nP (I.w 0) (I.w 1) l:Nat):Int)<=((iy (I.w 0) (I.w 1) l).length:Int))&&decide ((iy (I.w 0) (I.w 1) l).length<=24))=true;grind
 have d10:dB I BO=true:=by show decide ((bZ I (zo jn 0)).I=((bZ I tO).L.length:Int))=true;simp_all
 have d11:bZ I xZ= .A (Gk (iy (I.w 0) (I.w 1) l) (nP (I.w 0) (I.w 1) l) (ir (I.w 0) (I.w 1) l).1 (ir (I.w 0) (I.w 1) l).2):=by show I.f 714 [bZ I gX,bZ I fZ,bZ I oD,bZ I fY,bZ I lw]=_;rw[hf,d2,d3,d4,d5,d6];rfl
 have fin:W6 (.N CI (.N BO (.W 0 [fY,lw,aM,tO,xZ]))) I=some (0,[(ir (I.w 0) (I.w 1) l).1,(ir (I.w 0) (I.w 1) l).2,.D 0,.A (qj (I.w 0) (I.w 1) l),.A (Gk (iy (I.w 0) (I.w 1) l) (nP (I.w 0) (I.w 1) l) (ir (I.w 0) (I.w 1) l).1 (ir (I.w 0) (I.w 1) l).2)]):=by refine X2 d8 (X2 d10 ?_);show some (0,[bZ I fY,bZ I lw,.D 0,bZ I tO,bZ I xZ])=_;grind
 refine X7 (r:=(0,xc l (I.w 1) (oV (I.w 0).I (I.w 1).I) l.length)) (e67 h2 (by omega)) e1 (X2 ?_ (X7 (r:=(0,[.D (nP (I.w 0) (I.w 1) l),.D (nP (I.w 0) (I.w 1) l)])) ?_ e6 ?_));simp_all[cZ,cM,j0,iy];show Y9 _ [.D 0,bZ I fZ]=_;rw[d2];exact e68 lA D2 D3 D4
 cases h7:dB I (zs oD fZ)with
 |false=>exact Y0 h7 fin
 |true=>
  have h7':(bZ I oD).I<(bZ I fZ).I:=j7 h7;refine Y4 h7 (X2 ?_ (X2 ?_ ?_));simp_all[cZ,cM,j0,nP];show decide ((bZ I oD).I<((bZ I gX).L.length:Int))=true;simp_all
  cases q1:dB I (zs NH fY)with
  |true=>exact Y4 q1 fin
  |false=>
   refine Y0 q1 ?_;cases q2:dB I (dO NH fY)with
   |true=>exact Y4 q2 fin
   |false=>exact Y0 q2 fin
end
theorem dv2(g t:Val)(l:U7):(qj g t l).length<=l.length:=by have:=rG (λi=>Zs l t.I (oV g.I t.I).I i) l.length;grind[qj,xm]
theorem Ri(g:Val)(m:U7)(key t:Val):(kC g m key t).length<=m.length:=by have h1:=Ku swo_spanV (fU m key.toS);have h2:=DT m key.toS;unfold kC;cases iD g.I t.I (cQ m key);exact s8 _;grind[dv2,cQ,qj]
def Bl(f:Val->Val)(l:U7):cw (λi=>[f (cg l i)]) l.length=l.map f:=by
 rw[mX,<-T5];refine I1 (by simp) (λi h1 h2=> ?_);have hi:i<l.length:=by simpa using h1
 simp[cg,k5,hi]
def LA:SX:= zc aW (.O .row [.O .row [bf,cr jA aR 0,cr jA aR 1]])
def e69{I:Opq}{J:U7}(hJ:J.length<=24)(d3: ∀vs,bZ (I.U 2000 vs) jA= .A J):
 Y9 (λvs=>W6 ee5 (I.U 2000 vs)) [.D 0,.D 0,.A []]=some (0,[.D J.length,.D J.length,.A (J.map (eV (I.w 6)))]):=by
 have hl:(J.map (eV (I.w 6))).length=J.length:=k7 ..;refine Fm (λi acc=>[.D acc.length,.D i,.A acc]) (a0:=[]) (g:=λi=>[eV (I.w 6) (cg J i)]) (n:=J.length) rfl (λi hi=> ?_) ?_
 rw[List.nil_append];have hg:=qA (λi=>eV (I.w 6) (cg J i)) i;generalize cw (λi=>[eV (I.w 6) (cg J i)]) i=acc at*
 have d3:=d3 [.D acc.length,.D i,.A acc];have v0:(I.U 2000 [.D acc.length,.D i,.A acc]).w 2000= .D acc.length:=by rfl
 have v1:(I.U 2000 [.D acc.length,.D i,.A acc]).w 2001= .D i:=by rfl
 have v2:(I.U 2000 [.D acc.length,.D i,.A acc]).w 2002= .A acc:=by rfl
 have v6:(I.U 2000 [.D acc.length,.D i,.A acc]).w 6=I.w 6:=by rfl
 generalize I.U 2000 [.D acc.length,.D i,.A acc]=aa at*
 have dc:bZ aa LA= .A (acc++[eV (I.w 6) (cg J i)]):=by show Val.A ((aa.w 2002).L++[.A [aa.w 6,Y3 (bZ aa jA).L (aa.w 2001).I 0,Y3 (bZ aa jA).L (aa.w 2001).I 1]])=_;rw[v1,v2,v6,d3];rfl
 refine Y4 ?_ (X2 ?_ (X2 ?_ ?_));show decide ((aa.w 2001).I<((bZ aa jA).L.length:Int))=true;simp_all;simp_all[cZ,cM,ft,j0];show(decide ((aa.w 2000).I=((aa.w 2002).L.length:Int))&&decide (((bZ aa LA).L.length:Int)<=1000000))=true;rw[v0,v2,dc];rw[j8];exact⟨j0 rfl,j0 (by show((acc++[_]).length:Int)<=1000000;grind)⟩;show some (0,[Val.D ((bZ aa LA).L.length:Int),Val.D (cq .add .i64 (aa.w 2001).I 1),bZ aa LA])=_;rw[dc,v1];rw[show cq .add .i64 (Val.D (i:Int)).I 1=((i+1:Nat):Int)from iZ hi (by omega)];rfl
 rw[List.nil_append,Bl (eV (I.w 6)) J,hl];have d3:=d3 [.D J.length,.D J.length,.A (J.map (eV (I.w 6)))];have v0:(I.U 2000 [.D J.length,.D J.length,.A (J.map (eV (I.w 6)))]).w 2000= .D J.length:=by rfl
 have v1:(I.U 2000 [.D J.length,.D J.length,.A (J.map (eV (I.w 6)))]).w 2001= .D J.length:=by rfl
 have v2:(I.U 2000 [.D J.length,.D J.length,.A (J.map (eV (I.w 6)))]).w 2002= .A (J.map (eV (I.w 6))):=by rfl
 generalize I.U 2000 [.D J.length,.D J.length,.A (J.map (eV (I.w 6)))]=aa at*
 refine Y0 ?_ ?_;show decide ((aa.w 2001).I<((bZ aa jA).L.length:Int))=false;simp_all;show some (1,[aa.w 2000,aa.w 2001,aa.w 2002])=_;grind
section
variable{X:Nat->U7->Val}{I:Opq}(hf: ∀i a,I.f i a=FT X i a)
include hf
def t_joined(hn:dB I (zn (zb (zl 4) 24) (.Q 491 [aS]))=true):W6 T_joined I=some (0,[Y3 (FT X 725 [I.w 3,I.w 4,I.w 6,I.w 7]).L 0 0,Y3 (FT X 725 [I.w 3,I.w 4,I.w 6,I.w 7]).L 0 1,Y3 (FT X 725 [I.w 3,I.w 4,I.w 6,I.w 7]).L 0 2,FT X 724 [I.w 3,I.w 4,I.w 6,I.w 7]]):=by
 obtain⟨n3,n4⟩:=W4 (show(dB I (zb (zl 4) 24)&&dB I (.Q 491 [aS]))=true from hn);have n3':((I.w 4).L.length:Int)<=24:=j7 n3;have hs:I.f 723 [I.w 4,I.w 6]= .A (cQ (I.w 4).L (I.w 6)):=by rw[hf];rfl
 have hl:(cQ (I.w 4).L (I.w 6)).length<=24:=by grind[Ku,swo_spanV,fU,DT,cQ]
 have jl:(kC (I.w 3) (I.w 4).L (I.w 6) (I.w 7)).length<=24:=by grind[Ri]
 have d3:bZ I jA= .A (kC (I.w 3) (I.w 4).L (I.w 6) (I.w 7)):=by show I.f 717 [I.w 3,I.w 7,I.f 723 [I.w 4,I.w 6]]=_;rw[hs,hf];rfl
 have D3: ∀vs,bZ (I.U 2000 vs) jA= .A (kC (I.w 3) (I.w 4).L (I.w 6) (I.w 7)):=λvs=>by
  have w3:(I.U 2000 vs).w 3=I.w 3:=by rfl
  have w4:(I.U 2000 vs).w 4=I.w 4:=by rfl
  have w6:(I.U 2000 vs).w 6=I.w 6:=by rfl
  have w7:(I.U 2000 vs).w 7=I.w 7:=by rfl
  have wf:(I.U 2000 vs).f=I.f:=rfl;generalize I.U 2000 vs=aa at*
  show aa.f 717 [aa.w 3,aa.w 7,aa.f 723 [aa.w 4,aa.w 6]]=_;rw[w3,w4,w6,w7,wf];exact d3
 have d0:bZ I Hy= .A [.A (kO (I.w 3) (I.w 4).L (I.w 6) (I.w 7))]:=by show I.f 718 [I.w 3,I.w 7,I.f 723 [I.w 4,I.w 6]]=_;rw[hs,hf];rfl
 have d1:bZ I BW=(kO (I.w 3) (I.w 4).L (I.w 6) (I.w 7)).getD 0 default:=by show Y3 (bZ I Hy).L 0 0=_;rw[d0];rfl
 have d2:bZ I CU=(kO (I.w 3) (I.w 4).L (I.w 6) (I.w 7)).getD 1 default:=by show Y3 (bZ I Hy).L 0 1=_;rw[d0];rfl
 have a1:Y3 (FT X 725 [I.w 3,I.w 4,I.w 6,I.w 7]).L 0 0=I.w 6:=rfl;have a2:Y3 (FT X 725 [I.w 3,I.w 4,I.w 6,I.w 7]).L 0 1=(kO (I.w 3) (I.w 4).L (I.w 6) (I.w 7)).getD 0 default:=rfl;have a3:Y3 (FT X 725 [I.w 3,I.w 4,I.w 6,I.w 7]).L 0 2=(kO (I.w 3) (I.w 4).L (I.w 6) (I.w 7)).getD 1 default:=rfl;have a4:FT X 724 [I.w 3,I.w 4,I.w 6,I.w 7]= .A ((kC (I.w 3) (I.w 4).L (I.w 6) (I.w 7)).map (eV (I.w 6))):=rfl;have ml:((kC (I.w 3) (I.w 4).L (I.w 6) (I.w 7)).map (eV (I.w 6))).length=(kC (I.w 3) (I.w 4).L (I.w 6) (I.w 7)).length:=k7 ..;generalize kC (I.w 3) (I.w 4).L (I.w 6) (I.w 7)=J at*
 have e4:bZ I HZ=cx (0,[.D J.length,.D J.length,.A (J.map (eV (I.w 6)))]):=by show I.f 758 [.D 0,.D 0,.A [],I.w 5,I.w 6,I.w 7,I.w 8,bZ I BW,bZ I CU,.D (bZ I jA).L.length,bZ I jA,.D (bZ I jA).L.length]=_;rw[hf,d3];rfl
 have d5:bZ I Gi= .A (J.map (eV (I.w 6))):=by show Y3 (bZ I HZ).L 1 2=_;rw[e4];rfl
 refine X2 ?_ (X2 ?_ (X7 (r:=(0,[.D J.length,.D J.length,.A (J.map (eV (I.w 6)))])) (e69 jl D3) e4 (X2 ?_ ?_)));rw[dQ,j8];grind[cZ,cM,decide_eq_true];show decide (((I.f 723 [I.w 4,I.w 6]).L.length:Int)<=24)=true;rw[hs];exact j0 (by show((cQ (I.w 4).L (I.w 6)).length:Int)<=24;omega);show decide ((Y3 (bZ I HZ).L 1 0).I=((bZ I Gi).L.length:Int))=true;rw[d5,e4];exact j0 (congrArg Int.ofNat ml.symm);show some (0,[I.w 6,bZ I BW,bZ I CU,bZ I Gi])=_;grind
end
def ej{I:Opq}(x:SX):(bZ I (zL x)).I=((bZ I x).L.length:Int):=rfl
def dV{I:Opq}(n:Nat):bZ I (.V n)=I.w n:=rfl
theorem PX{A:U7}{x:Val}(h:A.length<1000000):(decide ((Val.D (A.length:Int)).I=((Val.A A).L.length:Int))&&decide (((Val.A (A++[x])).L.length:Int)<=1000000))=true:=by grind[Y1,a71,List.length_append,List.length_singleton]
def Sj(key ns ne r:Val):(kh key ns ne r).length<=1:=by grind[kh,xd]
def AT(m P:U7)(key ns ne v:Val)(k:Nat):U7:=[.D (cw (λi=>kh key ns ne (cg P i)) k).length,.D ([Val.A [.D 1,v,v,v]]++cw (λi=>[kG m (cg P i)]) k).length,.D k,.A (cw (λi=>kh key ns ne (cg P i)) k),.A ([Val.A [.D 1,v,v,v]]++cw (λi=>[kG m (cg P i)]) k)]
def e70{I:Opq}{P:U7}{key ns ne v:Val}(hP:P.length<=24)(d5: ∀vs,bZ (I.U 2000 vs) fP= .A P)(d2: ∀vs,bZ (I.U 2000 vs) te=key)(d3: ∀vs,bZ (I.U 2000 vs) sO=ns)(d4: ∀vs,bZ (I.U 2000 vs) se=ne):
 Y9 (λvs=>W6 ee7 (I.U 2000 vs)) [.D 0,.D 1,.D 0,.A [],.A [.A [.D 1,v,v,v]]]=some (0,AT (I.w 4).L P key ns ne v P.length):=by
 refine kr (st:=AT (I.w 4).L P key ns ne v) (n:=P.length) (λk hk=> ?_) ?_
 have g1:=rG (λi=>Sj key ns ne (cg P i)) k;have g2:=qA (λi=>kG (I.w 4).L (cg P i)) k;unfold AT;simp only[cw];rw[<-A0];have g3:([Val.A [.D 1,v,v,v]]++cw (λi=>[kG (I.w 4).L (cg P i)]) k).length=k+1:=by grind
 generalize [Val.A [.D 1,v,v,v]]++cw (λi=>[kG (I.w 4).L (cg P i)]) k=A at*
 generalize cw (λi=>kh key ns ne (cg P i)) k=G at*
 have d2:=d2 [.D G.length,.D A.length,.D k,.A G,.A A];have d3:=d3 [.D G.length,.D A.length,.D k,.A G,.A A];have d4:=d4 [.D G.length,.D A.length,.D k,.A G,.A A];have d5:=d5 [.D G.length,.D A.length,.D k,.A G,.A A];have v0:(I.U 2000 [.D G.length,.D A.length,.D k,.A G,.A A]).w 2000= .D G.length:=by rfl
 have v1:(I.U 2000 [.D G.length,.D A.length,.D k,.A G,.A A]).w 2001= .D A.length:=by rfl
 have v2:(I.U 2000 [.D G.length,.D A.length,.D k,.A G,.A A]).w 2002= .D k:=by rfl
 have v3:(I.U 2000 [.D G.length,.D A.length,.D k,.A G,.A A]).w 2003= .A G:=by rfl
 have v4:(I.U 2000 [.D G.length,.D A.length,.D k,.A G,.A A]).w 2004= .A A:=by rfl
 have vm:(I.U 2000 [.D G.length,.D A.length,.D k,.A G,.A A]).w 4=I.w 4:=by rfl
 generalize I.U 2000 [.D G.length,.D A.length,.D k,.A G,.A A]=aa at*
 have dk:bZ aa yB=eR (cg P k):=by show Val.A [Y3 (bZ aa fP).L (aa.w 2002).I 0,Y3 (bZ aa fP).L (aa.w 2002).I 1,Y3 (bZ aa fP).L (aa.w 2002).I 2]=_;rw[d5,v2];rfl
 have dc: ∀j:Nat,bZ aa (nj (j:Int))=pV (I.w 4).L (eR (cg P k)) j:=λj=>by
  show(bif decide (((gT (aa.w 4).L (bZ aa yB):Nat):Int)<((aa.w 4).L.length:Int))then Y3 (aa.w 4).L ((gT (aa.w 4).L (bZ aa yB):Nat):Int) (j:Int)else Val.D 0)=_;rw[dk,vm];have e:decide (((gT (I.w 4).L (eR (cg P k)):Nat):Int)<((I.w 4).L.length:Int))=jD (I.w 4).L (eR (cg P k)):=by simp_all[jD,decide_eq_decide]
  rw[e];rfl
 have da:bZ aa sG= .A (A++[kG (I.w 4).L (cg P k)]):=by have c3:bZ aa (nj 3)=_:=dc 3;have c4:bZ aa (nj 4)=_:=dc 4;have c5:bZ aa (nj 5)=_:=dc 5;have c6:bZ aa (nj 6)=_:=dc 6;show Val.A ((aa.w 2004).L++[.A [bZ aa (nj 3),bZ aa (nj 4),bZ aa (nj 5),bZ aa (nj 6)]])=_;rw[v4,c3,c4,c5,c6];rfl
 have dg:bZ aa CV= .A (G++[eR (cg P k)]):=by show Val.A ((aa.w 2003).L++[bZ aa yB])=_;simp_all
 have ds:dB aa ee6=xd key ns ne (cg P k):=by show(decide ((Y3 (bZ aa fP).L (aa.w 2002).I 0).toS=(bZ aa te).toS)&&(decide ((Y3 (bZ aa fP).L (aa.w 2002).I 1).I=(bZ aa sO).I)&&decide ((Y3 (bZ aa fP).L (aa.w 2002).I 2).I=(bZ aa se).I)))=_;rw[d2,d3,d4,d5,v2];rfl
 have inc:cq .add .i64 (Val.D (k:Int)).I 1=((k+1:Nat):Int):=iZ hk (by omega);refine Y4 ?_ (X2 ?_ (X2 ?_ ?_));show decide ((aa.w 2002).I<((bZ aa fP).L.length:Int))=true;simp_all;simp_all[cZ,cM,ft,j0];rw[dQ,mV,cZ,cM,ej,ej,da,ft,dV,v1,v4];grind[PX]
 unfold kh;cases hS:xd key ns ne (cg P k)with
 |true=>
  refine Y0 (by rw[pM,ds,hS];rfl) ?_;show some (0,[aa.w 2000,Val.D ((bZ aa sG).L.length:Int),Val.D (cq .add .i64 (aa.w 2002).I 1),aa.w 2003,bZ aa sG])=_;simp_all
 |false=>
  refine Y4 (by grind[pM]) (X2 ?_ ?_);rw[dQ,mV,cZ,cM,ej,ej,dg,ft,dV,v0,v3];grind[PX];show some (0,[Val.D ((bZ aa CV).L.length:Int),Val.D ((bZ aa sG).L.length:Int),Val.D (cq .add .i64 (aa.w 2002).I 1),bZ aa CV,bZ aa sG])=_;simp_all
 .unfold AT;generalize [Val.A [.D 1,v,v,v]]++cw (λi=>[kG (I.w 4).L (cg P i)]) P.length=A;generalize cw (λi=>kh key ns ne (cg P i)) P.length=G;have d5:=d5 [.D G.length,.D A.length,.D P.length,.A G,.A A];have v0:(I.U 2000 [.D G.length,.D A.length,.D P.length,.A G,.A A]).w 2000= .D G.length:=by rfl
  have v1:(I.U 2000 [.D G.length,.D A.length,.D P.length,.A G,.A A]).w 2001= .D A.length:=by rfl
  have v2:(I.U 2000 [.D G.length,.D A.length,.D P.length,.A G,.A A]).w 2002= .D P.length:=by rfl
  have v3:(I.U 2000 [.D G.length,.D A.length,.D P.length,.A G,.A A]).w 2003= .A G:=by rfl
  have v4:(I.U 2000 [.D G.length,.D A.length,.D P.length,.A G,.A A]).w 2004= .A A:=by rfl
  generalize I.U 2000 [.D G.length,.D A.length,.D P.length,.A G,.A A]=aa at*
  refine Y0 ?_ ?_;show decide ((aa.w 2002).I<((bZ aa fP).L.length:Int))=false;simp_all;show some (1,[aa.w 2000,aa.w 2001,aa.w 2002,aa.w 2003,aa.w 2004])=_;grind
def rO{I:Opq}(a b:SX):dB I (ew a b)= !decide ((bZ I a).I=(bZ I b).I):=rfl
def LS(l:U7):(l.drop (0:Int).toNat).take ((l.length:Int)-0).toNat=l:=by simp
section
variable{X:Nat->U7->Val}{I:Opq}(hf: ∀i a,I.f i a=FT X i a)
include hf
def t_sess(hn:dB I (zn (zb (zl 4) 24) (.Q 491 [aS]))=true):W6 T_sess I=some (0,[FT X 729 [I.w 3,I.w 4,I.w 6,I.w 7,I.w 8],FT X 727 [I.w 3,I.w 4,I.w 6,I.w 7,I.w 8],FT X 728 [I.w 3,I.w 4,I.w 6,I.w 7,I.w 8]]):=by
 obtain⟨n3,n4⟩:=W4 (show(dB I (zb (zl 4) 24)&&dB I (.Q 491 [aS]))=true from hn);have n3':((I.w 4).L.length:Int)<=24:=j7 n3;have a9:FT X 729 [I.w 3,I.w 4,I.w 6,I.w 7,I.w 8]= .D (sr (I.w 3) (I.w 4).L (I.w 6) (I.w 7) (I.w 8)):=rfl;have a7:FT X 727 [I.w 3,I.w 4,I.w 6,I.w 7,I.w 8]= .A (nD (I.w 3) (I.w 4).L (I.w 6) (I.w 7) (I.w 8)):=rfl;have a8:FT X 728 [I.w 3,I.w 4,I.w 6,I.w 7,I.w 8]= .A (nq (I.w 3) (I.w 4).L (I.w 6) (I.w 7) (I.w 8)):=rfl;rw[a9,a7,a8];have jl:=Ri (I.w 3) (I.w 4).L (I.w 6) (I.w 7);have pl:(iS (I.w 3) (I.w 4).L (I.w 6) (I.w 7)).length<=24:=by unfold iS;rw[List.length_map];omega
 have f4:I.f 724 [I.w 3,I.w 4,I.w 6,I.w 7]= .A (iS (I.w 3) (I.w 4).L (I.w 6) (I.w 7)):=by rw[hf];rfl
 have f5:I.f 725 [I.w 3,I.w 4,I.w 6,I.w 7]= .A [.A (I.w 6::kO (I.w 3) (I.w 4).L (I.w 6) (I.w 7))]:=by rw[hf];rfl
 unfold nD nq sr;generalize iS (I.w 3) (I.w 4).L (I.w 6) (I.w 7)=P at*
 generalize kO (I.w 3) (I.w 4).L (I.w 6) (I.w 7)=N at*
 have W: ∀vs:U7,∀n:Nat,n<2000->(I.U 2000 vs).w n=I.w n:=λvs n hn=>by rw[cT,b9 (by omega)]
 have d5:bZ I fP= .A P:=f4;have d1:bZ I pK= .A [.A (I.w 6::N)]:=f5;have D5: ∀vs,bZ (I.U 2000 vs) fP= .A P:=λvs=>by exact f4
 have D1: ∀vs,bZ (I.U 2000 vs) pK= .A [.A (I.w 6::N)]:=λvs=>by exact f5
 have d2:bZ I te=I.w 6:=by show Y3 (bZ I pK).L 0 0=_;rw[d1];rfl
 have d3:bZ I sO=N.getD 0 default:=by show Y3 (bZ I pK).L 0 1=_;rw[d1];rfl
 have d4:bZ I se=N.getD 1 default:=by show Y3 (bZ I pK).L 0 2=_;rw[d1];rfl
 have D2: ∀vs,bZ (I.U 2000 vs) te=I.w 6:=λvs=>by show Y3 (bZ (I.U 2000 vs) pK).L 0 0=_;rw[D1];rfl
 have D3: ∀vs,bZ (I.U 2000 vs) sO=N.getD 0 default:=λvs=>by show Y3 (bZ (I.U 2000 vs) pK).L 0 1=_;rw[D1];rfl
 have D4: ∀vs,bZ (I.U 2000 vs) se=N.getD 1 default:=λvs=>by show Y3 (bZ (I.U 2000 vs) pK).L 0 2=_;rw[D1];rfl
 generalize N.getD 0 default=ns at*
 generalize N.getD 1 default=ne at*
 have d0:bZ I xw= .A [.A [.D 1,I.w 8,I.w 8,I.w 8]]:=rfl;have hA:[Val.A [.D 1,I.w 8,I.w 8,I.w 8]]++cw (λi=>[kG (I.w 4).L (cg P i)]) P.length=kF (I.w 4).L P (I.w 8):=by rw[Bl (kG (I.w 4).L) P];rfl
 have hst:AT (I.w 4).L P (I.w 6) ns ne (I.w 8) P.length=[.D (iM P (I.w 6) ns ne).length,.D (kF (I.w 4).L P (I.w 8)).length,.D P.length,.A (iM P (I.w 6) ns ne),.A (kF (I.w 4).L P (I.w 8))]:=by unfold AT;rw[hA];rfl
 have lp:=e70 (v:=I.w 8) pl D5 D2 D3 D4;rw[hst]at lp;have al:(kF (I.w 4).L P (I.w 8)).length<=31:=by show(P.map _).length+1<=31;rw[k7];omega
 have e6:bZ I tt=cx (0,[.D (iM P (I.w 6) ns ne).length,.D (kF (I.w 4).L P (I.w 8)).length,.D P.length,.A (iM P (I.w 6) ns ne),.A (kF (I.w 4).L P (I.w 8))]):=by show I.f 759 [.D 0,.D (bZ I xw).L.length,.D 0,.A [],bZ I xw,I.w 0,I.w 1,I.w 2,I.w 3,I.w 4,bZ I te,bZ I sO,bZ I se,.D (bZ I fP).L.length,bZ I fP,.D (bZ I fP).L.length]=_;rw[hf,d0,d2,d3,d4,d5];rfl
 generalize iM P (I.w 6) ns ne=G at*
 generalize kF (I.w 4).L P (I.w 8)=A at*
 have d7:bZ I Ei= .D A.length:=by show Y3 (bZ I tt).L 1 1=_;rw[e6];rfl
 have d8:bZ I LQ= .A A:=by show Y3 (bZ I tt).L 1 4=_;rw[e6];rfl
 have dg:bZ I (zo tt 0)= .D G.length:=by show Y3 (bZ I tt).L 1 0=_;rw[e6];rfl
 have d10:bZ I KY= .A G:=by show Y3 (bZ I tt).L 1 3=_;rw[e6];rfl
 have d9:bZ I ke= .A A:=by show Val.A (((bZ I LQ).L.drop (0:Int).toNat).take ((bZ I Ei).I-0).toNat)=_;rw[d7,d8];exact congrArg Val.A (LS A)
 have f6:I.f 706 [bZ I ke]= .D (jE A):=by rw[d9,hf];rfl
 have f5':I.f 705 [bZ I ke]= .A [.A (jR A)]:=by rw[d9,hf];rfl
 refine X2 hn (X7 (r:=(0,[.D G.length,.D A.length,.D P.length,.A G,.A A])) lp e6 (X2 ?_ ?_));rw[dQ,dQ,cZ,cZ,cZ,cM,cM,ej,ej,d7,d8,d9];exact a3 (by show(0:Int)<=(A.length:Int);omega) (x8 _) (by show(A.length:Int)<=1000;omega)
 have hne:dB I (ew (.Q 706 [ke]) aM)= !decide (jE A=0):=by show(!decide ((I.f 706 [bZ I ke]).I=0))=_;rw[f6];rfl
 by_cases h:jE A=0;refine Y0 (by rw[hne,j0 h];rfl) (X2 ?_ ?_);rw[mV,ej,dg,d10];exact j0 rfl;show some (0,[Val.D 0,bZ I KY,.A [.A [bZ I te,bZ I sO,bZ I se,Y3 (I.f 705 [bZ I ke]).L 0 0,Y3 (I.f 705 [bZ I ke]).L 0 1,Y3 (I.f 705 [bZ I ke]).L 0 2,Y3 (I.f 705 [bZ I ke]).L 0 3]]])=_;rw[d10,d2,d3,d4,f5',h];rfl;rw[i6 h,i6 h];refine Y4 (by rw[hne,j9 h];rfl) ?_;show some (0,[I.f 706 [bZ I ke],Val.A [],Val.A []])=_;rw[f6]
end
def Et(m S:U7)(key v e0:Val)(k:Nat):U7:=[.D (fK m S key v k).length,if k=0 then e0 else .D 0,.D k,.A (fK m S key v k)]
section
variable{X:Nat->U7->Val}{I:Opq}(hf: ∀i a,I.f i a=FT X i a)
include hf
def de1{S:U7}{e0:Val}(D1: ∀vs,bZ (I.U 2000 vs) gC= .A S){k:Nat}(hk:k<S.length)(hS:S.length<=1000):
 W6 Ip (I.U 2000 (Et (I.w 4).L S (I.w 6) (I.w 8) e0 k))=if ky (I.w 4).L (I.w 6) (I.w 8) (cg S k)≠0 then some (1,[.D k,.D (ky (I.w 4).L (I.w 6) (I.w 8) (cg S k)),.D k,.A (fK (I.w 4).L S (I.w 6) (I.w 8) k)])else some (0,Et (I.w 4).L S (I.w 6) (I.w 8) e0 (k+1)):=by
 have hl:(fK (I.w 4).L S (I.w 6) (I.w 8) k).length=k:=qA (λi=>nY (I.w 4).L (I.w 6) (I.w 8) (cg S i)) k;have hs:fK (I.w 4).L S (I.w 6) (I.w 8) (k+1)=fK (I.w 4).L S (I.w 6) (I.w 8) k++[nY (I.w 4).L (I.w 6) (I.w 8) (cg S k)]:=rfl;unfold Et;have W: ∀vs:U7,∀n:Nat,n<2000->(I.U 2000 vs).w n=I.w n:=λvs n hn=>by simp_all[cT,b9]
 generalize fK (I.w 4).L S (I.w 6) (I.w 8) k=L at*
 generalize (if k=0 then e0 else Val.D 0)=ee;have D1:=D1 [.D L.length,ee,.D k,.A L];have W:=W [.D L.length,ee,.D k,.A L];have w4:=W 4 (by omega);have w6:=W 6 (by omega);have w8:=W 8 (by omega);have v0:(I.U 2000 [.D L.length,ee,.D k,.A L]).w 2000= .D L.length:=by rfl
 have v2:(I.U 2000 [.D L.length,ee,.D k,.A L]).w 2002= .D k:=by rfl
 have v3:(I.U 2000 [.D L.length,ee,.D k,.A L]).w 2003= .A L:=by rfl
 have wf:(I.U 2000 [.D L.length,ee,.D k,.A L]).f=I.f:=rfl;generalize I.U 2000 [.D L.length,ee,.D k,.A L]=aa at*
 have dk:bZ aa FJ=eV (I.w 6) (cg S k):=by show Val.A [aa.w 6,Y3 (bZ aa gC).L (aa.w 2002).I 0,Y3 (bZ aa gC).L (aa.w 2002).I 1]=_;rw[D1,v2,w6];rfl
 have dc: ∀j:Nat,bZ aa (iE (j:Int))=qv (I.w 4).L (I.w 6) (cg S k) j:=λj=>by
  show(bif decide (((gT (aa.w 4).L (bZ aa FJ):Nat):Int)<((aa.w 4).L.length:Int))then Y3 (aa.w 4).L ((gT (aa.w 4).L (bZ aa FJ):Nat):Int) (j:Int)else Val.D 0)=_;rw[dk,w4];have e:decide (((gT (I.w 4).L (eV (I.w 6) (cg S k)):Nat):Int)<((I.w 4).L.length:Int))=jD (I.w 4).L (eV (I.w 6) (cg S k)):=by simp_all[jD,decide_eq_decide]
  rw[e];rfl
 have c3:bZ aa (iE 3)=_:=dc 3;have c4:bZ aa (iE 4)=_:=dc 4;have c5:bZ aa (iE 5)=_:=dc 5;have c6:bZ aa (iE 6)=_:=dc 6;have de:bZ aa Az= .D (ky (I.w 4).L (I.w 6) (I.w 8) (cg S k)):=by show aa.f 708 [bZ aa (iE 3),bZ aa (iE 4),bZ aa (iE 5),bZ aa (iE 6),aa.w 8]=_;rw[wf,hf,c3,c4,c5,c6,w8];rfl
 have dq:bZ aa uv= .A [.A (wF (I.w 4).L (I.w 6) (I.w 8) (cg S k))]:=by show aa.f 707 [bZ aa (iE 3),bZ aa (iE 4),bZ aa (iE 5),bZ aa (iE 6),aa.w 8]=_;rw[wf,hf,c3,c4,c5,c6,w8];rfl
 have dr:bZ aa Bx= .A (L++[nY (I.w 4).L (I.w 6) (I.w 8) (cg S k)]):=by show Val.A ((aa.w 2003).L++[.A [aa.w 6,Y3 (bZ aa gC).L (aa.w 2002).I 0,Y3 (bZ aa gC).L (aa.w 2002).I 1,Y3 (bZ aa uv).L 0 0,Y3 (bZ aa uv).L 0 1,Y3 (bZ aa uv).L 0 2,Y3 (bZ aa uv).L 0 3]])=_;rw[v3,w6,D1,v2,dq];rfl
 have inc:cq .add .i64 (Val.D (k:Int)).I 1=((k+1:Nat):Int):=iZ hk (by omega);have dn:dB aa (ew Az aM)= !decide (ky (I.w 4).L (I.w 6) (I.w 8) (cg S k)=0):=by rw[rO,cM,de];rfl
 refine Y4 ?_ (X2 ?_ ?_);show decide ((aa.w 2002).I<((bZ aa gC).L.length:Int))=true;simp_all;simp_all[cZ,cM,ft,j0];by_cases h:ky (I.w 4).L (I.w 6) (I.w 8) (cg S k)=0;refine Y0 (by grind) (X2 ?_ ?_);rw[dQ,mV,cZ,cM,ej,ej,dr,ft,dV,v0,v3];grind[PX];show some (0,[Val.D ((bZ aa Bx).L.length:Int),bZ aa Az,Val.D (cq .add .i64 (aa.w 2002).I 1),bZ aa Bx])=_;simp_all;refine Y4 (by rw[dn,j9 h];rfl) ?_;show some (1,[aa.w 2000,bZ aa Az,aa.w 2002,aa.w 2003])=_;grind
end
def rowS(r:Val):Prop:= ∃(k:zR) (a b c d e f:Int),r= .A [.vs k,.D a,.D b,.D c,.D d,.D e,.D f]/\k.length<=1000
def dP8(l:U7): ∀k,∃a b,(jS l k).getD 2 default= .D a/\(jS l k).getD 3 default= .D b
 |0=>⟨0,0,rfl,rfl⟩
 |k+1=>by
  unfold jS;cases ui (cg l k)with
  |true=>exact dP8 l k
  |false=>
   split<;>exact⟨_,_,rfl,rfl⟩
def e71{l:U7}(h:jE l=0): ∃a b c d,jR l=[.D a,.D b,.D c,.D d]:=by
 obtain⟨c,d,h1,h2⟩:=dP8 l l.length;have hn: ¬(fQ (jC l)≠0\/fQ (jT l)≠0):=λhc=>by unfold jE at h;rw[if_pos hc]at h;cases h
 unfold jR;rw[b9 hn,h1,h2];exact⟨_,_,_,_,rfl⟩
def dv3{k s l g:Int}{t:Val}(h3:k≠3): ∀r∈dF k s l g t,∃a b,r= .A [.D a,.D b]:=by
 intro r hr;unfold dF at hr;cases h:(X9 k s l g&&ei t.I)with
 |false=>rw[h]at hr;cases hr
 |true=>
  simp_all;rw[mX]at hr;obtain⟨i,_,hi⟩:=x7.1 hr;unfold jU at hi;rw[m9]at hi;exact⟨_,_,hi⟩
def TS{k s l g:Int}{t:Val}(h3:k≠3):(dF k s l g t).length<=16:=by
 unfold dF;cases h:(X9 k s l g&&ei t.I)with
 |false=>grind
 |true=>
  simp[cond_true,b9 h3];rw[show(cw (jU (kp t.I (dY k s l)-s+dY k s l) (dY k s l) s) (gi k s l)).length=gi k s l from qA _ _];have hw:=(W4 h).1;unfold X9 at hw;unfold gi dY;by_cases k2:k=2;grind;grind[Int.ediv_self]
def OD(m S:U7)(key v:Val):gD m S key v<=S.length/\(∀i,i<gD m S key v->ky m key v (cg S i)=0)/\(gD m S key v<S.length->ky m key v (cg S (gD m S key v))≠0):=by
 unfold gD;cases hf:(List.range S.length).find? λi=>decide (ky m key v (cg S i)≠0)with
 |none=>
  grind
 |some k=>
  grind[rS,Nat.le_of_lt]
section
variable{X:Nat->U7->Val}{I:Opq}(hf: ∀i a,I.f i a=FT X i a)
include hf
def e72{S:U7}{e0:Val}(D1: ∀vs,bZ (I.U 2000 vs) gC= .A S)(hS:S.length<=16):
 Y9 (λvs=>W6 Ip (I.U 2000 vs)) [.D 0,e0,.D 0,.A []]=some (0,[.D (gD (I.w 4).L S (I.w 6) (I.w 8)),kM (I.w 4).L S (I.w 6) (I.w 8) e0,.D (gD (I.w 4).L S (I.w 6) (I.w 8)),.A (fK (I.w 4).L S (I.w 6) (I.w 8) (gD (I.w 4).L S (I.w 6) (I.w 8)))]):=by
 obtain⟨k1,k2,k3⟩:=OD (I.w 4).L S (I.w 6) (I.w 8);refine kr (st:=Et (I.w 4).L S (I.w 6) (I.w 8) e0) (n:=gD (I.w 4).L S (I.w 6) (I.w 8)) (λk hk=> ?_) ?_;rw[de1 hf D1 (by omega) (by omega),b9 (by grind)];unfold kM;by_cases h:gD (I.w 4).L S (I.w 6) (I.w 8)<S.length;rw[de1 hf D1 h (by omega),i6 (k3 h),i6 h]
 have e:gD (I.w 4).L S (I.w 6) (I.w 8)=S.length:=by omega
 rw[b9 h,e];have hl:(fK (I.w 4).L S (I.w 6) (I.w 8) S.length).length=S.length:=qA (λi=>nY (I.w 4).L (I.w 6) (I.w 8) (cg S i)) _;unfold Et;rw[hl];generalize fK (I.w 4).L S (I.w 6) (I.w 8) S.length=L at*
 generalize (if S.length=0 then e0 else Val.D 0)=ee;have D1:=D1 [.D S.length,ee,.D S.length,.A L];have v0:(I.U 2000 [.D S.length,ee,.D S.length,.A L]).w 2000= .D S.length:=by rfl
 have v1:(I.U 2000 [.D S.length,ee,.D S.length,.A L]).w 2001=ee:=by rfl
 have v2:(I.U 2000 [.D S.length,ee,.D S.length,.A L]).w 2002= .D S.length:=by rfl
 have v3:(I.U 2000 [.D S.length,ee,.D S.length,.A L]).w 2003= .A L:=by rfl
 generalize I.U 2000 [.D S.length,ee,.D S.length,.A L]=aa at*
 refine Y0 ?_ ?_;show decide ((aa.w 2002).I<((bZ aa gC).L.length:Int))=false;simp_all;show some (1,[aa.w 2000,aa.w 2001,aa.w 2002,aa.w 2003])=_;grind
end
def w9(I:Opq):U7:=[I.w 0,I.w 1,I.w 2,I.w 3,I.w 4,I.w 5,I.w 6,I.w 7,I.w 8]
def dv4{m:U7}{key v r:Val}(hk:QR key=true)(hl:key.toS.length<=1000)(hr: ∃a b,r= .A [.D a,.D b])(he:ky m key v r=0):rowS (nY m key v r):=by
 obtain⟨a,b,rfl⟩:=hr;obtain⟨c,d,e,f,hq⟩:=e71 he;cases key with
 |vs k=>
  refine⟨k,a,b,c,d,e,f,?_,hl⟩;unfold nY wF nK;unfold ky at he;rw[b9 (by simp[he]),hq];rfl
 |D _=>cases hk
 |B _=>cases hk
 |A _=>cases hk
section
variable{X:Nat->U7->Val}{I:Opq}(hf: ∀i a,I.f i a=FT X i a)
include hf
def t_tryE(h431: ∀l:U7,(∀r∈l,rowS r)->(X 431 [.A l]).Z=true)
 (hn:dB I (zn (zn (zn (zb (zl 4) 400) (.Q 431 [aS])) (.Q 491 [aS])) (.Q 739 [aN,aS,bf]))=true):
 W6 T_tryE I=some (0,[.D (dp (w9 I)),.A (eA (w9 I)),eo X (w9 I)]):=by
 obtain⟨m1,m2⟩:=W4 hn;obtain⟨m3,m4⟩:=W4 m1;have m2:(I.f 739 [I.w 0,I.w 4,I.w 6]).Z=true:=m2;rw[hf]at m2;have m2:((!decide ((I.w 0).I=3)||decide ((I.w 4).L.length<=24))&&QR (I.w 6))=true:=m2;obtain⟨m5,m6⟩:=W4 m2;have t0:bZ I rU= .D (X5 (I.w 5).I (I.w 6).toS (I.w 7).I (I.w 8).I):=by show I.f 701 [I.w 5,I.w 6,I.w 7,I.w 8]=_;rw[hf];rfl
 have g9:dp (w9 I)=if X5 (I.w 5).I (I.w 6).toS (I.w 7).I (I.w 8).I≠0 then X5 (I.w 5).I (I.w 6).toS (I.w 7).I (I.w 8).I else if(I.w 5).I≠1 then 2 else if(I.w 0).I=3 then sr (I.w 3) (I.w 4).L (I.w 6) (I.w 7) (I.w 8)else(kM (I.w 4).L (dF (I.w 0).I (I.w 1).I (I.w 2).I (I.w 3).I (I.w 7)) (I.w 6) (I.w 8) (.D 0)).I:=rfl
 have gG:eA (w9 I)=if X5 (I.w 5).I (I.w 6).toS (I.w 7).I (I.w 8).I≠0\/(I.w 5).I≠1 then []else if(I.w 0).I=3 then nD (I.w 3) (I.w 4).L (I.w 6) (I.w 7) (I.w 8)else []:=rfl
 have gR:eo X (w9 I)=if X5 (I.w 5).I (I.w 6).toS (I.w 7).I (I.w 8).I≠0\/(I.w 5).I≠1 then .A []else if(I.w 0).I=3 then .A (nq (I.w 3) (I.w 4).L (I.w 6) (I.w 7) (I.w 8))else if dp (w9 I)≠0 then .A []else X 490 [.A (fK (I.w 4).L (dF (I.w 0).I (I.w 1).I (I.w 2).I (I.w 3).I (I.w 7)) (I.w 6) (I.w 8) (dF (I.w 0).I (I.w 1).I (I.w 2).I (I.w 3).I (I.w 7)).length)]:=rfl
 rw[gR,g9,gG];have c0:dB I (ew rU aM)= !decide (X5 (I.w 5).I (I.w 6).toS (I.w 7).I (I.w 8).I=0):=by rw[rO,cM,t0];rfl
 by_cases h0:X5 (I.w 5).I (I.w 6).toS (I.w 7).I (I.w 8).I≠0;rw[i6 h0,i6 (.inl h0),i6 (.inl h0)];refine Y4 (by rw[c0,j9 h0];rfl) ?_;show some (0,[bZ I rU,Val.A [],Val.A []])=_;rw[t0]
 rw[b9 h0];have hlen:(I.w 5).I=1->(I.w 6).toS.length<=32:=λh1=>by have h:=Classical.not_not.1 h0;rw[h1]at h;unfold X5 at h;by_cases q:(I.w 6).toS=[]\/32<(I.w 6).toS.length;rw[i6 q]at h;cases h;exact E6.1 λhh=>q (.inr hh)
 replace h0:=Classical.not_not.1 h0;refine Y0 (by rw[c0,j0 h0];rfl) ?_;have c1:dB I (ew bd aZ)= !decide ((I.w 5).I=1):=by rw[rO,cM,ft]
 by_cases h1:(I.w 5).I≠1;rw[i6 h1,i6 (.inr h1),i6 (.inr h1)];exact Y4 (by rw[c1,j9 h1];rfl) rfl
 have hd: ¬(X5 (I.w 5).I (I.w 6).toS (I.w 7).I (I.w 8).I≠0\/(I.w 5).I≠1):=λh=>h.elim (λh=>h h0) h1
 simp only[b9 h1,b9 hd];replace h1:=Classical.not_not.1 h1;refine Y0 (by rw[c1,j0 h1];rfl) ?_;by_cases h3:(I.w 0).I=3;simp[i6 h3];refine Y4 (by exact j0 h3) (X2 ?_ ?_);rw[dQ,j8];refine⟨?_,m4⟩;rw[j0 h3]at m5;have m5:(I.w 4).L.length<=24:=j7 m5;exact j0 (by show((I.w 4).L.length:Int)<=24;omega);show some (0,[I.f 729 [I.w 3,I.w 4,I.w 6,I.w 7,I.w 8],I.f 727 [I.w 3,I.w 4,I.w 6,I.w 7,I.w 8],I.f 728 [I.w 3,I.w 4,I.w 6,I.w 7,I.w 8]])=_;rw[hf,hf,hf];rfl
 simp only[b9 h3];refine Y0 (by exact j9 h3) ?_;have hS:=TS (k:=(I.w 0).I) (s:=(I.w 1).I) (l:=(I.w 2).I) (g:=(I.w 3).I) (t:=I.w 7) h3;have hvi:=dv3 (k:=(I.w 0).I) (s:=(I.w 1).I) (l:=(I.w 2).I) (g:=(I.w 3).I) (t:=I.w 7) h3;have d1:bZ I gC= .A (dF (I.w 0).I (I.w 1).I (I.w 2).I (I.w 3).I (I.w 7)):=by show I.f 704 [I.w 0,I.w 1,I.w 2,I.w 3,I.w 7]=_;rw[hf];rfl
 have W: ∀vs:U7,∀n:Nat,n<2000->(I.U 2000 vs).w n=I.w n:=λvs n hn=>by rw[cT,b9 (by omega)]
 have D1: ∀vs,bZ (I.U 2000 vs) gC= .A (dF (I.w 0).I (I.w 1).I (I.w 2).I (I.w 3).I (I.w 7)):=λvs=>by exact d1
 generalize dF (I.w 0).I (I.w 1).I (I.w 2).I (I.w 3).I (I.w 7)=S at*
 have lp:=e72 hf (e0:= .D 0) D1 hS;rw[h0]at t0;obtain⟨k1,k2,k3⟩:=OD (I.w 4).L S (I.w 6) (I.w 8);have e2:bZ I yE=cx (0,[.D (gD (I.w 4).L S (I.w 6) (I.w 8)),kM (I.w 4).L S (I.w 6) (I.w 8) (.D 0),.D (gD (I.w 4).L S (I.w 6) (I.w 8)),.A (fK (I.w 4).L S (I.w 6) (I.w 8) (gD (I.w 4).L S (I.w 6) (I.w 8)))]):=by show I.f 760 [.D 0,bZ I rU,.D 0,.A [],I.w 0,I.w 1,I.w 2,I.w 3,I.w 4,I.w 5,I.w 6,I.w 7,I.w 8,.D (bZ I gC).L.length,bZ I gC,.D (bZ I gC).L.length]=_;rw[hf,t0,d1];rfl
 have lp':Y9 (λvs=>W6 Ip (I.U 2000 vs)) (X4 I [zL ck,rU,aM,ck])=some (0,[.D (gD (I.w 4).L S (I.w 6) (I.w 8)),kM (I.w 4).L S (I.w 6) (I.w 8) (.D 0),.D (gD (I.w 4).L S (I.w 6) (I.w 8)),.A (fK (I.w 4).L S (I.w 6) (I.w 8) (gD (I.w 4).L S (I.w 6) (I.w 8)))]):=by show Y9 _ [.D 0,bZ I rU,.D 0,.A []]=_;rw[t0];exact lp
 have d3:bZ I Fy=kM (I.w 4).L S (I.w 6) (I.w 8) (.D 0):=by show Y3 (bZ I yE).L 1 1=_;rw[e2];rfl
 have hX: ∃x,kM (I.w 4).L S (I.w 6) (I.w 8) (.D 0)= .D x:=by unfold kM;split;exact⟨_,rfl⟩;split<;>exact⟨_,rfl⟩
 obtain⟨x,hX⟩:=hX;refine X7 lp' e2 ?_;have c3:dB I (ew Fy aM)= !decide (x=0):=by rw[rO,cM,d3,hX];rfl
 by_cases hx:x=0
 subst hx;have hK:gD (I.w 4).L S (I.w 6) (I.w 8)=S.length:=by refine Nat.le_antisymm k1 (E6.1 λh=> ?_);unfold kM at hX;rw[i6 h]at hX;exact k3 h (Val.D.inj hX)
 have d4:bZ I Ds= .D S.length:=by show Y3 (bZ I yE).L 1 0=_;rw[e2,hK];rfl
 have d5:bZ I Ko= .A (fK (I.w 4).L S (I.w 6) (I.w 8) S.length):=by show Y3 (bZ I yE).L 1 3=_;rw[e2,hK];rfl
 have hl:(fK (I.w 4).L S (I.w 6) (I.w 8) S.length).length=S.length:=qA (λi=>nY (I.w 4).L (I.w 6) (I.w 8) (cg S i)) _;have d6:bZ I BK= .A (fK (I.w 4).L S (I.w 6) (I.w 8) S.length):=by show Val.A (((bZ I Ko).L.drop (0:Int).toNat).take ((bZ I Ds).I-0).toNat)=_;rw[d4,d5];have:=LS (fK (I.w 4).L S (I.w 6) (I.w 8) S.length);rw[hl]at this;exact congrArg Val.A this
 have hrows: ∀r∈fK (I.w 4).L S (I.w 6) (I.w 8) S.length,rowS r:=λr hr=>by
  unfold fK at hr;rw[mX]at hr;obtain⟨i,hi,hr⟩:=x7.1 hr;rw[m9]at hr;subst hr;have hi:=o7.1 hi;refine dv4 m6 (by omega) (hvi _ ?_) (k2 i (by omega));have:cg S i=S[i]:=by simp[cg,k5,hi]
  rw[this];exact B6 hi
 have h43:=h431 _ hrows;rw[hX,b9 (by simp)];generalize fK (I.w 4).L S (I.w 6) (I.w 8) S.length=L at*
 refine Y0 (by rw[c3];rfl) (X2 ?_ ?_);rw[dQ,dQ,dQ,cZ,cZ,cZ,cM,cM,ej,ej,d4,d5,d6,j8,j8,j8];refine⟨⟨j0 (by show(0:Int)<=(S.length:Int);omega),j0 (by show(S.length:Int)<=(L.length:Int);omega)⟩,j0 (by show(L.length:Int)<=400;omega),?_⟩;show(I.f 431 [bZ I BK]).Z=true;rw[d6,hf];exact h43;show some (0,[Val.D 0,Val.A [],I.f 490 [bZ I BK]])=_;rw[d6,hf];rfl;rw[hX,i6 (by simpa using hx)];refine Y4 (by rw[c3,j9 hx];rfl) ?_;show some (0,[bZ I Fy,Val.A [],Val.A []])=_;rw[d3,hX];rfl
end
def ee9:SX:= .O .row [cr ic aV 0,cr ic aV 1,cr ic aV 2]
def SJ:SX:= .O .row [cr dJ aV 0,cr dJ aV 1,cr dJ aV 2]
def OU:SX:= .O .row [cr dJ aV 0,cr dJ aV 1,cr dJ aV 2,cr dJ aV 3,cr dJ aV 4,cr dJ aV 5,cr dJ aV 6]
def VX:SX:= .O (.mfind [.str,.int .i64,.int .i64]) [aR,SJ]
def e76{I:Opq}{G:U7}{m:Val}(hG:G.length<=1000000)(D2: ∀vs,bZ (I.U 2000 vs) ic= .A G):
 Y9 (λvs=>W6 Qh (I.U 2000 vs)) [.D 0,m]=some (0,[.D G.length,fw m G G.length]):=by
 refine kr (st:=λk=>[.D k,fw m G k]) (n:=G.length) (λk hk=> ?_) ?_
 show W6 Qh (I.U 2000 [.D k,fw m G k])=some (0,[.D (k+1:Nat),.A ((fw m G k).L.eraseIdx (gT (fw m G k).L (eR (cg G k))))]);have D2:=D2 [.D k,fw m G k];have v0:(I.U 2000 [.D k,fw m G k]).w 2000= .D k:=by rfl
 have v1:(I.U 2000 [.D k,fw m G k]).w 2001=fw m G k:=by rfl
 generalize I.U 2000 [.D k,fw m G k]=aa at*
 have dk:bZ aa ee9=eR (cg G k):=by show Val.A [Y3 (bZ aa ic).L (aa.w 2000).I 0,Y3 (bZ aa ic).L (aa.w 2000).I 1,Y3 (bZ aa ic).L (aa.w 2000).I 2]=_;rw[D2,v0];rfl
 have inc:cq .add .i64 (Val.D (k:Int)).I 1=((k+1:Nat):Int):=iZ hk (by omega);refine Y4 ?_ (X2 ?_ ?_);show decide ((aa.w 2000).I<((bZ aa ic).L.length:Int))=true;simp_all;simp_all[cZ,cM,ft,j0];show some (0,[Val.D (cq .add .i64 (aa.w 2000).I 1),Val.A ((aa.w 2001).L.eraseIdx (gT (aa.w 2001).L (bZ aa ee9)))])=_;grind
 have D2:=D2 [.D G.length,fw m G G.length];have v0:(I.U 2000 [.D G.length,fw m G G.length]).w 2000= .D G.length:=by rfl
 have v1:(I.U 2000 [.D G.length,fw m G G.length]).w 2001=fw m G G.length:=by rfl
 generalize I.U 2000 [.D G.length,fw m G G.length]=aa at*
 refine Y0 ?_ ?_;show decide ((aa.w 2000).I<((bZ aa ic).L.length:Int))=false;simp_all;show some (1,[aa.w 2000,aa.w 2001])=_;grind
def e77{I:Opq}{R:U7}{m:Val}(hR:R.length<=1000000)(D1: ∀vs,(bZ (I.U 2000 vs) dJ).L=R):
 Y9 (λvs=>W6 SZ (I.U 2000 vs)) [.D 0,m]=some (0,[.D R.length,eN m R R.length]):=by
 refine kr (st:=λk=>[.D k,eN m R k]) (n:=R.length) (λk hk=> ?_) ?_
 show W6 SZ (I.U 2000 [.D k,eN m R k])=some (0,[.D (k+1:Nat),bif jD (eN m R k).L (eR (cg R k))then .A ((eN m R k).L.set (gT (eN m R k).L (eR (cg R k))) (X8 (cg R k)))else .A ((eN m R k).L++[X8 (cg R k)])]);have D1:=D1 [.D k,eN m R k];have v0:(I.U 2000 [.D k,eN m R k]).w 2000= .D k:=by rfl
 have v1:(I.U 2000 [.D k,eN m R k]).w 2001=eN m R k:=by rfl
 generalize I.U 2000 [.D k,eN m R k]=aa at*
 generalize eN m R k=M at*
 have dk:bZ aa SJ=eR (cg R k):=by show Val.A [Y3 (bZ aa dJ).L (aa.w 2000).I 0,Y3 (bZ aa dJ).L (aa.w 2000).I 1,Y3 (bZ aa dJ).L (aa.w 2000).I 2]=_;rw[D1,v0];rfl
 have dn:bZ aa OU=X8 (cg R k):=by show Val.A [Y3 (bZ aa dJ).L (aa.w 2000).I 0,Y3 (bZ aa dJ).L (aa.w 2000).I 1,Y3 (bZ aa dJ).L (aa.w 2000).I 2,Y3 (bZ aa dJ).L (aa.w 2000).I 3,Y3 (bZ aa dJ).L (aa.w 2000).I 4,Y3 (bZ aa dJ).L (aa.w 2000).I 5,Y3 (bZ aa dJ).L (aa.w 2000).I 6]=_;rw[D1,v0];rfl
 have dm:bZ aa VX= .D (gT M.L (eR (cg R k)):Nat):=by show Val.D ((gT (aa.w 2001).L (bZ aa SJ):Nat):Int)=_;grind
 have inc:cq .add .i64 (Val.D (k:Int)).I 1=((k+1:Nat):Int):=iZ hk (by omega);have e:decide (((gT M.L (eR (cg R k)):Nat):Int)<(M.L.length:Int))=jD M.L (eR (cg R k)):=by simp_all[jD,decide_eq_decide]
 refine Y4 ?_ (X2 ?_ ?_);show decide ((aa.w 2000).I<((bZ aa dJ).L.length:Int))=true;simp_all;simp_all[cZ,cM,ft,j0];show some (0,[Val.D (cq .add .i64 (aa.w 2000).I 1),bif decide ((bZ aa VX).I<((aa.w 2001).L.length:Int))then Val.A ((aa.w 2001).L.set (bZ aa VX).I.toNat (bZ aa OU))else Val.A ((aa.w 2001).L++[bZ aa OU])])=_;simp_all
 have D1:=D1 [.D R.length,eN m R R.length];have v0:(I.U 2000 [.D R.length,eN m R R.length]).w 2000= .D R.length:=by rfl
 have v1:(I.U 2000 [.D R.length,eN m R R.length]).w 2001=eN m R R.length:=by rfl
 generalize I.U 2000 [.D R.length,eN m R R.length]=aa at*
 refine Y0 ?_ ?_;show decide ((aa.w 2000).I<((bZ aa dJ).L.length:Int))=false;simp_all;show some (1,[aa.w 2000,aa.w 2001])=_;grind
section
variable{X:Nat->U7->Val}{I:Opq}(hf: ∀i a,I.f i a=FT X i a)
include hf
theorem e78(hG:(eA (w9 I)).length<=1000000)(hR:(eo X (w9 I)).L.length<=1000000)
 (hn:dB I (zn (zn (zn (zb (zl 4) 400) (.Q 431 [aS])) (.Q 491 [aS])) (.Q 739 [aN,aS,bf]))=true):
 W6 T_put I=some (0,[.D (dp (w9 I)),dR X (w9 I)]):=by
 have W9: ∀vs:U7,[(I.U 2000 vs).w 0,(I.U 2000 vs).w 1,(I.U 2000 vs).w 2,(I.U 2000 vs).w 3,(I.U 2000 vs).w 4,(I.U 2000 vs).w 5,(I.U 2000 vs).w 6,(I.U 2000 vs).w 7,(I.U 2000 vs).w 8]=w9 I:=λvs=>by rfl
 have p0:bZ I FW= .D (dp (w9 I)):=by show I.f 732 (w9 I)=_;rw[hf];rfl
 have p1:bZ I dJ=eo X (w9 I):=by show I.f 731 (w9 I)=_;rw[hf];rfl
 have p2:bZ I ic= .A (eA (w9 I)):=by show I.f 730 (w9 I)=_;rw[hf];rfl
 have P1: ∀vs,(bZ (I.U 2000 vs) dJ).L=(eo X (w9 I)).L:=λvs=>by show(I.f 731 [(I.U 2000 vs).w 0,(I.U 2000 vs).w 1,(I.U 2000 vs).w 2,(I.U 2000 vs).w 3,(I.U 2000 vs).w 4,(I.U 2000 vs).w 5,(I.U 2000 vs).w 6,(I.U 2000 vs).w 7,(I.U 2000 vs).w 8]).L=_;rw[W9,hf];rfl
 have P2: ∀vs,bZ (I.U 2000 vs) ic= .A (eA (w9 I)):=λvs=>by show I.f 730 [(I.U 2000 vs).w 0,(I.U 2000 vs).w 1,(I.U 2000 vs).w 2,(I.U 2000 vs).w 3,(I.U 2000 vs).w 4,(I.U 2000 vs).w 5,(I.U 2000 vs).w 6,(I.U 2000 vs).w 7,(I.U 2000 vs).w 8]=_;rw[W9,hf];rfl
 have c0:dB I (ew FW aM)= !decide (dp (w9 I)=0):=by rw[rO,cM,p0];rfl
 have hm:dR X (w9 I)=if dp (w9 I)≠0 then I.w 4 else eN (fw (I.w 4) (eA (w9 I)) (eA (w9 I)).length) (eo X (w9 I)).L (eo X (w9 I)).L.length:=rfl
 rw[hm];refine X2 hn ?_;by_cases h:dp (w9 I)=0
 refine Y0 (by grind) ?_;rw[h];generalize eA (w9 I)=G at*
 have e1:I.f 761 [.D 0,I.w 4,I.w 0,I.w 1,I.w 2,I.w 3,I.w 4,.D (bZ I dJ).L.length,bZ I dJ,.D (bZ I ic).L.length,bZ I ic,.D (bZ I ic).L.length]=cx (0,[.D G.length,fw (I.w 4) G G.length]):=by rw[hf,p2];rfl
 have p3:bZ I sD=fw (I.w 4) G G.length:=by show Y3 (I.f 761 [.D 0,I.w 4,I.w 0,I.w 1,I.w 2,I.w 3,I.w 4,.D (bZ I dJ).L.length,bZ I dJ,.D (bZ I ic).L.length,bZ I ic,.D (bZ I ic).L.length]).L 1 1=_;rw[e1];rfl
 refine X7 (r:=(0,[.D G.length,fw (I.w 4) G G.length])) (e76 hG P2) e1 ?_;generalize fw (I.w 4) G G.length=M at*
 have e2:I.f 762 [.D 0,bZ I sD,I.w 0,I.w 1,I.w 2,I.w 3,bZ I sD,.D (bZ I dJ).L.length,bZ I dJ,.D (bZ I dJ).L.length]=cx (0,[.D (eo X (w9 I)).L.length,eN M (eo X (w9 I)).L (eo X (w9 I)).L.length]):=by rw[hf,p1,p3];rfl
 refine X7 (r:=(0,[.D (eo X (w9 I)).L.length,eN M (eo X (w9 I)).L (eo X (w9 I)).L.length])) ?_ e2 ?_;show Y9 _ [.D 0,bZ I sD]=_;rw[p3];exact e77 hR P1;show some (0,[Val.D 0,Y3 (I.f 762 [.D 0,bZ I sD,I.w 0,I.w 1,I.w 2,I.w 3,bZ I sD,.D (bZ I dJ).L.length,bZ I dJ,.D (bZ I dJ).L.length]).L 1 1])=_;rw[e2];rfl;rw[i6 h];refine Y4 (by grind) ?_;show some (0,[bZ I FW,I.w 4])=_;rw[p0]
end
def inI(x:Int):Prop:= -9223372036854775808<=x/\x<9223372036854775808
def rC(g:Nat->Int):Nat->Int
 |0=>0
 |k+1=>rC g k+g k
def c29{x:Int}(h: -18446744073709551616<=x)(h2:x<18446744073709551616):inI (IntKind.i64.wrap x)/\((inI x/\IntKind.i64.wrap x=x)\/(x< -9223372036854775808/\IntKind.i64.wrap x=x+18446744073709551616)\/(9223372036854775808<=x/\IntKind.i64.wrap x=x-18446744073709551616)):=by grind[inI,IntKind.wrap,IntKind.bits,IntKind.signed]
theorem bd6{g:Nat->Int}(hg: ∀k,inI (g k)): ∀n:Nat,n<=1000000->inI (eW g n).1/\ -(n:Int)<=(eW g n).2/\(eW g n).2<=n/\(eW g n).1+(eW g n).2*18446744073709551616=rC g n
 |0,_=>⟨⟨by show(-9223372036854775808:Int)<=0;omega,by show(0:Int)<9223372036854775808;omega⟩,by show-((0:Nat):Int)<=0;omega,by show(0:Int)<=((0:Nat):Int);omega,rfl⟩
 |n+1,hn=>by
  obtain⟨a,b,c,d⟩:=bd6 hg n (by omega);have hx:=hg n;unfold rC;rw[show eW g (n+1)=if 0<=(eW g n).1/\0<=g n/\cq .add .i64 (eW g n).1 (g n)<0 then(cq .add .i64 (eW g n).1 (g n),cq .add .i64 (eW g n).2 1)else if(eW g n).1<0/\g n<0/\0<=cq .add .i64 (eW g n).1 (g n)then(cq .add .i64 (eW g n).1 (g n),cq .sub .i64 (eW g n).2 1)else(cq .add .i64 (eW g n).1 (g n),(eW g n).2)from rfl];generalize (eW g n).1=s at*
  generalize g n=x at*
  have w:=c29 (x:=s+x) (by have:=a.1;have:=hx.1;omega) (by have:=a.2;have:=hx.2;omega);grind[cq,ij,rZ,inI]
def bA8{g:Nat->Int}(hg: ∀k,inI (g k)){n:Nat}(hn:n<=1000000):((eW g n).2=0↔inI (rC g n))/\((eW g n).2=0->(eW g n).1=rC g n):=by grind[bd6,inI,eW]
