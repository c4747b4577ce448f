import Derived.Test.YtliadehnohhngaaGreatEL1
set_option linter.all false
namespace Go.Ev.S9
open Go Go.Ev
def qj{step:U0->Option (Nat×U0)}{n:Nat}{a0:U0}{g:Nat->U0}(mk:Nat->U0->U0){s0 p:U0}(h0:s0=mk 0 a0)
 (h1: ∀i,i<n->step (mk i (a0++cw g i))=some (0,mk (i+1) (a0++cw g i++g i))) (h2:step (mk n (a0++cw g n))=some (1,p)):cQ step s0=some (0,p):=by
 have:=fD (step:=step) (st:=λi=>mk i (a0++cw g i)) (n:=n) (j:=0) (p:=p) (λi hi=>by show step (mk i (a0++cw g i))=some (0,mk (i+1) (a0++(cw g i++g i)));rw[h1 i hi,A8]) h2;rw[h0];simpa only[cw,o9]using this
def oI(f:Nat->Val): ∀n,(cw (λi=>[f i]) n).length=n
 |0=>rfl
 |n+1=>by rw[cw,k7,oI f n];rfl
theorem Kq{s l:Int}(h:s % l=0)(hl:1<=l)(hs:1<=s):((s/l).toNat:Int)*l=s/\1<=(s/l).toNat:=by grind[Int.ediv_nonneg,Int.emod_def,Int.toNat_of_nonneg,Int.mul_comm,Nat.eq_zero_or_pos]
def cD1{I:Opq}{B:VT}{st step size:Int}{n:Nat}(hB: ∀(i:Nat) (acc:U0),i<n->acc.length=i->W5 B (I.U 2000 [.D i,.D (st+i*step),.A acc])=some (0,[.D (i+1:Nat),.D (st+(i+1:Nat)*step),.A (acc++jc st step size i)]))
 (hE: ∀acc:U0,W5 B (I.U 2000 [.D n,.D (st+n*step),.A acc])=some (1,[.D n,.D (st+n*step),.A acc])):
 cQ (λvs=>W5 B (I.U 2000 vs)) [.D 0,.D st,.A []]=some (0,[.D n,.D (st+n*step),.A (cw (jc st step size) n)]):=by
 refine qj (λi acc=>[.D i,.D (st+i*step),.A acc]) (a0:=[]) (g:=jc st step size) (n:=n) ?_ (λi hi=> ?_) ?_;simp;exact hB i _ hi (by exact oI _ i);grind
def Eb{I:Opq}(a b:SX):dB I (eQ a b)=decide ((bZ I b).I<=(bZ I a).I):=rfl
theorem cJ{I:Opq}(a b:SX):dB I (eE a b)=decide ((bZ I a).I<=(bZ I b).I):=rfl
theorem dY{I:Opq}(a b:SX):dB I (cF a b)=decide ((bZ I a).I=(bZ I b).I):=rfl
theorem je{I:Opq}(a:SX):dB I (dR a)= !dB I a:=rfl
theorem dG{I:Opq}(a b:SX):dB I (zn a b)=(dB I a&&dB I b):=rfl
theorem cG{I:Opq}(n:Int):(bZ I (.C n)).I=n:=rfl
theorem cI{I:Opq}(n:Nat):(bZ I (.V n)).I=(I.w n).I:=rfl
section
variable{X:Nat->U0->Val}{I:Opq}(hf: ∀i a,I.f i a=FT X i a)
include hf
def t_wOf:W5 T_wOf I=some (0,[FT X 704 [I.w 0,I.w 1,I.w 2,I.w 3,I.w 4]]):=by
 show W5 T_wOf I=some (0,[Val.A (dy (I.w 0).I (I.w 1).I (I.w 2).I (I.w 3).I (I.w 4))]);generalize hk:(I.w 0).I=k;generalize hs:(I.w 1).I=s;generalize hl:(I.w 2).I=l;generalize hg:(I.w 3).I=g;unfold T_wOf dy;generalize ht:(I.w 4).I=t;have r0:bZ I (.Q 700 [aN,aO,aS,aV])= .B (cY k s l g):=by show I.f 700 [I.w 0,I.w 1,I.w 2,I.w 3]=_;rw[hf,<-hk,<-hs,<-hl,<-hg];rfl
 cases hR:cY k s l g with
 |false=>
  refine cD ?_ rfl;show(!(bZ I (.Q 700 [aN,aO,aS,aV])).Z)=true;rw[r0,hR];rfl
 |true=>
 refine Y9 (by show(!(bZ I (.Q 700 [aN,aO,aS,aV])).Z)=false;rw[r0,hR];rfl) ?_;by_cases t1: ¬ -1099511627776<=t
 have e:dW t=false:=by unfold dW;rw[decide_eq_false t1];rfl
 rw[e];exact Y9 (by rw[Eb,cG,cI,ht];exact j7 t1) rfl;replace t1:=Classical.not_not.1 t1;refine cD (by rw[Eb,cG,cI,ht];exact i6 t1) ?_;by_cases t2: ¬t<=1099511627776
 have e:dW t=false:=by unfold dW;rw[decide_eq_false t2,Bool.and_false]
 rw[e];exact cD (by rw[je,cJ,cG,cI,ht,j7 t2];rfl) rfl
 replace t2:=Classical.not_not.1 t2;have e:dW t=true:=by unfold dW;rw[decide_eq_true t1,decide_eq_true t2];rfl
 rw[e];refine Y9 (by rw[je,cJ,cG,cI,ht,i6 t2];rfl) ?_;show W5 _ I=some (0,[Val.A (if k=3 then [.A [I.w 4,.D (t+g)]]else cw (jc (fI t (dJ k s l)-s+dJ k s l) (dJ k s l) s) (fC k s l))]);by_cases k3:k=3
 rw[c9 k3];refine cD (by show decide ((I.w 0).I=3)=true;rw[hk];exact i6 k3) ?_;have:cr .add .i64 t g=t+g:=by unfold cY at hR;simp[k3]at hR;exact gN (by omega) (by omega)
 show some (0,[Val.A [Val.A [I.w 4,Val.D (cr .add .i64 (I.w 4).I (I.w 3).I)]]])=_;rw[ht,hg,this];rw[b9 k3];refine Y9 (by show decide ((I.w 0).I=3)=false;rw[hk];exact j7 k3) ?_;by_cases k2:k=2
 refine cD (by show decide ((I.w 0).I=2)=true;rw[hk];exact i6 k2) ?_;have hR':(1<=s/\s<=1048576)/\(1<=l/\l<=1048576)/\s % l=0/\s/l<=16:=by unfold cY at hR;simp[k2]at hR;omega
 obtain⟨⟨s1,s2⟩,⟨l1,l2⟩,sl,sq⟩:=hR';obtain⟨n1,n2⟩:=Kq sl l1 s1;have hst:dJ k s l=l:=c9 k2;have hN:fC k s l=(s/l).toNat:=by unfold fC;rw[hst]
 rw[hst,hN];have hn16:(s/l).toNat<=16:=by omega
 generalize (s/l).toNat=n at n1 n2 hN hn16;have q0:=I3 t (show l≠0 by omega);have q1:=I4 t (show 0<l by omega);have hd:bZ I (.Q 709 [aT,aS])= .D (fI t l):=by show I.f 709 [I.w 4,I.w 2]=_;rw[hf,<-ht,<-hl];rfl
 have hD:fI t l=t-t % l:=rfl;generalize fI t l=D at hd hD;have a1:cr .sub .i64 D s=D-s:=lN (by omega) (by omega);have a2:cr .add .i64 (D-s) l=D-s+l:=gN (by omega) (by omega);have hw0:bZ I HA= .D (D-s+l):=by show Val.D (cr .add .i64 (cr .sub .i64 (bZ I (.Q 709 [aT,aS])).I (I.w 1).I) (I.w 2).I)=_;rw[hd,hs,hl];show Val.D (cr .add .i64 (cr .sub .i64 D s) l)=_;rw[a1,a2]
 have e0:bZ I GP=cC (0,[.D n,.D (D-s+l+n*l),.A (cw (jc (D-s+l) l s) n)]):=by show I.f 753 [.D 0,bZ I HA,.A [],I.w 0,I.w 1,I.w 2,I.w 3,bZ I (.Q 709 [aT,aS])]=_;rw[hf,hw0];show cC (0,[.D (fC (I.w 0).I (I.w 1).I (I.w 2).I),.D (D-s+l+fC (I.w 0).I (I.w 1).I (I.w 2).I*dJ (I.w 0).I (I.w 1).I (I.w 2).I),.A (cw (jc (D-s+l) (dJ (I.w 0).I (I.w 1).I (I.w 2).I) (I.w 1).I) (fC (I.w 0).I (I.w 1).I (I.w 2).I))])=_;rw[hk,hs,hl,hN,hst]
 have e1:bZ I JT= .A (cw (jc (D-s+l) l s) n):=by show ck (bZ I GP).L 1 2=_;rw[e0];rfl
 refine W6 (by rw[dG,cJ,cJ,cG,cG,cI,hl,i6 l1,i6 l2];rfl) (Y3 (r:=(0,[.D n,.D (D-s+l+n*l),.A (cw (jc (D-s+l) l s) n)])) ?_ e0 (W6 ?_ ?_));show cQ _ [.D 0,bZ I HA,.A []]=_;rw[hw0];have hd':I.f 709 [I.w 4,I.w 2]= .D D:=hd;refine cD1 (size:=s) (λi acc hi hacc=> ?_) (λacc=> ?_)
 have b1:(i:Int)*l+l<=n*l:=by have:((i:Int)+1)*l<=n*l:=G5 (by omega) (by omega);rw[E9]at this;omega
 have b2:0<=(i:Int)*l:=I5 (by omega) (by omega);have b3:((i+1:Nat):Int)*l=(i:Int)*l+l:=by rw[Int.natCast_add,E9];simp
 have p1:D-s+l+(i:Int)*l<=D:=by omega
 have p2:cr .add .i64 (D-s+l+(i:Int)*l) l=D-s+l+((i:Int)*l+l):=by rw[gN (by omega) (by omega)];omega
 have p3:cr .add .i64 (D-s+l+(i:Int)*l) s=D-s+l+(i:Int)*l+s:=gN (by omega) (by omega);have p4:(i:Int)+1<=1000000:=by omega
 rw[b3];unfold Va jc;generalize (i:Int)*l=z at*
 simp[W5,Y6,bZ,dB,cB,Y8,fh,hd',hk,hs,hl,k2,p1,p2,p3,p4,hacc]
 have p1: ¬D-s+l+(n:Int)*l<=D:=by omega
 unfold Va;simp[W5,Y6,bZ,dB,cB,Y8,fh,hd',p1];show decide ((ck (bZ I GP).L 1 0).I=((bZ I JT).L.length:Int))=true;rw[e1,e0];exact i6 (congrArg Int.ofNat (oI _ n).symm);show some (0,[bZ I JT])=_;rw[e1]
 refine Y9 (by show decide ((I.w 0).I=2)=false;rw[hk];exact j7 k2) ?_;have hR':1<=s/\s<=1048576:=by unfold cY at hR;by_cases k1:k=1;simp[k1]at hR;omega;simp[k1,k2,k3]at hR
 obtain⟨s1,s2⟩:=hR';have sl:s % s=0:=Int.emod_self;obtain⟨n1,n2⟩:=Kq sl s1 s1;have hst:dJ k s l=s:=b9 k2;have hN:fC k s l=(s/s).toNat:=by unfold fC;rw[hst]
 rw[hst,hN];have hn16:(s/s).toNat<=16:=by rw[P6 (by omega)];decide
 generalize (s/s).toNat=n at n1 n2 hN hn16;have q0:=I3 t (show s≠0 by omega);have q1:=I4 t (show 0<s by omega);have hd:bZ I (.Q 709 [aT,aO])= .D (fI t s):=by show I.f 709 [I.w 4,I.w 1]=_;rw[hf,<-ht,<-hs];rfl
 have hD:fI t s=t-t % s:=rfl;generalize fI t s=D at hd hD;have a1:cr .sub .i64 D s=D-s:=lN (by omega) (by omega);have a2:cr .add .i64 (D-s) s=D-s+s:=gN (by omega) (by omega);have hw0:bZ I Is= .D (D-s+s):=by show Val.D (cr .add .i64 (cr .sub .i64 (bZ I (.Q 709 [aT,aO])).I (I.w 1).I) (I.w 1).I)=_;rw[hd,hs];show Val.D (cr .add .i64 (cr .sub .i64 D s) s)=_;rw[a1,a2]
 have e0:bZ I Km=cC (0,[.D n,.D (D-s+s+n*s),.A (cw (jc (D-s+s) s s) n)]):=by show I.f 753 [.D 0,bZ I Is,.A [],I.w 0,I.w 1,I.w 2,I.w 3,bZ I (.Q 709 [aT,aO])]=_;rw[hf,hw0];show cC (0,[.D (fC (I.w 0).I (I.w 1).I (I.w 2).I),.D (D-s+s+fC (I.w 0).I (I.w 1).I (I.w 2).I*dJ (I.w 0).I (I.w 1).I (I.w 2).I),.A (cw (jc (D-s+s) (dJ (I.w 0).I (I.w 1).I (I.w 2).I) (I.w 1).I) (fC (I.w 0).I (I.w 1).I (I.w 2).I))])=_;rw[hk,hs,hl,hN,hst]
 have e1:bZ I Jx= .A (cw (jc (D-s+s) s s) n):=by show ck (bZ I Km).L 1 2=_;rw[e0];rfl
 refine W6 (by rw[dG,cJ,cJ,cG,cG,cI,hs,i6 s1,i6 s2];rfl) (Y3 (r:=(0,[.D n,.D (D-s+s+n*s),.A (cw (jc (D-s+s) s s) n)])) ?_ e0 (W6 ?_ ?_));show cQ _ [.D 0,bZ I Is,.A []]=_;rw[hw0];have hd':I.f 709 [I.w 4,I.w 1]= .D D:=hd;refine cD1 (size:=s) (λi acc hi hacc=> ?_) (λacc=> ?_)
 have b1:(i:Int)*s+s<=n*s:=by have:((i:Int)+1)*s<=n*s:=G5 (by omega) (by omega);rw[E9]at this;omega
 have b2:0<=(i:Int)*s:=I5 (by omega) (by omega);have b3:((i+1:Nat):Int)*s=(i:Int)*s+s:=by rw[Int.natCast_add,E9];simp
 have p1:D-s+s+(i:Int)*s<=D:=by omega
 have p2:cr .add .i64 (D-s+s+(i:Int)*s) s=D-s+s+((i:Int)*s+s):=by rw[gN (by omega) (by omega)];omega
 have p3:cr .add .i64 (D-s+s+(i:Int)*s) s=D-s+s+(i:Int)*s+s:=gN (by omega) (by omega);have p4:(i:Int)+1<=1000000:=by omega
 rw[b3];unfold Wb jc;generalize (i:Int)*s=z at*
 simp only[Int.sub_add_cancel]at p1 p2 p3⊢;simp[W5,Y6,bZ,dB,cB,Y8,fh,hd',hk,hs,k2,p1,p2,p3,p4,hacc];omega
 have p1: ¬D-s+s+(n:Int)*s<=D:=by omega
 unfold Wb;simp only[Int.sub_add_cancel]at p1⊢;simp[W5,Y6,bZ,dB,cB,Y8,fh,hd',p1];show decide ((ck (bZ I Km).L 1 0).I=((bZ I Jx).L.length:Int))=true;rw[e1,e0];exact i6 (congrArg Int.ofNat (oI _ n).symm);show some (0,[bZ I Jx])=_;rw[e1]
end
theorem a3{p q r:Prop} [Decidable p] [Decidable q] [Decidable r](hp:p)(hq:q)(hr:r):(decide p&&decide q&&decide r)=true:=by grind
def dP8(l:U0)(c k:Nat):(jG l c k).length<=1:=by grind[jG,vB,cg]
def dP9(l:U0): ∀k,(cw (jG l 1) k).length=(cw (jG l 0) k).length
 |0=>rfl
 |k+1=>by rw[cw,cw,k7,k7,dP9 l k];grind[jG,vB,cg]
def OX(l:U0): ∀k,∃a b c d,jS l k=[a,b,c,d]
 |0=>⟨_,_,_,_,rfl⟩
 |k+1=>by
  unfold jS;cases vB (cg l k)with
  |true=>exact OX l k
  |false=>
   split<;>exact⟨_,_,_,_,rfl⟩
def DE(l:U0)(k:Nat):U0:=[.D (cw (jG l 0) k).length,.D (cw (jG l 1) k).length,.D k]++jS l k++[.A (cw (jG l 0) k),.A (cw (jG l 1) k)]
section
variable{X:Nat->U0->Val}{I:Opq}(hf: ∀i a,I.f i a=FT X i a)
include hf
def t_join(hn:(I.w 0).L.length<=1000):W5 T_join I=some (0,[(jR (I.w 0).L).getD 0 default,(jR (I.w 0).L).getD 1 default,(jR (I.w 0).L).getD 2 default,(jR (I.w 0).L).getD 3 default,FT X 706 [I.w 0]]):=by
 have gl: ∀k,(cw (jG (I.w 0).L 0) k).length<=k:=λk=>by simpa using jz (g:=jG (I.w 0).L 0) (m:=1) (λ_=>dP8 _ _ _) k
 have gs: ∀k,(cw (jG (I.w 0).L 1) k).length=(cw (jG (I.w 0).L 0) k).length:=λk=>dP9 _ k
 have e0:bZ I kR=cC (0,DE (I.w 0).L (I.w 0).L.length):=by show I.f 752 [.D 0,.D 0,.D 0,.D 0,.D 0,.D 0,.D 0,.A [],.A [],.D 0,.D (I.w 0).L.length,I.w 0,.D (I.w 0).L.length]=_;rw[hf];rfl
 have lp:cQ (λvs=>W5 Qt (I.U 2000 vs)) [.D 0,.D 0,.D 0,.D 0,.D 0,.D 0,.D 0,.A [],.A []]=some (0,DE (I.w 0).L (I.w 0).L.length):=by
  refine fD (st:=DE (I.w 0).L) (n:=(I.w 0).L.length) (λk hk=> ?_) ?_
  have p1:(k:Int)<((I.w 0).L.length:Int):=by omega
  have p2:(0:Int)<=(k:Int):=by omega
  have p3:=ft hk (by omega);have p4: ∀j:Nat,ck (I.w 0).L (k:Int) (j:Int)=Y5 (cg (I.w 0).L k) j:=λ_=>rfl
  have q0:=p4 0;have q1:=p4 1;have q2:=p4 2;have q3:=p4 3;simp only[Int.natCast_zero,show((1:Nat):Int)=1 from rfl,show((2:Nat):Int)=2 from rfl,show((3:Nat):Int)=3 from rfl]at q0 q1 q2 q3;have g1:=gl k;have g2:=gs k;obtain⟨a,b,c,d,hS⟩:=OX (I.w 0).L k;unfold DE;rw[cw,cw,jS,hS];generalize cw (jG (I.w 0).L 0) k=C at*
  generalize cw (jG (I.w 0).L 1) k=T at*
  have g3:(C.length:Int)+1<=1000000:=by omega
  have g4:(T.length:Int)=(C.length:Int):=by omega
  unfold jG vB Fg ci;generalize hr:cg (I.w 0).L k=r at*
  unfold Qt;by_cases hb:(Y5 r 0).I=0/\(Y5 r 1).I=0/\(Y5 r 2).I=0/\(Y5 r 3).I=0;simp_all[W5,Y6,bZ,dB,cB,Y8]
  have hb':(decide ((Y5 r 0).I=0)&&(decide ((Y5 r 1).I=0)&&(decide ((Y5 r 2).I=0)&&decide ((Y5 r 3).I=0))))=false:=by rw[<-A2];intro h;exact hb (by simpa using h)
  simp only[hb',cond_false];by_cases hz:C.length=0;simp[W5,Y6,bZ,dB,cB,Y8,p1,p2,p3,q0,q1,q2,q3,hb,hz,g2,g3,g4];simp_all[W5,Y6,bZ,dB,cB,Y8];obtain⟨a,b,c,d,hS⟩:=OX (I.w 0).L (I.w 0).L.length;unfold DE Qt;simp_all[W5,Y6,bZ,dB,cB,Y8]
 obtain⟨a,b,c,d,hS⟩:=OX (I.w 0).L (I.w 0).L.length;have cl:(jC (I.w 0).L).length<=1000:=l7 (gl _) hn;have tl:(jT (I.w 0).L).length<=1000:=by grind[jT]
 have e1:bZ I kR=cC (0,[.D (jC (I.w 0).L).length,.D (jT (I.w 0).L).length,.D (I.w 0).L.length,a,b,c,d,.A (jC (I.w 0).L),.A (jT (I.w 0).L)]):=by rw[e0];unfold DE;rw[hS];rfl
 have d1:bZ I Jt= .D (jC (I.w 0).L).length:=by show ck (bZ I kR).L 1 0=_;rw[e1];rfl
 have d2:bZ I FW= .A (jC (I.w 0).L):=by show ck (bZ I kR).L 1 7=_;rw[e1];rfl
 have d4:bZ I FH= .D (jT (I.w 0).L).length:=by show ck (bZ I kR).L 1 1=_;rw[e1];rfl
 have d5:bZ I GZ= .A (jT (I.w 0).L):=by show ck (bZ I kR).L 1 8=_;rw[e1];rfl
 have d6:bZ I (zo kR 5)=c:=by show ck (bZ I kR).L 1 5=_;rw[e1];rfl
 have d7:bZ I (zo kR 6)=d:=by show ck (bZ I kR).L 1 6=_;rw[e1];rfl
 have ls: ∀l:U0,(l.drop (0:Int).toNat).take ((l.length:Int)-0).toNat=l:=λl=>by simp
 have d3:bZ I rY= .A (jC (I.w 0).L):=by show Val.A (((bZ I FW).L.drop (0:Int).toNat).take ((bZ I Jt).I-0).toNat)=_;simp_all
 have d8:bZ I tF= .A (jT (I.w 0).L):=by show Val.A (((bZ I GZ).L.drop (0:Int).toNat).take ((bZ I FH).I-0).toNat)=_;simp_all
 unfold T_join;refine Y3 lp e0 (W6 ?_ (W6 ?_ ?_));rw[dG,dG,cJ,cJ,cJ,cG,cG,d1];show((decide ((0:Int)<=((jC (I.w 0).L).length:Int))&&decide (((jC (I.w 0).L).length:Int)<=((bZ I FW).L.length:Int)))&&decide (((bZ I rY).L.length:Int)<=1000000))=true;rw[d2,d3];exact a3 (by omega) (y8 _) (by show((jC (I.w 0).L).length:Int)<=1000000;omega);rw[dG,dG,cJ,cJ,cJ,cG,cG,d4];show((decide ((0:Int)<=((jT (I.w 0).L).length:Int))&&decide (((jT (I.w 0).L).length:Int)<=((bZ I GZ).L.length:Int)))&&decide (((bZ I tF).L.length:Int)<=1000000))=true;rw[d5,d8];exact a3 (by omega) (y8 _) (by show((jT (I.w 0).L).length:Int)<=1000000;omega)
 have f1:I.f 703 [bZ I rY]= .D (gB (jC (I.w 0).L)):=by rw[hf,d3];rfl
 have f2:I.f 703 [bZ I tF]= .D (gB (jT (I.w 0).L)):=by rw[hf,d8];rfl
 have f3:I.f 702 [bZ I rY]= .D (sF (jC (I.w 0).L)):=by rw[hf,d3];rfl
 have f4:I.f 702 [bZ I tF]= .D (sF (jT (I.w 0).L)):=by rw[hf,d8];rfl
 show W5 (.J (cX (.Q 703 [rY]) aM) _ _) I=some (0,[(jR (I.w 0).L).getD 0 default,(jR (I.w 0).L).getD 1 default,(jR (I.w 0).L).getD 2 default,(jR (I.w 0).L).getD 3 default,.D (jE (I.w 0).L)]);unfold jR jE;rw[hS];by_cases h1:gB (jC (I.w 0).L)=0;refine Y9 ?_ ?_;show(!decide ((I.f 703 [bZ I rY]).I=0))=false;simp_all;by_cases h2:gB (jT (I.w 0).L)=0;rw[b9 (by omega),b9 (by omega)];refine Y9 ?_ ?_;show(!decide ((I.f 703 [bZ I tF]).I=0))=false;simp_all;show some (0,[I.f 702 [bZ I rY],I.f 702 [bZ I tF],bZ I (zo kR 5),bZ I (zo kR 6),.D 0])=_;grind;rw[c9 (.inr h2),c9 (.inr h2)];refine cD ?_ rfl;show(!decide ((I.f 703 [bZ I tF]).I=0))=true;simp_all;rw[c9 (.inl h1),c9 (.inl h1)];refine cD ?_ rfl;show(!decide ((I.f 703 [bZ I rY]).I=0))=true;simp_all
end
def b78{I:Opq}{hd:LHd}{l:SX}{b k:VT}{ks:abg}{D:U0}{x:Option (Nat×U0)}(h1:Ej (λvs=>W5 b (I.U hd.v0 vs)) (dL I l).length (Y6 I hd.s0) D)(h2:I.f hd.id (Y6 I (hd.s0++hd.fv))=cC (0,[.D D.length,.A D]))(h3:W5 k I=x):W5 (.mloop hd l b (k::ks)) I=x:=by rw[W5,c9 ⟨D,h1,h2⟩];exact h3
theorem run_map{step:U0->Option (Nat×U0)}{g:Nat->U0}(hg: ∀i,(g i).length<=1)
 (h: ∀(i:Nat) (A:U0),A.length<1000000->step [.D A.length,.A A,.D i]=some (0,[.D (A++g i).length,.A (A++g i)])): ∀(p:HQ) (A:U0),A.length+p.length<=1000000->
 jg step p [.D A.length,.A A]=some [.D (A++p.flatMap g).length,.A (A++p.flatMap g)]
 | [],A,_=>by rw[List.flatMap_nil,o9];rfl
 |i::p,A,hl=>by rw[List.length_cons]at hl;have:=hg i;have ih:=run_map hg h p (A++g i) (by rw[k7];omega);rw[jg];show(match step [.D A.length,.A A,.D i]with|some (0,s')=>jg step p s'|_=>none)=_;rw[h i A (by omega)];show jg _ p [.D (A++g i).length,.A (A++g i)]=_;rw[ih,A8];rfl
def map_map{step:U0->Option (Nat×U0)}{g:Nat->U0}{n:Nat}(hn:n<=1000000)(hg: ∀i,(g i).length<=1)
 (h: ∀(i:Nat) (A:U0),A.length<1000000->step [.D A.length,.A A,.D i]=some (0,[.D (A++g i).length,.A (A++g i)])):Ej step n [.D (0:Nat),.A []] (cw g n):=by
 rw[nw];constructor;exact run_map hg h (List.range n) [] (by simpa using hn);intro p hp;have:=run_map hg h p [] (by rw[hp.length_eq];simpa using hn);exact⟨_,this,hp.flatMap_right _⟩
section
variable{X:Nat->U0->Val}{I:Opq}(hf: ∀i a,I.f i a=FT X i a)
include hf
def t_aput:W5 T_aput I=some (0,[(pz (I.w 0) (I.w 1) (I.w 2) (I.w 3) (I.w 4)).getD 0 default,(pz (I.w 0) (I.w 1) (I.w 2) (I.w 3) (I.w 4)).getD 1 default,(pz (I.w 0) (I.w 1) (I.w 2) (I.w 3) (I.w 4)).getD 2 default,(pz (I.w 0) (I.w 1) (I.w 2) (I.w 3) (I.w 4)).getD 3 default,FT X 708 [I.w 0,I.w 1,I.w 2,I.w 3,I.w 4]]):=by
 have r0:bZ I lB= .A (pR (I.w 0) (I.w 1) (I.w 2) (I.w 3) (I.w 4)):=rfl;have f6:I.f 706 [bZ I lB]= .D (jE (pR (I.w 0) (I.w 1) (I.w 2) (I.w 3) (I.w 4))):=by rw[hf,r0];rfl
 have f5:I.f 705 [bZ I lB]= .A [.A (jR (pR (I.w 0) (I.w 1) (I.w 2) (I.w 3) (I.w 4)))]:=by rw[hf,r0];rfl
 have f8:FT X 708 [I.w 0,I.w 1,I.w 2,I.w 3,I.w 4]= .D (jE (pR (I.w 0) (I.w 1) (I.w 2) (I.w 3) (I.w 4))):=rfl;rw[f8];unfold T_aput pz;generalize pR (I.w 0) (I.w 1) (I.w 2) (I.w 3) (I.w 4)=l at r0 f5 f6;refine W6 (by rw[cJ,cG];exact i6 (by show(2:Int)<=1000;omega)) ?_;by_cases h:jE l=0;rw[b9 (by simp[h])];refine Y9 ?_ ?_;show(!decide ((I.f 706 [bZ I lB]).I=0))=false;rw[f6];simp[h];show some (0,[ck (I.f 705 [bZ I lB]).L 0 0,ck (I.f 705 [bZ I lB]).L 0 1,ck (I.f 705 [bZ I lB]).L 0 2,ck (I.f 705 [bZ I lB]).L 0 3,.D 0])=_;rw[f5,h];rfl;rw[c9 h];refine cD ?_ ?_;show(!decide ((I.f 706 [bZ I lB]).I=0))=true;rw[f6];simp[h];show some (0,[I.w 0,I.w 1,I.w 2,I.w 3,I.f 706 [bZ I lB]])=_;rw[f6];rfl
def t_trows(h431: ∀v:Val,(X 431 [v]).Z=true->v= .A v.L/\ ∀r∈v.L,cO r=r)(hn:dB I (zn (zn (zb (zl 4) 400) (.Q 431 [aT])) (.Q 491 [aT]))=true):
 W5 T_trows I=some (0,[X 490 [I.w 4]]):=by
 obtain⟨n1,n2⟩:=W7 (show(dB I (zn (zb (zl 4) 400) (.Q 431 [aT]))&&dB I (.Q 491 [aT]))=true from hn);obtain⟨n3,n4⟩:=W7 (show(dB I (zb (zl 4) 400)&&dB I (.Q 431 [aT]))=true from n1);have n3':((I.w 4).L.length:Int)<=400:=j6 n3;obtain⟨e4,hk⟩:=h431 (I.w 4) (by rw[show X 431 [I.w 4]=I.f 431 [I.w 4]from(hf 431 [I.w 4]).symm];exact n4);have hm:(I.w 4).L.map cO=(I.w 4).L:=by
  conv=>rhs;rw[<-F5 (I.w 4).L]
  exact y6 hk
 have e0:bZ I Fe=cC (0,[.D (I.w 4).L.length,I.w 4]):=by show I.f 750 [.D 0,.A [],I.w 4]=_;rw[hf];show cC (0,[.D (I.w 4).L.length,.A ((I.w 4).L.map cO)])=_;rw[hm,<-e4]
 have e1:bZ I qB=I.w 4:=by show ck (bZ I Fe).L 1 1=_;rw[e0];rfl
 have hga:cw (λi=>[cO (cg (I.w 4).L i)]) (I.w 4).L.length=(I.w 4).L:=by
  rw[nw];refine Eq.trans ?_ hm;rw[<-T2];refine J4 (by simp) (λi h1 h2=> ?_);have hi:i<(I.w 4).L.length:=by simpa using h1
  simp[cg,k5,hi]
 unfold T_trows;refine b78 (D:=(I.w 4).L) ?_ ?_ (W6 ?_ ?_);show Ej _ (I.w 4).L.length [.D ((0:Nat):Int),.A []] (I.w 4).L;have:=map_map (step:=λvs=>W5 XQ (I.U 2000 vs)) (g:=λi=>[cO (cg (I.w 4).L i)]) (n:=(I.w 4).L.length) (by omega) (λ_=>j5 _) (λi A hA=> ?_);rw[hga]at this;exact this
 have p4: ∀j:Nat,ck (I.w 4).L (i:Int) (j:Int)=Y5 (cg (I.w 4).L i) j:=λ_=>rfl
 have q0:=p4 0;have q1:=p4 1;have q2:=p4 2;have q3:=p4 3;have q4:=p4 4;have q5:=p4 5;have q6:=p4 6;simp only[Int.natCast_zero,show((1:Nat):Int)=1 from rfl,show((2:Nat):Int)=2 from rfl,show((3:Nat):Int)=3 from rfl,show((4:Nat):Int)=4 from rfl,show((5:Nat):Int)=5 from rfl,show((6:Nat):Int)=6 from rfl]at q0 q1 q2 q3 q4 q5 q6;have g3:(A.length:Int)+1<=1000000:=by omega
 unfold XQ cO;simp[W5,Y6,bZ,dB,cB,Y8,q0,q1,q2,q3,q4,q5,q6,g3]
 show bZ I Fe=_;rw[e0];conv=>lhs;rw[e4]
 rfl;show(decide ((ck (bZ I Fe).L 1 0).I=((bZ I qB).L.length:Int))&&(decide (((bZ I qB).L.length:Int)<=400)&&(I.f 431 [bZ I qB]).Z&&(I.f 491 [bZ I qB]).Z))=true;rw[e1,e0];have m1:(I.f 431 [I.w 4]).Z=true:=n4;have m2:(I.f 491 [I.w 4]).Z=true:=n2;rw[m1,m2];show(decide (((I.w 4).L.length:Int)=((I.w 4).L.length:Int))&&(decide (((I.w 4).L.length:Int)<=400)&&true&&true))=true;simp;omega;show some (0,[I.f 490 [bZ I qB]])=_;rw[e1,hf];rfl
end
def ep9{a b c:Bool}(h1:a=true)(h2:b=true)(h3:c=true):(a&&(b&&c))=true:=by grind
theorem FY(x y:Val):Go.Proofs.ltOf spanV x y=decide (ci x 1<ci y 1\/ci x 1=ci y 1/\ci x 0<ci y 0):=by unfold Go.Proofs.ltOf spanV Fi;grind
theorem swo_spanV:Go.Sort.SWO (Go.Proofs.ltOf spanV)where
 irrefl x:=by grind[FY,decide_eq_false]
 trans x y z h1 h2:=by
  rw[FY]at*
  grind
 ntrans x y z h1 h2:=by grind[FY,of_decide_eq_false,decide_eq_false]
def cD2(l:U0)(key:qw)(i:Nat):(CO l key i).length<=1:=by grind[CO,decide,Y5,cg]
def QD(key:qw)(r:Val):U0:=bif decide ((Y5 r 0).S=key)then [.A [Y5 r 1,Y5 r 2]]else []
def c57(l:U0)(key:qw):gQ l key=l.flatMap (QD key):=by
 unfold gQ;rw[nw];show((List.range l.length).flatMap λi=>QD key (l.getD i (.A [])))=_;induction l with
 |nil=>rfl
 |cons a l ih=>
  simp_all[List.length_cons,J5,B2,K9]
theorem Il(l:U0)(key:qw):(gQ l key).length<=l.length:=by unfold gQ;simpa using jz (g:=CO l key) (m:=1) (cD2 l key) l.length
def dc2{l:U0}(key:qw)(h:(l.map Y2).Nodup):((gQ l key).map Y7).Nodup:=by
 rw[c57];induction l with
 |nil=>grind
 |cons a l ih=>
  rw[m8,E7]at h;rw[B2,r9];unfold QD;cases hk:decide ((Y5 a 0).S=key)with
  |false=>exact ih h.2
  |true=>
   show(Y7 (.A [Y5 a 1,Y5 a 2])::_).Nodup;rw[E7];refine⟨λhm=>h.1 ?_,ih h.2⟩;obtain⟨x,hx,e⟩:=j9.1 hm;obtain⟨r,hr,hx⟩:=A7.1 hx;cases hk':decide ((Y5 r 0).S=key)with
   |false=>grind
   |true=>
    rw[hk']at hx;have hx:x∈[Val.A [Y5 r 1,Y5 r 2]]:=hx;rw[o7]at hx;subst hx;have e1:(Y5 r 1).I=(Y5 a 1).I:=congrArg Prod.fst e;have e2:(Y5 r 2).I=(Y5 a 2).I:=congrArg Prod.snd e;grind[Y2]
section
variable{X:Nat->U0->Val}{I:Opq}(hf: ∀i a,I.f i a=FT X i a)
include hf
def t_tsess(h491: ∀v:Val,(X 491 [v]).Z=true->(v.L.map Y2).Nodup)(hn:dB I (zn (zb (zl 4) 400) (.Q 491 [aT]))=true):
 W5 T_tsess I=some (0,[FT X 723 [I.w 4,I.w 5]]):=by
 obtain⟨n3,n4⟩:=W7 (show(dB I (zb (zl 4) 400)&&dB I (.Q 491 [aT]))=true from hn);have n3':((I.w 4).L.length:Int)<=400:=j6 n3;have nd:=h491 (I.w 4) (by rw[show X 491 [I.w 4]=I.f 491 [I.w 4]from(hf 491 [I.w 4]).symm];exact n4);have sl:=Il (I.w 4).L (I.w 5).S;have sn:=dc2 (I.w 5).S nd;have e0:bZ I IL=cC (0,[.D (gQ (I.w 4).L (I.w 5).S).length,.A (gQ (I.w 4).L (I.w 5).S)]):=by show I.f 757 [.D 0,.A [],I.w 5,I.w 4]=_;rw[hf];rfl
 have hs:FT X 723 [I.w 4,I.w 5]= .A (gn spanV (gQ (I.w 4).L (I.w 5).S)):=rfl;rw[hs];have hg: ∀i,(CO (I.w 4).L (I.w 5).S i).length<=1:=cD2 _ _;have hmap:Ej (λvs=>W5 Vv (I.U 2000 vs)) (I.w 4).L.length [.D ((0:Nat):Int),.A []] (gQ (I.w 4).L (I.w 5).S):=by
  refine map_map (by omega) hg (λi A hA=> ?_);have p4: ∀j:Nat,ck (I.w 4).L (i:Int) (j:Int)=Y5 (cg (I.w 4).L i) j:=λ_=>rfl
  have q0:=p4 0;have q1:=p4 1;have q2:=p4 2;simp at q0 q1 q2;have g3:(A.length:Int)+1<=1000000:=by omega
  unfold Vv CO;by_cases hk:(Y5 (cg (I.w 4).L i) 0).S=(I.w 5).S;simp[W5,Y6,bZ,dB,cB,Y8,q0,q1,q2,g3,hk];simp_all[W5,Y6,bZ,dB,cB,Y8]
 generalize gQ (I.w 4).L (I.w 5).S=D at*
 have e1:bZ I JK= .D D.length:=by show ck (bZ I IL).L 1 0=_;rw[e0];rfl
 have e2:bZ I qg= .A D:=by show ck (bZ I IL).L 1 1=_;rw[e0];rfl
 have e3:I.f 715 [bZ I qg]= .A (gn spanV D):=by rw[e2,hf];rfl
 refine b78 (D:=D) hmap e0 (W6 ?_ (W6 ?_ ?_));show(decide ((bZ I JK).I=((bZ I qg).L.length:Int))&&(decide (((bZ I qg).L.length:Int)<=1000000)&&(I.f 716 [bZ I qg]).Z))=true;rw[e1,e2,hf];exact ep9 (i6 rfl) (i6 (by show(D.length:Int)<=1000000;omega)) (i6 sn);show decide ((bZ I JK).I=((I.f 715 [bZ I qg]).L.length:Int))=true;simp_all[i6,congrArg,Lh,swo_spanV];show some (0,[I.f 715 [bZ I qg]])=_;rw[e3]
end
section
variable{X:Nat->U0->Val}{I:Opq}(hf: ∀i a,I.f i a=FT X i a)
include hf
omit hf in
def cD3{i:Nat}(hn:(I.w 1).L.length<=400)(hi:i<(I.w 1).L.length):
 W5 Dy (I.U 2000 [.B false,.D i])=if nR (I.w 0).I (I.w 1).L i=true then some (2,[.B false,.D i])else some (0,[.B false,.D (i+1:Nat)]):=by
 have p1:(i:Int)<((I.w 1).L.length:Int):=by omega
 have p2:(0:Int)<=(i:Int):=by omega
 have p3:=ft hi (by omega);have p0:(ck (I.w 1).L (i:Int) (0:Int)).I=ci (cg (I.w 1).L i) 0:=rfl;have p4:(ck (I.w 1).L (i:Int) (1:Int)).I=ci (cg (I.w 1).L i) 1:=rfl;have p5:0<i->cr .sub .i64 (i:Int) 1=((i-1:Nat):Int):=λh=>by grind[lN]
 have p6:(ck (I.w 1).L ((i-1:Nat):Int) (1:Int)).I=ci (cg (I.w 1).L (i-1)) 1:=rfl;unfold nR dP6;generalize hs:ci (cg (I.w 1).L i) 0=s at*
 generalize he:ci (cg (I.w 1).L i) 1=e at*
 generalize hp:ci (cg (I.w 1).L (i-1)) 1=p at*
 generalize hg:(I.w 0).I=g;generalize hw:cr .sub .i64 e s=w;unfold Dy;have z1:((i-1:Nat):Int)<((I.w 1).L.length:Int):=by omega
 have z2:(0:Int)<=((i-1:Nat):Int):=by omega
 rcases N7 i with i0|i0
 subst i0;have h0:(0:Int)<((I.w 1).L.length:Int):=by omega
 have p3':cr .add .i64 0 1=1:=p3;have p0':(ck (I.w 1).L 0 0).I=s:=p0;have p4':(ck (I.w 1).L 0 1).I=e:=p4;clear p0 p1 p2 p3 p4 p5 p6 z1 z2 hp;by_cases a1:0<=e<;>by_cases a2:0<=s<;>by_cases a3:0<=w<;>by_cases a4:e<=s<;>by_cases a5:w<g<;>
  simp[W5,Y6,bZ,dB,cB,Y8,hi,h0,p3',p0',p4',hg,hw,a1,a2,a3,a4,a5]
 have p5:=p5 i0;have i1:(0:Int)<(i:Int):=by omega
 by_cases a1:0<=e<;>by_cases a2:0<=s<;>by_cases a3:0<=w<;>by_cases a4:e<=s<;>by_cases a5:w<g<;>by_cases a6:s<p<;>
  simp[W5,Y6,bZ,dB,cB,Y8,p1,p2,p3,p0,p4,p5,p6,hg,hw,a1,a2,a3,a4,a5,a6,i0,i1,z1,z2]
def t_sRight(hn:dB I (zb (zl 1) 400)=true):W5 T_sRight I=some (0,[FT X 711 [I.w 0,I.w 1]]):=by
 have hn:((I.w 1).L.length:Int)<=400:=j6 hn;have hF:FT X 711 [I.w 0,I.w 1]= .B (!(List.range (I.w 1).L.length).any (nR (I.w 0).I (I.w 1).L)):=rfl;have h0:=JP (x:= .B false) (px:=λk=>[.B false,.D k]) (bad:=nR (I.w 0).I (I.w 1).L) (n:=(I.w 1).L.length);have e0:I.f 754 [.B false,.D 0,I.w 0,.D 0,.D (I.w 1).L.length,I.w 1,.D 0,.D (I.w 1).L.length,I.w 1,.D (I.w 1).L.length]=cC (gg (.B false) (λk=>[.B false,.D k]) (nR (I.w 0).I (I.w 1).L) (I.w 1).L.length):=by rw[hf];rfl
 rw[hF];unfold T_sRight;refine Y3 (r:=gg (.B false) (λk=>[.B false,.D k]) (nR (I.w 0).I (I.w 1).L) (I.w 1).L.length) ?_ e0 ?_;show cQ _ [.B false,.D 0]=_;refine wH (λi hi hb=> ?_) (λi hi hb=> ?_) ?_;show W5 Dy (I.U 2000 [.B false,.D i])=_;rw[cD3 (by omega) hi,hb];rfl;show W5 Dy (I.U 2000 [.B false,.D i])=_;rw[cD3 (by omega) hi,hb];rfl;simp_all[Dy,W5,Y6,bZ,dB,cB,Y8]
 rw[h0]at e0;rw[h0];cases hb:(List.range (I.w 1).L.length).any (nR (I.w 0).I (I.w 1).L)with
 |true=>
  rw[hb]at e0;show some (0,[ck (I.f 754 [.B false,.D 0,I.w 0,.D 0,.D (I.w 1).L.length,I.w 1,.D 0,.D (I.w 1).L.length,I.w 1,.D (I.w 1).L.length]).L 1 0])=_;rw[e0];rfl
 |false=>rfl
end
def cD4(l:U0)(t o:Int)(i:Nat):(CC l t o i).length<=1:=by grind[CC,rW,cg]
def cD5(l:U0)(t o:Int)(i:Nat):(zK l t o i).length<=1:=by grind[zK,rW,cg]
def XS(l:U0)(x:Int): ∀n i j:Nat,i<=j->j-i<=n->i<=oN l x n i j/\oN l x n i j<=j
 |0,i,j,h,h2=>by grind[oN]
 |n+1,i,j,h,h2=>by unfold oN;split;split;have:=XS l x n ((i+j)/2+1) j (by omega) (by omega);omega;have:=XS l x n i ((i+j)/2) (by omega) (by omega);omega;omega
def TW{step:U0->Option (Nat×U0)}{l:U0}{x:Int}{m:Nat}
 (h1: ∀i j:Nat,i<j->j<=m->step [.D i,.D j]=some (0,if ci (cg l ((i+j)/2)) 0<x then [.D ((i+j)/2+1:Nat),.D j]else [.D i,.D ((i+j)/2:Nat)]))
 (h2: ∀i:Nat,step [.D i,.D i]=some (1,[.D i,.D i])): ∀n i j:Nat,i<=j->j<=m->j-i<=n->cQ step [.D i,.D j]=some (0,[.D (oN l x n i j),.D (oN l x n i j)])
 |0,i,j,a,b,c=>by
  obtain rfl:i=j:=by omega
  rw[kK];exact .out (h2 i)
 |n+1,i,j,a,b,c=>by
  unfold oN;by_cases h:i<j;rw[c9 h];have s:=h1 i j h b;by_cases q:ci (cg l ((i+j)/2)) 0<x;rw[c9 q]at s⊢;have:=TW h1 h2 n ((i+j)/2+1) j (by omega) b (by omega);rw[kK]at this⊢;exact .more s this;rw[b9 q]at s⊢;have:=TW h1 h2 n i ((i+j)/2) (by omega) (by omega) (by omega);rw[kK]at this⊢;exact .more s this
  rw[b9 h];obtain rfl:i=j:=by omega
  rw[kK];exact .out (h2 i)
def zG(l:U0)(t o:Val)(k:Nat):U0:=[.D (cw (CC l t.I o.I) k).length,.D (cw (zK l t.I o.I) k).length,.D k,(mu l t o k).1,(mu l t o k).2,.A (cw (CC l t.I o.I) k),.A (cw (zK l t.I o.I) k)]
def e80{I:Opq}{l:U0}(h2:(I.w 2).L=l)(hl:l.length<=24):
 cQ (λvs=>W5 PN (I.U 2000 vs)) [.D 0,.D 0,.D 0,I.w 1,.D (cr .add .i64 (I.w 1).I (I.w 0).I),.A [],.A []]=some (0,zG l (I.w 1) (.D (cr .add .i64 (I.w 1).I (I.w 0).I)) l.length):=by
 refine fD (st:=zG l (I.w 1) (.D (cr .add .i64 (I.w 1).I (I.w 0).I))) (n:=l.length) (λk hk=> ?_) ?_
 have p1:(k:Int)<(l.length:Int):=by omega
 have p2:(0:Int)<=(k:Int):=by omega
 have p3:=ft hk (by omega);have p4: ∀j:Nat,ck l (k:Int) (j:Int)=Y5 (cg l k) j:=λ_=>rfl
 have q0:=p4 0;have q1:=p4 1;simp only[Int.natCast_zero,show((1:Nat):Int)=1 from rfl]at q0 q1;have g1:=jz (λi=>cD4 l (I.w 1).I (cr .add .i64 (I.w 1).I (I.w 0).I) i) k;have g2:=jz (λi=>cD5 l (I.w 1).I (cr .add .i64 (I.w 1).I (I.w 0).I) i) k;unfold zG;simp only[cw,mu,a01];generalize cw (CC l (I.w 1).I (cr .add .i64 (I.w 1).I (I.w 0).I)) k=J at*
 generalize cw (zK l (I.w 1).I (cr .add .i64 (I.w 1).I (I.w 0).I)) k=A at*
 generalize mu l (I.w 1) (.D (cr .add .i64 (I.w 1).I (I.w 0).I)) k=N at*
 unfold CC zK rW ep ci;have g3:(J.length:Int)+1<=1000000:=by omega
 have g4:(A.length:Int)+1<=1000000:=by omega
 generalize hr:cg l k=r at*
 generalize ho:cr .add .i64 (I.w 1).I (I.w 0).I=o at*
 unfold PN;by_cases c1:(Y5 r 0).I<o<;>by_cases c2:(I.w 1).I<(Y5 r 1).I<;>
  simp[W5,Y6,bZ,dB,cB,Y8,h2,p1,p2,p3,q0,q1,ho,g3,g4,c1,c2]
 unfold zG PN;simp_all[W5,Y6,bZ,dB,cB,Y8]
def kQ:SX:= zh aU aR
def dt1:TP= .J (zs aU aR) (.N (zn (zp kQ) (zs kQ gP)) (.N (zs kQ (zL iW)) (.J (zs (cq iW kQ 0) gK) (.W 0 [zi kQ,aR]) (.J (dF (cq iW kQ 0) gK) (.W 0 [aU,kQ]) (.W 0 [aU,kQ]))))) (.W 1 [aU,aR]):=rfl
def dt2{i j m:Nat}(h:i<j)(hj:j<=m)(hm:m<=1000000):IntKind.i64.wrap (cr .shr .u64 (IntKind.u64.wrap (cr .add .i64 (i:Int) (j:Int))) 1)=(((i+j)/2:Nat):Int):=by
 rw[gN (by omega) (by omega)];have e1:IntKind.u64.wrap ((i:Int)+(j:Int))=(i:Int)+(j:Int):=by simp only[IntKind.wrap,IntKind.bits,IntKind.signed];simp;omega
 have e2:cr .shr .u64 ((i:Int)+(j:Int)) 1=(((i+j)/2:Nat):Int):=by show((i:Int)+(j:Int)).fdiv (2^(min (1:Int).toNat IntKind.u64.bits))=_;rw[show(2:Int)^(min (1:Int).toNat IntKind.u64.bits)=2 from rfl,Q3 _ (by omega)];omega
 grind[nL]
def e81{I:Opq}{A:U0}{x:Val}(hA:A.length<=24)(d2: ∀vs,bZ (I.U 2000 vs) gP= .D A.length)(d3: ∀vs,bZ (I.U 2000 vs) iW= .A A)(d4: ∀vs,bZ (I.U 2000 vs) gK=x):
 cQ (λvs=>W5 TP (I.U 2000 vs)) [.D 0,.D A.length]=some (0,[.D (oN A x.I A.length 0 A.length),.D (oN A x.I A.length 0 A.length)]):=by
 refine TW (m:=A.length) (λi j h hj=> ?_) (λi=> ?_) A.length 0 A.length (by omega) (j5 _) (by omega)
 have d2:=d2 [.D i,.D j];have d3:=d3 [.D i,.D j];have d4:=d4 [.D i,.D j];have v0:(I.U 2000 [.D i,.D j]).w 2000= .D i:=by rfl
 have v1:(I.U 2000 [.D i,.D j]).w 2001= .D j:=by rfl
 generalize I.U 2000 [.D i,.D j]=aa at*
 have dh:bZ aa kQ= .D ((i+j)/2:Nat):=by show Val.D (IntKind.i64.wrap (cr .shr .u64 (IntKind.u64.wrap (cr .add .i64 (aa.w 2000).I (aa.w 2001).I)) 1))=_;rw[v0,v1];exact congrArg Val.D (dt2 h hj (by omega))
 have hlt:(i+j)/2<A.length:=by omega
 have dg:bZ aa (cq iW kQ 0)=Y5 (cg A ((i+j)/2)) 0:=by show ck (bZ aa iW).L (bZ aa kQ).I 0=_;rw[d3,dh];rfl
 rw[dt1];refine cD ?_ (W6 ?_ (W6 ?_ ?_));show decide ((aa.w 2000).I<(aa.w 2001).I)=true;simp_all;rw[dG,cJ,cG,dh];show(decide ((0:Int)<=(((i+j)/2:Nat):Int))&&decide ((bZ aa kQ).I<(bZ aa gP).I))=true;rw[dh,d2,i6 (show(0:Int)<=(((i+j)/2:Nat):Int) by omega)];exact i6 (by show(((i+j)/2:Nat):Int)<(A.length:Int);omega);show decide ((bZ aa kQ).I<((bZ aa iW).L.length:Int))=true;rw[dh,d3];exact i6 (by show(((i+j)/2:Nat):Int)<(A.length:Int);omega);by_cases q:ci (cg A ((i+j)/2)) 0<x.I;rw[c9 q];refine cD ?_ ?_;show decide ((bZ aa (cq iW kQ 0)).I<(bZ aa gK).I)=true;rw[dg,d4];exact i6 q;show some (0,[Val.D (cr .add .i64 (bZ aa kQ).I 1),aa.w 2001])=_;rw[dh,v1];rw[show cr .add .i64 (Val.D (((i+j)/2:Nat):Int)).I 1=(((i+j)/2+1:Nat):Int)from ft hlt (by omega)];rw[b9 q];refine Y9 ?_ ?_;show decide ((bZ aa (cq iW kQ 0)).I<(bZ aa gK).I)=false;rw[dg,d4];exact j7 q
 have e:some (0,[aa.w 2000,bZ aa kQ])=some ((0:Nat),[Val.D i,Val.D (((i+j)/2:Nat):Int)]):=by grind
 cases hc:dB aa (dF (cq iW kQ 0) gK)with
 |true=>exact cD hc e
 |false=>exact Y9 hc e
 .have v0:(I.U 2000 [.D i,.D i]).w 2000= .D i:=by rfl
  have v1:(I.U 2000 [.D i,.D i]).w 2001= .D i:=by rfl
  generalize I.U 2000 [.D i,.D i]=aa at*
  refine Y9 ?_ ?_;show decide ((aa.w 2000).I<(aa.w 2001).I)=false;grind;show some (1,[aa.w 2000,aa.w 2001])=_;grind
def cD7(x a b:Int)(h:a<=b):x=max a (min x b)↔a<=x/\x<=b:=by omega
section
variable{X:Nat->U0->Val}{I:Opq}(hf: ∀i a,I.f i a=FT X i a)
include hf
def t_sinsert(hn:dB I (zb (zl 2) 24)=true):W5 T_sinsert I=some (0,[ck (FT X 718 [I.w 0,I.w 1,I.w 2]).L 0 0,ck (FT X 718 [I.w 0,I.w 1,I.w 2]).L 0 1,FT X 720 [I.w 0,I.w 1,I.w 2],FT X 717 [I.w 0,I.w 1,I.w 2],FT X 719 [I.w 0,I.w 1,I.w 2]]):=by
 have hn:((I.w 2).L.length:Int)<=24:=j6 hn;have a8:FT X 718 [I.w 0,I.w 1,I.w 2]= .A [.A (bif jD (I.w 0).I (I.w 1).I (I.w 2).L then [(ji (I.w 0) (I.w 1) (I.w 2).L).1,(ji (I.w 0) (I.w 1) (I.w 2).L).2]else [.D 0,.D 0])]:=rfl;have a0:FT X 720 [I.w 0,I.w 1,I.w 2]= .D (bif jD (I.w 0).I (I.w 1).I (I.w 2).L then 0 else 2):=rfl;have a7:FT X 717 [I.w 0,I.w 1,I.w 2]= .A (bif jD (I.w 0).I (I.w 1).I (I.w 2).L then rI (I.w 0) (I.w 1) (I.w 2).L else []):=rfl;have a9:FT X 719 [I.w 0,I.w 1,I.w 2]= .A (bif jD (I.w 0).I (I.w 1).I (I.w 2).L then FO (jk (I.w 0) (I.w 1) (I.w 2).L) (pv (I.w 0) (I.w 1) (I.w 2).L) (ji (I.w 0) (I.w 1) (I.w 2).L).1 (ji (I.w 0) (I.w 1) (I.w 2).L).2 else []):=rfl;rw[a8,a0,a7,a9];have c1:dB I (cF aN (.O .imax [aZ,.O .imin [aN,bX]]))=(decide (1<=(I.w 0).I)&&decide ((I.w 0).I<=1048576)):=by rw[dY,cI,show(bZ I (.O .imax [aZ,.O .imin [aN,bX]])).I=max 1 (min (I.w 0).I 1048576)from rfl,<-Bool.decide_and,decide_eq_decide];omega
 have c2:dB I (cX aO (.O .imax [.C (-1099511627776),.O .imin [aO,bY]]))= !dW (I.w 1).I:=by show(!decide ((I.w 1).I=max (-1099511627776) (min (I.w 1).I 1099511627776)))=_;simp_all[dW,Bool.decide_and,decide_eq_decide,cD7]
 have c3:dB I (dR (.Q 711 [aN,aS]))=(List.range (I.w 2).L.length).any (nR (I.w 0).I (I.w 2).L):=by show(!(I.f 711 [I.w 0,I.w 2]).Z)=_;rw[hf];exact R6 _
 cases g1:(decide (1<=(I.w 0).I)&&decide ((I.w 0).I<=1048576))with
 |false=>
  have:jD (I.w 0).I (I.w 1).I (I.w 2).L=false:=by grind[jD]
  rw[this];exact Y9 (c1.trans g1) rfl
 |true=>
 refine cD (c1.trans g1) ?_;cases g2:dW (I.w 1).I with
 |false=>
  have:jD (I.w 0).I (I.w 1).I (I.w 2).L=false:=by grind[jD]
  rw[this];exact cD (by grind) rfl
 |true=>
 refine Y9 (by grind) (W6 (by grind[cJ,cG,decide_eq_true]) ?_);cases g3:(List.range (I.w 2).L.length).any (nR (I.w 0).I (I.w 2).L)with
 |true=>
  have:jD (I.w 0).I (I.w 1).I (I.w 2).L=false:=by grind[jD]
  rw[this];exact cD (c3.trans g3) rfl
 |false=>
 have hok:jD (I.w 0).I (I.w 1).I (I.w 2).L=true:=by grind[jD]
 rw[hok];refine Y9 (c3.trans g3) ?_;obtain⟨l,h2⟩: ∃l,(I.w 2).L=l:=⟨_,rfl⟩;rw[h2]at hn⊢;have own:bZ I oD=qi (I.w 0).I (I.w 1).I:=rfl;have E1: ∀vs,bZ (I.U 2000 vs) kl=cC (0,zG l (I.w 1) (qi (I.w 0).I (I.w 1).I) l.length):=λvs=>by
  have w0:(I.U 2000 vs).w 0=I.w 0:=by rfl
  have w1:(I.U 2000 vs).w 1=I.w 1:=by rfl
  have w2:(I.U 2000 vs).w 2=I.w 2:=by rfl
  have wf:(I.U 2000 vs).f=I.f:=rfl;generalize I.U 2000 vs=aa at*
  have own':bZ aa oD=qi (I.w 0).I (I.w 1).I:=by show Val.D (cr .add .i64 (aa.w 1).I (aa.w 0).I)=_;rw[w0,w1];rfl
  show aa.f 755 [.D 0,.D 0,.D 0,aa.w 1,bZ aa oD,.A [],.A [],aa.w 1,bZ aa oD,aa.w 1,bZ aa oD,.D 0,.D (aa.w 2).L.length,aa.w 2,.D (aa.w 2).L.length]=_;rw[wf,hf,w1,w2,own',<-h2];rfl
 have e1:bZ I kl=cC (0,zG l (I.w 1) (qi (I.w 0).I (I.w 1).I) l.length):=by show I.f 755 [.D 0,.D 0,.D 0,I.w 1,bZ I oD,.A [],.A [],I.w 1,bZ I oD,I.w 1,bZ I oD,.D 0,.D (I.w 2).L.length,I.w 2,.D (I.w 2).L.length]=_;rw[hf,own,<-h2];rfl
 have lA:(jk (I.w 0) (I.w 1) l).length<=24:=by have:=jz (λi=>cD5 l (I.w 1).I (qi (I.w 0).I (I.w 1).I).I i) l.length;grind[jk,Qy]
 have D2: ∀vs,bZ (I.U 2000 vs) gP= .D (jk (I.w 0) (I.w 1) l).length:=λvs=>by show ck (bZ (I.U 2000 vs) kl).L 1 1=_;rw[E1];rfl
 have D3: ∀vs,bZ (I.U 2000 vs) iW= .A (jk (I.w 0) (I.w 1) l):=λvs=>by show ck (bZ (I.U 2000 vs) kl).L 1 6=_;rw[E1];rfl
 have D4: ∀vs,bZ (I.U 2000 vs) gK=(ji (I.w 0) (I.w 1) l).1:=λvs=>by show ck (bZ (I.U 2000 vs) kl).L 1 3=_;rw[E1];rfl
 have d2:bZ I gP= .D (jk (I.w 0) (I.w 1) l).length:=by show ck (bZ I kl).L 1 1=_;rw[e1];rfl
 have d3:bZ I iW= .A (jk (I.w 0) (I.w 1) l):=by show ck (bZ I kl).L 1 6=_;rw[e1];rfl
 have d4:bZ I gK=(ji (I.w 0) (I.w 1) l).1:=by show ck (bZ I kl).L 1 3=_;rw[e1];rfl
 have d5:bZ I mM=(ji (I.w 0) (I.w 1) l).2:=by show ck (bZ I kl).L 1 4=_;rw[e1];rfl
 have d9:bZ I vU= .A (rI (I.w 0) (I.w 1) l):=by show ck (bZ I kl).L 1 5=_;rw[e1];rfl
 have dj:bZ I (zo kl 0)= .D (rI (I.w 0) (I.w 1) l).length:=by show ck (bZ I kl).L 1 0=_;rw[e1];rfl
 have e6:I.f 756 [.D 0,bZ I gP,bZ I gP,bZ I iW,bZ I gK,bZ I mM,bZ I gP]=cC (0,[.D (pv (I.w 0) (I.w 1) l),.D (pv (I.w 0) (I.w 1) l)]):=by rw[hf,d2,d3,d4,d5];rfl
 have d6:bZ I pX= .D (pv (I.w 0) (I.w 1) l):=by show ck (I.f 756 [.D 0,bZ I gP,bZ I gP,bZ I iW,bZ I gK,bZ I mM,bZ I gP]).L 1 0=_;rw[e6];rfl
 obtain⟨b1,b2⟩:=XS (jk (I.w 0) (I.w 1) l) (ji (I.w 0) (I.w 1) l).1.I (jk (I.w 0) (I.w 1) l).length 0 (jk (I.w 0) (I.w 1) l).length (by omega) (by omega);have b2:pv (I.w 0) (I.w 1) l<=(jk (I.w 0) (I.w 1) l).length:=b2;have d8:dB I CP=true:=by show(I.f 713 [bZ I iW,bZ I gP,bZ I pX,bZ I gK,bZ I mM]).Z=true;rw[hf,d2,d3,d4,d5,d6];show(decide (((jk (I.w 0) (I.w 1) l).length:Int)=((jk (I.w 0) (I.w 1) l).length:Int))&&decide ((0:Int)<=((pv (I.w 0) (I.w 1) l:Nat):Int))&&decide (((pv (I.w 0) (I.w 1) l:Nat):Int)<=((jk (I.w 0) (I.w 1) l).length:Int))&&decide ((jk (I.w 0) (I.w 1) l).length<=24))=true;grind
 have d10:dB I DZ=true:=by show decide ((bZ I (zo kl 0)).I=((bZ I vU).L.length:Int))=true;simp_all
 have d11:bZ I AN= .A (FO (jk (I.w 0) (I.w 1) l) (pv (I.w 0) (I.w 1) l) (ji (I.w 0) (I.w 1) l).1 (ji (I.w 0) (I.w 1) l).2):=by show I.f 714 [bZ I iW,bZ I gP,bZ I pX,bZ I gK,bZ I mM]=_;rw[hf,d2,d3,d4,d5,d6];rfl
 have fin:W5 (.N CP (.N DZ (.W 0 [gK,mM,aM,vU,AN]))) I=some (0,[(ji (I.w 0) (I.w 1) l).1,(ji (I.w 0) (I.w 1) l).2,.D 0,.A (rI (I.w 0) (I.w 1) l),.A (FO (jk (I.w 0) (I.w 1) l) (pv (I.w 0) (I.w 1) l) (ji (I.w 0) (I.w 1) l).1 (ji (I.w 0) (I.w 1) l).2)]):=by refine W6 d8 (W6 d10 ?_);show some (0,[bZ I gK,bZ I mM,.D 0,bZ I vU,bZ I AN])=_;grind
 refine Y3 (r:=(0,zG l (I.w 1) (qi (I.w 0).I (I.w 1).I) l.length)) (e80 h2 (by omega)) e1 (W6 ?_ (Y3 (r:=(0,[.D (pv (I.w 0) (I.w 1) l),.D (pv (I.w 0) (I.w 1) l)])) ?_ e6 ?_));simp_all[cJ,cG,i6,jk];show cQ _ [.D 0,bZ I gP]=_;rw[d2];exact e81 lA D2 D3 D4
 cases h7:dB I (zs pX gP)with
 |false=>exact Y9 h7 fin
 |true=>
  have h7':(bZ I pX).I<(bZ I gP).I:=j6 h7;refine cD h7 (W6 ?_ (W6 ?_ ?_));simp_all[cJ,cG,i6,pv];show decide ((bZ I pX).I<((bZ I iW).L.length:Int))=true;simp_all
  cases q1:dB I (zs Mh gK)with
  |true=>exact cD q1 fin
  |false=>
   refine Y9 q1 ?_;cases q2:dB I (dF Mh gK)with
   |true=>exact cD q2 fin
   |false=>exact Y9 q2 fin
end
theorem dt3(g t:Val)(l:U0):(rI g t l).length<=l.length:=by have:=jz (λi=>cD4 l t.I (qi g.I t.I).I i) l.length;grind[rI,Aq]
theorem UW(g:Val)(m:U0)(key t:Val):(mi g m key t).length<=m.length:=by have h1:=Lh swo_spanV (gQ m key.S);have h2:=Il m key.S;unfold mi;cases jD g.I t.I (du m key);exact p8 _;grind[dt3,du,rI]
def yd(f:Val->Val)(l:U0):cw (λi=>[f (cg l i)]) l.length=l.map f:=by
 rw[nw,<-T2];refine J4 (by simp) (λi h1 h2=> ?_);have hi:i<l.length:=by simpa using h1
 simp[cg,k5,hi]
def LK:SX:= zc aW (.O .row [.O .row [bd,cq lh aR 0,cq lh aR 1]])
def e82{I:Opq}{J:U0}(hJ:J.length<=24)(d3: ∀vs,bZ (I.U 2000 vs) lh= .A J):
 cQ (λvs=>W5 ei6 (I.U 2000 vs)) [.D 0,.D 0,.A []]=some (0,[.D J.length,.D J.length,.A (J.map (fJ (I.w 6)))]):=by
 have hl:(J.map (fJ (I.w 6))).length=J.length:=k6 ..;refine qj (λi acc=>[.D acc.length,.D i,.A acc]) (a0:=[]) (g:=λi=>[fJ (I.w 6) (cg J i)]) (n:=J.length) rfl (λi hi=> ?_) ?_
 rw[List.nil_append];have hg:=oI (λi=>fJ (I.w 6) (cg J i)) i;generalize cw (λi=>[fJ (I.w 6) (cg J i)]) i=acc at*
 have d3:=d3 [.D acc.length,.D i,.A acc];have v0:(I.U 2000 [.D acc.length,.D i,.A acc]).w 2000= .D acc.length:=by rfl
 have v1:(I.U 2000 [.D acc.length,.D i,.A acc]).w 2001= .D i:=by rfl
 have v2:(I.U 2000 [.D acc.length,.D i,.A acc]).w 2002= .A acc:=by rfl
 have v6:(I.U 2000 [.D acc.length,.D i,.A acc]).w 6=I.w 6:=by rfl
 generalize I.U 2000 [.D acc.length,.D i,.A acc]=aa at*
 have dc:bZ aa LK= .A (acc++[fJ (I.w 6) (cg J i)]):=by show Val.A ((aa.w 2002).L++[.A [aa.w 6,ck (bZ aa lh).L (aa.w 2001).I 0,ck (bZ aa lh).L (aa.w 2001).I 1]])=_;rw[v1,v2,v6,d3];rfl
 refine cD ?_ (W6 ?_ (W6 ?_ ?_));show decide ((aa.w 2001).I<((bZ aa lh).L.length:Int))=true;simp_all;simp_all[cJ,cG,cI,i6];show(decide ((aa.w 2000).I=((aa.w 2002).L.length:Int))&&decide (((bZ aa LK).L.length:Int)<=1000000))=true;rw[v0,v2,dc];rw[j8];exact⟨i6 rfl,i6 (by show((acc++[_]).length:Int)<=1000000;grind)⟩;show some (0,[Val.D ((bZ aa LK).L.length:Int),Val.D (cr .add .i64 (aa.w 2001).I 1),bZ aa LK])=_;rw[dc,v1];rw[show cr .add .i64 (Val.D (i:Int)).I 1=((i+1:Nat):Int)from ft hi (by omega)];rfl
 rw[List.nil_append,yd (fJ (I.w 6)) J,hl];have d3:=d3 [.D J.length,.D J.length,.A (J.map (fJ (I.w 6)))];have v0:(I.U 2000 [.D J.length,.D J.length,.A (J.map (fJ (I.w 6)))]).w 2000= .D J.length:=by rfl
 have v1:(I.U 2000 [.D J.length,.D J.length,.A (J.map (fJ (I.w 6)))]).w 2001= .D J.length:=by rfl
 have v2:(I.U 2000 [.D J.length,.D J.length,.A (J.map (fJ (I.w 6)))]).w 2002= .A (J.map (fJ (I.w 6))):=by rfl
 generalize I.U 2000 [.D J.length,.D J.length,.A (J.map (fJ (I.w 6)))]=aa at*
 refine Y9 ?_ ?_;show decide ((aa.w 2001).I<((bZ aa lh).L.length:Int))=false;simp_all;show some (1,[aa.w 2000,aa.w 2001,aa.w 2002])=_;grind
section
variable{X:Nat->U0->Val}{I:Opq}(hf: ∀i a,I.f i a=FT X i a)
include hf
def t_joined(hn:dB I (zn (zb (zl 4) 24) (.Q 491 [aT]))=true):W5 T_joined I=some (0,[ck (FT X 725 [I.w 3,I.w 4,I.w 6,I.w 7]).L 0 0,ck (FT X 725 [I.w 3,I.w 4,I.w 6,I.w 7]).L 0 1,ck (FT X 725 [I.w 3,I.w 4,I.w 6,I.w 7]).L 0 2,FT X 724 [I.w 3,I.w 4,I.w 6,I.w 7]]):=by
 obtain⟨n3,n4⟩:=W7 (show(dB I (zb (zl 4) 24)&&dB I (.Q 491 [aT]))=true from hn);have n3':((I.w 4).L.length:Int)<=24:=j6 n3;have hs:I.f 723 [I.w 4,I.w 6]= .A (du (I.w 4).L (I.w 6)):=by rw[hf];rfl
 have hl:(du (I.w 4).L (I.w 6)).length<=24:=by grind[Lh,swo_spanV,gQ,Il,du]
 have jl:(mi (I.w 3) (I.w 4).L (I.w 6) (I.w 7)).length<=24:=by grind[UW]
 have d3:bZ I lh= .A (mi (I.w 3) (I.w 4).L (I.w 6) (I.w 7)):=by show I.f 717 [I.w 3,I.w 7,I.f 723 [I.w 4,I.w 6]]=_;rw[hs,hf];rfl
 have D3: ∀vs,bZ (I.U 2000 vs) lh= .A (mi (I.w 3) (I.w 4).L (I.w 6) (I.w 7)):=λvs=>by
  have w3:(I.U 2000 vs).w 3=I.w 3:=by rfl
  have w4:(I.U 2000 vs).w 4=I.w 4:=by rfl
  have w6:(I.U 2000 vs).w 6=I.w 6:=by rfl
  have w7:(I.U 2000 vs).w 7=I.w 7:=by rfl
  have wf:(I.U 2000 vs).f=I.f:=rfl;generalize I.U 2000 vs=aa at*
  show aa.f 717 [aa.w 3,aa.w 7,aa.f 723 [aa.w 4,aa.w 6]]=_;rw[w3,w4,w6,w7,wf];exact d3
 have d0:bZ I JY= .A [.A (mj (I.w 3) (I.w 4).L (I.w 6) (I.w 7))]:=by show I.f 718 [I.w 3,I.w 7,I.f 723 [I.w 4,I.w 6]]=_;rw[hs,hf];rfl
 have d1:bZ I El=(mj (I.w 3) (I.w 4).L (I.w 6) (I.w 7)).getD 0 default:=by show ck (bZ I JY).L 0 0=_;rw[d0];rfl
 have d2:bZ I Eg=(mj (I.w 3) (I.w 4).L (I.w 6) (I.w 7)).getD 1 default:=by show ck (bZ I JY).L 0 1=_;rw[d0];rfl
 have a1:ck (FT X 725 [I.w 3,I.w 4,I.w 6,I.w 7]).L 0 0=I.w 6:=rfl;have a2:ck (FT X 725 [I.w 3,I.w 4,I.w 6,I.w 7]).L 0 1=(mj (I.w 3) (I.w 4).L (I.w 6) (I.w 7)).getD 0 default:=rfl;have a3:ck (FT X 725 [I.w 3,I.w 4,I.w 6,I.w 7]).L 0 2=(mj (I.w 3) (I.w 4).L (I.w 6) (I.w 7)).getD 1 default:=rfl;have a4:FT X 724 [I.w 3,I.w 4,I.w 6,I.w 7]= .A ((mi (I.w 3) (I.w 4).L (I.w 6) (I.w 7)).map (fJ (I.w 6))):=rfl;have ml:((mi (I.w 3) (I.w 4).L (I.w 6) (I.w 7)).map (fJ (I.w 6))).length=(mi (I.w 3) (I.w 4).L (I.w 6) (I.w 7)).length:=k6 ..;generalize mi (I.w 3) (I.w 4).L (I.w 6) (I.w 7)=J at*
 have e4:bZ I IE=cC (0,[.D J.length,.D J.length,.A (J.map (fJ (I.w 6)))]):=by show I.f 758 [.D 0,.D 0,.A [],I.w 5,I.w 6,I.w 7,I.w 8,bZ I El,bZ I Eg,.D (bZ I lh).L.length,bZ I lh,.D (bZ I lh).L.length]=_;rw[hf,d3];rfl
 have d5:bZ I Ij= .A (J.map (fJ (I.w 6))):=by show ck (bZ I IE).L 1 2=_;rw[e4];rfl
 refine W6 ?_ (W6 ?_ (Y3 (r:=(0,[.D J.length,.D J.length,.A (J.map (fJ (I.w 6)))])) (e82 jl D3) e4 (W6 ?_ ?_)));rw[dG,j8];grind[cJ,cG,decide_eq_true];show decide (((I.f 723 [I.w 4,I.w 6]).L.length:Int)<=24)=true;rw[hs];exact i6 (by show((du (I.w 4).L (I.w 6)).length:Int)<=24;omega);show decide ((ck (bZ I IE).L 1 0).I=((bZ I Ij).L.length:Int))=true;rw[d5,e4];exact i6 (congrArg Int.ofNat ml.symm);show some (0,[I.w 6,bZ I El,bZ I Eg,bZ I Ij])=_;grind
end
theorem cK{I:Opq}(x:SX):(bZ I (zL x)).I=((bZ I x).L.length:Int):=rfl
theorem cM{I:Opq}(n:Nat):bZ I (.V n)=I.w n:=rfl
theorem Aw{A:U0}{x:Val}(h:A.length<1000000):(decide ((Val.D (A.length:Int)).I=((Val.A A).L.length:Int))&&decide (((Val.A (A++[x])).L.length:Int)<=1000000))=true:=by grind[a01,a41,List.length_append,List.length_singleton]
def Xv(key ns ne r:Val):(lv key ns ne r).length<=1:=by grind[lv,zM]
def DL(m P:U0)(key ns ne v:Val)(k:Nat):U0:=[.D (cw (λi=>lv key ns ne (cg P i)) k).length,.D ([Val.A [.D 1,v,v,v]]++cw (λi=>[mb m (cg P i)]) k).length,.D k,.A (cw (λi=>lv key ns ne (cg P i)) k),.A ([Val.A [.D 1,v,v,v]]++cw (λi=>[mb m (cg P i)]) k)]
def e83{I:Opq}{P:U0}{key ns ne v:Val}(hP:P.length<=24)(d5: ∀vs,bZ (I.U 2000 vs) gE= .A P)(d2: ∀vs,bZ (I.U 2000 vs) ut=key)(d3: ∀vs,bZ (I.U 2000 vs) tP=ns)(d4: ∀vs,bZ (I.U 2000 vs) uv=ne):
 cQ (λvs=>W5 ei8 (I.U 2000 vs)) [.D 0,.D 1,.D 0,.A [],.A [.A [.D 1,v,v,v]]]=some (0,DL (I.w 4).L P key ns ne v P.length):=by
 refine fD (st:=DL (I.w 4).L P key ns ne v) (n:=P.length) (λk hk=> ?_) ?_
 have g1:=jz (λi=>Xv key ns ne (cg P i)) k;have g2:=oI (λi=>mb (I.w 4).L (cg P i)) k;unfold DL;simp only[cw];rw[<-A8];have g3:([Val.A [.D 1,v,v,v]]++cw (λi=>[mb (I.w 4).L (cg P i)]) k).length=k+1:=by grind
 generalize [Val.A [.D 1,v,v,v]]++cw (λi=>[mb (I.w 4).L (cg P i)]) k=A at*
 generalize cw (λi=>lv key ns ne (cg P i)) k=G at*
 have d2:=d2 [.D G.length,.D A.length,.D k,.A G,.A A];have d3:=d3 [.D G.length,.D A.length,.D k,.A G,.A A];have d4:=d4 [.D G.length,.D A.length,.D k,.A G,.A A];have d5:=d5 [.D G.length,.D A.length,.D k,.A G,.A A];have v0:(I.U 2000 [.D G.length,.D A.length,.D k,.A G,.A A]).w 2000= .D G.length:=by rfl
 have v1:(I.U 2000 [.D G.length,.D A.length,.D k,.A G,.A A]).w 2001= .D A.length:=by rfl
 have v2:(I.U 2000 [.D G.length,.D A.length,.D k,.A G,.A A]).w 2002= .D k:=by rfl
 have v3:(I.U 2000 [.D G.length,.D A.length,.D k,.A G,.A A]).w 2003= .A G:=by rfl
 have v4:(I.U 2000 [.D G.length,.D A.length,.D k,.A G,.A A]).w 2004= .A A:=by rfl
 have vm:(I.U 2000 [.D G.length,.D A.length,.D k,.A G,.A A]).w 4=I.w 4:=by rfl
 generalize I.U 2000 [.D G.length,.D A.length,.D k,.A G,.A A]=aa at*
 have dk:bZ aa yH=fF (cg P k):=by show Val.A [ck (bZ aa gE).L (aa.w 2002).I 0,ck (bZ aa gE).L (aa.w 2002).I 1,ck (bZ aa gE).L (aa.w 2002).I 2]=_;rw[d5,v2];rfl
 have dc: ∀j:Nat,bZ aa (po (j:Int))=rM (I.w 4).L (fF (cg P k)) j:=λj=>by
  show(bif decide (((ja (aa.w 4).L (bZ aa yH):Nat):Int)<((aa.w 4).L.length:Int))then ck (aa.w 4).L ((ja (aa.w 4).L (bZ aa yH):Nat):Int) (j:Int)else Val.D 0)=_;rw[dk,vm];have e:decide (((ja (I.w 4).L (fF (cg P k)):Nat):Int)<((I.w 4).L.length:Int))=kY (I.w 4).L (fF (cg P k)):=by simp_all[kY,decide_eq_decide]
  rw[e];rfl
 have da:bZ aa uq= .A (A++[mb (I.w 4).L (cg P k)]):=by have c3:bZ aa (po 3)=_:=dc 3;have c4:bZ aa (po 4)=_:=dc 4;have c5:bZ aa (po 5)=_:=dc 5;have c6:bZ aa (po 6)=_:=dc 6;show Val.A ((aa.w 2004).L++[.A [bZ aa (po 3),bZ aa (po 4),bZ aa (po 5),bZ aa (po 6)]])=_;rw[v4,c3,c4,c5,c6];rfl
 have dg:bZ aa DY= .A (G++[fF (cg P k)]):=by show Val.A ((aa.w 2003).L++[bZ aa yH])=_;simp_all
 have ds:dB aa ei7=zM key ns ne (cg P k):=by show(decide ((ck (bZ aa gE).L (aa.w 2002).I 0).S=(bZ aa ut).S)&&(decide ((ck (bZ aa gE).L (aa.w 2002).I 1).I=(bZ aa tP).I)&&decide ((ck (bZ aa gE).L (aa.w 2002).I 2).I=(bZ aa uv).I)))=_;rw[d2,d3,d4,d5,v2];rfl
 have inc:cr .add .i64 (Val.D (k:Int)).I 1=((k+1:Nat):Int):=ft hk (by omega);refine cD ?_ (W6 ?_ (W6 ?_ ?_));show decide ((aa.w 2002).I<((bZ aa gE).L.length:Int))=true;simp_all;simp_all[cJ,cG,cI,i6];rw[dG,dY,cJ,cG,cK,cK,da,cI,cM,v1,v4];grind[Aw]
 unfold lv;cases hS:zM key ns ne (cg P k)with
 |true=>
  refine Y9 (by rw[je,ds,hS];rfl) ?_;show some (0,[aa.w 2000,Val.D ((bZ aa uq).L.length:Int),Val.D (cr .add .i64 (aa.w 2002).I 1),aa.w 2003,bZ aa uq])=_;simp_all
 |false=>
  refine cD (by grind[je]) (W6 ?_ ?_);rw[dG,dY,cJ,cG,cK,cK,dg,cI,cM,v0,v3];grind[Aw];show some (0,[Val.D ((bZ aa DY).L.length:Int),Val.D ((bZ aa uq).L.length:Int),Val.D (cr .add .i64 (aa.w 2002).I 1),bZ aa DY,bZ aa uq])=_;simp_all
 .unfold DL;generalize [Val.A [.D 1,v,v,v]]++cw (λi=>[mb (I.w 4).L (cg P i)]) P.length=A;generalize cw (λi=>lv key ns ne (cg P i)) P.length=G;have d5:=d5 [.D G.length,.D A.length,.D P.length,.A G,.A A];have v0:(I.U 2000 [.D G.length,.D A.length,.D P.length,.A G,.A A]).w 2000= .D G.length:=by rfl
  have v1:(I.U 2000 [.D G.length,.D A.length,.D P.length,.A G,.A A]).w 2001= .D A.length:=by rfl
  have v2:(I.U 2000 [.D G.length,.D A.length,.D P.length,.A G,.A A]).w 2002= .D P.length:=by rfl
  have v3:(I.U 2000 [.D G.length,.D A.length,.D P.length,.A G,.A A]).w 2003= .A G:=by rfl
  have v4:(I.U 2000 [.D G.length,.D A.length,.D P.length,.A G,.A A]).w 2004= .A A:=by rfl
  generalize I.U 2000 [.D G.length,.D A.length,.D P.length,.A G,.A A]=aa at*
  refine Y9 ?_ ?_;show decide ((aa.w 2002).I<((bZ aa gE).L.length:Int))=false;simp_all;show some (1,[aa.w 2000,aa.w 2001,aa.w 2002,aa.w 2003,aa.w 2004])=_;grind
theorem jU{I:Opq}(a b:SX):dB I (cX a b)= !decide ((bZ I a).I=(bZ I b).I):=rfl
def cD8(l:U0):(l.drop (0:Int).toNat).take ((l.length:Int)-0).toNat=l:=by simp
section
variable{X:Nat->U0->Val}{I:Opq}(hf: ∀i a,I.f i a=FT X i a)
include hf
def t_sess(hn:dB I (zn (zb (zl 4) 24) (.Q 491 [aT]))=true):W5 T_sess I=some (0,[FT X 729 [I.w 3,I.w 4,I.w 6,I.w 7,I.w 8],FT X 727 [I.w 3,I.w 4,I.w 6,I.w 7,I.w 8],FT X 728 [I.w 3,I.w 4,I.w 6,I.w 7,I.w 8]]):=by
 obtain⟨n3,n4⟩:=W7 (show(dB I (zb (zl 4) 24)&&dB I (.Q 491 [aT]))=true from hn);have n3':((I.w 4).L.length:Int)<=24:=j6 n3;have a9:FT X 729 [I.w 3,I.w 4,I.w 6,I.w 7,I.w 8]= .D (tR (I.w 3) (I.w 4).L (I.w 6) (I.w 7) (I.w 8)):=rfl;have a7:FT X 727 [I.w 3,I.w 4,I.w 6,I.w 7,I.w 8]= .A (pF (I.w 3) (I.w 4).L (I.w 6) (I.w 7) (I.w 8)):=rfl;have a8:FT X 728 [I.w 3,I.w 4,I.w 6,I.w 7,I.w 8]= .A (pa (I.w 3) (I.w 4).L (I.w 6) (I.w 7) (I.w 8)):=rfl;rw[a9,a7,a8];have jl:=UW (I.w 3) (I.w 4).L (I.w 6) (I.w 7);have pl:(jH (I.w 3) (I.w 4).L (I.w 6) (I.w 7)).length<=24:=by unfold jH;rw[List.length_map];omega
 have f4:I.f 724 [I.w 3,I.w 4,I.w 6,I.w 7]= .A (jH (I.w 3) (I.w 4).L (I.w 6) (I.w 7)):=by rw[hf];rfl
 have f5:I.f 725 [I.w 3,I.w 4,I.w 6,I.w 7]= .A [.A (I.w 6::mj (I.w 3) (I.w 4).L (I.w 6) (I.w 7))]:=by rw[hf];rfl
 unfold pF pa tR;generalize jH (I.w 3) (I.w 4).L (I.w 6) (I.w 7)=P at*
 generalize mj (I.w 3) (I.w 4).L (I.w 6) (I.w 7)=N at*
 have W: ∀vs:U0,∀n:Nat,n<2000->(I.U 2000 vs).w n=I.w n:=λvs n hn=>by rw[Y8,b9 (by omega)]
 have d5:bZ I gE= .A P:=f4;have d1:bZ I sV= .A [.A (I.w 6::N)]:=f5;have D5: ∀vs,bZ (I.U 2000 vs) gE= .A P:=λvs=>by exact f4
 have D1: ∀vs,bZ (I.U 2000 vs) sV= .A [.A (I.w 6::N)]:=λvs=>by exact f5
 have d2:bZ I ut=I.w 6:=by show ck (bZ I sV).L 0 0=_;rw[d1];rfl
 have d3:bZ I tP=N.getD 0 default:=by show ck (bZ I sV).L 0 1=_;rw[d1];rfl
 have d4:bZ I uv=N.getD 1 default:=by show ck (bZ I sV).L 0 2=_;rw[d1];rfl
 have D2: ∀vs,bZ (I.U 2000 vs) ut=I.w 6:=λvs=>by show ck (bZ (I.U 2000 vs) sV).L 0 0=_;rw[D1];rfl
 have D3: ∀vs,bZ (I.U 2000 vs) tP=N.getD 0 default:=λvs=>by show ck (bZ (I.U 2000 vs) sV).L 0 1=_;rw[D1];rfl
 have D4: ∀vs,bZ (I.U 2000 vs) uv=N.getD 1 default:=λvs=>by show ck (bZ (I.U 2000 vs) sV).L 0 2=_;rw[D1];rfl
 generalize N.getD 0 default=ns at*
 generalize N.getD 1 default=ne at*
 have d0:bZ I AD= .A [.A [.D 1,I.w 8,I.w 8,I.w 8]]:=rfl;have hA:[Val.A [.D 1,I.w 8,I.w 8,I.w 8]]++cw (λi=>[mb (I.w 4).L (cg P i)]) P.length=mn (I.w 4).L P (I.w 8):=by rw[yd (mb (I.w 4).L) P];rfl
 have hst:DL (I.w 4).L P (I.w 6) ns ne (I.w 8) P.length=[.D (jJ P (I.w 6) ns ne).length,.D (mn (I.w 4).L P (I.w 8)).length,.D P.length,.A (jJ P (I.w 6) ns ne),.A (mn (I.w 4).L P (I.w 8))]:=by unfold DL;rw[hA];rfl
 have lp:=e83 (v:=I.w 8) pl D5 D2 D3 D4;rw[hst]at lp;have al:(mn (I.w 4).L P (I.w 8)).length<=31:=by show(P.map _).length+1<=31;rw[k6];omega
 have e6:bZ I uk=cC (0,[.D (jJ P (I.w 6) ns ne).length,.D (mn (I.w 4).L P (I.w 8)).length,.D P.length,.A (jJ P (I.w 6) ns ne),.A (mn (I.w 4).L P (I.w 8))]):=by show I.f 759 [.D 0,.D (bZ I AD).L.length,.D 0,.A [],bZ I AD,I.w 0,I.w 1,I.w 2,I.w 3,I.w 4,bZ I ut,bZ I tP,bZ I uv,.D (bZ I gE).L.length,bZ I gE,.D (bZ I gE).L.length]=_;rw[hf,d0,d2,d3,d4,d5];rfl
 generalize jJ P (I.w 6) ns ne=G at*
 generalize mn (I.w 4).L P (I.w 8)=A at*
 have d7:bZ I HX= .D A.length:=by show ck (bZ I uk).L 1 1=_;rw[e6];rfl
 have d8:bZ I Nk= .A A:=by show ck (bZ I uk).L 1 4=_;rw[e6];rfl
 have dg:bZ I (zo uk 0)= .D G.length:=by show ck (bZ I uk).L 1 0=_;rw[e6];rfl
 have d10:bZ I LH= .A G:=by show ck (bZ I uk).L 1 3=_;rw[e6];rfl
 have d9:bZ I lR= .A A:=by show Val.A (((bZ I Nk).L.drop (0:Int).toNat).take ((bZ I HX).I-0).toNat)=_;rw[d7,d8];exact congrArg Val.A (cD8 A)
 have f6:I.f 706 [bZ I lR]= .D (jE A):=by rw[d9,hf];rfl
 have f5':I.f 705 [bZ I lR]= .A [.A (jR A)]:=by rw[d9,hf];rfl
 refine W6 hn (Y3 (r:=(0,[.D G.length,.D A.length,.D P.length,.A G,.A A])) lp e6 (W6 ?_ ?_));rw[dG,dG,cJ,cJ,cJ,cG,cG,cK,cK,d7,d8,d9];exact a3 (by show(0:Int)<=(A.length:Int);omega) (y8 _) (by show(A.length:Int)<=1000;omega)
 have hne:dB I (cX (.Q 706 [lR]) aM)= !decide (jE A=0):=by show(!decide ((I.f 706 [bZ I lR]).I=0))=_;rw[f6];rfl
 by_cases h:jE A=0;refine Y9 (by rw[hne,i6 h];rfl) (W6 ?_ ?_);rw[dY,cK,dg,d10];exact i6 rfl;show some (0,[Val.D 0,bZ I LH,.A [.A [bZ I ut,bZ I tP,bZ I uv,ck (I.f 705 [bZ I lR]).L 0 0,ck (I.f 705 [bZ I lR]).L 0 1,ck (I.f 705 [bZ I lR]).L 0 2,ck (I.f 705 [bZ I lR]).L 0 3]]])=_;rw[d10,d2,d3,d4,f5',h];rfl;rw[c9 h,c9 h];refine cD (by rw[hne,j7 h];rfl) ?_;show some (0,[I.f 706 [bZ I lR],Val.A [],Val.A []])=_;rw[f6]
end
def Hi(m S:U0)(key v e0:Val)(k:Nat):U0:=[.D (gF m S key v k).length,if k=0 then e0 else .D 0,.D k,.A (gF m S key v k)]
section
variable{X:Nat->U0->Val}{I:Opq}(hf: ∀i a,I.f i a=FT X i a)
include hf
def dc3{S:U0}{e0:Val}(D1: ∀vs,bZ (I.U 2000 vs) iw= .A S){k:Nat}(hk:k<S.length)(hS:S.length<=1000):
 W5 Qx (I.U 2000 (Hi (I.w 4).L S (I.w 6) (I.w 8) e0 k))=if lD (I.w 4).L (I.w 6) (I.w 8) (cg S k)≠0 then some (1,[.D k,.D (lD (I.w 4).L (I.w 6) (I.w 8) (cg S k)),.D k,.A (gF (I.w 4).L S (I.w 6) (I.w 8) k)])else some (0,Hi (I.w 4).L S (I.w 6) (I.w 8) e0 (k+1)):=by
 have hl:(gF (I.w 4).L S (I.w 6) (I.w 8) k).length=k:=oI (λi=>pu (I.w 4).L (I.w 6) (I.w 8) (cg S i)) k;have hs:gF (I.w 4).L S (I.w 6) (I.w 8) (k+1)=gF (I.w 4).L S (I.w 6) (I.w 8) k++[pu (I.w 4).L (I.w 6) (I.w 8) (cg S k)]:=rfl;unfold Hi;have W: ∀vs:U0,∀n:Nat,n<2000->(I.U 2000 vs).w n=I.w n:=λvs n hn=>by simp_all[Y8,b9]
 generalize gF (I.w 4).L S (I.w 6) (I.w 8) k=L at*
 generalize (if k=0 then e0 else Val.D 0)=ee;have D1:=D1 [.D L.length,ee,.D k,.A L];have W:=W [.D L.length,ee,.D k,.A L];have w4:=W 4 (by omega);have w6:=W 6 (by omega);have w8:=W 8 (by omega);have v0:(I.U 2000 [.D L.length,ee,.D k,.A L]).w 2000= .D L.length:=by rfl
 have v2:(I.U 2000 [.D L.length,ee,.D k,.A L]).w 2002= .D k:=by rfl
 have v3:(I.U 2000 [.D L.length,ee,.D k,.A L]).w 2003= .A L:=by rfl
 have wf:(I.U 2000 [.D L.length,ee,.D k,.A L]).f=I.f:=rfl;generalize I.U 2000 [.D L.length,ee,.D k,.A L]=aa at*
 have dk:bZ aa JA=fJ (I.w 6) (cg S k):=by show Val.A [aa.w 6,ck (bZ aa iw).L (aa.w 2002).I 0,ck (bZ aa iw).L (aa.w 2002).I 1]=_;rw[D1,v2,w6];rfl
 have dc: ∀j:Nat,bZ aa (jF (j:Int))=tr (I.w 4).L (I.w 6) (cg S k) j:=λj=>by
  show(bif decide (((ja (aa.w 4).L (bZ aa JA):Nat):Int)<((aa.w 4).L.length:Int))then ck (aa.w 4).L ((ja (aa.w 4).L (bZ aa JA):Nat):Int) (j:Int)else Val.D 0)=_;rw[dk,w4];have e:decide (((ja (I.w 4).L (fJ (I.w 6) (cg S k)):Nat):Int)<((I.w 4).L.length:Int))=kY (I.w 4).L (fJ (I.w 6) (cg S k)):=by simp_all[kY,decide_eq_decide]
  rw[e];rfl
 have c3:bZ aa (jF 3)=_:=dc 3;have c4:bZ aa (jF 4)=_:=dc 4;have c5:bZ aa (jF 5)=_:=dc 5;have c6:bZ aa (jF 6)=_:=dc 6;have de:bZ aa yD= .D (lD (I.w 4).L (I.w 6) (I.w 8) (cg S k)):=by show aa.f 708 [bZ aa (jF 3),bZ aa (jF 4),bZ aa (jF 5),bZ aa (jF 6),aa.w 8]=_;rw[wf,hf,c3,c4,c5,c6,w8];rfl
 have dq:bZ aa vO= .A [.A (yF (I.w 4).L (I.w 6) (I.w 8) (cg S k))]:=by show aa.f 707 [bZ aa (jF 3),bZ aa (jF 4),bZ aa (jF 5),bZ aa (jF 6),aa.w 8]=_;rw[wf,hf,c3,c4,c5,c6,w8];rfl
 have dr:bZ aa EZ= .A (L++[pu (I.w 4).L (I.w 6) (I.w 8) (cg S k)]):=by show Val.A ((aa.w 2003).L++[.A [aa.w 6,ck (bZ aa iw).L (aa.w 2002).I 0,ck (bZ aa iw).L (aa.w 2002).I 1,ck (bZ aa vO).L 0 0,ck (bZ aa vO).L 0 1,ck (bZ aa vO).L 0 2,ck (bZ aa vO).L 0 3]])=_;rw[v3,w6,D1,v2,dq];rfl
 have inc:cr .add .i64 (Val.D (k:Int)).I 1=((k+1:Nat):Int):=ft hk (by omega);have dn:dB aa (cX yD aM)= !decide (lD (I.w 4).L (I.w 6) (I.w 8) (cg S k)=0):=by rw[jU,cG,de];rfl
 refine cD ?_ (W6 ?_ ?_);show decide ((aa.w 2002).I<((bZ aa iw).L.length:Int))=true;simp_all;simp_all[cJ,cG,cI,i6];by_cases h:lD (I.w 4).L (I.w 6) (I.w 8) (cg S k)=0;refine Y9 (by grind) (W6 ?_ ?_);rw[dG,dY,cJ,cG,cK,cK,dr,cI,cM,v0,v3];grind[Aw];show some (0,[Val.D ((bZ aa EZ).L.length:Int),bZ aa yD,Val.D (cr .add .i64 (aa.w 2002).I 1),bZ aa EZ])=_;simp_all;refine cD (by rw[dn,j7 h];rfl) ?_;show some (1,[aa.w 2000,bZ aa yD,aa.w 2002,aa.w 2003])=_;grind
end
def rowS(r:Val):Prop:= ∃(k:qw) (a b c d e f:Int),r= .A [.vs k,.D a,.D b,.D c,.D d,.D e,.D f]/\k.length<=1000
def dQ0(l:U0): ∀k,∃a b,(jS l k).getD 2 default= .D a/\(jS l k).getD 3 default= .D b
 |0=>⟨0,0,rfl,rfl⟩
 |k+1=>by
  unfold jS;cases vB (cg l k)with
  |true=>exact dQ0 l k
  |false=>
   split<;>exact⟨_,_,rfl,rfl⟩
def e84{l:U0}(h:jE l=0): ∃a b c d,jR l=[.D a,.D b,.D c,.D d]:=by
 obtain⟨c,d,h1,h2⟩:=dQ0 l l.length;have hn: ¬(gB (jC l)≠0\/gB (jT l)≠0):=λhc=>by unfold jE at h;rw[if_pos hc]at h;cases h
 unfold jR;rw[b9 hn,h1,h2];exact⟨_,_,_,_,rfl⟩
def dt4{k s l g:Int}{t:Val}(h3:k≠3): ∀r∈dy k s l g t,∃a b,r= .A [.D a,.D b]:=by
 intro r hr;unfold dy at hr;cases h:(cY k s l g&&dW t.I)with
 |false=>rw[h]at hr;cases hr
 |true=>
  simp_all;rw[nw]at hr;obtain⟨i,_,hi⟩:=A7.1 hr;unfold jc at hi;rw[o7]at hi;exact⟨_,_,hi⟩
def DA{k s l g:Int}{t:Val}(h3:k≠3):(dy k s l g t).length<=16:=by
 unfold dy;cases h:(cY k s l g&&dW t.I)with
 |false=>grind
 |true=>
  simp[cond_true,b9 h3];rw[show(cw (jc (fI t.I (dJ k s l)-s+dJ k s l) (dJ k s l) s) (fC k s l)).length=fC k s l from oI _ _];have hw:=(W7 h).1;unfold cY at hw;unfold fC dJ;by_cases k2:k=2;grind;grind[Int.ediv_self]
def Wj(m S:U0)(key v:Val):ir m S key v<=S.length/\(∀i,i<ir m S key v->lD m key v (cg S i)=0)/\(ir m S key v<S.length->lD m key v (cg S (ir m S key v))≠0):=by
 unfold ir;cases hf:(List.range S.length).find? λi=>decide (lD m key v (cg S i)≠0)with
 |none=>
  grind
 |some k=>
  grind[pg,Nat.le_of_lt]
section
variable{X:Nat->U0->Val}{I:Opq}(hf: ∀i a,I.f i a=FT X i a)
include hf
def e85{S:U0}{e0:Val}(D1: ∀vs,bZ (I.U 2000 vs) iw= .A S)(hS:S.length<=16):
 cQ (λvs=>W5 Qx (I.U 2000 vs)) [.D 0,e0,.D 0,.A []]=some (0,[.D (ir (I.w 4).L S (I.w 6) (I.w 8)),lS (I.w 4).L S (I.w 6) (I.w 8) e0,.D (ir (I.w 4).L S (I.w 6) (I.w 8)),.A (gF (I.w 4).L S (I.w 6) (I.w 8) (ir (I.w 4).L S (I.w 6) (I.w 8)))]):=by
 obtain⟨k1,k2,k3⟩:=Wj (I.w 4).L S (I.w 6) (I.w 8);refine fD (st:=Hi (I.w 4).L S (I.w 6) (I.w 8) e0) (n:=ir (I.w 4).L S (I.w 6) (I.w 8)) (λk hk=> ?_) ?_;rw[dc3 hf D1 (by omega) (by omega),b9 (by grind)];unfold lS;by_cases h:ir (I.w 4).L S (I.w 6) (I.w 8)<S.length;rw[dc3 hf D1 h (by omega),c9 (k3 h),c9 h]
 have e:ir (I.w 4).L S (I.w 6) (I.w 8)=S.length:=by omega
 rw[b9 h,e];have hl:(gF (I.w 4).L S (I.w 6) (I.w 8) S.length).length=S.length:=oI (λi=>pu (I.w 4).L (I.w 6) (I.w 8) (cg S i)) _;unfold Hi;rw[hl];generalize gF (I.w 4).L S (I.w 6) (I.w 8) S.length=L at*
 generalize (if S.length=0 then e0 else Val.D 0)=ee;have D1:=D1 [.D S.length,ee,.D S.length,.A L];have v0:(I.U 2000 [.D S.length,ee,.D S.length,.A L]).w 2000= .D S.length:=by rfl
 have v1:(I.U 2000 [.D S.length,ee,.D S.length,.A L]).w 2001=ee:=by rfl
 have v2:(I.U 2000 [.D S.length,ee,.D S.length,.A L]).w 2002= .D S.length:=by rfl
 have v3:(I.U 2000 [.D S.length,ee,.D S.length,.A L]).w 2003= .A L:=by rfl
 generalize I.U 2000 [.D S.length,ee,.D S.length,.A L]=aa at*
 refine Y9 ?_ ?_;show decide ((aa.w 2002).I<((bZ aa iw).L.length:Int))=false;simp_all;show some (1,[aa.w 2000,aa.w 2001,aa.w 2002,aa.w 2003])=_;grind
end
def w9(I:Opq):U0:=[I.w 0,I.w 1,I.w 2,I.w 3,I.w 4,I.w 5,I.w 6,I.w 7,I.w 8]
def dt5{m:U0}{key v r:Val}(hk:QV key=true)(hl:key.S.length<=1000)(hr: ∃a b,r= .A [.D a,.D b])(he:lD m key v r=0):rowS (pu m key v r):=by
 obtain⟨a,b,rfl⟩:=hr;obtain⟨c,d,e,f,hq⟩:=e84 he;cases key with
 |vs k=>
  refine⟨k,a,b,c,d,e,f,?_,hl⟩;unfold pu yF pz;unfold lD at he;rw[b9 (by simp[he]),hq];rfl
 |D _=>cases hk
 |B _=>cases hk
 |A _=>cases hk
section
variable{X:Nat->U0->Val}{I:Opq}(hf: ∀i a,I.f i a=FT X i a)
include hf
def t_tryE(h431: ∀l:U0,(∀r∈l,rowS r)->(X 431 [.A l]).Z=true)
 (hn:dB I (zn (zn (zn (zb (zl 4) 400) (.Q 431 [aT])) (.Q 491 [aT])) (.Q 739 [aN,aT,bd]))=true):
 W5 T_tryE I=some (0,[.D (dD (w9 I)),.A (eP (w9 I)),eT X (w9 I)]):=by
 obtain⟨m1,m2⟩:=W7 hn;obtain⟨m3,m4⟩:=W7 m1;have m2:(I.f 739 [I.w 0,I.w 4,I.w 6]).Z=true:=m2;rw[hf]at m2;have m2:((!decide ((I.w 0).I=3)||decide ((I.w 4).L.length<=24))&&QV (I.w 6))=true:=m2;obtain⟨m5,m6⟩:=W7 m2;have t0:bZ I uh= .D (Y4 (I.w 5).I (I.w 6).S (I.w 7).I (I.w 8).I):=by show I.f 701 [I.w 5,I.w 6,I.w 7,I.w 8]=_;rw[hf];rfl
 have g9:dD (w9 I)=if Y4 (I.w 5).I (I.w 6).S (I.w 7).I (I.w 8).I≠0 then Y4 (I.w 5).I (I.w 6).S (I.w 7).I (I.w 8).I else if(I.w 5).I≠1 then 2 else if(I.w 0).I=3 then tR (I.w 3) (I.w 4).L (I.w 6) (I.w 7) (I.w 8)else(lS (I.w 4).L (dy (I.w 0).I (I.w 1).I (I.w 2).I (I.w 3).I (I.w 7)) (I.w 6) (I.w 8) (.D 0)).I:=rfl
 have gG:eP (w9 I)=if Y4 (I.w 5).I (I.w 6).S (I.w 7).I (I.w 8).I≠0\/(I.w 5).I≠1 then []else if(I.w 0).I=3 then pF (I.w 3) (I.w 4).L (I.w 6) (I.w 7) (I.w 8)else []:=rfl
 have gR:eT X (w9 I)=if Y4 (I.w 5).I (I.w 6).S (I.w 7).I (I.w 8).I≠0\/(I.w 5).I≠1 then .A []else if(I.w 0).I=3 then .A (pa (I.w 3) (I.w 4).L (I.w 6) (I.w 7) (I.w 8))else if dD (w9 I)≠0 then .A []else X 490 [.A (gF (I.w 4).L (dy (I.w 0).I (I.w 1).I (I.w 2).I (I.w 3).I (I.w 7)) (I.w 6) (I.w 8) (dy (I.w 0).I (I.w 1).I (I.w 2).I (I.w 3).I (I.w 7)).length)]:=rfl
 rw[gR,g9,gG];have c0:dB I (cX uh aM)= !decide (Y4 (I.w 5).I (I.w 6).S (I.w 7).I (I.w 8).I=0):=by rw[jU,cG,t0];rfl
 by_cases h0:Y4 (I.w 5).I (I.w 6).S (I.w 7).I (I.w 8).I≠0;rw[c9 h0,c9 (.inl h0),c9 (.inl h0)];refine cD (by rw[c0,j7 h0];rfl) ?_;show some (0,[bZ I uh,Val.A [],Val.A []])=_;rw[t0]
 rw[b9 h0];have hlen:(I.w 5).I=1->(I.w 6).S.length<=32:=λh1=>by have h:=Classical.not_not.1 h0;rw[h1]at h;unfold Y4 at h;by_cases q:(I.w 6).S=[]\/32<(I.w 6).S.length;rw[c9 q]at h;cases h;exact E4.1 λhh=>q (.inr hh)
 replace h0:=Classical.not_not.1 h0;refine Y9 (by rw[c0,i6 h0];rfl) ?_;have c1:dB I (cX bg aZ)= !decide ((I.w 5).I=1):=by rw[jU,cG,cI]
 by_cases h1:(I.w 5).I≠1;rw[c9 h1,c9 (.inr h1),c9 (.inr h1)];exact cD (by rw[c1,j7 h1];rfl) rfl
 have hd: ¬(Y4 (I.w 5).I (I.w 6).S (I.w 7).I (I.w 8).I≠0\/(I.w 5).I≠1):=λh=>h.elim (λh=>h h0) h1
 simp only[b9 h1,b9 hd];replace h1:=Classical.not_not.1 h1;refine Y9 (by rw[c1,i6 h1];rfl) ?_;by_cases h3:(I.w 0).I=3;simp[c9 h3];refine cD (by exact i6 h3) (W6 ?_ ?_);rw[dG,j8];refine⟨?_,m4⟩;rw[i6 h3]at m5;have m5:(I.w 4).L.length<=24:=j6 m5;exact i6 (by show((I.w 4).L.length:Int)<=24;omega);show some (0,[I.f 729 [I.w 3,I.w 4,I.w 6,I.w 7,I.w 8],I.f 727 [I.w 3,I.w 4,I.w 6,I.w 7,I.w 8],I.f 728 [I.w 3,I.w 4,I.w 6,I.w 7,I.w 8]])=_;rw[hf,hf,hf];rfl
 simp only[b9 h3];refine Y9 (by exact j7 h3) ?_;have hS:=DA (k:=(I.w 0).I) (s:=(I.w 1).I) (l:=(I.w 2).I) (g:=(I.w 3).I) (t:=I.w 7) h3;have hvi:=dt4 (k:=(I.w 0).I) (s:=(I.w 1).I) (l:=(I.w 2).I) (g:=(I.w 3).I) (t:=I.w 7) h3;have d1:bZ I iw= .A (dy (I.w 0).I (I.w 1).I (I.w 2).I (I.w 3).I (I.w 7)):=by show I.f 704 [I.w 0,I.w 1,I.w 2,I.w 3,I.w 7]=_;rw[hf];rfl
 have W: ∀vs:U0,∀n:Nat,n<2000->(I.U 2000 vs).w n=I.w n:=λvs n hn=>by rw[Y8,b9 (by omega)]
 have D1: ∀vs,bZ (I.U 2000 vs) iw= .A (dy (I.w 0).I (I.w 1).I (I.w 2).I (I.w 3).I (I.w 7)):=λvs=>by exact d1
 generalize dy (I.w 0).I (I.w 1).I (I.w 2).I (I.w 3).I (I.w 7)=S at*
 have lp:=e85 hf (e0:= .D 0) D1 hS;rw[h0]at t0;obtain⟨k1,k2,k3⟩:=Wj (I.w 4).L S (I.w 6) (I.w 8);have e2:bZ I yV=cC (0,[.D (ir (I.w 4).L S (I.w 6) (I.w 8)),lS (I.w 4).L S (I.w 6) (I.w 8) (.D 0),.D (ir (I.w 4).L S (I.w 6) (I.w 8)),.A (gF (I.w 4).L S (I.w 6) (I.w 8) (ir (I.w 4).L S (I.w 6) (I.w 8)))]):=by show I.f 760 [.D 0,bZ I uh,.D 0,.A [],I.w 0,I.w 1,I.w 2,I.w 3,I.w 4,I.w 5,I.w 6,I.w 7,I.w 8,.D (bZ I iw).L.length,bZ I iw,.D (bZ I iw).L.length]=_;rw[hf,t0,d1];rfl
 have lp':cQ (λvs=>W5 Qx (I.U 2000 vs)) (Y6 I [zL co,uh,aM,co])=some (0,[.D (ir (I.w 4).L S (I.w 6) (I.w 8)),lS (I.w 4).L S (I.w 6) (I.w 8) (.D 0),.D (ir (I.w 4).L S (I.w 6) (I.w 8)),.A (gF (I.w 4).L S (I.w 6) (I.w 8) (ir (I.w 4).L S (I.w 6) (I.w 8)))]):=by show cQ _ [.D 0,bZ I uh,.D 0,.A []]=_;rw[t0];exact lp
 have d3:bZ I Jj=lS (I.w 4).L S (I.w 6) (I.w 8) (.D 0):=by show ck (bZ I yV).L 1 1=_;rw[e2];rfl
 have hX: ∃x,lS (I.w 4).L S (I.w 6) (I.w 8) (.D 0)= .D x:=by unfold lS;split;exact⟨_,rfl⟩;split<;>exact⟨_,rfl⟩
 obtain⟨x,hX⟩:=hX;refine Y3 lp' e2 ?_;have c3:dB I (cX Jj aM)= !decide (x=0):=by rw[jU,cG,d3,hX];rfl
 by_cases hx:x=0
 subst hx;have hK:ir (I.w 4).L S (I.w 6) (I.w 8)=S.length:=by refine Nat.le_antisymm k1 (E4.1 λh=> ?_);unfold lS at hX;rw[c9 h]at hX;exact k3 h (Val.D.inj hX)
 have d4:bZ I HG= .D S.length:=by show ck (bZ I yV).L 1 0=_;rw[e2,hK];rfl
 have d5:bZ I Mq= .A (gF (I.w 4).L S (I.w 6) (I.w 8) S.length):=by show ck (bZ I yV).L 1 3=_;rw[e2,hK];rfl
 have hl:(gF (I.w 4).L S (I.w 6) (I.w 8) S.length).length=S.length:=oI (λi=>pu (I.w 4).L (I.w 6) (I.w 8) (cg S i)) _;have d6:bZ I EQ= .A (gF (I.w 4).L S (I.w 6) (I.w 8) S.length):=by show Val.A (((bZ I Mq).L.drop (0:Int).toNat).take ((bZ I HG).I-0).toNat)=_;rw[d4,d5];have:=cD8 (gF (I.w 4).L S (I.w 6) (I.w 8) S.length);rw[hl]at this;exact congrArg Val.A this
 have hrows: ∀r∈gF (I.w 4).L S (I.w 6) (I.w 8) S.length,rowS r:=λr hr=>by
  unfold gF at hr;rw[nw]at hr;obtain⟨i,hi,hr⟩:=A7.1 hr;rw[o7]at hr;subst hr;have hi:=p7.1 hi;refine dt5 m6 (by omega) (hvi _ ?_) (k2 i (by omega));have:cg S i=S[i]:=by simp[cg,k5,hi]
  rw[this];exact C6 hi
 have h43:=h431 _ hrows;rw[hX,b9 (by simp)];generalize gF (I.w 4).L S (I.w 6) (I.w 8) S.length=L at*
 refine Y9 (by rw[c3];rfl) (W6 ?_ ?_);rw[dG,dG,dG,cJ,cJ,cJ,cG,cG,cK,cK,d4,d5,d6,j8,j8,j8];refine⟨⟨i6 (by show(0:Int)<=(S.length:Int);omega),i6 (by show(S.length:Int)<=(L.length:Int);omega)⟩,i6 (by show(L.length:Int)<=400;omega),?_⟩;show(I.f 431 [bZ I EQ]).Z=true;rw[d6,hf];exact h43;show some (0,[Val.D 0,Val.A [],I.f 490 [bZ I EQ]])=_;rw[d6,hf];rfl;rw[hX,c9 (by simpa using hx)];refine cD (by rw[c3,j7 hx];rfl) ?_;show some (0,[bZ I Jj,Val.A [],Val.A []])=_;rw[d3,hX];rfl
end
def ej0:SX:= .O .row [cq iD aU 0,cq iD aU 1,cq iD aU 2]
def Rx:SX:= .O .row [cq ej aU 0,cq ej aU 1,cq ej aU 2]
def So:SX:= .O .row [cq ej aU 0,cq ej aU 1,cq ej aU 2,cq ej aU 3,cq ej aU 4,cq ej aU 5,cq ej aU 6]
def Vz:SX:= .O (.mfind [.str,.int .i64,.int .i64]) [aR,Rx]
def e89{I:Opq}{G:U0}{m:Val}(hG:G.length<=1000000)(D2: ∀vs,bZ (I.U 2000 vs) iD= .A G):
 cQ (λvs=>W5 Zb (I.U 2000 vs)) [.D 0,m]=some (0,[.D G.length,fY m G G.length]):=by
 refine fD (st:=λk=>[.D k,fY m G k]) (n:=G.length) (λk hk=> ?_) ?_
 show W5 Zb (I.U 2000 [.D k,fY m G k])=some (0,[.D (k+1:Nat),.A ((fY m G k).L.eraseIdx (ja (fY m G k).L (fF (cg G k))))]);have D2:=D2 [.D k,fY m G k];have v0:(I.U 2000 [.D k,fY m G k]).w 2000= .D k:=by rfl
 have v1:(I.U 2000 [.D k,fY m G k]).w 2001=fY m G k:=by rfl
 generalize I.U 2000 [.D k,fY m G k]=aa at*
 have dk:bZ aa ej0=fF (cg G k):=by show Val.A [ck (bZ aa iD).L (aa.w 2000).I 0,ck (bZ aa iD).L (aa.w 2000).I 1,ck (bZ aa iD).L (aa.w 2000).I 2]=_;rw[D2,v0];rfl
 have inc:cr .add .i64 (Val.D (k:Int)).I 1=((k+1:Nat):Int):=ft hk (by omega);refine cD ?_ (W6 ?_ ?_);show decide ((aa.w 2000).I<((bZ aa iD).L.length:Int))=true;simp_all;simp_all[cJ,cG,cI,i6];show some (0,[Val.D (cr .add .i64 (aa.w 2000).I 1),Val.A ((aa.w 2001).L.eraseIdx (ja (aa.w 2001).L (bZ aa ej0)))])=_;grind
 have D2:=D2 [.D G.length,fY m G G.length];have v0:(I.U 2000 [.D G.length,fY m G G.length]).w 2000= .D G.length:=by rfl
 have v1:(I.U 2000 [.D G.length,fY m G G.length]).w 2001=fY m G G.length:=by rfl
 generalize I.U 2000 [.D G.length,fY m G G.length]=aa at*
 refine Y9 ?_ ?_;show decide ((aa.w 2000).I<((bZ aa iD).L.length:Int))=false;simp_all;show some (1,[aa.w 2000,aa.w 2001])=_;grind
def e90{I:Opq}{R:U0}{m:Val}(hR:R.length<=1000000)(D1: ∀vs,(bZ (I.U 2000 vs) ej).L=R):
 cQ (λvs=>W5 VB (I.U 2000 vs)) [.D 0,m]=some (0,[.D R.length,fp m R R.length]):=by
 refine fD (st:=λk=>[.D k,fp m R k]) (n:=R.length) (λk hk=> ?_) ?_
 show W5 VB (I.U 2000 [.D k,fp m R k])=some (0,[.D (k+1:Nat),bif kY (fp m R k).L (fF (cg R k))then .A ((fp m R k).L.set (ja (fp m R k).L (fF (cg R k))) (cO (cg R k)))else .A ((fp m R k).L++[cO (cg R k)])]);have D1:=D1 [.D k,fp m R k];have v0:(I.U 2000 [.D k,fp m R k]).w 2000= .D k:=by rfl
 have v1:(I.U 2000 [.D k,fp m R k]).w 2001=fp m R k:=by rfl
 generalize I.U 2000 [.D k,fp m R k]=aa at*
 generalize fp m R k=M at*
 have dk:bZ aa Rx=fF (cg R k):=by show Val.A [ck (bZ aa ej).L (aa.w 2000).I 0,ck (bZ aa ej).L (aa.w 2000).I 1,ck (bZ aa ej).L (aa.w 2000).I 2]=_;rw[D1,v0];rfl
 have dn:bZ aa So=cO (cg R k):=by show Val.A [ck (bZ aa ej).L (aa.w 2000).I 0,ck (bZ aa ej).L (aa.w 2000).I 1,ck (bZ aa ej).L (aa.w 2000).I 2,ck (bZ aa ej).L (aa.w 2000).I 3,ck (bZ aa ej).L (aa.w 2000).I 4,ck (bZ aa ej).L (aa.w 2000).I 5,ck (bZ aa ej).L (aa.w 2000).I 6]=_;rw[D1,v0];rfl
 have dm:bZ aa Vz= .D (ja M.L (fF (cg R k)):Nat):=by show Val.D ((ja (aa.w 2001).L (bZ aa Rx):Nat):Int)=_;grind
 have inc:cr .add .i64 (Val.D (k:Int)).I 1=((k+1:Nat):Int):=ft hk (by omega);have e:decide (((ja M.L (fF (cg R k)):Nat):Int)<(M.L.length:Int))=kY M.L (fF (cg R k)):=by simp_all[kY,decide_eq_decide]
 refine cD ?_ (W6 ?_ ?_);show decide ((aa.w 2000).I<((bZ aa ej).L.length:Int))=true;simp_all;simp_all[cJ,cG,cI,i6];show some (0,[Val.D (cr .add .i64 (aa.w 2000).I 1),bif decide ((bZ aa Vz).I<((aa.w 2001).L.length:Int))then Val.A ((aa.w 2001).L.set (bZ aa Vz).I.toNat (bZ aa So))else Val.A ((aa.w 2001).L++[bZ aa So])])=_;simp_all
 have D1:=D1 [.D R.length,fp m R R.length];have v0:(I.U 2000 [.D R.length,fp m R R.length]).w 2000= .D R.length:=by rfl
 have v1:(I.U 2000 [.D R.length,fp m R R.length]).w 2001=fp m R R.length:=by rfl
 generalize I.U 2000 [.D R.length,fp m R R.length]=aa at*
 refine Y9 ?_ ?_;show decide ((aa.w 2000).I<((bZ aa ej).L.length:Int))=false;simp_all;show some (1,[aa.w 2000,aa.w 2001])=_;grind
section
variable{X:Nat->U0->Val}{I:Opq}(hf: ∀i a,I.f i a=FT X i a)
include hf
theorem e91(hG:(eP (w9 I)).length<=1000000)(hR:(eT X (w9 I)).L.length<=1000000)
 (hn:dB I (zn (zn (zn (zb (zl 4) 400) (.Q 431 [aT])) (.Q 491 [aT])) (.Q 739 [aN,aT,bd]))=true):
 W5 T_put I=some (0,[.D (dD (w9 I)),fx X (w9 I)]):=by
 have W9: ∀vs:U0,[(I.U 2000 vs).w 0,(I.U 2000 vs).w 1,(I.U 2000 vs).w 2,(I.U 2000 vs).w 3,(I.U 2000 vs).w 4,(I.U 2000 vs).w 5,(I.U 2000 vs).w 6,(I.U 2000 vs).w 7,(I.U 2000 vs).w 8]=w9 I:=λvs=>by rfl
 have p0:bZ I Gf= .D (dD (w9 I)):=by show I.f 732 (w9 I)=_;rw[hf];rfl
 have p1:bZ I ej=eT X (w9 I):=by show I.f 731 (w9 I)=_;rw[hf];rfl
 have p2:bZ I iD= .A (eP (w9 I)):=by show I.f 730 (w9 I)=_;rw[hf];rfl
 have P1: ∀vs,(bZ (I.U 2000 vs) ej).L=(eT X (w9 I)).L:=λvs=>by show(I.f 731 [(I.U 2000 vs).w 0,(I.U 2000 vs).w 1,(I.U 2000 vs).w 2,(I.U 2000 vs).w 3,(I.U 2000 vs).w 4,(I.U 2000 vs).w 5,(I.U 2000 vs).w 6,(I.U 2000 vs).w 7,(I.U 2000 vs).w 8]).L=_;rw[W9,hf];rfl
 have P2: ∀vs,bZ (I.U 2000 vs) iD= .A (eP (w9 I)):=λvs=>by show I.f 730 [(I.U 2000 vs).w 0,(I.U 2000 vs).w 1,(I.U 2000 vs).w 2,(I.U 2000 vs).w 3,(I.U 2000 vs).w 4,(I.U 2000 vs).w 5,(I.U 2000 vs).w 6,(I.U 2000 vs).w 7,(I.U 2000 vs).w 8]=_;rw[W9,hf];rfl
 have c0:dB I (cX Gf aM)= !decide (dD (w9 I)=0):=by rw[jU,cG,p0];rfl
 have hm:fx X (w9 I)=if dD (w9 I)≠0 then I.w 4 else fp (fY (I.w 4) (eP (w9 I)) (eP (w9 I)).length) (eT X (w9 I)).L (eT X (w9 I)).L.length:=rfl
 rw[hm];refine W6 hn ?_;by_cases h:dD (w9 I)=0
 refine Y9 (by grind) ?_;rw[h];generalize eP (w9 I)=G at*
 have e1:I.f 761 [.D 0,I.w 4,I.w 0,I.w 1,I.w 2,I.w 3,I.w 4,.D (bZ I ej).L.length,bZ I ej,.D (bZ I iD).L.length,bZ I iD,.D (bZ I iD).L.length]=cC (0,[.D G.length,fY (I.w 4) G G.length]):=by rw[hf,p2];rfl
 have p3:bZ I uc=fY (I.w 4) G G.length:=by show ck (I.f 761 [.D 0,I.w 4,I.w 0,I.w 1,I.w 2,I.w 3,I.w 4,.D (bZ I ej).L.length,bZ I ej,.D (bZ I iD).L.length,bZ I iD,.D (bZ I iD).L.length]).L 1 1=_;rw[e1];rfl
 refine Y3 (r:=(0,[.D G.length,fY (I.w 4) G G.length])) (e89 hG P2) e1 ?_;generalize fY (I.w 4) G G.length=M at*
 have e2:I.f 762 [.D 0,bZ I uc,I.w 0,I.w 1,I.w 2,I.w 3,bZ I uc,.D (bZ I ej).L.length,bZ I ej,.D (bZ I ej).L.length]=cC (0,[.D (eT X (w9 I)).L.length,fp M (eT X (w9 I)).L (eT X (w9 I)).L.length]):=by rw[hf,p1,p3];rfl
 refine Y3 (r:=(0,[.D (eT X (w9 I)).L.length,fp M (eT X (w9 I)).L (eT X (w9 I)).L.length])) ?_ e2 ?_;show cQ _ [.D 0,bZ I uc]=_;rw[p3];exact e90 hR P1;show some (0,[Val.D 0,ck (I.f 762 [.D 0,bZ I uc,I.w 0,I.w 1,I.w 2,I.w 3,bZ I uc,.D (bZ I ej).L.length,bZ I ej,.D (bZ I ej).L.length]).L 1 1])=_;rw[e2];rfl;rw[c9 h];refine cD (by grind) ?_;show some (0,[bZ I Gf,I.w 4])=_;rw[p0]
end
def inI(x:Int):Prop:= -9223372036854775808<=x/\x<9223372036854775808
def sk(g:Nat->Int):Nat->Int
 |0=>0
 |k+1=>sk g k+g k
def c58{x:Int}(h: -18446744073709551616<=x)(h2:x<18446744073709551616):inI (IntKind.i64.wrap x)/\((inI x/\IntKind.i64.wrap x=x)\/(x< -9223372036854775808/\IntKind.i64.wrap x=x+18446744073709551616)\/(9223372036854775808<=x/\IntKind.i64.wrap x=x-18446744073709551616)):=by grind[inI,IntKind.wrap,IntKind.bits,IntKind.signed]
theorem bh1{g:Nat->Int}(hg: ∀k,inI (g k)): ∀n:Nat,n<=1000000->inI (fO g n).1/\ -(n:Int)<=(fO g n).2/\(fO g n).2<=n/\(fO g n).1+(fO g n).2*18446744073709551616=sk g n
 |0,_=>⟨⟨by show(-9223372036854775808:Int)<=0;omega,by show(0:Int)<9223372036854775808;omega⟩,by show-((0:Nat):Int)<=0;omega,by show(0:Int)<=((0:Nat):Int);omega,rfl⟩
 |n+1,hn=>by
  obtain⟨a,b,c,d⟩:=bh1 hg n (by omega);have hx:=hg n;unfold sk;rw[show fO g (n+1)=if 0<=(fO g n).1/\0<=g n/\cr .add .i64 (fO g n).1 (g n)<0 then(cr .add .i64 (fO g n).1 (g n),cr .add .i64 (fO g n).2 1)else if(fO g n).1<0/\g n<0/\0<=cr .add .i64 (fO g n).1 (g n)then(cr .add .i64 (fO g n).1 (g n),cr .sub .i64 (fO g n).2 1)else(cr .add .i64 (fO g n).1 (g n),(fO g n).2)from rfl];generalize (fO g n).1=s at*
  generalize g n=x at*
  have w:=c58 (x:=s+x) (by have:=a.1;have:=hx.1;omega) (by have:=a.2;have:=hx.2;omega);grind[cr,gN,lN,inI]
def bF8{g:Nat->Int}(hg: ∀k,inI (g k)){n:Nat}(hn:n<=1000000):((fO g n).2=0↔inI (sk g n))/\((fO g n).2=0->(fO g n).1=sk g n):=by grind[bh1,inI,fO]
