import Derived.Test.YtpmabjilbokleaaGreatEL1
set_option linter.unusedSimpArgs false
set_option linter.unusedVariables false
namespace Go.Ev.S9
open Go Go.Ev
theorem yj{step:List Val->Option (Nat×List Val)}{n:Nat}{a0:List Val}{g:Nat->List Val}(mk:Nat->List Val->List Val){s0 p:List Val}(h0:s0=mk 0 a0)
 (h1: ∀i,i<n->step (mk i (a0++U4 g i))=some (0,mk (i+1) (a0++U4 g i++g i))) (h2:step (mk n (a0++U4 g n))=some (1,p)):S5 step s0=some (0,p):=by
 have:=V9 (step:=step) (st:=λi=>mk i (a0++U4 g i)) (n:=n) (j:=0) (p:=p) (λi hi=>by
  show step (mk i (a0++U4 g i))=some (0,mk (i+1) (a0++(U4 g i++g i)));rw[h1 i hi,y8]) h2
 rw[h0];simpa only[U4,p9]using this
theorem jH(f:Nat->Val): ∀n,(U4 (λi=>[f i]) n).length=n
 |0=>rfl
 |n+1=>by rw[U4,l5,jH f n];rfl
theorem Cb{s l:Int}(h:s % l=0)(hl:1<=l)(hs:1<=s):((s/l).toNat:Int)*l=s/\1<=(s/l).toNat:=by
 grind[Int.ediv_nonneg,Int.emod_def,Int.toNat_of_nonneg,Int.mul_comm,Nat.eq_zero_or_pos]
theorem RX{I:Opq}{B:VT}{st step size:Int}{n:Nat}(hB: ∀(i:Nat) (acc:List Val),i<n->acc.length=i->R0 B (I.upd 2000 [.vi i,.vi (st+i*step),.vl acc])=some (0,[.vi (i+1:Nat),.vi (st+(i+1:Nat)*step),.vl (acc++eS st step size i)]))
 (hE: ∀acc:List Val,R0 B (I.upd 2000 [.vi n,.vi (st+n*step),.vl acc])=some (1,[.vi n,.vi (st+n*step),.vl acc])):
 S5 (λvs=>R0 B (I.upd 2000 vs)) [.vi 0,.vi st,.vl []]=some (0,[.vi n,.vi (st+n*step),.vl (U4 (eS st step size) n)]):=by
 refine yj (λi acc=>[.vi i,.vi (st+i*step),.vl acc]) (a0:=[]) (g:=eS st step size) (n:=n) ?_ (λi hi=> ?_) ?_
 .simp
 .exact hB i _ hi (by exact jH _ i)
 grind
theorem wu{I:Opq}(a b:SX):dB I (.op (.cmp .geq) [a,b])=decide ((aM I b).toI<=(aM I a).toI):=rfl
theorem T5{I:Opq}(a b:SX):dB I (.op (.cmp .leq) [a,b])=decide ((aM I a).toI<=(aM I b).toI):=rfl
theorem bK{I:Opq}(a b:SX):dB I (.op (.cmp .eql) [a,b])=decide ((aM I a).toI=(aM I b).toI):=rfl
theorem fi{I:Opq}(a:SX):dB I (.op .not [a])= !dB I a:=rfl
theorem Y4{I:Opq}(a b:SX):dB I (zn a b)=(dB I a&&dB I b):=rfl
theorem W4{I:Opq}(n:Int):(aM I (.ci n)).toI=n:=rfl
theorem V6{I:Opq}(n:Nat):(aM I (.va n)).toI=(I.w n).toI:=rfl
section
variable{X:Nat->List Val->Val}{I:Opq}(hf: ∀i a,I.f i a=FT X i a)
include hf
theorem t_wOf:R0 T_wOf I=some (0,[FT X 704 [I.w 0,I.w 1,I.w 2,I.w 3,I.w 4]]):=by
 show R0 T_wOf I=some (0,[Val.vl (bh (I.w 0).toI (I.w 1).toI (I.w 2).toI (I.w 3).toI (I.w 4))]);generalize hk:(I.w 0).toI=k;generalize hs:(I.w 1).toI=s;generalize hl:(I.w 2).toI=l;generalize hg:(I.w 3).toI=g;unfold T_wOf bh;generalize ht:(I.w 4).toI=t;have r0:aM I (.app 700 [.va 0,.va 1,.va 2,.va 3])= .vb (R9 k s l g):=by
  show I.f 700 [I.w 0,I.w 1,I.w 2,I.w 3]=_;rw[hf,<-hk,<-hs,<-hl,<-hg];rfl
 cases hR:R9 k s l g with
 |false=>
  refine S3 ?_ rfl;show(!(aM I (.app 700 [.va 0,.va 1,.va 2,.va 3])).toB)=true;rw[r0,hR];rfl
 |true=>
 refine S4 (by show(!(aM I (.app 700 [.va 0,.va 1,.va 2,.va 3])).toB)=false;rw[r0,hR];rfl) ?_;by_cases t1: ¬ -1099511627776<=t
 .have e:U8 t=false:=by unfold U8;rw[decide_eq_false t1];rfl
  rw[e];exact S4 (by rw[wu,W4,V6,ht];exact j5 t1) rfl
 replace t1:=Classical.not_not.1 t1;refine S3 (by rw[wu,W4,V6,ht];exact e9 t1) ?_;by_cases t2: ¬t<=1099511627776
 .have e:U8 t=false:=by unfold U8;rw[decide_eq_false t2,Bool.and_false]
  rw[e];exact S3 (by rw[fi,T5,W4,V6,ht,j5 t2];rfl) rfl
 replace t2:=Classical.not_not.1 t2;have e:U8 t=true:=by unfold U8;rw[decide_eq_true t1,decide_eq_true t2];rfl
 rw[e];refine S4 (by rw[fi,T5,W4,V6,ht,e9 t2];rfl) ?_;show R0 _ I=some (0,[Val.vl (if k=3 then [.vl [I.w 4,.vi (t+g)]]else U4 (eS (cu t (W8 k s l)-s+W8 k s l) (W8 k s l) s) (cg k s l))]);by_cases k3:k=3
 .rw[e8 k3];refine S3 (by show decide ((I.w 0).toI=3)=true;rw[hk];exact e9 k3) ?_;have:aS .add .i64 t g=t+g:=by
   unfold R9 at hR;simp[k3]at hR;exact cV (by omega) (by omega)
  show some (0,[Val.vl [Val.vl [I.w 4,Val.vi (aS .add .i64 (I.w 4).toI (I.w 3).toI)]]])=_;rw[ht,hg,this]
 rw[b9 k3];refine S4 (by show decide ((I.w 0).toI=3)=false;rw[hk];exact j5 k3) ?_;by_cases k2:k=2
 .refine S3 (by show decide ((I.w 0).toI=2)=true;rw[hk];exact e9 k2) ?_;have hR':(1<=s/\s<=1048576)/\(1<=l/\l<=1048576)/\s % l=0/\s/l<=16:=by
   unfold R9 at hR;simp[k2]at hR;omega
  obtain⟨⟨s1,s2⟩,⟨l1,l2⟩,sl,sq⟩:=hR';obtain⟨n1,n2⟩:=Cb sl l1 s1;have hst:W8 k s l=l:=e8 k2;have hN:cg k s l=(s/l).toNat:=by unfold cg;rw[hst]
  rw[hst,hN];have hn16:(s/l).toNat<=16:=by omega
  generalize (s/l).toNat=n at n1 n2 hN hn16;have q0:=G3 t (show l≠0 by omega);have q1:=G4 t (show 0<l by omega);have hd:aM I (.app 709 [.va 4,.va 2])= .vi (cu t l):=by
   show I.f 709 [I.w 4,I.w 2]=_;rw[hf,<-ht,<-hl];rfl
  have hD:cu t l=t-t % l:=rfl;generalize cu t l=D at hd hD;have a1:aS .sub .i64 D s=D-s:=gv (by omega) (by omega);have a2:aS .add .i64 (D-s) l=D-s+l:=cV (by omega) (by omega);have hw0:aM I Cv= .vi (D-s+l):=by
   show Val.vi (aS .add .i64 (aS .sub .i64 (aM I (.app 709 [.va 4,.va 2])).toI (I.w 1).toI) (I.w 2).toI)=_;rw[hd,hs,hl];show Val.vi (aS .add .i64 (aS .sub .i64 D s) l)=_;rw[a1,a2]
  have e0:aM I Db=V0 (0,[.vi n,.vi (D-s+l+n*l),.vl (U4 (eS (D-s+l) l s) n)]):=by
   show I.f 753 [.vi 0,aM I Cv,.vl [],I.w 0,I.w 1,I.w 2,I.w 3,aM I (.app 709 [.va 4,.va 2])]=_;rw[hf,hw0];show V0 (0,[.vi (cg (I.w 0).toI (I.w 1).toI (I.w 2).toI),.vi (D-s+l+cg (I.w 0).toI (I.w 1).toI (I.w 2).toI*W8 (I.w 0).toI (I.w 1).toI (I.w 2).toI),.vl (U4 (eS (D-s+l) (W8 (I.w 0).toI (I.w 1).toI (I.w 2).toI) (I.w 1).toI) (cg (I.w 0).toI (I.w 1).toI (I.w 2).toI))])=_;rw[hk,hs,hl,hN,hst]
  have e1:aM I Cn= .vl (U4 (eS (D-s+l) l s) n):=by show S0 (aM I Db).toL 1 2=_;rw[e0];rfl
  refine R3 (by
   rw[Y4,T5,T5,W4,W4,V6,hl,e9 l1,e9 l2];rfl) (R4 (r:=(0,[.vi n,.vi (D-s+l+n*l),.vl (U4 (eS (D-s+l) l s) n)])) ?_ e0 (R3 ?_ ?_))
  .show S5 _ [.vi 0,aM I Cv,.vl []]=_;rw[hw0];have hd':I.f 709 [I.w 4,I.w 2]= .vi D:=hd;refine RX (size:=s) (λi acc hi hacc=> ?_) (λacc=> ?_)
   .have b1:(i:Int)*l+l<=n*l:=by
     have:((i:Int)+1)*l<=n*l:=E8 (by omega) (by omega);rw[D6]at this;omega
    have b2:0<=(i:Int)*l:=G5 (by omega) (by omega);have b3:((i+1:Nat):Int)*l=(i:Int)*l+l:=by rw[Int.natCast_add,D6];simp
    have p1:D-s+l+(i:Int)*l<=D:=by omega
    have p2:aS .add .i64 (D-s+l+(i:Int)*l) l=D-s+l+((i:Int)*l+l):=by rw[cV (by omega) (by omega)];omega
    have p3:aS .add .i64 (D-s+l+(i:Int)*l) s=D-s+l+(i:Int)*l+s:=cV (by omega) (by omega);have p4:(i:Int)+1<=1000000:=by omega
    rw[b3];unfold Kp eS;generalize (i:Int)*l=z at*
    simp[R0,R7,aM,dB,W7,T1,cp,hd',hk,hs,hl,k2,p1,p2,p3,p4,hacc]
   .have p1: ¬D-s+l+(n:Int)*l<=D:=by omega
    unfold Kp;simp[R0,R7,aM,dB,W7,T1,cp,hd',p1]
  .show decide ((S0 (aM I Db).toL 1 0).toI=((aM I Cn).toL.length:Int))=true;rw[e1,e0];exact e9 (congrArg Int.ofNat (jH _ n).symm)
  .show some (0,[aM I Cn])=_;rw[e1]
 .refine S4 (by show decide ((I.w 0).toI=2)=false;rw[hk];exact j5 k2) ?_;have hR':1<=s/\s<=1048576:=by
   unfold R9 at hR;by_cases k1:k=1
   .simp[k1]at hR;omega
   .simp[k1,k2,k3]at hR
  obtain⟨s1,s2⟩:=hR';have sl:s % s=0:=Int.emod_self;obtain⟨n1,n2⟩:=Cb sl s1 s1;have hst:W8 k s l=s:=b9 k2;have hN:cg k s l=(s/s).toNat:=by unfold cg;rw[hst]
  rw[hst,hN];have hn16:(s/s).toNat<=16:=by rw[M8 (by omega)];decide
  generalize (s/s).toNat=n at n1 n2 hN hn16;have q0:=G3 t (show s≠0 by omega);have q1:=G4 t (show 0<s by omega);have hd:aM I (.app 709 [.va 4,.va 1])= .vi (cu t s):=by
   show I.f 709 [I.w 4,I.w 1]=_;rw[hf,<-ht,<-hs];rfl
  have hD:cu t s=t-t % s:=rfl;generalize cu t s=D at hd hD;have a1:aS .sub .i64 D s=D-s:=gv (by omega) (by omega);have a2:aS .add .i64 (D-s) s=D-s+s:=cV (by omega) (by omega);have hw0:aM I Dc= .vi (D-s+s):=by
   show Val.vi (aS .add .i64 (aS .sub .i64 (aM I (.app 709 [.va 4,.va 1])).toI (I.w 1).toI) (I.w 1).toI)=_;rw[hd,hs];show Val.vi (aS .add .i64 (aS .sub .i64 D s) s)=_;rw[a1,a2]
  have e0:aM I Az=V0 (0,[.vi n,.vi (D-s+s+n*s),.vl (U4 (eS (D-s+s) s s) n)]):=by
   show I.f 753 [.vi 0,aM I Dc,.vl [],I.w 0,I.w 1,I.w 2,I.w 3,aM I (.app 709 [.va 4,.va 1])]=_;rw[hf,hw0];show V0 (0,[.vi (cg (I.w 0).toI (I.w 1).toI (I.w 2).toI),.vi (D-s+s+cg (I.w 0).toI (I.w 1).toI (I.w 2).toI*W8 (I.w 0).toI (I.w 1).toI (I.w 2).toI),.vl (U4 (eS (D-s+s) (W8 (I.w 0).toI (I.w 1).toI (I.w 2).toI) (I.w 1).toI) (cg (I.w 0).toI (I.w 1).toI (I.w 2).toI))])=_;rw[hk,hs,hl,hN,hst]
  have e1:aM I Bj= .vl (U4 (eS (D-s+s) s s) n):=by show S0 (aM I Az).toL 1 2=_;rw[e0];rfl
  refine R3 (by
   rw[Y4,T5,T5,W4,W4,V6,hs,e9 s1,e9 s2];rfl) (R4 (r:=(0,[.vi n,.vi (D-s+s+n*s),.vl (U4 (eS (D-s+s) s s) n)])) ?_ e0 (R3 ?_ ?_))
  .show S5 _ [.vi 0,aM I Dc,.vl []]=_;rw[hw0];have hd':I.f 709 [I.w 4,I.w 1]= .vi D:=hd;refine RX (size:=s) (λi acc hi hacc=> ?_) (λacc=> ?_)
   .have b1:(i:Int)*s+s<=n*s:=by
     have:((i:Int)+1)*s<=n*s:=E8 (by omega) (by omega);rw[D6]at this;omega
    have b2:0<=(i:Int)*s:=G5 (by omega) (by omega);have b3:((i+1:Nat):Int)*s=(i:Int)*s+s:=by rw[Int.natCast_add,D6];simp
    have p1:D-s+s+(i:Int)*s<=D:=by omega
    have p2:aS .add .i64 (D-s+s+(i:Int)*s) s=D-s+s+((i:Int)*s+s):=by rw[cV (by omega) (by omega)];omega
    have p3:aS .add .i64 (D-s+s+(i:Int)*s) s=D-s+s+(i:Int)*s+s:=cV (by omega) (by omega);have p4:(i:Int)+1<=1000000:=by omega
    rw[b3];unfold Ln eS;generalize (i:Int)*s=z at*
    simp only[Int.sub_add_cancel]at p1 p2 p3⊢;simp[R0,R7,aM,dB,W7,T1,cp,hd',hk,hs,k2,p1,p2,p3,p4,hacc];omega
   .have p1: ¬D-s+s+(n:Int)*s<=D:=by omega
    unfold Ln;simp only[Int.sub_add_cancel]at p1⊢;simp[R0,R7,aM,dB,W7,T1,cp,hd',p1]
  .show decide ((S0 (aM I Az).toL 1 0).toI=((aM I Bj).toL.length:Int))=true;rw[e1,e0];exact e9 (congrArg Int.ofNat (jH _ n).symm)
  .show some (0,[aM I Bj])=_;rw[e1]
end
end Go.Ev.S9
namespace Go.Ev.S9
open Go Go.Ev
theorem a3{p q r:Prop} [Decidable p] [Decidable q] [Decidable r](hp:p)(hq:q)(hr:r):(decide p&&decide q&&decide r)=true:=by grind
theorem dt8(l:List Val)(c k:Nat):(jG l c k).length<=1:=by grind[jG,pf,aO]
theorem dt9(l:List Val): ∀k,(U4 (jG l 1) k).length=(U4 (jG l 0) k).length
 |0=>rfl
 |k+1=>by
  rw[U4,U4,l5,l5,dt9 l k];grind[jG,pf,aO]
theorem Fe(l:List Val): ∀k,∃a b c d,jS l k=[a,b,c,d]
 |0=>⟨_,_,_,_,rfl⟩
 |k+1=>by
  unfold jS;cases pf (aO l k)with
  |true=>exact Fe l k
  |false=>
   split<;>exact⟨_,_,_,_,rfl⟩
def yT(l:List Val)(k:Nat):List Val:=[.vi (U4 (jG l 0) k).length,.vi (U4 (jG l 1) k).length,.vi k]++jS l k++[.vl (U4 (jG l 0) k),.vl (U4 (jG l 1) k)]
section
variable{X:Nat->List Val->Val}{I:Opq}(hf: ∀i a,I.f i a=FT X i a)
include hf
theorem t_join(hn:(I.w 0).toL.length<=1000):R0 T_join I=some (0,[(jR (I.w 0).toL).getD 0 default,(jR (I.w 0).toL).getD 1 default,(jR (I.w 0).toL).getD 2 default,(jR (I.w 0).toL).getD 3 default,FT X 706 [I.w 0]]):=by
 have gl: ∀k,(U4 (jG (I.w 0).toL 0) k).length<=k:=λk=>by simpa using Y7 (g:=jG (I.w 0).toL 0) (m:=1) (λ_=>dt8 _ _ _) k
 have gs: ∀k,(U4 (jG (I.w 0).toL 1) k).length=(U4 (jG (I.w 0).toL 0) k).length:=λk=>dt9 _ k
 have e0:aM I fY=V0 (0,yT (I.w 0).toL (I.w 0).toL.length):=by
  show I.f 752 [.vi 0,.vi 0,.vi 0,.vi 0,.vi 0,.vi 0,.vi 0,.vl [],.vl [],.vi 0,.vi (I.w 0).toL.length,I.w 0,.vi (I.w 0).toL.length]=_;rw[hf];rfl
 have lp:S5 (λvs=>R0 HL (I.upd 2000 vs)) [.vi 0,.vi 0,.vi 0,.vi 0,.vi 0,.vi 0,.vi 0,.vl [],.vl []]=some (0,yT (I.w 0).toL (I.w 0).toL.length):=by
  refine V9 (st:=yT (I.w 0).toL) (n:=(I.w 0).toL.length) (λk hk=> ?_) ?_
  .have p1:(k:Int)<((I.w 0).toL.length:Int):=by omega
   have p2:(0:Int)<=(k:Int):=by omega
   have p3:=V8 hk (by omega);have p4: ∀j:Nat,S0 (I.w 0).toL (k:Int) (j:Int)=S1 (aO (I.w 0).toL k) j:=λ_=>rfl
   have q0:=p4 0;have q1:=p4 1;have q2:=p4 2;have q3:=p4 3;simp only[Int.natCast_zero,show((1:Nat):Int)=1 from rfl,show((2:Nat):Int)=2 from rfl,show((3:Nat):Int)=3 from rfl]at q0 q1 q2 q3;have g1:=gl k;have g2:=gs k;obtain⟨a,b,c,d,hS⟩:=Fe (I.w 0).toL k;unfold yT;rw[U4,U4,jS,hS];generalize U4 (jG (I.w 0).toL 0) k=C at*
   generalize U4 (jG (I.w 0).toL 1) k=T at*
   have g3:(C.length:Int)+1<=1000000:=by omega
   have g4:(T.length:Int)=(C.length:Int):=by omega
   unfold jG pf xe ci;generalize hr:aO (I.w 0).toL k=r at*
   unfold HL;by_cases hb:(S1 r 0).toI=0/\(S1 r 1).toI=0/\(S1 r 2).toI=0/\(S1 r 3).toI=0
   .simp_all[R0,R7,aM,dB,W7,T1]
   .have hb':(decide ((S1 r 0).toI=0)&&(decide ((S1 r 1).toI=0)&&(decide ((S1 r 2).toI=0)&&decide ((S1 r 3).toI=0))))=false:=by
     rw[<-A3];intro h;exact hb (by simpa using h)
    simp only[hb',cond_false];by_cases hz:C.length=0
    .simp[R0,R7,aM,dB,W7,T1,p1,p2,p3,q0,q1,q2,q3,hb,hz,g2,g3,g4]
    simp_all[R0,R7,aM,dB,W7,T1]
  .obtain⟨a,b,c,d,hS⟩:=Fe (I.w 0).toL (I.w 0).toL.length;unfold yT HL;simp_all[R0,R7,aM,dB,W7,T1]
 obtain⟨a,b,c,d,hS⟩:=Fe (I.w 0).toL (I.w 0).toL.length;have cl:(jC (I.w 0).toL).length<=1000:=n8 (gl _) hn;have tl:(jT (I.w 0).toL).length<=1000:=by grind[jT]
 have e1:aM I fY=V0 (0,[.vi (jC (I.w 0).toL).length,.vi (jT (I.w 0).toL).length,.vi (I.w 0).toL.length,a,b,c,d,.vl (jC (I.w 0).toL),.vl (jT (I.w 0).toL)]):=by
  rw[e0];unfold yT;rw[hS];rfl
 have d1:aM I BZ= .vi (jC (I.w 0).toL).length:=by show S0 (aM I fY).toL 1 0=_;rw[e1];rfl
 have d2:aM I CH= .vl (jC (I.w 0).toL):=by show S0 (aM I fY).toL 1 7=_;rw[e1];rfl
 have d4:aM I CV= .vi (jT (I.w 0).toL).length:=by show S0 (aM I fY).toL 1 1=_;rw[e1];rfl
 have d5:aM I Cd= .vl (jT (I.w 0).toL):=by show S0 (aM I fY).toL 1 8=_;rw[e1];rfl
 have d6:aM I (zo fY 5)=c:=by show S0 (aM I fY).toL 1 5=_;rw[e1];rfl
 have d7:aM I (zo fY 6)=d:=by show S0 (aM I fY).toL 1 6=_;rw[e1];rfl
 have ls: ∀l:List Val,(l.drop (0:Int).toNat).take ((l.length:Int)-0).toNat=l:=λl=>by simp
 have d3:aM I li= .vl (jC (I.w 0).toL):=by
  show Val.vl (((aM I CH).toL.drop (0:Int).toNat).take ((aM I BZ).toI-0).toNat)=_;simp_all
 have d8:aM I oH= .vl (jT (I.w 0).toL):=by
  show Val.vl (((aM I Cd).toL.drop (0:Int).toNat).take ((aM I CV).toI-0).toNat)=_;simp_all
 unfold T_join;refine R4 lp e0 (R3 ?_ (R3 ?_ ?_))
 .rw[Y4,Y4,T5,T5,T5,W4,W4,d1];show((decide ((0:Int)<=((jC (I.w 0).toL).length:Int))&&decide (((jC (I.w 0).toL).length:Int)<=((aM I CH).toL.length:Int)))&&decide (((aM I li).toL.length:Int)<=1000000))=true;rw[d2,d3];exact a3 (by omega) (u9 _) (by show((jC (I.w 0).toL).length:Int)<=1000000;omega)
 .rw[Y4,Y4,T5,T5,T5,W4,W4,d4];show((decide ((0:Int)<=((jT (I.w 0).toL).length:Int))&&decide (((jT (I.w 0).toL).length:Int)<=((aM I Cd).toL.length:Int)))&&decide (((aM I oH).toL.length:Int)<=1000000))=true;rw[d5,d8];exact a3 (by omega) (u9 _) (by show((jT (I.w 0).toL).length:Int)<=1000000;omega)
 .have f1:I.f 703 [aM I li]= .vi (cO (jC (I.w 0).toL)):=by rw[hf,d3];rfl
  have f2:I.f 703 [aM I oH]= .vi (cO (jT (I.w 0).toL)):=by rw[hf,d8];rfl
  have f3:I.f 702 [aM I li]= .vi (mO (jC (I.w 0).toL)):=by rw[hf,d3];rfl
  have f4:I.f 702 [aM I oH]= .vi (mO (jT (I.w 0).toL)):=by rw[hf,d8];rfl
  show R0 (.ite (.op (.cmp .neq) [.app 703 [li],.ci 0]) _ _) I=some (0,[(jR (I.w 0).toL).getD 0 default,(jR (I.w 0).toL).getD 1 default,(jR (I.w 0).toL).getD 2 default,(jR (I.w 0).toL).getD 3 default,.vi (jE (I.w 0).toL)]);unfold jR jE;rw[hS];by_cases h1:cO (jC (I.w 0).toL)=0
  .refine S4 ?_ ?_
   .show(!decide ((I.f 703 [aM I li]).toI=0))=false;simp_all
   .by_cases h2:cO (jT (I.w 0).toL)=0
    .rw[b9 (by omega),b9 (by omega)];refine S4 ?_ ?_
     .show(!decide ((I.f 703 [aM I oH]).toI=0))=false;simp_all
     .show some (0,[I.f 702 [aM I li],I.f 702 [aM I oH],aM I (zo fY 5),aM I (zo fY 6),.vi 0])=_;grind
    .rw[e8 (.inr h2),e8 (.inr h2)];refine S3 ?_ rfl;show(!decide ((I.f 703 [aM I oH]).toI=0))=true;simp_all
  .rw[e8 (.inl h1),e8 (.inl h1)];refine S3 ?_ rfl;show(!decide ((I.f 703 [aM I li]).toI=0))=true;simp_all
end
end Go.Ev.S9
namespace Go.Ev.S9
open Go Go.Ev
theorem aX0{I:Opq}{hd:LHd}{l:SX}{b k:VT}{ks:List VT}{D:List Val}{x:Option (Nat×List Val)}(h1:yd (λvs=>R0 b (I.upd hd.v0 vs)) (dL I l).length (R7 I hd.s0) D)(h2:I.f hd.id (R7 I (hd.s0++hd.fv))=V0 (0,[.vi D.length,.vl D]))(h3:R0 k I=x):R0 (.mloop hd l b (k::ks)) I=x:=by
 rw[R0,e8 ⟨D,h1,h2⟩];exact h3
theorem run_map{step:List Val->Option (Nat×List Val)}{g:Nat->List Val}(hg: ∀i,(g i).length<=1)
 (h: ∀(i:Nat) (A:List Val),A.length<1000000->step [.vi A.length,.vl A,.vi i]=some (0,[.vi (A++g i).length,.vl (A++g i)])): ∀(p:List Nat) (A:List Val),A.length+p.length<=1000000->
 eT step p [.vi A.length,.vl A]=some [.vi (A++p.flatMap g).length,.vl (A++p.flatMap g)]
 | [],A,_=>by rw[List.flatMap_nil,p9];rfl
 |i::p,A,hl=>by
  rw[List.length_cons]at hl;have:=hg i;have ih:=run_map hg h p (A++g i) (by rw[l5];omega);rw[eT];show(match step [.vi A.length,.vl A,.vi i]with|some (0,s')=>eT step p s'|_=>none)=_;rw[h i A (by omega)];show eT _ p [.vi (A++g i).length,.vl (A++g i)]=_;rw[ih,y8];rfl
theorem map_map{step:List Val->Option (Nat×List Val)}{g:Nat->List Val}{n:Nat}(hn:n<=1000000)(hg: ∀i,(g i).length<=1)
 (h: ∀(i:Nat) (A:List Val),A.length<1000000->step [.vi A.length,.vl A,.vi i]=some (0,[.vi (A++g i).length,.vl (A++g i)])):yd step n [.vi (0:Nat),.vl []] (U4 g n):=by
 rw[nW];constructor
 .exact run_map hg h (List.range n) [] (by simpa using hn)
 .intro p hp;have:=run_map hg h p [] (by rw[hp.length_eq];simpa using hn);exact⟨_,this,hp.flatMap_right _⟩
section
variable{X:Nat->List Val->Val}{I:Opq}(hf: ∀i a,I.f i a=FT X i a)
include hf
theorem t_aput:R0 T_aput I=some (0,[(kr (I.w 0) (I.w 1) (I.w 2) (I.w 3) (I.w 4)).getD 0 default,(kr (I.w 0) (I.w 1) (I.w 2) (I.w 3) (I.w 4)).getD 1 default,(kr (I.w 0) (I.w 1) (I.w 2) (I.w 3) (I.w 4)).getD 2 default,(kr (I.w 0) (I.w 1) (I.w 2) (I.w 3) (I.w 4)).getD 3 default,FT X 708 [I.w 0,I.w 1,I.w 2,I.w 3,I.w 4]]):=by
 have r0:aM I gq= .vl (pR (I.w 0) (I.w 1) (I.w 2) (I.w 3) (I.w 4)):=rfl;have f6:I.f 706 [aM I gq]= .vi (jE (pR (I.w 0) (I.w 1) (I.w 2) (I.w 3) (I.w 4))):=by rw[hf,r0];rfl
 have f5:I.f 705 [aM I gq]= .vl [.vl (jR (pR (I.w 0) (I.w 1) (I.w 2) (I.w 3) (I.w 4)))]:=by rw[hf,r0];rfl
 have f8:FT X 708 [I.w 0,I.w 1,I.w 2,I.w 3,I.w 4]= .vi (jE (pR (I.w 0) (I.w 1) (I.w 2) (I.w 3) (I.w 4))):=rfl;rw[f8];unfold T_aput kr;generalize pR (I.w 0) (I.w 1) (I.w 2) (I.w 3) (I.w 4)=l at r0 f5 f6;refine R3 (by rw[T5,W4];exact e9 (by show(2:Int)<=1000;omega)) ?_;by_cases h:jE l=0
 .rw[b9 (by simp[h])];refine S4 ?_ ?_
  .show(!decide ((I.f 706 [aM I gq]).toI=0))=false;rw[f6];simp[h]
  .show some (0,[S0 (I.f 705 [aM I gq]).toL 0 0,S0 (I.f 705 [aM I gq]).toL 0 1,S0 (I.f 705 [aM I gq]).toL 0 2,S0 (I.f 705 [aM I gq]).toL 0 3,.vi 0])=_;rw[f5,h];rfl
 .rw[e8 h];refine S3 ?_ ?_
  .show(!decide ((I.f 706 [aM I gq]).toI=0))=true;rw[f6];simp[h]
  .show some (0,[I.w 0,I.w 1,I.w 2,I.w 3,I.f 706 [aM I gq]])=_;rw[f6];rfl
theorem t_trows(h431: ∀v:Val,(X 431 [v]).toB=true->v= .vl v.toL/\ ∀r∈v.toL,W3 r=r)(hn:dB I (zn (zn (zb (zl 4) 400) (.app 431 [.va 4])) (.app 491 [.va 4]))=true):
 R0 T_trows I=some (0,[X 490 [I.w 4]]):=by
 obtain⟨n1,n2⟩:=Q8 (show(dB I (zn (zb (zl 4) 400) (.app 431 [.va 4]))&&dB I (.app 491 [.va 4]))=true from hn);obtain⟨n3,n4⟩:=Q8 (show(dB I (zb (zl 4) 400)&&dB I (.app 431 [.va 4]))=true from n1);have n3':((I.w 4).toL.length:Int)<=400:=j6 n3;obtain⟨e4,hk⟩:=h431 (I.w 4) (by rw[show X 431 [I.w 4]=I.f 431 [I.w 4]from(hf 431 [I.w 4]).symm];exact n4);have hm:(I.w 4).toL.map W3=(I.w 4).toL:=by
  conv=>rhs;rw[<-E9 (I.w 4).toL]
  exact x6 hk
 have e0:aM I wG=V0 (0,[.vi (I.w 4).toL.length,I.w 4]):=by
  show I.f 750 [.vi 0,.vl [],I.w 4]=_;rw[hf];show V0 (0,[.vi (I.w 4).toL.length,.vl ((I.w 4).toL.map W3)])=_;rw[hm,<-e4]
 have e1:aM I lI=I.w 4:=by show S0 (aM I wG).toL 1 1=_;rw[e0];rfl
 have hga:U4 (λi=>[W3 (aO (I.w 4).toL i)]) (I.w 4).toL.length=(I.w 4).toL:=by
  rw[nW];refine Eq.trans ?_ hm;rw[<-Q3];refine K1 (by simp) (λi h1 h2=> ?_);have hi:i<(I.w 4).toL.length:=by simpa using h1
  simp[aO,j9,hi]
 unfold T_trows;refine aX0 (D:=(I.w 4).toL) ?_ ?_ (R3 ?_ ?_)
 .show yd _ (I.w 4).toL.length [.vi ((0:Nat):Int),.vl []] (I.w 4).toL;have:=map_map (step:=λvs=>R0 Pj (I.upd 2000 vs)) (g:=λi=>[W3 (aO (I.w 4).toL i)]) (n:=(I.w 4).toL.length) (by omega) (λ_=>i6 _) (λi A hA=> ?_)
  .rw[hga]at this;exact this
  .have p4: ∀j:Nat,S0 (I.w 4).toL (i:Int) (j:Int)=S1 (aO (I.w 4).toL i) j:=λ_=>rfl
   have q0:=p4 0;have q1:=p4 1;have q2:=p4 2;have q3:=p4 3;have q4:=p4 4;have q5:=p4 5;have q6:=p4 6;simp only[Int.natCast_zero,show((1:Nat):Int)=1 from rfl,show((2:Nat):Int)=2 from rfl,show((3:Nat):Int)=3 from rfl,show((4:Nat):Int)=4 from rfl,show((5:Nat):Int)=5 from rfl,show((6:Nat):Int)=6 from rfl]at q0 q1 q2 q3 q4 q5 q6;have g3:(A.length:Int)+1<=1000000:=by omega
   unfold Pj W3;simp[R0,R7,aM,dB,W7,T1,q0,q1,q2,q3,q4,q5,q6,g3]
 .show aM I wG=_;rw[e0];conv=>lhs;rw[e4]
  rfl
 .show(decide ((S0 (aM I wG).toL 1 0).toI=((aM I lI).toL.length:Int))&&(decide (((aM I lI).toL.length:Int)<=400)&&(I.f 431 [aM I lI]).toB&&(I.f 491 [aM I lI]).toB))=true;rw[e1,e0];have m1:(I.f 431 [I.w 4]).toB=true:=n4;have m2:(I.f 491 [I.w 4]).toB=true:=n2;rw[m1,m2];show(decide (((I.w 4).toL.length:Int)=((I.w 4).toL.length:Int))&&(decide (((I.w 4).toL.length:Int)<=400)&&true&&true))=true;simp;omega
 .show some (0,[I.f 490 [aM I lI]])=_;rw[e1,hf];rfl
end
end Go.Ev.S9
namespace Go.Ev.S9
open Go Go.Ev
theorem e09{a b c:Bool}(h1:a=true)(h2:b=true)(h3:c=true):(a&&(b&&c))=true:=by grind
theorem IK(x y:Val):Go.Proofs.ltOf spanV x y=decide (ci x 1<ci y 1\/ci x 1=ci y 1/\ci x 0<ci y 0):=by
 unfold Go.Proofs.ltOf spanV yk;grind
theorem swo_spanV:Go.Sort.SWO (Go.Proofs.ltOf spanV)where
 irrefl x:=by grind[IK,decide_eq_false]
 trans x y z h1 h2:=by
  rw[IK]at*
  grind
 ntrans x y z h1 h2:=by
  grind[IK,of_decide_eq_false,decide_eq_false]
theorem Xy(l:List Val)(key:List UInt8)(i:Nat):(ww l key i).length<=1:=by
 grind[ww,decide,S1,aO]
def GQ(key:List UInt8)(r:Val):List Val:=bif decide ((S1 r 0).toS=key)then [.vl [S1 r 1,S1 r 2]]else []
theorem Va(l:List Val)(key:List UInt8):dy l key=l.flatMap (GQ key):=by
 unfold dy;rw[nW];show((List.range l.length).flatMap λi=>GQ key (l.getD i (.vl [])))=_;induction l with
 |nil=>rfl
 |cons a l ih=>
  simp_all[List.length_cons,I3,B1,J1]
theorem Dm(l:List Val)(key:List UInt8):(dy l key).length<=l.length:=by unfold dy;simpa using Y7 (g:=ww l key) (m:=1) (Xy l key) l.length
theorem cS6{l:List Val}(key:List UInt8)(h:(l.map R8).Nodup):((dy l key).map R6).Nodup:=by
 rw[Va];induction l with
 |nil=>grind
 |cons a l ih=>
  rw[n9,C8]at h;rw[B1,u4];unfold GQ;cases hk:decide ((S1 a 0).toS=key)with
  |false=>exact ih h.2
  |true=>
   show(R6 (.vl [S1 a 1,S1 a 2])::_).Nodup;rw[C8];refine⟨λhm=>h.1 ?_,ih h.2⟩;obtain⟨x,hx,e⟩:=j8.1 hm;obtain⟨r,hr,hx⟩:=B2.1 hx;cases hk':decide ((S1 r 0).toS=key)with
   |false=>grind
   |true=>
    rw[hk']at hx;have hx:x∈[Val.vl [S1 r 1,S1 r 2]]:=hx;rw[m9]at hx;subst hx;have e1:(S1 r 1).toI=(S1 a 1).toI:=congrArg Prod.fst e;have e2:(S1 r 2).toI=(S1 a 2).toI:=congrArg Prod.snd e;grind[R8]
section
variable{X:Nat->List Val->Val}{I:Opq}(hf: ∀i a,I.f i a=FT X i a)
include hf
theorem t_tsess(h491: ∀v:Val,(X 491 [v]).toB=true->(v.toL.map R8).Nodup)(hn:dB I (zn (zb (zl 4) 400) (.app 491 [.va 4]))=true):
 R0 T_tsess I=some (0,[FT X 723 [I.w 4,I.w 5]]):=by
 obtain⟨n3,n4⟩:=Q8 (show(dB I (zb (zl 4) 400)&&dB I (.app 491 [.va 4]))=true from hn);have n3':((I.w 4).toL.length:Int)<=400:=j6 n3;have nd:=h491 (I.w 4) (by rw[show X 491 [I.w 4]=I.f 491 [I.w 4]from(hf 491 [I.w 4]).symm];exact n4);have sl:=Dm (I.w 4).toL (I.w 5).toS;have sn:=cS6 (I.w 5).toS nd;have e0:aM I BY=V0 (0,[.vi (dy (I.w 4).toL (I.w 5).toS).length,.vl (dy (I.w 4).toL (I.w 5).toS)]):=by
  show I.f 757 [.vi 0,.vl [],I.w 5,I.w 4]=_;rw[hf];rfl
 have hs:FT X 723 [I.w 4,I.w 5]= .vl (dT spanV (dy (I.w 4).toL (I.w 5).toS)):=rfl;rw[hs];have hg: ∀i,(ww (I.w 4).toL (I.w 5).toS i).length<=1:=Xy _ _;have hmap:yd (λvs=>R0 KZ (I.upd 2000 vs)) (I.w 4).toL.length [.vi ((0:Nat):Int),.vl []] (dy (I.w 4).toL (I.w 5).toS):=by
  refine map_map (by omega) hg (λi A hA=> ?_);have p4: ∀j:Nat,S0 (I.w 4).toL (i:Int) (j:Int)=S1 (aO (I.w 4).toL i) j:=λ_=>rfl
  have q0:=p4 0;have q1:=p4 1;have q2:=p4 2;simp at q0 q1 q2;have g3:(A.length:Int)+1<=1000000:=by omega
  unfold KZ ww;by_cases hk:(S1 (aO (I.w 4).toL i) 0).toS=(I.w 5).toS
  .simp[R0,R7,aM,dB,W7,T1,q0,q1,q2,g3,hk]
  simp_all[R0,R7,aM,dB,W7,T1]
 generalize dy (I.w 4).toL (I.w 5).toS=D at*
 have e1:aM I AG= .vi D.length:=by show S0 (aM I BY).toL 1 0=_;rw[e0];rfl
 have e2:aM I lg= .vl D:=by show S0 (aM I BY).toL 1 1=_;rw[e0];rfl
 have e3:I.f 715 [aM I lg]= .vl (dT spanV D):=by rw[e2,hf];rfl
 refine aX0 (D:=D) hmap e0 (R3 ?_ (R3 ?_ ?_))
 .show(decide ((aM I AG).toI=((aM I lg).toL.length:Int))&&(decide (((aM I lg).toL.length:Int)<=1000000)&&(I.f 716 [aM I lg]).toB))=true;rw[e1,e2,hf];exact e09 (e9 rfl) (e9 (by show(D.length:Int)<=1000000;omega)) (e9 sn)
 .show decide ((aM I AG).toI=((I.f 715 [aM I lg]).toL.length:Int))=true;simp_all[e9,congrArg,DY,swo_spanV]
 .show some (0,[I.f 715 [aM I lg]])=_;rw[e3]
end
end Go.Ev.S9
namespace Go.Ev.S9
open Go Go.Ev
section
variable{X:Nat->List Val->Val}{I:Opq}(hf: ∀i a,I.f i a=FT X i a)
include hf
omit hf in
theorem Rx{i:Nat}(hn:(I.w 1).toL.length<=400)(hi:i<(I.w 1).toL.length):
 R0 wv (I.upd 2000 [.vb false,.vi i])=if iz (I.w 0).toI (I.w 1).toL i=true then some (2,[.vb false,.vi i])else some (0,[.vb false,.vi (i+1:Nat)]):=by
 have p1:(i:Int)<((I.w 1).toL.length:Int):=by omega
 have p2:(0:Int)<=(i:Int):=by omega
 have p3:=V8 hi (by omega);have p0:(S0 (I.w 1).toL (i:Int) (0:Int)).toI=ci (aO (I.w 1).toL i) 0:=rfl;have p4:(S0 (I.w 1).toL (i:Int) (1:Int)).toI=ci (aO (I.w 1).toL i) 1:=rfl;have p5:0<i->aS .sub .i64 (i:Int) 1=((i-1:Nat):Int):=λh=>by grind[gv]
 have p6:(S0 (I.w 1).toL ((i-1:Nat):Int) (1:Int)).toI=ci (aO (I.w 1).toL (i-1)) 1:=rfl;unfold iz Uh;generalize hs:ci (aO (I.w 1).toL i) 0=s at*
 generalize he:ci (aO (I.w 1).toL i) 1=e at*
 generalize hp:ci (aO (I.w 1).toL (i-1)) 1=p at*
 generalize hg:(I.w 0).toI=g;generalize hw:aS .sub .i64 e s=w;unfold wv;have z1:((i-1:Nat):Int)<((I.w 1).toL.length:Int):=by omega
 have z2:(0:Int)<=((i-1:Nat):Int):=by omega
 rcases K2 i with i0|i0
 .subst i0;have h0:(0:Int)<((I.w 1).toL.length:Int):=by omega
  have p3':aS .add .i64 0 1=1:=p3;have p0':(S0 (I.w 1).toL 0 0).toI=s:=p0;have p4':(S0 (I.w 1).toL 0 1).toI=e:=p4;clear p0 p1 p2 p3 p4 p5 p6 z1 z2 hp;by_cases a1:0<=e<;>by_cases a2:0<=s<;>by_cases a3:0<=w<;>by_cases a4:e<=s<;>by_cases a5:w<g<;>
   simp[R0,R7,aM,dB,W7,T1,hi,h0,p3',p0',p4',hg,hw,a1,a2,a3,a4,a5]
 .have p5:=p5 i0;have i1:(0:Int)<(i:Int):=by omega
  by_cases a1:0<=e<;>by_cases a2:0<=s<;>by_cases a3:0<=w<;>by_cases a4:e<=s<;>by_cases a5:w<g<;>by_cases a6:s<p<;>
   simp[R0,R7,aM,dB,W7,T1,p1,p2,p3,p0,p4,p5,p6,hg,hw,a1,a2,a3,a4,a5,a6,i0,i1,z1,z2]
theorem t_sRight(hn:dB I (zb (zl 1) 400)=true):R0 T_sRight I=some (0,[FT X 711 [I.w 0,I.w 1]]):=by
 have hn:((I.w 1).toL.length:Int)<=400:=j6 hn;have hF:FT X 711 [I.w 0,I.w 1]= .vb (!(List.range (I.w 1).toL.length).any (iz (I.w 0).toI (I.w 1).toL)):=rfl;have h0:=GU (x:= .vb false) (px:=λk=>[.vb false,.vi k]) (bad:=iz (I.w 0).toI (I.w 1).toL) (n:=(I.w 1).toL.length);have e0:I.f 754 [.vb false,.vi 0,I.w 0,.vi 0,.vi (I.w 1).toL.length,I.w 1,.vi 0,.vi (I.w 1).toL.length,I.w 1,.vi (I.w 1).toL.length]=V0 (fA (.vb false) (λk=>[.vb false,.vi k]) (iz (I.w 0).toI (I.w 1).toL) (I.w 1).toL.length):=by rw[hf];rfl
 rw[hF];unfold T_sRight;refine R4 (r:=fA (.vb false) (λk=>[.vb false,.vi k]) (iz (I.w 0).toI (I.w 1).toL) (I.w 1).toL.length) ?_ e0 ?_
 .show S5 _ [.vb false,.vi 0]=_;refine Ak (λi hi hb=> ?_) (λi hi hb=> ?_) ?_
  .show R0 wv (I.upd 2000 [.vb false,.vi i])=_;rw[Rx (by omega) hi,hb];rfl
  .show R0 wv (I.upd 2000 [.vb false,.vi i])=_;rw[Rx (by omega) hi,hb];rfl
  simp_all[wv,R0,R7,aM,dB,W7,T1]
 .rw[h0]at e0;rw[h0];cases hb:(List.range (I.w 1).toL.length).any (iz (I.w 0).toI (I.w 1).toL)with
  |true=>
   rw[hb]at e0;show some (0,[S0 (I.f 754 [.vb false,.vi 0,I.w 0,.vi 0,.vi (I.w 1).toL.length,I.w 1,.vi 0,.vi (I.w 1).toL.length,I.w 1,.vi (I.w 1).toL.length]).toL 1 0])=_;rw[e0];rfl
  |false=>rfl
end
end Go.Ev.S9
namespace Go.Ev.S9
open Go Go.Ev
theorem Sl(l:List Val)(t o:Int)(i:Nat):(vR l t o i).length<=1:=by grind[vR,na,aO]
theorem VH(l:List Val)(t o:Int)(i:Nat):(tU l t o i).length<=1:=by grind[tU,na,aO]
theorem Mz(l:List Val)(x:Int): ∀n i j:Nat,i<=j->j-i<=n->i<=jA l x n i j/\jA l x n i j<=j
 |0,i,j,h,h2=>by grind[jA]
 |n+1,i,j,h,h2=>by
  unfold jA;split
  .split
   .have:=Mz l x n ((i+j)/2+1) j (by omega) (by omega);omega
   .have:=Mz l x n i ((i+j)/2) (by omega) (by omega);omega
  .omega
theorem NZ{step:List Val->Option (Nat×List Val)}{l:List Val}{x:Int}{m:Nat}
 (h1: ∀i j:Nat,i<j->j<=m->step [.vi i,.vi j]=some (0,if ci (aO l ((i+j)/2)) 0<x then [.vi ((i+j)/2+1:Nat),.vi j]else [.vi i,.vi ((i+j)/2:Nat)]))
 (h2: ∀i:Nat,step [.vi i,.vi i]=some (1,[.vi i,.vi i])): ∀n i j:Nat,i<=j->j<=m->j-i<=n->S5 step [.vi i,.vi j]=some (0,[.vi (jA l x n i j),.vi (jA l x n i j)])
 |0,i,j,a,b,c=>by
  obtain rfl:i=j:=by omega
  rw[W2];exact .out (h2 i)
 |n+1,i,j,a,b,c=>by
  unfold jA;by_cases h:i<j
  .rw[e8 h];have s:=h1 i j h b;by_cases q:ci (aO l ((i+j)/2)) 0<x
   .rw[e8 q]at s⊢;have:=NZ h1 h2 n ((i+j)/2+1) j (by omega) b (by omega);rw[W2]at this⊢;exact .more s this
   .rw[b9 q]at s⊢;have:=NZ h1 h2 n i ((i+j)/2) (by omega) (by omega) (by omega);rw[W2]at this⊢;exact .more s this
  .rw[b9 h];obtain rfl:i=j:=by omega
   rw[W2];exact .out (h2 i)
def sv(l:List Val)(t o:Val)(k:Nat):List Val:=[.vi (U4 (vR l t.toI o.toI) k).length,.vi (U4 (tU l t.toI o.toI) k).length,.vi k,(gS l t o k).1,(gS l t o k).2,.vl (U4 (vR l t.toI o.toI) k),.vl (U4 (tU l t.toI o.toI) k)]
theorem dK7{I:Opq}{l:List Val}(h2:(I.w 2).toL=l)(hl:l.length<=24):
 S5 (λvs=>R0 Iv (I.upd 2000 vs)) [.vi 0,.vi 0,.vi 0,I.w 1,.vi (aS .add .i64 (I.w 1).toI (I.w 0).toI),.vl [],.vl []]=some (0,sv l (I.w 1) (.vi (aS .add .i64 (I.w 1).toI (I.w 0).toI)) l.length):=by
 refine V9 (st:=sv l (I.w 1) (.vi (aS .add .i64 (I.w 1).toI (I.w 0).toI))) (n:=l.length) (λk hk=> ?_) ?_
 .have p1:(k:Int)<(l.length:Int):=by omega
  have p2:(0:Int)<=(k:Int):=by omega
  have p3:=V8 hk (by omega);have p4: ∀j:Nat,S0 l (k:Int) (j:Int)=S1 (aO l k) j:=λ_=>rfl
  have q0:=p4 0;have q1:=p4 1;simp only[Int.natCast_zero,show((1:Nat):Int)=1 from rfl]at q0 q1;have g1:=Y7 (λi=>Sl l (I.w 1).toI (aS .add .i64 (I.w 1).toI (I.w 0).toI) i) k;have g2:=Y7 (λi=>VH l (I.w 1).toI (aS .add .i64 (I.w 1).toI (I.w 0).toI) i) k;unfold sv;simp only[U4,gS,S6];generalize U4 (vR l (I.w 1).toI (aS .add .i64 (I.w 1).toI (I.w 0).toI)) k=J at*
  generalize U4 (tU l (I.w 1).toI (aS .add .i64 (I.w 1).toI (I.w 0).toI)) k=A at*
  generalize gS l (I.w 1) (.vi (aS .add .i64 (I.w 1).toI (I.w 0).toI)) k=N at*
  unfold vR tU na bE ci;have g3:(J.length:Int)+1<=1000000:=by omega
  have g4:(A.length:Int)+1<=1000000:=by omega
  generalize hr:aO l k=r at*
  generalize ho:aS .add .i64 (I.w 1).toI (I.w 0).toI=o at*
  unfold Iv;by_cases c1:(S1 r 0).toI<o<;>by_cases c2:(I.w 1).toI<(S1 r 1).toI<;>
   simp[R0,R7,aM,dB,W7,T1,h2,p1,p2,p3,q0,q1,ho,g3,g4,c1,c2]
 .unfold sv Iv;simp_all[R0,R7,aM,dB,W7,T1]
def fZ:SX:= zh (.va 2000) (.va 2001)
theorem d83:ML= .ite (zs (.va 2000) (.va 2001)) (.need (zn (zp fZ) (zs fZ U5)) (.need (zs fZ (zL V4)) (.ite (zs (.op .lget [V4,fZ,.ci 0]) U6) (.ret 0 [zi fZ,.va 2001]) (.ite (.op (.cmp .gtr) [.op .lget [V4,fZ,.ci 0],U6]) (.ret 0 [.va 2000,fZ]) (.ret 0 [.va 2000,fZ]))))) (.ret 1 [.va 2000,.va 2001]):=rfl
theorem d84{i j m:Nat}(h:i<j)(hj:j<=m)(hm:m<=1000000):IntKind.i64.wrap (aS .shr .u64 (IntKind.u64.wrap (aS .add .i64 (i:Int) (j:Int))) 1)=(((i+j)/2:Nat):Int):=by
 rw[cV (by omega) (by omega)];have e1:IntKind.u64.wrap ((i:Int)+(j:Int))=(i:Int)+(j:Int):=by
  simp only[IntKind.wrap,IntKind.bits,IntKind.signed];simp;omega
 have e2:aS .shr .u64 ((i:Int)+(j:Int)) 1=(((i+j)/2:Nat):Int):=by
  show((i:Int)+(j:Int)).fdiv (2^(min (1:Int).toNat IntKind.u64.bits))=_;rw[show(2:Int)^(min (1:Int).toNat IntKind.u64.bits)=2 from rfl,N6 _ (by omega)];omega
 grind[iF]
theorem dK8{I:Opq}{A:List Val}{x:Val}(hA:A.length<=24)(d2: ∀vs,aM (I.upd 2000 vs) U5= .vi A.length)(d3: ∀vs,aM (I.upd 2000 vs) V4= .vl A)(d4: ∀vs,aM (I.upd 2000 vs) U6=x):
 S5 (λvs=>R0 ML (I.upd 2000 vs)) [.vi 0,.vi A.length]=some (0,[.vi (jA A x.toI A.length 0 A.length),.vi (jA A x.toI A.length 0 A.length)]):=by
 refine NZ (m:=A.length) (λi j h hj=> ?_) (λi=> ?_) A.length 0 A.length (by omega) (i6 _) (by omega)
 .have d2:=d2 [.vi i,.vi j];have d3:=d3 [.vi i,.vi j];have d4:=d4 [.vi i,.vi j];have v0:(I.upd 2000 [.vi i,.vi j]).w 2000= .vi i:=by rfl
  have v1:(I.upd 2000 [.vi i,.vi j]).w 2001= .vi j:=by rfl
  generalize I.upd 2000 [.vi i,.vi j]=aa at*
  have dh:aM aa fZ= .vi ((i+j)/2:Nat):=by
   show Val.vi (IntKind.i64.wrap (aS .shr .u64 (IntKind.u64.wrap (aS .add .i64 (aa.w 2000).toI (aa.w 2001).toI)) 1))=_;rw[v0,v1];exact congrArg Val.vi (d84 h hj (by omega))
  have hlt:(i+j)/2<A.length:=by omega
  have dg:aM aa (.op .lget [V4,fZ,.ci 0])=S1 (aO A ((i+j)/2)) 0:=by
   show S0 (aM aa V4).toL (aM aa fZ).toI 0=_;rw[d3,dh];rfl
  rw[d83];refine S3 ?_ (R3 ?_ (R3 ?_ ?_))
  .show decide ((aa.w 2000).toI<(aa.w 2001).toI)=true;simp_all
  .rw[Y4,T5,W4,dh];show(decide ((0:Int)<=(((i+j)/2:Nat):Int))&&decide ((aM aa fZ).toI<(aM aa U5).toI))=true;rw[dh,d2,e9 (show(0:Int)<=(((i+j)/2:Nat):Int) by omega)];exact e9 (by show(((i+j)/2:Nat):Int)<(A.length:Int);omega)
  .show decide ((aM aa fZ).toI<((aM aa V4).toL.length:Int))=true;rw[dh,d3];exact e9 (by show(((i+j)/2:Nat):Int)<(A.length:Int);omega)
  .by_cases q:ci (aO A ((i+j)/2)) 0<x.toI
   .rw[e8 q];refine S3 ?_ ?_
    .show decide ((aM aa (.op .lget [V4,fZ,.ci 0])).toI<(aM aa U6).toI)=true;rw[dg,d4];exact e9 q
    .show some (0,[Val.vi (aS .add .i64 (aM aa fZ).toI 1),aa.w 2001])=_;rw[dh,v1];rw[show aS .add .i64 (Val.vi (((i+j)/2:Nat):Int)).toI 1=(((i+j)/2+1:Nat):Int)from V8 hlt (by omega)]
   .rw[b9 q];refine S4 ?_ ?_
    .show decide ((aM aa (.op .lget [V4,fZ,.ci 0])).toI<(aM aa U6).toI)=false;rw[dg,d4];exact j5 q
    .have e:some (0,[aa.w 2000,aM aa fZ])=some ((0:Nat),[Val.vi i,Val.vi (((i+j)/2:Nat):Int)]):=by grind
     cases hc:dB aa (.op (.cmp .gtr) [.op .lget [V4,fZ,.ci 0],U6])with
     |true=>exact S3 hc e
     |false=>exact S4 hc e
 .have v0:(I.upd 2000 [.vi i,.vi i]).w 2000= .vi i:=by rfl
  have v1:(I.upd 2000 [.vi i,.vi i]).w 2001= .vi i:=by rfl
  generalize I.upd 2000 [.vi i,.vi i]=aa at*
  refine S4 ?_ ?_
  .show decide ((aa.w 2000).toI<(aa.w 2001).toI)=false;grind
  .show some (1,[aa.w 2000,aa.w 2001])=_;grind
end Go.Ev.S9
namespace Go.Ev.S9
open Go Go.Ev
theorem co3(x a b:Int)(h:a<=b):x=max a (min x b)↔a<=x/\x<=b:=by omega
section
variable{X:Nat->List Val->Val}{I:Opq}(hf: ∀i a,I.f i a=FT X i a)
include hf
theorem t_sinsert(hn:dB I (zb (zl 2) 24)=true):R0 T_sinsert I=some (0,[S0 (FT X 718 [I.w 0,I.w 1,I.w 2]).toL 0 0,S0 (FT X 718 [I.w 0,I.w 1,I.w 2]).toL 0 1,FT X 720 [I.w 0,I.w 1,I.w 2],FT X 717 [I.w 0,I.w 1,I.w 2],FT X 719 [I.w 0,I.w 1,I.w 2]]):=by
 have hn:((I.w 2).toL.length:Int)<=24:=j6 hn;have a8:FT X 718 [I.w 0,I.w 1,I.w 2]= .vl [.vl (bif fc (I.w 0).toI (I.w 1).toI (I.w 2).toL then [(eL (I.w 0) (I.w 1) (I.w 2).toL).1,(eL (I.w 0) (I.w 1) (I.w 2).toL).2]else [.vi 0,.vi 0])]:=rfl;have a0:FT X 720 [I.w 0,I.w 1,I.w 2]= .vi (bif fc (I.w 0).toI (I.w 1).toI (I.w 2).toL then 0 else 2):=rfl;have a7:FT X 717 [I.w 0,I.w 1,I.w 2]= .vl (bif fc (I.w 0).toI (I.w 1).toI (I.w 2).toL then nf (I.w 0) (I.w 1) (I.w 2).toL else []):=rfl;have a9:FT X 719 [I.w 0,I.w 1,I.w 2]= .vl (bif fc (I.w 0).toI (I.w 1).toI (I.w 2).toL then Di (eP (I.w 0) (I.w 1) (I.w 2).toL) (kg (I.w 0) (I.w 1) (I.w 2).toL) (eL (I.w 0) (I.w 1) (I.w 2).toL).1 (eL (I.w 0) (I.w 1) (I.w 2).toL).2 else []):=rfl;rw[a8,a0,a7,a9];have c1:dB I (.op (.cmp .eql) [.va 0,.op .imax [.ci 1,.op .imin [.va 0,.ci 1048576]]])=(decide (1<=(I.w 0).toI)&&decide ((I.w 0).toI<=1048576)):=by
  rw[bK,V6,show(aM I (.op .imax [.ci 1,.op .imin [.va 0,.ci 1048576]])).toI=max 1 (min (I.w 0).toI 1048576)from rfl,<-Bool.decide_and,decide_eq_decide];omega
 have c2:dB I (.op (.cmp .neq) [.va 1,.op .imax [.ci (-1099511627776),.op .imin [.va 1,.ci 1099511627776]]])= !U8 (I.w 1).toI:=by
  show(!decide ((I.w 1).toI=max (-1099511627776) (min (I.w 1).toI 1099511627776)))=_;simp_all[U8,Bool.decide_and,decide_eq_decide,co3]
 have c3:dB I (.op .not [.app 711 [.va 0,.va 2]])=(List.range (I.w 2).toL.length).any (iz (I.w 0).toI (I.w 2).toL):=by
  show(!(I.f 711 [I.w 0,I.w 2]).toB)=_;rw[hf];exact Bool.not_not _
 cases g1:(decide (1<=(I.w 0).toI)&&decide ((I.w 0).toI<=1048576))with
 |false=>
  have:fc (I.w 0).toI (I.w 1).toI (I.w 2).toL=false:=by grind[fc]
  rw[this];exact S4 (c1.trans g1) rfl
 |true=>
 refine S3 (c1.trans g1) ?_;cases g2:U8 (I.w 1).toI with
 |false=>
  have:fc (I.w 0).toI (I.w 1).toI (I.w 2).toL=false:=by grind[fc]
  rw[this];exact S3 (by grind) rfl
 |true=>
 refine S4 (by grind) (R3 (by grind[T5,W4,decide_eq_true]) ?_);cases g3:(List.range (I.w 2).toL.length).any (iz (I.w 0).toI (I.w 2).toL)with
 |true=>
  have:fc (I.w 0).toI (I.w 1).toI (I.w 2).toL=false:=by grind[fc]
  rw[this];exact S3 (c3.trans g3) rfl
 |false=>
 have hok:fc (I.w 0).toI (I.w 1).toI (I.w 2).toL=true:=by grind[fc]
 rw[hok];refine S4 (c3.trans g3) ?_;obtain⟨l,h2⟩: ∃l,(I.w 2).toL=l:=⟨_,rfl⟩;rw[h2]at hn⊢;have own:aM I Z8=lh (I.w 0).toI (I.w 1).toI:=rfl;have E1: ∀vs,aM (I.upd 2000 vs) W1=V0 (0,sv l (I.w 1) (lh (I.w 0).toI (I.w 1).toI) l.length):=λvs=>by
  have w0:(I.upd 2000 vs).w 0=I.w 0:=by rfl
  have w1:(I.upd 2000 vs).w 1=I.w 1:=by rfl
  have w2:(I.upd 2000 vs).w 2=I.w 2:=by rfl
  have wf:(I.upd 2000 vs).f=I.f:=rfl;generalize I.upd 2000 vs=aa at*
  have own':aM aa Z8=lh (I.w 0).toI (I.w 1).toI:=by
   show Val.vi (aS .add .i64 (aa.w 1).toI (aa.w 0).toI)=_;rw[w0,w1];rfl
  show aa.f 755 [.vi 0,.vi 0,.vi 0,aa.w 1,aM aa Z8,.vl [],.vl [],aa.w 1,aM aa Z8,aa.w 1,aM aa Z8,.vi 0,.vi (aa.w 2).toL.length,aa.w 2,.vi (aa.w 2).toL.length]=_;rw[wf,hf,w1,w2,own',<-h2];rfl
 have e1:aM I W1=V0 (0,sv l (I.w 1) (lh (I.w 0).toI (I.w 1).toI) l.length):=by
  show I.f 755 [.vi 0,.vi 0,.vi 0,I.w 1,aM I Z8,.vl [],.vl [],I.w 1,aM I Z8,I.w 1,aM I Z8,.vi 0,.vi (I.w 2).toL.length,I.w 2,.vi (I.w 2).toL.length]=_;rw[hf,own,<-h2];rfl
 have lA:(eP (I.w 0) (I.w 1) l).length<=24:=by
  have:=Y7 (λi=>VH l (I.w 1).toI (lh (I.w 0).toI (I.w 1).toI).toI i) l.length;grind[eP,EB]
 have D2: ∀vs,aM (I.upd 2000 vs) U5= .vi (eP (I.w 0) (I.w 1) l).length:=λvs=>by
  show S0 (aM (I.upd 2000 vs) W1).toL 1 1=_;rw[E1];rfl
 have D3: ∀vs,aM (I.upd 2000 vs) V4= .vl (eP (I.w 0) (I.w 1) l):=λvs=>by
  show S0 (aM (I.upd 2000 vs) W1).toL 1 6=_;rw[E1];rfl
 have D4: ∀vs,aM (I.upd 2000 vs) U6=(eL (I.w 0) (I.w 1) l).1:=λvs=>by
  show S0 (aM (I.upd 2000 vs) W1).toL 1 3=_;rw[E1];rfl
 have d2:aM I U5= .vi (eP (I.w 0) (I.w 1) l).length:=by show S0 (aM I W1).toL 1 1=_;rw[e1];rfl
 have d3:aM I V4= .vl (eP (I.w 0) (I.w 1) l):=by show S0 (aM I W1).toL 1 6=_;rw[e1];rfl
 have d4:aM I U6=(eL (I.w 0) (I.w 1) l).1:=by show S0 (aM I W1).toL 1 3=_;rw[e1];rfl
 have d5:aM I Z2=(eL (I.w 0) (I.w 1) l).2:=by show S0 (aM I W1).toL 1 4=_;rw[e1];rfl
 have d9:aM I oZ= .vl (nf (I.w 0) (I.w 1) l):=by show S0 (aM I W1).toL 1 5=_;rw[e1];rfl
 have dj:aM I (zo W1 0)= .vi (nf (I.w 0) (I.w 1) l).length:=by show S0 (aM I W1).toL 1 0=_;rw[e1];rfl
 have e6:I.f 756 [.vi 0,aM I U5,aM I U5,aM I V4,aM I U6,aM I Z2,aM I U5]=V0 (0,[.vi (kg (I.w 0) (I.w 1) l),.vi (kg (I.w 0) (I.w 1) l)]):=by
  rw[hf,d2,d3,d4,d5];rfl
 have d6:aM I lf= .vi (kg (I.w 0) (I.w 1) l):=by
  show S0 (I.f 756 [.vi 0,aM I U5,aM I U5,aM I V4,aM I U6,aM I Z2,aM I U5]).toL 1 0=_;rw[e6];rfl
 obtain⟨b1,b2⟩:=Mz (eP (I.w 0) (I.w 1) l) (eL (I.w 0) (I.w 1) l).1.toI (eP (I.w 0) (I.w 1) l).length 0 (eP (I.w 0) (I.w 1) l).length (by omega) (by omega);have b2:kg (I.w 0) (I.w 1) l<=(eP (I.w 0) (I.w 1) l).length:=b2;have d8:dB I yN=true:=by
  show(I.f 713 [aM I V4,aM I U5,aM I lf,aM I U6,aM I Z2]).toB=true;rw[hf,d2,d3,d4,d5,d6];show(decide (((eP (I.w 0) (I.w 1) l).length:Int)=((eP (I.w 0) (I.w 1) l).length:Int))&&decide ((0:Int)<=((kg (I.w 0) (I.w 1) l:Nat):Int))&&decide (((kg (I.w 0) (I.w 1) l:Nat):Int)<=((eP (I.w 0) (I.w 1) l).length:Int))&&decide ((eP (I.w 0) (I.w 1) l).length<=24))=true;grind
 have d10:dB I wy=true:=by
  show decide ((aM I (zo W1 0)).toI=((aM I oZ).toL.length:Int))=true;simp_all
 have d11:aM I ui= .vl (Di (eP (I.w 0) (I.w 1) l) (kg (I.w 0) (I.w 1) l) (eL (I.w 0) (I.w 1) l).1 (eL (I.w 0) (I.w 1) l).2):=by
  show I.f 714 [aM I V4,aM I U5,aM I lf,aM I U6,aM I Z2]=_;rw[hf,d2,d3,d4,d5,d6];rfl
 have fin:R0 (.need yN (.need wy (.ret 0 [U6,Z2,.ci 0,oZ,ui]))) I=some (0,[(eL (I.w 0) (I.w 1) l).1,(eL (I.w 0) (I.w 1) l).2,.vi 0,.vl (nf (I.w 0) (I.w 1) l),.vl (Di (eP (I.w 0) (I.w 1) l) (kg (I.w 0) (I.w 1) l) (eL (I.w 0) (I.w 1) l).1 (eL (I.w 0) (I.w 1) l).2)]):=by
  refine R3 d8 (R3 d10 ?_);show some (0,[aM I U6,aM I Z2,.vi 0,aM I oZ,aM I ui])=_;grind
 refine R4 (r:=(0,sv l (I.w 1) (lh (I.w 0).toI (I.w 1).toI) l.length)) (dK7 h2 (by omega)) e1 (R3 ?_ (R4 (r:=(0,[.vi (kg (I.w 0) (I.w 1) l),.vi (kg (I.w 0) (I.w 1) l)])) ?_ e6 ?_))
 .simp_all[T5,W4,e9,eP]
 .show S5 _ [.vi 0,aM I U5]=_;rw[d2];exact dK8 lA D2 D3 D4
 .cases h7:dB I (zs lf U5)with
  |false=>exact S4 h7 fin
  |true=>
   have h7':(aM I lf).toI<(aM I U5).toI:=j6 h7;refine S3 h7 (R3 ?_ (R3 ?_ ?_))
   .simp_all[T5,W4,e9,kg]
   .show decide ((aM I lf).toI<((aM I V4).toL.length:Int))=true;simp_all
   .cases q1:dB I (zs IW U6)with
    |true=>exact S3 q1 fin
    |false=>
     refine S4 q1 ?_;cases q2:dB I (.op (.cmp .gtr) [IW,U6])with
     |true=>exact S3 q2 fin
     |false=>exact S4 q2 fin
end
end Go.Ev.S9
namespace Go.Ev.S9
open Go Go.Ev
theorem d85(g t:Val)(l:List Val):(nf g t l).length<=l.length:=by
 have:=Y7 (λi=>Sl l t.toI (lh g.toI t.toI).toI i) l.length;grind[nf,sL]
theorem Nw(g:Val)(m:List Val)(key t:Val):(gP g m key t).length<=m.length:=by
 have h1:=DY swo_spanV (dy m key.toS);have h2:=Dm m key.toS;unfold gP;cases fc g.toI t.toI (bi m key)
 .exact p7 _
 grind[d85,bi,nf]
theorem rT(f:Val->Val)(l:List Val):U4 (λi=>[f (aO l i)]) l.length=l.map f:=by
 rw[nW,<-Q3];refine K1 (by simp) (λi h1 h2=> ?_);have hi:i<l.length:=by simpa using h1
 simp[aO,j9,hi]
def ER:SX:= zc (.va 2002) (.op .row [.op .row [.va 6,.op .lget [Z3,.va 2001,.ci 0],.op .lget [Z3,.va 2001,.ci 1]]])
theorem dK9{I:Opq}{J:List Val}(hJ:J.length<=24)(d3: ∀vs,aM (I.upd 2000 vs) Z3= .vl J):
 S5 (λvs=>R0 Yh (I.upd 2000 vs)) [.vi 0,.vi 0,.vl []]=some (0,[.vi J.length,.vi J.length,.vl (J.map (ck (I.w 6)))]):=by
 have hl:(J.map (ck (I.w 6))).length=J.length:=o9 ..;refine yj (λi acc=>[.vi acc.length,.vi i,.vl acc]) (a0:=[]) (g:=λi=>[ck (I.w 6) (aO J i)]) (n:=J.length) rfl (λi hi=> ?_) ?_
 .rw[List.nil_append];have hg:=jH (λi=>ck (I.w 6) (aO J i)) i;generalize U4 (λi=>[ck (I.w 6) (aO J i)]) i=acc at*
  have d3:=d3 [.vi acc.length,.vi i,.vl acc];have v0:(I.upd 2000 [.vi acc.length,.vi i,.vl acc]).w 2000= .vi acc.length:=by rfl
  have v1:(I.upd 2000 [.vi acc.length,.vi i,.vl acc]).w 2001= .vi i:=by rfl
  have v2:(I.upd 2000 [.vi acc.length,.vi i,.vl acc]).w 2002= .vl acc:=by rfl
  have v6:(I.upd 2000 [.vi acc.length,.vi i,.vl acc]).w 6=I.w 6:=by rfl
  generalize I.upd 2000 [.vi acc.length,.vi i,.vl acc]=aa at*
  have dc:aM aa ER= .vl (acc++[ck (I.w 6) (aO J i)]):=by
   show Val.vl ((aa.w 2002).toL++[.vl [aa.w 6,S0 (aM aa Z3).toL (aa.w 2001).toI 0,S0 (aM aa Z3).toL (aa.w 2001).toI 1]])=_;rw[v1,v2,v6,d3];rfl
  refine S3 ?_ (R3 ?_ (R3 ?_ ?_))
  .show decide ((aa.w 2001).toI<((aM aa Z3).toL.length:Int))=true;simp_all
  .simp_all[T5,W4,V6,e9]
  .show(decide ((aa.w 2000).toI=((aa.w 2002).toL.length:Int))&&decide (((aM aa ER).toL.length:Int)<=1000000))=true;rw[v0,v2,dc];rw[j7];exact⟨e9 rfl,e9 (by show((acc++[_]).length:Int)<=1000000;grind)⟩
  .show some (0,[Val.vi ((aM aa ER).toL.length:Int),Val.vi (aS .add .i64 (aa.w 2001).toI 1),aM aa ER])=_;rw[dc,v1];rw[show aS .add .i64 (Val.vi (i:Int)).toI 1=((i+1:Nat):Int)from V8 hi (by omega)];rfl
 .rw[List.nil_append,rT (ck (I.w 6)) J,hl];have d3:=d3 [.vi J.length,.vi J.length,.vl (J.map (ck (I.w 6)))];have v0:(I.upd 2000 [.vi J.length,.vi J.length,.vl (J.map (ck (I.w 6)))]).w 2000= .vi J.length:=by rfl
  have v1:(I.upd 2000 [.vi J.length,.vi J.length,.vl (J.map (ck (I.w 6)))]).w 2001= .vi J.length:=by rfl
  have v2:(I.upd 2000 [.vi J.length,.vi J.length,.vl (J.map (ck (I.w 6)))]).w 2002= .vl (J.map (ck (I.w 6))):=by rfl
  generalize I.upd 2000 [.vi J.length,.vi J.length,.vl (J.map (ck (I.w 6)))]=aa at*
  refine S4 ?_ ?_
  .show decide ((aa.w 2001).toI<((aM aa Z3).toL.length:Int))=false;simp_all
  .show some (1,[aa.w 2000,aa.w 2001,aa.w 2002])=_;grind
section
variable{X:Nat->List Val->Val}{I:Opq}(hf: ∀i a,I.f i a=FT X i a)
include hf
theorem t_joined(hn:dB I (zn (zb (zl 4) 24) (.app 491 [.va 4]))=true):R0 T_joined I=some (0,[S0 (FT X 725 [I.w 3,I.w 4,I.w 6,I.w 7]).toL 0 0,S0 (FT X 725 [I.w 3,I.w 4,I.w 6,I.w 7]).toL 0 1,S0 (FT X 725 [I.w 3,I.w 4,I.w 6,I.w 7]).toL 0 2,FT X 724 [I.w 3,I.w 4,I.w 6,I.w 7]]):=by
 obtain⟨n3,n4⟩:=Q8 (show(dB I (zb (zl 4) 24)&&dB I (.app 491 [.va 4]))=true from hn);have n3':((I.w 4).toL.length:Int)<=24:=j6 n3;have hs:I.f 723 [I.w 4,I.w 6]= .vl (bi (I.w 4).toL (I.w 6)):=by rw[hf];rfl
 have hl:(bi (I.w 4).toL (I.w 6)).length<=24:=by
  grind[DY,swo_spanV,dy,Dm,bi]
 have jl:(gP (I.w 3) (I.w 4).toL (I.w 6) (I.w 7)).length<=24:=by grind[Nw]
 have d3:aM I Z3= .vl (gP (I.w 3) (I.w 4).toL (I.w 6) (I.w 7)):=by
  show I.f 717 [I.w 3,I.w 7,I.f 723 [I.w 4,I.w 6]]=_;rw[hs,hf];rfl
 have D3: ∀vs,aM (I.upd 2000 vs) Z3= .vl (gP (I.w 3) (I.w 4).toL (I.w 6) (I.w 7)):=λvs=>by
  have w3:(I.upd 2000 vs).w 3=I.w 3:=by rfl
  have w4:(I.upd 2000 vs).w 4=I.w 4:=by rfl
  have w6:(I.upd 2000 vs).w 6=I.w 6:=by rfl
  have w7:(I.upd 2000 vs).w 7=I.w 7:=by rfl
  have wf:(I.upd 2000 vs).f=I.f:=rfl;generalize I.upd 2000 vs=aa at*
  show aa.f 717 [aa.w 3,aa.w 7,aa.f 723 [aa.w 4,aa.w 6]]=_;rw[w3,w4,w6,w7,wf];exact d3
 have d0:aM I zP= .vl [.vl (gJ (I.w 3) (I.w 4).toL (I.w 6) (I.w 7))]:=by
  show I.f 718 [I.w 3,I.w 7,I.f 723 [I.w 4,I.w 6]]=_;rw[hs,hf];rfl
 have d1:aM I xZ=(gJ (I.w 3) (I.w 4).toL (I.w 6) (I.w 7)).getD 0 default:=by show S0 (aM I zP).toL 0 0=_;rw[d0];rfl
 have d2:aM I yl=(gJ (I.w 3) (I.w 4).toL (I.w 6) (I.w 7)).getD 1 default:=by show S0 (aM I zP).toL 0 1=_;rw[d0];rfl
 have a1:S0 (FT X 725 [I.w 3,I.w 4,I.w 6,I.w 7]).toL 0 0=I.w 6:=rfl;have a2:S0 (FT X 725 [I.w 3,I.w 4,I.w 6,I.w 7]).toL 0 1=(gJ (I.w 3) (I.w 4).toL (I.w 6) (I.w 7)).getD 0 default:=rfl;have a3:S0 (FT X 725 [I.w 3,I.w 4,I.w 6,I.w 7]).toL 0 2=(gJ (I.w 3) (I.w 4).toL (I.w 6) (I.w 7)).getD 1 default:=rfl;have a4:FT X 724 [I.w 3,I.w 4,I.w 6,I.w 7]= .vl ((gP (I.w 3) (I.w 4).toL (I.w 6) (I.w 7)).map (ck (I.w 6))):=rfl;have ml:((gP (I.w 3) (I.w 4).toL (I.w 6) (I.w 7)).map (ck (I.w 6))).length=(gP (I.w 3) (I.w 4).toL (I.w 6) (I.w 7)).length:=o9 ..;generalize gP (I.w 3) (I.w 4).toL (I.w 6) (I.w 7)=J at*
 have e4:aM I DF=V0 (0,[.vi J.length,.vi J.length,.vl (J.map (ck (I.w 6)))]):=by
  show I.f 758 [.vi 0,.vi 0,.vl [],I.w 5,I.w 6,I.w 7,I.w 8,aM I xZ,aM I yl,.vi (aM I Z3).toL.length,aM I Z3,.vi (aM I Z3).toL.length]=_;rw[hf,d3];rfl
 have d5:aM I Ds= .vl (J.map (ck (I.w 6))):=by show S0 (aM I DF).toL 1 2=_;rw[e4];rfl
 refine R3 ?_ (R3 ?_ (R4 (r:=(0,[.vi J.length,.vi J.length,.vl (J.map (ck (I.w 6)))])) (dK9 jl D3) e4 (R3 ?_ ?_)))
 .rw[Y4,j7];grind[T5,W4,decide_eq_true]
 .show decide (((I.f 723 [I.w 4,I.w 6]).toL.length:Int)<=24)=true;rw[hs];exact e9 (by show((bi (I.w 4).toL (I.w 6)).length:Int)<=24;omega)
 .show decide ((S0 (aM I DF).toL 1 0).toI=((aM I Ds).toL.length:Int))=true;rw[d5,e4];exact e9 (congrArg Int.ofNat ml.symm)
 .show some (0,[I.w 6,aM I xZ,aM I yl,aM I Ds])=_;grind
end
end Go.Ev.S9
namespace Go.Ev.S9
open Go Go.Ev
theorem S2{I:Opq}(x:SX):(aM I (zL x)).toI=((aM I x).toL.length:Int):=rfl
theorem bx{I:Opq}(n:Nat):aM I (.va n)=I.w n:=rfl
theorem uU{A:List Val}{x:Val}(h:A.length<1000000):(decide ((Val.vi (A.length:Int)).toI=((Val.vl A).toL.length:Int))&&decide (((Val.vl (A++[x])).toL.length:Int)<=1000000))=true:=by
 grind[S6,af3,List.length_append,List.length_singleton]
theorem Oz(key ns ne r:Val):(jy key ns ne r).length<=1:=by grind[jy,ym]
def yH(m P:List Val)(key ns ne v:Val)(k:Nat):List Val:=[.vi (U4 (λi=>jy key ns ne (aO P i)) k).length,.vi ([Val.vl [.vi 1,v,v,v]]++U4 (λi=>[gQ m (aO P i)]) k).length,.vi k,.vl (U4 (λi=>jy key ns ne (aO P i)) k),.vl ([Val.vl [.vi 1,v,v,v]]++U4 (λi=>[gQ m (aO P i)]) k)]
theorem dL0{I:Opq}{P:List Val}{key ns ne v:Val}(hP:P.length<=24)(d5: ∀vs,aM (I.upd 2000 vs) cL= .vl P)(d2: ∀vs,aM (I.upd 2000 vs) oj=key)(d3: ∀vs,aM (I.upd 2000 vs) nJ=ns)(d4: ∀vs,aM (I.upd 2000 vs) nZ=ne):
 S5 (λvs=>R0 Ty (I.upd 2000 vs)) [.vi 0,.vi 1,.vi 0,.vl [],.vl [.vl [.vi 1,v,v,v]]]=some (0,yH (I.w 4).toL P key ns ne v P.length):=by
 refine V9 (st:=yH (I.w 4).toL P key ns ne v) (n:=P.length) (λk hk=> ?_) ?_
 .have g1:=Y7 (λi=>Oz key ns ne (aO P i)) k;have g2:=jH (λi=>gQ (I.w 4).toL (aO P i)) k;unfold yH;simp only[U4];rw[<-y8];have g3:([Val.vl [.vi 1,v,v,v]]++U4 (λi=>[gQ (I.w 4).toL (aO P i)]) k).length=k+1:=by grind
  generalize [Val.vl [.vi 1,v,v,v]]++U4 (λi=>[gQ (I.w 4).toL (aO P i)]) k=A at*
  generalize U4 (λi=>jy key ns ne (aO P i)) k=G at*
  have d2:=d2 [.vi G.length,.vi A.length,.vi k,.vl G,.vl A];have d3:=d3 [.vi G.length,.vi A.length,.vi k,.vl G,.vl A];have d4:=d4 [.vi G.length,.vi A.length,.vi k,.vl G,.vl A];have d5:=d5 [.vi G.length,.vi A.length,.vi k,.vl G,.vl A];have v0:(I.upd 2000 [.vi G.length,.vi A.length,.vi k,.vl G,.vl A]).w 2000= .vi G.length:=by rfl
  have v1:(I.upd 2000 [.vi G.length,.vi A.length,.vi k,.vl G,.vl A]).w 2001= .vi A.length:=by rfl
  have v2:(I.upd 2000 [.vi G.length,.vi A.length,.vi k,.vl G,.vl A]).w 2002= .vi k:=by rfl
  have v3:(I.upd 2000 [.vi G.length,.vi A.length,.vi k,.vl G,.vl A]).w 2003= .vl G:=by rfl
  have v4:(I.upd 2000 [.vi G.length,.vi A.length,.vi k,.vl G,.vl A]).w 2004= .vl A:=by rfl
  have vm:(I.upd 2000 [.vi G.length,.vi A.length,.vi k,.vl G,.vl A]).w 4=I.w 4:=by rfl
  generalize I.upd 2000 [.vi G.length,.vi A.length,.vi k,.vl G,.vl A]=aa at*
  have dk:aM aa vH=cC (aO P k):=by
   show Val.vl [S0 (aM aa cL).toL (aa.w 2002).toI 0,S0 (aM aa cL).toL (aa.w 2002).toI 1,S0 (aM aa cL).toL (aa.w 2002).toI 2]=_;rw[d5,v2];rfl
  have dc: ∀j:Nat,aM aa (jO (j:Int))=lR (I.w 4).toL (cC (aO P k)) j:=λj=>by
   show(bif decide (((eI (aa.w 4).toL (aM aa vH):Nat):Int)<((aa.w 4).toL.length:Int))then S0 (aa.w 4).toL ((eI (aa.w 4).toL (aM aa vH):Nat):Int) (j:Int)else Val.vi 0)=_;rw[dk,vm];have e:decide (((eI (I.w 4).toL (cC (aO P k)):Nat):Int)<((I.w 4).toL.length:Int))=gg (I.w 4).toL (cC (aO P k)):=by
    simp_all[gg,decide_eq_decide]
   rw[e];rfl
  have da:aM aa nG= .vl (A++[gQ (I.w 4).toL (aO P k)]):=by
   have c3:aM aa (jO 3)=_:=dc 3;have c4:aM aa (jO 4)=_:=dc 4;have c5:aM aa (jO 5)=_:=dc 5;have c6:aM aa (jO 6)=_:=dc 6;show Val.vl ((aa.w 2004).toL++[.vl [aM aa (jO 3),aM aa (jO 4),aM aa (jO 5),aM aa (jO 6)]])=_;rw[v4,c3,c4,c5,c6];rfl
  have dg:aM aa xj= .vl (G++[cC (aO P k)]):=by
   show Val.vl ((aa.w 2003).toL++[aM aa vH])=_;simp_all
  have ds:dB aa ZJ=ym key ns ne (aO P k):=by
   show(decide ((S0 (aM aa cL).toL (aa.w 2002).toI 0).toS=(aM aa oj).toS)&&(decide ((S0 (aM aa cL).toL (aa.w 2002).toI 1).toI=(aM aa nJ).toI)&&decide ((S0 (aM aa cL).toL (aa.w 2002).toI 2).toI=(aM aa nZ).toI)))=_;rw[d2,d3,d4,d5,v2];rfl
  have inc:aS .add .i64 (Val.vi (k:Int)).toI 1=((k+1:Nat):Int):=V8 hk (by omega);refine S3 ?_ (R3 ?_ (R3 ?_ ?_))
  .show decide ((aa.w 2002).toI<((aM aa cL).toL.length:Int))=true;simp_all
  .simp_all[T5,W4,V6,e9]
  .rw[Y4,bK,T5,W4,S2,S2,da,V6,bx,v1,v4];grind[uU]
  .unfold jy;cases hS:ym key ns ne (aO P k)with
   |true=>
    refine S4 (by rw[fi,ds,hS];rfl) ?_;show some (0,[aa.w 2000,Val.vi ((aM aa nG).toL.length:Int),Val.vi (aS .add .i64 (aa.w 2002).toI 1),aa.w 2003,aM aa nG])=_;simp_all
   |false=>
    refine S3 (by grind[fi]) (R3 ?_ ?_)
    .rw[Y4,bK,T5,W4,S2,S2,dg,V6,bx,v0,v3];grind[uU]
    .show some (0,[Val.vi ((aM aa xj).toL.length:Int),Val.vi ((aM aa nG).toL.length:Int),Val.vi (aS .add .i64 (aa.w 2002).toI 1),aM aa xj,aM aa nG])=_;simp_all
 .unfold yH;generalize [Val.vl [.vi 1,v,v,v]]++U4 (λi=>[gQ (I.w 4).toL (aO P i)]) P.length=A;generalize U4 (λi=>jy key ns ne (aO P i)) P.length=G;have d5:=d5 [.vi G.length,.vi A.length,.vi P.length,.vl G,.vl A];have v0:(I.upd 2000 [.vi G.length,.vi A.length,.vi P.length,.vl G,.vl A]).w 2000= .vi G.length:=by rfl
  have v1:(I.upd 2000 [.vi G.length,.vi A.length,.vi P.length,.vl G,.vl A]).w 2001= .vi A.length:=by rfl
  have v2:(I.upd 2000 [.vi G.length,.vi A.length,.vi P.length,.vl G,.vl A]).w 2002= .vi P.length:=by rfl
  have v3:(I.upd 2000 [.vi G.length,.vi A.length,.vi P.length,.vl G,.vl A]).w 2003= .vl G:=by rfl
  have v4:(I.upd 2000 [.vi G.length,.vi A.length,.vi P.length,.vl G,.vl A]).w 2004= .vl A:=by rfl
  generalize I.upd 2000 [.vi G.length,.vi A.length,.vi P.length,.vl G,.vl A]=aa at*
  refine S4 ?_ ?_
  .show decide ((aa.w 2002).toI<((aM aa cL).toL.length:Int))=false;simp_all
  .show some (1,[aa.w 2000,aa.w 2001,aa.w 2002,aa.w 2003,aa.w 2004])=_;grind
end Go.Ev.S9
namespace Go.Ev.S9
open Go Go.Ev
theorem gH{I:Opq}(a b:SX):dB I (.op (.cmp .neq) [a,b])= !decide ((aM I a).toI=(aM I b).toI):=rfl
theorem SO(l:List Val):(l.drop (0:Int).toNat).take ((l.length:Int)-0).toNat=l:=by simp
section
variable{X:Nat->List Val->Val}{I:Opq}(hf: ∀i a,I.f i a=FT X i a)
include hf
theorem t_sess(hn:dB I (zn (zb (zl 4) 24) (.app 491 [.va 4]))=true):R0 T_sess I=some (0,[FT X 729 [I.w 3,I.w 4,I.w 6,I.w 7,I.w 8],FT X 727 [I.w 3,I.w 4,I.w 6,I.w 7,I.w 8],FT X 728 [I.w 3,I.w 4,I.w 6,I.w 7,I.w 8]]):=by
 obtain⟨n3,n4⟩:=Q8 (show(dB I (zb (zl 4) 24)&&dB I (.app 491 [.va 4]))=true from hn);have n3':((I.w 4).toL.length:Int)<=24:=j6 n3;have a9:FT X 729 [I.w 3,I.w 4,I.w 6,I.w 7,I.w 8]= .vi (ou (I.w 3) (I.w 4).toL (I.w 6) (I.w 7) (I.w 8)):=rfl;have a7:FT X 727 [I.w 3,I.w 4,I.w 6,I.w 7,I.w 8]= .vl (ko (I.w 3) (I.w 4).toL (I.w 6) (I.w 7) (I.w 8)):=rfl;have a8:FT X 728 [I.w 3,I.w 4,I.w 6,I.w 7,I.w 8]= .vl (jV (I.w 3) (I.w 4).toL (I.w 6) (I.w 7) (I.w 8)):=rfl;rw[a9,a7,a8];have jl:=Nw (I.w 3) (I.w 4).toL (I.w 6) (I.w 7);have pl:(fh (I.w 3) (I.w 4).toL (I.w 6) (I.w 7)).length<=24:=by
  unfold fh;rw[List.length_map];omega
 have f4:I.f 724 [I.w 3,I.w 4,I.w 6,I.w 7]= .vl (fh (I.w 3) (I.w 4).toL (I.w 6) (I.w 7)):=by rw[hf];rfl
 have f5:I.f 725 [I.w 3,I.w 4,I.w 6,I.w 7]= .vl [.vl (I.w 6::gJ (I.w 3) (I.w 4).toL (I.w 6) (I.w 7))]:=by rw[hf];rfl
 unfold ko jV ou;generalize fh (I.w 3) (I.w 4).toL (I.w 6) (I.w 7)=P at*
 generalize gJ (I.w 3) (I.w 4).toL (I.w 6) (I.w 7)=N at*
 have W: ∀vs:List Val,∀n:Nat,n<2000->(I.upd 2000 vs).w n=I.w n:=λvs n hn=>by rw[T1,b9 (by omega)]
 have d5:aM I cL= .vl P:=f4;have d1:aM I lL= .vl [.vl (I.w 6::N)]:=f5;have D5: ∀vs,aM (I.upd 2000 vs) cL= .vl P:=λvs=>by
  exact f4
 have D1: ∀vs,aM (I.upd 2000 vs) lL= .vl [.vl (I.w 6::N)]:=λvs=>by
  exact f5
 have d2:aM I oj=I.w 6:=by show S0 (aM I lL).toL 0 0=_;rw[d1];rfl
 have d3:aM I nJ=N.getD 0 default:=by show S0 (aM I lL).toL 0 1=_;rw[d1];rfl
 have d4:aM I nZ=N.getD 1 default:=by show S0 (aM I lL).toL 0 2=_;rw[d1];rfl
 have D2: ∀vs,aM (I.upd 2000 vs) oj=I.w 6:=λvs=>by show S0 (aM (I.upd 2000 vs) lL).toL 0 0=_;rw[D1];rfl
 have D3: ∀vs,aM (I.upd 2000 vs) nJ=N.getD 0 default:=λvs=>by show S0 (aM (I.upd 2000 vs) lL).toL 0 1=_;rw[D1];rfl
 have D4: ∀vs,aM (I.upd 2000 vs) nZ=N.getD 1 default:=λvs=>by show S0 (aM (I.upd 2000 vs) lL).toL 0 2=_;rw[D1];rfl
 generalize N.getD 0 default=ns at*
 generalize N.getD 1 default=ne at*
 have d0:aM I sH= .vl [.vl [.vi 1,I.w 8,I.w 8,I.w 8]]:=rfl;have hA:[Val.vl [.vi 1,I.w 8,I.w 8,I.w 8]]++U4 (λi=>[gQ (I.w 4).toL (aO P i)]) P.length=gO (I.w 4).toL P (I.w 8):=by
  rw[rT (gQ (I.w 4).toL) P];rfl
 have hst:yH (I.w 4).toL P (I.w 6) ns ne (I.w 8) P.length=[.vi (gK P (I.w 6) ns ne).length,.vi (gO (I.w 4).toL P (I.w 8)).length,.vi P.length,.vl (gK P (I.w 6) ns ne),.vl (gO (I.w 4).toL P (I.w 8))]:=by
  unfold yH;rw[hA];rfl
 have lp:=dL0 (v:=I.w 8) pl D5 D2 D3 D4;rw[hst]at lp;have al:(gO (I.w 4).toL P (I.w 8)).length<=31:=by
  show(P.map _).length+1<=31;rw[o9];omega
 have e6:aM I oU=V0 (0,[.vi (gK P (I.w 6) ns ne).length,.vi (gO (I.w 4).toL P (I.w 8)).length,.vi P.length,.vl (gK P (I.w 6) ns ne),.vl (gO (I.w 4).toL P (I.w 8))]):=by
  show I.f 759 [.vi 0,.vi (aM I sH).toL.length,.vi 0,.vl [],aM I sH,I.w 0,I.w 1,I.w 2,I.w 3,I.w 4,aM I oj,aM I nJ,aM I nZ,.vi (aM I cL).toL.length,aM I cL,.vi (aM I cL).toL.length]=_;rw[hf,d0,d2,d3,d4,d5];rfl
 generalize gK P (I.w 6) ns ne=G at*
 generalize gO (I.w 4).toL P (I.w 8)=A at*
 have d7:aM I Cs= .vi A.length:=by show S0 (aM I oU).toL 1 1=_;rw[e6];rfl
 have d8:aM I IE= .vl A:=by show S0 (aM I oU).toL 1 4=_;rw[e6];rfl
 have dg:aM I (zo oU 0)= .vi G.length:=by show S0 (aM I oU).toL 1 0=_;rw[e6];rfl
 have d10:aM I Ei= .vl G:=by show S0 (aM I oU).toL 1 3=_;rw[e6];rfl
 have d9:aM I gk= .vl A:=by
  show Val.vl (((aM I IE).toL.drop (0:Int).toNat).take ((aM I Cs).toI-0).toNat)=_;rw[d7,d8];exact congrArg Val.vl (SO A)
 have f6:I.f 706 [aM I gk]= .vi (jE A):=by rw[d9,hf];rfl
 have f5':I.f 705 [aM I gk]= .vl [.vl (jR A)]:=by rw[d9,hf];rfl
 refine R3 hn (R4 (r:=(0,[.vi G.length,.vi A.length,.vi P.length,.vl G,.vl A])) lp e6 (R3 ?_ ?_))
 .rw[Y4,Y4,T5,T5,T5,W4,W4,S2,S2,d7,d8,d9];exact a3 (by show(0:Int)<=(A.length:Int);omega) (u9 _) (by show(A.length:Int)<=1000;omega)
 .have hne:dB I (.op (.cmp .neq) [.app 706 [gk],.ci 0])= !decide (jE A=0):=by
   show(!decide ((I.f 706 [aM I gk]).toI=0))=_;rw[f6];rfl
  by_cases h:jE A=0
  .refine S4 (by rw[hne,e9 h];rfl) (R3 ?_ ?_)
   .rw[bK,S2,dg,d10];exact e9 rfl
   .show some (0,[Val.vi 0,aM I Ei,.vl [.vl [aM I oj,aM I nJ,aM I nZ,S0 (I.f 705 [aM I gk]).toL 0 0,S0 (I.f 705 [aM I gk]).toL 0 1,S0 (I.f 705 [aM I gk]).toL 0 2,S0 (I.f 705 [aM I gk]).toL 0 3]]])=_;rw[d10,d2,d3,d4,f5',h];rfl
  .rw[e8 h,e8 h];refine S3 (by rw[hne,j5 h];rfl) ?_;show some (0,[I.f 706 [aM I gk],Val.vl [],Val.vl []])=_;rw[f6]
end
end Go.Ev.S9
namespace Go.Ev.S9
open Go Go.Ev
def zJ(m S:List Val)(key v e0:Val)(k:Nat):List Val:=[.vi (cS m S key v k).length,if k=0 then e0 else .vi 0,.vi k,.vl (cS m S key v k)]
section
variable{X:Nat->List Val->Val}{I:Opq}(hf: ∀i a,I.f i a=FT X i a)
include hf
theorem XM{S:List Val}{e0:Val}(D1: ∀vs,aM (I.upd 2000 vs) dE= .vl S){k:Nat}(hk:k<S.length)(hS:S.length<=1000):
 R0 Ia (I.upd 2000 (zJ (I.w 4).toL S (I.w 6) (I.w 8) e0 k))=if gA (I.w 4).toL (I.w 6) (I.w 8) (aO S k)≠0 then some (1,[.vi k,.vi (gA (I.w 4).toL (I.w 6) (I.w 8) (aO S k)),.vi k,.vl (cS (I.w 4).toL S (I.w 6) (I.w 8) k)])else some (0,zJ (I.w 4).toL S (I.w 6) (I.w 8) e0 (k+1)):=by
 have hl:(cS (I.w 4).toL S (I.w 6) (I.w 8) k).length=k:=jH (λi=>kC (I.w 4).toL (I.w 6) (I.w 8) (aO S i)) k;have hs:cS (I.w 4).toL S (I.w 6) (I.w 8) (k+1)=cS (I.w 4).toL S (I.w 6) (I.w 8) k++[kC (I.w 4).toL (I.w 6) (I.w 8) (aO S k)]:=rfl;unfold zJ;have W: ∀vs:List Val,∀n:Nat,n<2000->(I.upd 2000 vs).w n=I.w n:=λvs n hn=>by simp_all[T1,b9]
 generalize cS (I.w 4).toL S (I.w 6) (I.w 8) k=L at*
 generalize (if k=0 then e0 else Val.vi 0)=ee;have D1:=D1 [.vi L.length,ee,.vi k,.vl L];have W:=W [.vi L.length,ee,.vi k,.vl L];have w4:=W 4 (by omega);have w6:=W 6 (by omega);have w8:=W 8 (by omega);have v0:(I.upd 2000 [.vi L.length,ee,.vi k,.vl L]).w 2000= .vi L.length:=by rfl
 have v2:(I.upd 2000 [.vi L.length,ee,.vi k,.vl L]).w 2002= .vi k:=by rfl
 have v3:(I.upd 2000 [.vi L.length,ee,.vi k,.vl L]).w 2003= .vl L:=by rfl
 have wf:(I.upd 2000 [.vi L.length,ee,.vi k,.vl L]).f=I.f:=rfl;generalize I.upd 2000 [.vi L.length,ee,.vi k,.vl L]=aa at*
 have dk:aM aa zF=ck (I.w 6) (aO S k):=by
  show Val.vl [aa.w 6,S0 (aM aa dE).toL (aa.w 2002).toI 0,S0 (aM aa dE).toL (aa.w 2002).toI 1]=_;rw[D1,v2,w6];rfl
 have dc: ∀j:Nat,aM aa (eV (j:Int))=mJ (I.w 4).toL (I.w 6) (aO S k) j:=λj=>by
  show(bif decide (((eI (aa.w 4).toL (aM aa zF):Nat):Int)<((aa.w 4).toL.length:Int))then S0 (aa.w 4).toL ((eI (aa.w 4).toL (aM aa zF):Nat):Int) (j:Int)else Val.vi 0)=_;rw[dk,w4];have e:decide (((eI (I.w 4).toL (ck (I.w 6) (aO S k)):Nat):Int)<((I.w 4).toL.length:Int))=gg (I.w 4).toL (ck (I.w 6) (aO S k)):=by
   simp_all[gg,decide_eq_decide]
  rw[e];rfl
 have c3:aM aa (eV 3)=_:=dc 3;have c4:aM aa (eV 4)=_:=dc 4;have c5:aM aa (eV 5)=_:=dc 5;have c6:aM aa (eV 6)=_:=dc 6;have de:aM aa tO= .vi (gA (I.w 4).toL (I.w 6) (I.w 8) (aO S k)):=by
  show aa.f 708 [aM aa (eV 3),aM aa (eV 4),aM aa (eV 5),aM aa (eV 6),aa.w 8]=_;rw[wf,hf,c3,c4,c5,c6,w8];rfl
 have dq:aM aa pK= .vl [.vl (ws (I.w 4).toL (I.w 6) (I.w 8) (aO S k))]:=by
  show aa.f 707 [aM aa (eV 3),aM aa (eV 4),aM aa (eV 5),aM aa (eV 6),aa.w 8]=_;rw[wf,hf,c3,c4,c5,c6,w8];rfl
 have dr:aM aa yf= .vl (L++[kC (I.w 4).toL (I.w 6) (I.w 8) (aO S k)]):=by
  show Val.vl ((aa.w 2003).toL++[.vl [aa.w 6,S0 (aM aa dE).toL (aa.w 2002).toI 0,S0 (aM aa dE).toL (aa.w 2002).toI 1,S0 (aM aa pK).toL 0 0,S0 (aM aa pK).toL 0 1,S0 (aM aa pK).toL 0 2,S0 (aM aa pK).toL 0 3]])=_;rw[v3,w6,D1,v2,dq];rfl
 have inc:aS .add .i64 (Val.vi (k:Int)).toI 1=((k+1:Nat):Int):=V8 hk (by omega);have dn:dB aa (.op (.cmp .neq) [tO,.ci 0])= !decide (gA (I.w 4).toL (I.w 6) (I.w 8) (aO S k)=0):=by
  rw[gH,W4,de];rfl
 refine S3 ?_ (R3 ?_ ?_)
 .show decide ((aa.w 2002).toI<((aM aa dE).toL.length:Int))=true;simp_all
 .simp_all[T5,W4,V6,e9]
 .by_cases h:gA (I.w 4).toL (I.w 6) (I.w 8) (aO S k)=0
  .refine S4 (by grind) (R3 ?_ ?_)
   .rw[Y4,bK,T5,W4,S2,S2,dr,V6,bx,v0,v3];grind[uU]
   .show some (0,[Val.vi ((aM aa yf).toL.length:Int),aM aa tO,Val.vi (aS .add .i64 (aa.w 2002).toI 1),aM aa yf])=_;simp_all
  .refine S3 (by rw[dn,j5 h];rfl) ?_;show some (1,[aa.w 2000,aM aa tO,aa.w 2002,aa.w 2003])=_;grind
end
end Go.Ev.S9
namespace Go.Ev.S9
open Go Go.Ev
def rowS(r:Val):Prop:= ∃(k:List UInt8) (a b c d e f:Int),r= .vl [.vs k,.vi a,.vi b,.vi c,.vi d,.vi e,.vi f]/\k.length<=1000
theorem du0(l:List Val): ∀k,∃a b,(jS l k).getD 2 default= .vi a/\(jS l k).getD 3 default= .vi b
 |0=>⟨0,0,rfl,rfl⟩
 |k+1=>by
  unfold jS;cases pf (aO l k)with
  |true=>exact du0 l k
  |false=>
   split<;>exact⟨_,_,rfl,rfl⟩
theorem dL1{l:List Val}(h:jE l=0): ∃a b c d,jR l=[.vi a,.vi b,.vi c,.vi d]:=by
 obtain⟨c,d,h1,h2⟩:=du0 l l.length;have hn: ¬(cO (jC l)≠0\/cO (jT l)≠0):=λhc=>by
  unfold jE at h;rw[if_pos hc]at h;cases h
 unfold jR;rw[b9 hn,h1,h2];exact⟨_,_,_,_,rfl⟩
theorem d86{k s l g:Int}{t:Val}(h3:k≠3): ∀r∈bh k s l g t,∃a b,r= .vl [.vi a,.vi b]:=by
 intro r hr;unfold bh at hr;cases h:(R9 k s l g&&U8 t.toI)with
 |false=>rw[h]at hr;cases hr
 |true=>
  simp_all;rw[nW]at hr;obtain⟨i,_,hi⟩:=B2.1 hr;unfold eS at hi;rw[m9]at hi;exact⟨_,_,hi⟩
theorem xN{k s l g:Int}{t:Val}(h3:k≠3):(bh k s l g t).length<=16:=by
 unfold bh;cases h:(R9 k s l g&&U8 t.toI)with
 |false=>grind
 |true=>
  simp[cond_true,b9 h3];rw[show(U4 (eS (cu t.toI (W8 k s l)-s+W8 k s l) (W8 k s l) s) (cg k s l)).length=cg k s l from jH _ _];have hw:=(Q8 h).1;unfold R9 at hw;unfold cg W8;by_cases k2:k=2
  .grind
  .grind[Int.ediv_self]
theorem OP(m S:List Val)(key v:Val):dN m S key v<=S.length/\(∀i,i<dN m S key v->gA m key v (aO S i)=0)/\(dN m S key v<S.length->gA m key v (aO S (dN m S key v))≠0):=by
 unfold dN;cases hf:(List.range S.length).find? λi=>decide (gA m key v (aO S i)≠0)with
 |none=>
  grind
 |some k=>
  grind[W6,Nat.le_of_lt]
section
variable{X:Nat->List Val->Val}{I:Opq}(hf: ∀i a,I.f i a=FT X i a)
include hf
theorem dL2{S:List Val}{e0:Val}(D1: ∀vs,aM (I.upd 2000 vs) dE= .vl S)(hS:S.length<=16):
 S5 (λvs=>R0 Ia (I.upd 2000 vs)) [.vi 0,e0,.vi 0,.vl []]=some (0,[.vi (dN (I.w 4).toL S (I.w 6) (I.w 8)),gW (I.w 4).toL S (I.w 6) (I.w 8) e0,.vi (dN (I.w 4).toL S (I.w 6) (I.w 8)),.vl (cS (I.w 4).toL S (I.w 6) (I.w 8) (dN (I.w 4).toL S (I.w 6) (I.w 8)))]):=by
 obtain⟨k1,k2,k3⟩:=OP (I.w 4).toL S (I.w 6) (I.w 8);refine V9 (st:=zJ (I.w 4).toL S (I.w 6) (I.w 8) e0) (n:=dN (I.w 4).toL S (I.w 6) (I.w 8)) (λk hk=> ?_) ?_
 .rw[XM hf D1 (by omega) (by omega),b9 (by grind)]
 .unfold gW;by_cases h:dN (I.w 4).toL S (I.w 6) (I.w 8)<S.length
  .rw[XM hf D1 h (by omega),e8 (k3 h),e8 h]
  .have e:dN (I.w 4).toL S (I.w 6) (I.w 8)=S.length:=by omega
   rw[b9 h,e];have hl:(cS (I.w 4).toL S (I.w 6) (I.w 8) S.length).length=S.length:=jH (λi=>kC (I.w 4).toL (I.w 6) (I.w 8) (aO S i)) _;unfold zJ;rw[hl];generalize cS (I.w 4).toL S (I.w 6) (I.w 8) S.length=L at*
   generalize (if S.length=0 then e0 else Val.vi 0)=ee;have D1:=D1 [.vi S.length,ee,.vi S.length,.vl L];have v0:(I.upd 2000 [.vi S.length,ee,.vi S.length,.vl L]).w 2000= .vi S.length:=by rfl
   have v1:(I.upd 2000 [.vi S.length,ee,.vi S.length,.vl L]).w 2001=ee:=by rfl
   have v2:(I.upd 2000 [.vi S.length,ee,.vi S.length,.vl L]).w 2002= .vi S.length:=by rfl
   have v3:(I.upd 2000 [.vi S.length,ee,.vi S.length,.vl L]).w 2003= .vl L:=by rfl
   generalize I.upd 2000 [.vi S.length,ee,.vi S.length,.vl L]=aa at*
   refine S4 ?_ ?_
   .show decide ((aa.w 2002).toI<((aM aa dE).toL.length:Int))=false;simp_all
   .show some (1,[aa.w 2000,aa.w 2001,aa.w 2002,aa.w 2003])=_;grind
end
end Go.Ev.S9
namespace Go.Ev.S9
open Go Go.Ev
def w9(I:Opq):List Val:=[I.w 0,I.w 1,I.w 2,I.w 3,I.w 4,I.w 5,I.w 6,I.w 7,I.w 8]
theorem d87{m:List Val}{key v r:Val}(hk:Mf key=true)(hl:key.toS.length<=1000)(hr: ∃a b,r= .vl [.vi a,.vi b])(he:gA m key v r=0):rowS (kC m key v r):=by
 obtain⟨a,b,rfl⟩:=hr;obtain⟨c,d,e,f,hq⟩:=dL1 he;cases key with
 |vs k=>
  refine⟨k,a,b,c,d,e,f,?_,hl⟩;unfold kC ws kr;unfold gA at he;rw[b9 (by simp[he]),hq];rfl
 |vi _=>cases hk
 |vb _=>cases hk
 |vl _=>cases hk
section
variable{X:Nat->List Val->Val}{I:Opq}(hf: ∀i a,I.f i a=FT X i a)
include hf
theorem t_tryE(h431: ∀l:List Val,(∀r∈l,rowS r)->(X 431 [.vl l]).toB=true)
 (hn:dB I (zn (zn (zn (zb (zl 4) 400) (.app 431 [.va 4])) (.app 491 [.va 4])) (.app 739 [.va 0,.va 4,.va 6]))=true):
 R0 T_tryE I=some (0,[.vi (bY (w9 I)),.vl (dJ (w9 I)),cj X (w9 I)]):=by
 obtain⟨m1,m2⟩:=Q8 hn;obtain⟨m3,m4⟩:=Q8 m1;have m2:(I.f 739 [I.w 0,I.w 4,I.w 6]).toB=true:=m2;rw[hf]at m2;have m2:((!decide ((I.w 0).toI=3)||decide ((I.w 4).toL.length<=24))&&Mf (I.w 6))=true:=m2;obtain⟨m5,m6⟩:=Q8 m2;have t0:aM I nF= .vi (S8 (I.w 5).toI (I.w 6).toS (I.w 7).toI (I.w 8).toI):=by
  show I.f 701 [I.w 5,I.w 6,I.w 7,I.w 8]=_;rw[hf];rfl
 have g9:bY (w9 I)=if S8 (I.w 5).toI (I.w 6).toS (I.w 7).toI (I.w 8).toI≠0 then S8 (I.w 5).toI (I.w 6).toS (I.w 7).toI (I.w 8).toI else if(I.w 5).toI≠1 then 2 else if(I.w 0).toI=3 then ou (I.w 3) (I.w 4).toL (I.w 6) (I.w 7) (I.w 8)else(gW (I.w 4).toL (bh (I.w 0).toI (I.w 1).toI (I.w 2).toI (I.w 3).toI (I.w 7)) (I.w 6) (I.w 8) (.vi 0)).toI:=rfl
 have gG:dJ (w9 I)=if S8 (I.w 5).toI (I.w 6).toS (I.w 7).toI (I.w 8).toI≠0\/(I.w 5).toI≠1 then []else if(I.w 0).toI=3 then ko (I.w 3) (I.w 4).toL (I.w 6) (I.w 7) (I.w 8)else []:=rfl
 have gR:cj X (w9 I)=if S8 (I.w 5).toI (I.w 6).toS (I.w 7).toI (I.w 8).toI≠0\/(I.w 5).toI≠1 then .vl []else if(I.w 0).toI=3 then .vl (jV (I.w 3) (I.w 4).toL (I.w 6) (I.w 7) (I.w 8))else if bY (w9 I)≠0 then .vl []else X 490 [.vl (cS (I.w 4).toL (bh (I.w 0).toI (I.w 1).toI (I.w 2).toI (I.w 3).toI (I.w 7)) (I.w 6) (I.w 8) (bh (I.w 0).toI (I.w 1).toI (I.w 2).toI (I.w 3).toI (I.w 7)).length)]:=rfl
 rw[gR,g9,gG];have c0:dB I (.op (.cmp .neq) [nF,.ci 0])= !decide (S8 (I.w 5).toI (I.w 6).toS (I.w 7).toI (I.w 8).toI=0):=by rw[gH,W4,t0];rfl
 by_cases h0:S8 (I.w 5).toI (I.w 6).toS (I.w 7).toI (I.w 8).toI≠0
 .rw[e8 h0,e8 (.inl h0),e8 (.inl h0)];refine S3 (by rw[c0,j5 h0];rfl) ?_;show some (0,[aM I nF,Val.vl [],Val.vl []])=_;rw[t0]
 rw[b9 h0];have hlen:(I.w 5).toI=1->(I.w 6).toS.length<=32:=λh1=>by
  have h:=Classical.not_not.1 h0;rw[h1]at h;unfold S8 at h;by_cases q:(I.w 6).toS=[]\/32<(I.w 6).toS.length
  .rw[e8 q]at h;cases h
  .exact C6.1 λhh=>q (.inr hh)
 replace h0:=Classical.not_not.1 h0;refine S4 (by rw[c0,e9 h0];rfl) ?_;have c1:dB I (.op (.cmp .neq) [.va 5,.ci 1])= !decide ((I.w 5).toI=1):=by rw[gH,W4,V6]
 by_cases h1:(I.w 5).toI≠1
 .rw[e8 h1,e8 (.inr h1),e8 (.inr h1)];exact S3 (by rw[c1,j5 h1];rfl) rfl
 have hd: ¬(S8 (I.w 5).toI (I.w 6).toS (I.w 7).toI (I.w 8).toI≠0\/(I.w 5).toI≠1):=λh=>h.elim (λh=>h h0) h1
 simp only[b9 h1,b9 hd];replace h1:=Classical.not_not.1 h1;refine S4 (by rw[c1,e9 h1];rfl) ?_;by_cases h3:(I.w 0).toI=3
 .simp[e8 h3];refine S3 (by exact e9 h3) (R3 ?_ ?_)
  .rw[Y4,j7];refine⟨?_,m4⟩;rw[e9 h3]at m5;have m5:(I.w 4).toL.length<=24:=j6 m5;exact e9 (by show((I.w 4).toL.length:Int)<=24;omega)
  .show some (0,[I.f 729 [I.w 3,I.w 4,I.w 6,I.w 7,I.w 8],I.f 727 [I.w 3,I.w 4,I.w 6,I.w 7,I.w 8],I.f 728 [I.w 3,I.w 4,I.w 6,I.w 7,I.w 8]])=_;rw[hf,hf,hf];rfl
 simp only[b9 h3];refine S4 (by exact j5 h3) ?_;have hS:=xN (k:=(I.w 0).toI) (s:=(I.w 1).toI) (l:=(I.w 2).toI) (g:=(I.w 3).toI) (t:=I.w 7) h3;have hvi:=d86 (k:=(I.w 0).toI) (s:=(I.w 1).toI) (l:=(I.w 2).toI) (g:=(I.w 3).toI) (t:=I.w 7) h3;have d1:aM I dE= .vl (bh (I.w 0).toI (I.w 1).toI (I.w 2).toI (I.w 3).toI (I.w 7)):=by
  show I.f 704 [I.w 0,I.w 1,I.w 2,I.w 3,I.w 7]=_;rw[hf];rfl
 have W: ∀vs:List Val,∀n:Nat,n<2000->(I.upd 2000 vs).w n=I.w n:=λvs n hn=>by rw[T1,b9 (by omega)]
 have D1: ∀vs,aM (I.upd 2000 vs) dE= .vl (bh (I.w 0).toI (I.w 1).toI (I.w 2).toI (I.w 3).toI (I.w 7)):=λvs=>by
  exact d1
 generalize bh (I.w 0).toI (I.w 1).toI (I.w 2).toI (I.w 3).toI (I.w 7)=S at*
 have lp:=dL2 hf (e0:= .vi 0) D1 hS;rw[h0]at t0;obtain⟨k1,k2,k3⟩:=OP (I.w 4).toL S (I.w 6) (I.w 8);have e2:aM I vg=V0 (0,[.vi (dN (I.w 4).toL S (I.w 6) (I.w 8)),gW (I.w 4).toL S (I.w 6) (I.w 8) (.vi 0),.vi (dN (I.w 4).toL S (I.w 6) (I.w 8)),.vl (cS (I.w 4).toL S (I.w 6) (I.w 8) (dN (I.w 4).toL S (I.w 6) (I.w 8)))]):=by
  show I.f 760 [.vi 0,aM I nF,.vi 0,.vl [],I.w 0,I.w 1,I.w 2,I.w 3,I.w 4,I.w 5,I.w 6,I.w 7,I.w 8,.vi (aM I dE).toL.length,aM I dE,.vi (aM I dE).toL.length]=_;rw[hf,t0,d1];rfl
 have lp':S5 (λvs=>R0 Ia (I.upd 2000 vs)) (R7 I [.op .llen [.op .row []],nF,.ci 0,.op .row []])=some (0,[.vi (dN (I.w 4).toL S (I.w 6) (I.w 8)),gW (I.w 4).toL S (I.w 6) (I.w 8) (.vi 0),.vi (dN (I.w 4).toL S (I.w 6) (I.w 8)),.vl (cS (I.w 4).toL S (I.w 6) (I.w 8) (dN (I.w 4).toL S (I.w 6) (I.w 8)))]):=by
  show S5 _ [.vi 0,aM I nF,.vi 0,.vl []]=_;rw[t0];exact lp
 have d3:aM I Bd=gW (I.w 4).toL S (I.w 6) (I.w 8) (.vi 0):=by show S0 (aM I vg).toL 1 1=_;rw[e2];rfl
 have hX: ∃x,gW (I.w 4).toL S (I.w 6) (I.w 8) (.vi 0)= .vi x:=by
  unfold gW;split
  .exact⟨_,rfl⟩
  .split<;>exact⟨_,rfl⟩
 obtain⟨x,hX⟩:=hX;refine R4 lp' e2 ?_;have c3:dB I (.op (.cmp .neq) [Bd,.ci 0])= !decide (x=0):=by rw[gH,W4,d3,hX];rfl
 by_cases hx:x=0
 .subst hx;have hK:dN (I.w 4).toL S (I.w 6) (I.w 8)=S.length:=by
   refine O5 k1 (C6.1 λh=> ?_);unfold gW at hX;rw[e8 h]at hX;exact k3 h (Val.vi.inj hX)
  have d4:aM I zf= .vi S.length:=by show S0 (aM I vg).toL 1 0=_;rw[e2,hK];rfl
  have d5:aM I Fl= .vl (cS (I.w 4).toL S (I.w 6) (I.w 8) S.length):=by show S0 (aM I vg).toL 1 3=_;rw[e2,hK];rfl
  have hl:(cS (I.w 4).toL S (I.w 6) (I.w 8) S.length).length=S.length:=jH (λi=>kC (I.w 4).toL (I.w 6) (I.w 8) (aO S i)) _;have d6:aM I yL= .vl (cS (I.w 4).toL S (I.w 6) (I.w 8) S.length):=by
   show Val.vl (((aM I Fl).toL.drop (0:Int).toNat).take ((aM I zf).toI-0).toNat)=_;rw[d4,d5];have:=SO (cS (I.w 4).toL S (I.w 6) (I.w 8) S.length);rw[hl]at this;exact congrArg Val.vl this
  have hrows: ∀r∈cS (I.w 4).toL S (I.w 6) (I.w 8) S.length,rowS r:=λr hr=>by
   unfold cS at hr;rw[nW]at hr;obtain⟨i,hi,hr⟩:=B2.1 hr;rw[m9]at hr;subst hr;have hi:=m8.1 hi;refine d87 m6 (by omega) (hvi _ ?_) (k2 i (by omega));have:aO S i=S[i]:=by simp[aO,j9,hi]
   rw[this];exact B6 hi
  have h43:=h431 _ hrows;rw[hX,b9 (by simp)];generalize cS (I.w 4).toL S (I.w 6) (I.w 8) S.length=L at*
  refine S4 (by rw[c3];rfl) (R3 ?_ ?_)
  .rw[Y4,Y4,Y4,T5,T5,T5,W4,W4,S2,S2,d4,d5,d6,j7,j7,j7];refine⟨⟨e9 (by show(0:Int)<=(S.length:Int);omega),e9 (by show(S.length:Int)<=(L.length:Int);omega)⟩,e9 (by show(L.length:Int)<=400;omega),?_⟩;show(I.f 431 [aM I yL]).toB=true;rw[d6,hf];exact h43
  .show some (0,[Val.vi 0,Val.vl [],I.f 490 [aM I yL]])=_;rw[d6,hf];rfl
 .rw[hX,e8 (by simpa using hx)];refine S3 (by rw[c3,j5 hx];rfl) ?_;show some (0,[aM I Bd,Val.vl [],Val.vl []])=_;rw[d3,hX];rfl
end
end Go.Ev.S9
namespace Go.Ev.S9
open Go Go.Ev
def dV3:SX:= .op .row [.op .lget [ei,.va 2000,.ci 0],.op .lget [ei,.va 2000,.ci 1],.op .lget [ei,.va 2000,.ci 2]]
def MV:SX:= .op .row [.op .lget [Z6,.va 2000,.ci 0],.op .lget [Z6,.va 2000,.ci 1],.op .lget [Z6,.va 2000,.ci 2]]
def QP:SX:= .op .row [.op .lget [Z6,.va 2000,.ci 0],.op .lget [Z6,.va 2000,.ci 1],.op .lget [Z6,.va 2000,.ci 2],.op .lget [Z6,.va 2000,.ci 3],.op .lget [Z6,.va 2000,.ci 4],.op .lget [Z6,.va 2000,.ci 5],.op .lget [Z6,.va 2000,.ci 6]]
def Oi:SX:= .op (.mfind [.str,.int .i64,.int .i64]) [.va 2001,MV]
theorem dL6{I:Opq}{G:List Val}{m:Val}(hG:G.length<=1000000)(D2: ∀vs,aM (I.upd 2000 vs) ei= .vl G):
 S5 (λvs=>R0 Pd (I.upd 2000 vs)) [.vi 0,m]=some (0,[.vi G.length,cF m G G.length]):=by
 refine V9 (st:=λk=>[.vi k,cF m G k]) (n:=G.length) (λk hk=> ?_) ?_
 .show R0 Pd (I.upd 2000 [.vi k,cF m G k])=some (0,[.vi (k+1:Nat),.vl ((cF m G k).toL.eraseIdx (eI (cF m G k).toL (cC (aO G k))))]);have D2:=D2 [.vi k,cF m G k];have v0:(I.upd 2000 [.vi k,cF m G k]).w 2000= .vi k:=by rfl
  have v1:(I.upd 2000 [.vi k,cF m G k]).w 2001=cF m G k:=by rfl
  generalize I.upd 2000 [.vi k,cF m G k]=aa at*
  have dk:aM aa dV3=cC (aO G k):=by
   show Val.vl [S0 (aM aa ei).toL (aa.w 2000).toI 0,S0 (aM aa ei).toL (aa.w 2000).toI 1,S0 (aM aa ei).toL (aa.w 2000).toI 2]=_;rw[D2,v0];rfl
  have inc:aS .add .i64 (Val.vi (k:Int)).toI 1=((k+1:Nat):Int):=V8 hk (by omega);refine S3 ?_ (R3 ?_ ?_)
  .show decide ((aa.w 2000).toI<((aM aa ei).toL.length:Int))=true;simp_all
  .simp_all[T5,W4,V6,e9]
  .show some (0,[Val.vi (aS .add .i64 (aa.w 2000).toI 1),Val.vl ((aa.w 2001).toL.eraseIdx (eI (aa.w 2001).toL (aM aa dV3)))])=_;grind
 .have D2:=D2 [.vi G.length,cF m G G.length];have v0:(I.upd 2000 [.vi G.length,cF m G G.length]).w 2000= .vi G.length:=by rfl
  have v1:(I.upd 2000 [.vi G.length,cF m G G.length]).w 2001=cF m G G.length:=by rfl
  generalize I.upd 2000 [.vi G.length,cF m G G.length]=aa at*
  refine S4 ?_ ?_
  .show decide ((aa.w 2000).toI<((aM aa ei).toL.length:Int))=false;simp_all
  .show some (1,[aa.w 2000,aa.w 2001])=_;grind
theorem dL7{I:Opq}{R:List Val}{m:Val}(hR:R.length<=1000000)(D1: ∀vs,(aM (I.upd 2000 vs) Z6).toL=R):
 S5 (λvs=>R0 LO (I.upd 2000 vs)) [.vi 0,m]=some (0,[.vi R.length,bW m R R.length]):=by
 refine V9 (st:=λk=>[.vi k,bW m R k]) (n:=R.length) (λk hk=> ?_) ?_
 .show R0 LO (I.upd 2000 [.vi k,bW m R k])=some (0,[.vi (k+1:Nat),bif gg (bW m R k).toL (cC (aO R k))then .vl ((bW m R k).toL.set (eI (bW m R k).toL (cC (aO R k))) (W3 (aO R k)))else .vl ((bW m R k).toL++[W3 (aO R k)])]);have D1:=D1 [.vi k,bW m R k];have v0:(I.upd 2000 [.vi k,bW m R k]).w 2000= .vi k:=by rfl
  have v1:(I.upd 2000 [.vi k,bW m R k]).w 2001=bW m R k:=by rfl
  generalize I.upd 2000 [.vi k,bW m R k]=aa at*
  generalize bW m R k=M at*
  have dk:aM aa MV=cC (aO R k):=by
   show Val.vl [S0 (aM aa Z6).toL (aa.w 2000).toI 0,S0 (aM aa Z6).toL (aa.w 2000).toI 1,S0 (aM aa Z6).toL (aa.w 2000).toI 2]=_;rw[D1,v0];rfl
  have dn:aM aa QP=W3 (aO R k):=by
   show Val.vl [S0 (aM aa Z6).toL (aa.w 2000).toI 0,S0 (aM aa Z6).toL (aa.w 2000).toI 1,S0 (aM aa Z6).toL (aa.w 2000).toI 2,S0 (aM aa Z6).toL (aa.w 2000).toI 3,S0 (aM aa Z6).toL (aa.w 2000).toI 4,S0 (aM aa Z6).toL (aa.w 2000).toI 5,S0 (aM aa Z6).toL (aa.w 2000).toI 6]=_;rw[D1,v0];rfl
  have dm:aM aa Oi= .vi (eI M.toL (cC (aO R k)):Nat):=by
   show Val.vi ((eI (aa.w 2001).toL (aM aa MV):Nat):Int)=_;grind
  have inc:aS .add .i64 (Val.vi (k:Int)).toI 1=((k+1:Nat):Int):=V8 hk (by omega);have e:decide (((eI M.toL (cC (aO R k)):Nat):Int)<(M.toL.length:Int))=gg M.toL (cC (aO R k)):=by
   simp_all[gg,decide_eq_decide]
  refine S3 ?_ (R3 ?_ ?_)
  .show decide ((aa.w 2000).toI<((aM aa Z6).toL.length:Int))=true;simp_all
  .simp_all[T5,W4,V6,e9]
  .show some (0,[Val.vi (aS .add .i64 (aa.w 2000).toI 1),bif decide ((aM aa Oi).toI<((aa.w 2001).toL.length:Int))then Val.vl ((aa.w 2001).toL.set (aM aa Oi).toI.toNat (aM aa QP))else Val.vl ((aa.w 2001).toL++[aM aa QP])])=_;simp_all
 .have D1:=D1 [.vi R.length,bW m R R.length];have v0:(I.upd 2000 [.vi R.length,bW m R R.length]).w 2000= .vi R.length:=by rfl
  have v1:(I.upd 2000 [.vi R.length,bW m R R.length]).w 2001=bW m R R.length:=by rfl
  generalize I.upd 2000 [.vi R.length,bW m R R.length]=aa at*
  refine S4 ?_ ?_
  .show decide ((aa.w 2000).toI<((aM aa Z6).toL.length:Int))=false;simp_all
  .show some (1,[aa.w 2000,aa.w 2001])=_;grind
end Go.Ev.S9
namespace Go.Ev.S9
open Go Go.Ev
section
variable{X:Nat->List Val->Val}{I:Opq}(hf: ∀i a,I.f i a=FT X i a)
include hf
theorem dL8(hG:(dJ (w9 I)).length<=1000000)(hR:(cj X (w9 I)).toL.length<=1000000)
 (hn:dB I (zn (zn (zn (zb (zl 4) 400) (.app 431 [.va 4])) (.app 491 [.va 4])) (.app 739 [.va 0,.va 4,.va 6]))=true):
 R0 T_put I=some (0,[.vi (bY (w9 I)),eY X (w9 I)]):=by
 have W9: ∀vs:List Val,[(I.upd 2000 vs).w 0,(I.upd 2000 vs).w 1,(I.upd 2000 vs).w 2,(I.upd 2000 vs).w 3,(I.upd 2000 vs).w 4,(I.upd 2000 vs).w 5,(I.upd 2000 vs).w 6,(I.upd 2000 vs).w 7,(I.upd 2000 vs).w 8]=w9 I:=λvs=>by
  rfl
 have p0:aM I zR= .vi (bY (w9 I)):=by
  show I.f 732 (w9 I)=_;rw[hf];rfl
 have p1:aM I Z6=cj X (w9 I):=by
  show I.f 731 (w9 I)=_;rw[hf];rfl
 have p2:aM I ei= .vl (dJ (w9 I)):=by
  show I.f 730 (w9 I)=_;rw[hf];rfl
 have P1: ∀vs,(aM (I.upd 2000 vs) Z6).toL=(cj X (w9 I)).toL:=λvs=>by
  show(I.f 731 [(I.upd 2000 vs).w 0,(I.upd 2000 vs).w 1,(I.upd 2000 vs).w 2,(I.upd 2000 vs).w 3,(I.upd 2000 vs).w 4,(I.upd 2000 vs).w 5,(I.upd 2000 vs).w 6,(I.upd 2000 vs).w 7,(I.upd 2000 vs).w 8]).toL=_;rw[W9,hf];rfl
 have P2: ∀vs,aM (I.upd 2000 vs) ei= .vl (dJ (w9 I)):=λvs=>by
  show I.f 730 [(I.upd 2000 vs).w 0,(I.upd 2000 vs).w 1,(I.upd 2000 vs).w 2,(I.upd 2000 vs).w 3,(I.upd 2000 vs).w 4,(I.upd 2000 vs).w 5,(I.upd 2000 vs).w 6,(I.upd 2000 vs).w 7,(I.upd 2000 vs).w 8]=_;rw[W9,hf];rfl
 have c0:dB I (.op (.cmp .neq) [zR,.ci 0])= !decide (bY (w9 I)=0):=by rw[gH,W4,p0];rfl
 have hm:eY X (w9 I)=if bY (w9 I)≠0 then I.w 4 else bW (cF (I.w 4) (dJ (w9 I)) (dJ (w9 I)).length) (cj X (w9 I)).toL (cj X (w9 I)).toL.length:=rfl
 rw[hm];refine R3 hn ?_;by_cases h:bY (w9 I)=0
 .refine S4 (by grind) ?_;rw[h];generalize dJ (w9 I)=G at*
  have e1:I.f 761 [.vi 0,I.w 4,I.w 0,I.w 1,I.w 2,I.w 3,I.w 4,.vi (aM I Z6).toL.length,aM I Z6,.vi (aM I ei).toL.length,aM I ei,.vi (aM I ei).toL.length]=V0 (0,[.vi G.length,cF (I.w 4) G G.length]):=by
   rw[hf,p2];rfl
  have p3:aM I oP=cF (I.w 4) G G.length:=by
   show S0 (I.f 761 [.vi 0,I.w 4,I.w 0,I.w 1,I.w 2,I.w 3,I.w 4,.vi (aM I Z6).toL.length,aM I Z6,.vi (aM I ei).toL.length,aM I ei,.vi (aM I ei).toL.length]).toL 1 1=_;rw[e1];rfl
  refine R4 (r:=(0,[.vi G.length,cF (I.w 4) G G.length])) (dL6 hG P2) e1 ?_;generalize cF (I.w 4) G G.length=M at*
  have e2:I.f 762 [.vi 0,aM I oP,I.w 0,I.w 1,I.w 2,I.w 3,aM I oP,.vi (aM I Z6).toL.length,aM I Z6,.vi (aM I Z6).toL.length]=V0 (0,[.vi (cj X (w9 I)).toL.length,bW M (cj X (w9 I)).toL (cj X (w9 I)).toL.length]):=by
   rw[hf,p1,p3];rfl
  refine R4 (r:=(0,[.vi (cj X (w9 I)).toL.length,bW M (cj X (w9 I)).toL (cj X (w9 I)).toL.length])) ?_ e2 ?_
  .show S5 _ [.vi 0,aM I oP]=_;rw[p3];exact dL7 hR P1
  .show some (0,[Val.vi 0,S0 (I.f 762 [.vi 0,aM I oP,I.w 0,I.w 1,I.w 2,I.w 3,aM I oP,.vi (aM I Z6).toL.length,aM I Z6,.vi (aM I Z6).toL.length]).toL 1 1])=_;rw[e2];rfl
 .rw[e8 h];refine S3 (by grind) ?_;show some (0,[aM I zR,I.w 4])=_;rw[p0]
end
end Go.Ev.S9
namespace Go.Ev.S9
open Go Go.Ev
def aY(x:Int):Prop:= -9223372036854775808<=x/\x<9223372036854775808
def lX(g:Nat->Int):Nat->Int
 |0=>0
 |k+1=>lX g k+g k
theorem Vt{x:Int}(h: -18446744073709551616<=x)(h2:x<18446744073709551616):aY (IntKind.i64.wrap x)/\((aY x/\IntKind.i64.wrap x=x)\/(x< -9223372036854775808/\IntKind.i64.wrap x=x+18446744073709551616)\/(9223372036854775808<=x/\IntKind.i64.wrap x=x-18446744073709551616)):=by
 grind[aY,IntKind.wrap,IntKind.bits,IntKind.signed]
theorem ZH{g:Nat->Int}(hg: ∀k,aY (g k)): ∀n:Nat,n<=1000000->aY (cx g n).1/\ -(n:Int)<=(cx g n).2/\(cx g n).2<=n/\(cx g n).1+(cx g n).2*18446744073709551616=lX g n
 |0,_=>⟨⟨by show(-9223372036854775808:Int)<=0;omega,by show(0:Int)<9223372036854775808;omega⟩,by show-((0:Nat):Int)<=0;omega,by show(0:Int)<=((0:Nat):Int);omega,rfl⟩
 |n+1,hn=>by
  obtain⟨a,b,c,d⟩:=ZH hg n (by omega);have hx:=hg n;unfold lX;rw[show cx g (n+1)=if 0<=(cx g n).1/\0<=g n/\aS .add .i64 (cx g n).1 (g n)<0 then(aS .add .i64 (cx g n).1 (g n),aS .add .i64 (cx g n).2 1)else if(cx g n).1<0/\g n<0/\0<=aS .add .i64 (cx g n).1 (g n)then(aS .add .i64 (cx g n).1 (g n),aS .sub .i64 (cx g n).2 1)else(aS .add .i64 (cx g n).1 (g n),(cx g n).2)from rfl];generalize (cx g n).1=s at*
  generalize g n=x at*
  have w:=Vt (x:=s+x) (by have:=a.1;have:=hx.1;omega) (by have:=a.2;have:=hx.2;omega);grind[aS,cV,gv,aY]
theorem VQ{g:Nat->Int}(hg: ∀k,aY (g k)){n:Nat}(hn:n<=1000000):((cx g n).2=0↔aY (lX g n))/\((cx g n).2=0->(cx g n).1=lX g n):=by
 grind[ZH,aY,cx]
end Go.Ev.S9
