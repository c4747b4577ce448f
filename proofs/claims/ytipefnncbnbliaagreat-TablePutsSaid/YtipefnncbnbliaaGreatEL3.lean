import Derived.Test.YtipefnncbnbliaaGreatEL1
set_option linter.unusedSimpArgs false
set_option linter.unusedVariables false
namespace Go.Ev.S9
open Go Go.Ev
theorem Bq{step:List Val->Option (Nat×List Val)}{n:Nat}{a0:List Val}{g:Nat->List Val}(mk:Nat->List Val->List Val){s0 p:List Val}(h0:s0=mk 0 a0)
 (h1: ∀i,i<n->step (mk i (a0++cn g i))=some (0,mk (i+1) (a0++cn g i++g i))) (h2:step (mk n (a0++cn g n))=some (1,p)):cI step s0=some (0,p):=by
 have:=eG (step:=step) (st:=λi=>mk i (a0++cn g i)) (n:=n) (j:=0) (p:=p) (λi hi=>by
  show step (mk i (a0++cn g i))=some (0,mk (i+1) (a0++(cn g i++g i)));rw[h1 i hi,A4]) h2
 rw[h0];simpa only[cn,s6]using this
theorem mX(f:Nat->Val): ∀n,(cn (λi=>[f i]) n).length=n
 |0=>rfl
 |n+1=>by rw[cn,k7,mX f n];rfl
theorem Di{s l:Int}(h:s % l=0)(hl:1<=l)(hs:1<=s):((s/l).toNat:Int)*l=s/\1<=(s/l).toNat:=by
 grind[Int.ediv_nonneg,Int.emod_def,Int.toNat_of_nonneg,Int.mul_comm,Nat.eq_zero_or_pos]
theorem cx9{I:Opq}{B:VT}{st step size:Int}{n:Nat}(hB: ∀(i:Nat) (acc:List Val),i<n->acc.length=i->W7 B (I.upd 2000 [.vi i,.vi (st+i*step),.vl acc])=some (0,[.vi (i+1:Nat),.vi (st+(i+1:Nat)*step),.vl (acc++iG st step size i)]))
 (hE: ∀acc:List Val,W7 B (I.upd 2000 [.vi n,.vi (st+n*step),.vl acc])=some (1,[.vi n,.vi (st+n*step),.vl acc])):
 cI (λvs=>W7 B (I.upd 2000 vs)) [.vi 0,.vi st,.vl []]=some (0,[.vi n,.vi (st+n*step),.vl (cn (iG st step size) n)]):=by
 refine Bq (λi acc=>[.vi i,.vi (st+i*step),.vl acc]) (a0:=[]) (g:=iG st step size) (n:=n) ?_ (λi hi=> ?_) ?_
 .simp
 .exact hB i _ hi (by exact mX _ i)
 grind
theorem Cr{I:Opq}(a b:SX):dB I (gM a b)=decide ((bU I b).toI<=(bU I a).toI):=rfl
theorem cB{I:Opq}(a b:SX):dB I (fJ a b)=decide ((bU I a).toI<=(bU I b).toI):=rfl
theorem dX{I:Opq}(a b:SX):dB I (cC a b)=decide ((bU I a).toI=(bU I b).toI):=rfl
theorem iu{I:Opq}(a:SX):dB I (dJ a)= !dB I a:=rfl
theorem db{I:Opq}(a b:SX):dB I (zn a b)=(dB I a&&dB I b):=rfl
theorem cx{I:Opq}(n:Int):(bU I (.ci n)).toI=n:=rfl
theorem co{I:Opq}(n:Nat):(bU I (.va n)).toI=(I.w n).toI:=rfl
section
variable{X:Nat->List Val->Val}{I:Opq}(hf: ∀i a,I.f i a=FT X i a)
include hf
theorem t_wOf:W7 T_wOf I=some (0,[FT X 704 [I.w 0,I.w 1,I.w 2,I.w 3,I.w 4]]):=by
 show W7 T_wOf I=some (0,[Val.vl (cX (I.w 0).toI (I.w 1).toI (I.w 2).toI (I.w 3).toI (I.w 4))]);generalize hk:(I.w 0).toI=k;generalize hs:(I.w 1).toI=s;generalize hl:(I.w 2).toI=l;generalize hg:(I.w 3).toI=g;unfold T_wOf cX;generalize ht:(I.w 4).toI=t;have r0:bU I (.app 700 [aM,aO,aT,aU])= .vb (cT k s l g):=by
  show I.f 700 [I.w 0,I.w 1,I.w 2,I.w 3]=_;rw[hf,<-hk,<-hs,<-hl,<-hg];rfl
 cases hR:cT k s l g with
 |false=>
  refine cy ?_ rfl;show(!(bU I (.app 700 [aM,aO,aT,aU])).toB)=true;rw[r0,hR];rfl
 |true=>
 refine cu (by show(!(bU I (.app 700 [aM,aO,aT,aU])).toB)=false;rw[r0,hR];rfl) ?_;by_cases t1: ¬ -1099511627776<=t
 .have e:ep t=false:=by unfold ep;rw[decide_eq_false t1];rfl
  rw[e];exact cu (by rw[Cr,cx,co,ht];exact j5 t1) rfl
 replace t1:=Classical.not_not.1 t1;refine cy (by rw[Cr,cx,co,ht];exact e9 t1) ?_;by_cases t2: ¬t<=1099511627776
 .have e:ep t=false:=by unfold ep;rw[decide_eq_false t2,Bool.and_false]
  rw[e];exact cy (by rw[iu,cB,cx,co,ht,j5 t2];rfl) rfl
 replace t2:=Classical.not_not.1 t2;have e:ep t=true:=by unfold ep;rw[decide_eq_true t1,decide_eq_true t2];rfl
 rw[e];refine cu (by rw[iu,cB,cx,co,ht,e9 t2];rfl) ?_;show W7 _ I=some (0,[Val.vl (if k=3 then [.vl [I.w 4,.vi (t+g)]]else cn (iG (fk t (dz k s l)-s+dz k s l) (dz k s l) s) (fe k s l))]);by_cases k3:k=3
 .rw[e8 k3];refine cy (by show decide ((I.w 0).toI=3)=true;rw[hk];exact e9 k3) ?_;have:cg .add .i64 t g=t+g:=by
   unfold cT at hR;simp[k3]at hR;exact gb (by omega) (by omega)
  show some (0,[Val.vl [Val.vl [I.w 4,Val.vi (cg .add .i64 (I.w 4).toI (I.w 3).toI)]]])=_;rw[ht,hg,this]
 rw[b9 k3];refine cu (by show decide ((I.w 0).toI=3)=false;rw[hk];exact j5 k3) ?_;by_cases k2:k=2
 .refine cy (by show decide ((I.w 0).toI=2)=true;rw[hk];exact e9 k2) ?_;have hR':(1<=s/\s<=1048576)/\(1<=l/\l<=1048576)/\s % l=0/\s/l<=16:=by
   unfold cT at hR;simp[k2]at hR;omega
  obtain⟨⟨s1,s2⟩,⟨l1,l2⟩,sl,sq⟩:=hR';obtain⟨n1,n2⟩:=Di sl l1 s1;have hst:dz k s l=l:=e8 k2;have hN:fe k s l=(s/l).toNat:=by unfold fe;rw[hst]
  rw[hst,hN];have hn16:(s/l).toNat<=16:=by omega
  generalize (s/l).toNat=n at n1 n2 hN hn16;have q0:=I4 t (show l≠0 by omega);have q1:=I5 t (show 0<l by omega);have hd:bU I (.app 709 [aS,aT])= .vi (fk t l):=by
   show I.f 709 [I.w 4,I.w 2]=_;rw[hf,<-ht,<-hl];rfl
  have hD:fk t l=t-t % l:=rfl;generalize fk t l=D at hd hD;have a1:cg .sub .i64 D s=D-s:=lQ (by omega) (by omega);have a2:cg .add .i64 (D-s) l=D-s+l:=gb (by omega) (by omega);have hw0:bU I Gj= .vi (D-s+l):=by
   show Val.vi (cg .add .i64 (cg .sub .i64 (bU I (.app 709 [aS,aT])).toI (I.w 1).toI) (I.w 2).toI)=_;rw[hd,hs,hl];show Val.vi (cg .add .i64 (cg .sub .i64 D s) l)=_;rw[a1,a2]
  have e0:bU I CY=cr (0,[.vi n,.vi (D-s+l+n*l),.vl (cn (iG (D-s+l) l s) n)]):=by
   show I.f 753 [.vi 0,bU I Gj,.vl [],I.w 0,I.w 1,I.w 2,I.w 3,bU I (.app 709 [aS,aT])]=_;rw[hf,hw0];show cr (0,[.vi (fe (I.w 0).toI (I.w 1).toI (I.w 2).toI),.vi (D-s+l+fe (I.w 0).toI (I.w 1).toI (I.w 2).toI*dz (I.w 0).toI (I.w 1).toI (I.w 2).toI),.vl (cn (iG (D-s+l) (dz (I.w 0).toI (I.w 1).toI (I.w 2).toI) (I.w 1).toI) (fe (I.w 0).toI (I.w 1).toI (I.w 2).toI))])=_;rw[hk,hs,hl,hN,hst]
  have e1:bU I Fc= .vl (cn (iG (D-s+l) l s) n):=by show bZ (bU I CY).toL 1 2=_;rw[e0];rfl
  refine W8 (by
   rw[db,cB,cB,cx,cx,co,hl,e9 l1,e9 l2];rfl) (Z3 (r:=(0,[.vi n,.vi (D-s+l+n*l),.vl (cn (iG (D-s+l) l s) n)])) ?_ e0 (W8 ?_ ?_))
  .show cI _ [.vi 0,bU I Gj,.vl []]=_;rw[hw0];have hd':I.f 709 [I.w 4,I.w 2]= .vi D:=hd;refine cx9 (size:=s) (λi acc hi hacc=> ?_) (λacc=> ?_)
   .have b1:(i:Int)*l+l<=n*l:=by
     have:((i:Int)+1)*l<=n*l:=G3 (by omega) (by omega);rw[F5]at this;omega
    have b2:0<=(i:Int)*l:=I6 (by omega) (by omega);have b3:((i+1:Nat):Int)*l=(i:Int)*l+l:=by rw[Int.natCast_add,F5];simp
    have p1:D-s+l+(i:Int)*l<=D:=by omega
    have p2:cg .add .i64 (D-s+l+(i:Int)*l) l=D-s+l+((i:Int)*l+l):=by rw[gb (by omega) (by omega)];omega
    have p3:cg .add .i64 (D-s+l+(i:Int)*l) s=D-s+l+(i:Int)*l+s:=gb (by omega) (by omega);have p4:(i:Int)+1<=1000000:=by omega
    rw[b3];unfold Pl iG;generalize (i:Int)*l=z at*
    simp[W7,Z6,bU,dB,cA,cM,eV,hd',hk,hs,hl,k2,p1,p2,p3,p4,hacc]
   .have p1: ¬D-s+l+(n:Int)*l<=D:=by omega
    unfold Pl;simp[W7,Z6,bU,dB,cA,cM,eV,hd',p1]
  .show decide ((bZ (bU I CY).toL 1 0).toI=((bU I Fc).toL.length:Int))=true;rw[e1,e0];exact e9 (congrArg Int.ofNat (mX _ n).symm)
  .show some (0,[bU I Fc])=_;rw[e1]
 .refine cu (by show decide ((I.w 0).toI=2)=false;rw[hk];exact j5 k2) ?_;have hR':1<=s/\s<=1048576:=by
   unfold cT at hR;by_cases k1:k=1
   .simp[k1]at hR;omega
   .simp[k1,k2,k3]at hR
  obtain⟨s1,s2⟩:=hR';have sl:s % s=0:=Int.emod_self;obtain⟨n1,n2⟩:=Di sl s1 s1;have hst:dz k s l=s:=b9 k2;have hN:fe k s l=(s/s).toNat:=by unfold fe;rw[hst]
  rw[hst,hN];have hn16:(s/s).toNat<=16:=by rw[P3 (by omega)];decide
  generalize (s/s).toNat=n at n1 n2 hN hn16;have q0:=I4 t (show s≠0 by omega);have q1:=I5 t (show 0<s by omega);have hd:bU I (.app 709 [aS,aO])= .vi (fk t s):=by
   show I.f 709 [I.w 4,I.w 1]=_;rw[hf,<-ht,<-hs];rfl
  have hD:fk t s=t-t % s:=rfl;generalize fk t s=D at hd hD;have a1:cg .sub .i64 D s=D-s:=lQ (by omega) (by omega);have a2:cg .add .i64 (D-s) s=D-s+s:=gb (by omega) (by omega);have hw0:bU I Dr= .vi (D-s+s):=by
   show Val.vi (cg .add .i64 (cg .sub .i64 (bU I (.app 709 [aS,aO])).toI (I.w 1).toI) (I.w 1).toI)=_;rw[hd,hs];show Val.vi (cg .add .i64 (cg .sub .i64 D s) s)=_;rw[a1,a2]
  have e0:bU I EC=cr (0,[.vi n,.vi (D-s+s+n*s),.vl (cn (iG (D-s+s) s s) n)]):=by
   show I.f 753 [.vi 0,bU I Dr,.vl [],I.w 0,I.w 1,I.w 2,I.w 3,bU I (.app 709 [aS,aO])]=_;rw[hf,hw0];show cr (0,[.vi (fe (I.w 0).toI (I.w 1).toI (I.w 2).toI),.vi (D-s+s+fe (I.w 0).toI (I.w 1).toI (I.w 2).toI*dz (I.w 0).toI (I.w 1).toI (I.w 2).toI),.vl (cn (iG (D-s+s) (dz (I.w 0).toI (I.w 1).toI (I.w 2).toI) (I.w 1).toI) (fe (I.w 0).toI (I.w 1).toI (I.w 2).toI))])=_;rw[hk,hs,hl,hN,hst]
  have e1:bU I Ej= .vl (cn (iG (D-s+s) s s) n):=by show bZ (bU I EC).toL 1 2=_;rw[e0];rfl
  refine W8 (by
   rw[db,cB,cB,cx,cx,co,hs,e9 s1,e9 s2];rfl) (Z3 (r:=(0,[.vi n,.vi (D-s+s+n*s),.vl (cn (iG (D-s+s) s s) n)])) ?_ e0 (W8 ?_ ?_))
  .show cI _ [.vi 0,bU I Dr,.vl []]=_;rw[hw0];have hd':I.f 709 [I.w 4,I.w 1]= .vi D:=hd;refine cx9 (size:=s) (λi acc hi hacc=> ?_) (λacc=> ?_)
   .have b1:(i:Int)*s+s<=n*s:=by
     have:((i:Int)+1)*s<=n*s:=G3 (by omega) (by omega);rw[F5]at this;omega
    have b2:0<=(i:Int)*s:=I6 (by omega) (by omega);have b3:((i+1:Nat):Int)*s=(i:Int)*s+s:=by rw[Int.natCast_add,F5];simp
    have p1:D-s+s+(i:Int)*s<=D:=by omega
    have p2:cg .add .i64 (D-s+s+(i:Int)*s) s=D-s+s+((i:Int)*s+s):=by rw[gb (by omega) (by omega)];omega
    have p3:cg .add .i64 (D-s+s+(i:Int)*s) s=D-s+s+(i:Int)*s+s:=gb (by omega) (by omega);have p4:(i:Int)+1<=1000000:=by omega
    rw[b3];unfold TJ iG;generalize (i:Int)*s=z at*
    simp only[Int.sub_add_cancel]at p1 p2 p3⊢;simp[W7,Z6,bU,dB,cA,cM,eV,hd',hk,hs,k2,p1,p2,p3,p4,hacc];omega
   .have p1: ¬D-s+s+(n:Int)*s<=D:=by omega
    unfold TJ;simp only[Int.sub_add_cancel]at p1⊢;simp[W7,Z6,bU,dB,cA,cM,eV,hd',p1]
  .show decide ((bZ (bU I EC).toL 1 0).toI=((bU I Ej).toL.length:Int))=true;rw[e1,e0];exact e9 (congrArg Int.ofNat (mX _ n).symm)
  .show some (0,[bU I Ej])=_;rw[e1]
end
end Go.Ev.S9
namespace Go.Ev.S9
open Go Go.Ev
theorem a3{p q r:Prop} [Decidable p] [Decidable q] [Decidable r](hp:p)(hq:q)(hr:r):(decide p&&decide q&&decide r)=true:=by grind
theorem dD6(l:List Val)(c k:Nat):(jG l c k).length<=1:=by grind[jG,tN,bW]
theorem XB(l:List Val): ∀k,(cn (jG l 1) k).length=(cn (jG l 0) k).length
 |0=>rfl
 |k+1=>by
  rw[cn,cn,k7,k7,XB l k];grind[jG,tN,bW]
theorem Kk(l:List Val): ∀k,∃a b c d,jS l k=[a,b,c,d]
 |0=>⟨_,_,_,_,rfl⟩
 |k+1=>by
  unfold jS;cases tN (bW l k)with
  |true=>exact Kk l k
  |false=>
   split<;>exact⟨_,_,_,_,rfl⟩
def AH(l:List Val)(k:Nat):List Val:=[.vi (cn (jG l 0) k).length,.vi (cn (jG l 1) k).length,.vi k]++jS l k++[.vl (cn (jG l 0) k),.vl (cn (jG l 1) k)]
section
variable{X:Nat->List Val->Val}{I:Opq}(hf: ∀i a,I.f i a=FT X i a)
include hf
theorem t_join(hn:(I.w 0).toL.length<=1000):W7 T_join I=some (0,[(jR (I.w 0).toL).getD 0 default,(jR (I.w 0).toL).getD 1 default,(jR (I.w 0).toL).getD 2 default,(jR (I.w 0).toL).getD 3 default,FT X 706 [I.w 0]]):=by
 have gl: ∀k,(cn (jG (I.w 0).toL 0) k).length<=k:=λk=>by simpa using je (g:=jG (I.w 0).toL 0) (m:=1) (λ_=>dD6 _ _ _) k
 have gs: ∀k,(cn (jG (I.w 0).toL 1) k).length=(cn (jG (I.w 0).toL 0) k).length:=λk=>XB _ k
 have e0:bU I jX=cr (0,AH (I.w 0).toL (I.w 0).toL.length):=by
  show I.f 752 [.vi 0,.vi 0,.vi 0,.vi 0,.vi 0,.vi 0,.vi 0,.vl [],.vl [],.vi 0,.vi (I.w 0).toL.length,I.w 0,.vi (I.w 0).toL.length]=_;rw[hf];rfl
 have lp:cI (λvs=>W7 Kr (I.upd 2000 vs)) [.vi 0,.vi 0,.vi 0,.vi 0,.vi 0,.vi 0,.vi 0,.vl [],.vl []]=some (0,AH (I.w 0).toL (I.w 0).toL.length):=by
  refine eG (st:=AH (I.w 0).toL) (n:=(I.w 0).toL.length) (λk hk=> ?_) ?_
  .have p1:(k:Int)<((I.w 0).toL.length:Int):=by omega
   have p2:(0:Int)<=(k:Int):=by omega
   have p3:=eH hk (by omega);have p4: ∀j:Nat,bZ (I.w 0).toL (k:Int) (j:Int)=Z7 (bW (I.w 0).toL k) j:=λ_=>rfl
   have q0:=p4 0;have q1:=p4 1;have q2:=p4 2;have q3:=p4 3;simp only[Int.natCast_zero,show((1:Nat):Int)=1 from rfl,show((2:Nat):Int)=2 from rfl,show((3:Nat):Int)=3 from rfl]at q0 q1 q2 q3;have g1:=gl k;have g2:=gs k;obtain⟨a,b,c,d,hS⟩:=Kk (I.w 0).toL k;unfold AH;rw[cn,cn,jS,hS];generalize cn (jG (I.w 0).toL 0) k=C at*
   generalize cn (jG (I.w 0).toL 1) k=T at*
   have g3:(C.length:Int)+1<=1000000:=by omega
   have g4:(T.length:Int)=(C.length:Int):=by omega
   unfold jG tN Bu ci;generalize hr:bW (I.w 0).toL k=r at*
   unfold Kr;by_cases hb:(Z7 r 0).toI=0/\(Z7 r 1).toI=0/\(Z7 r 2).toI=0/\(Z7 r 3).toI=0
   .simp_all[W7,Z6,bU,dB,cA,cM]
   .have hb':(decide ((Z7 r 0).toI=0)&&(decide ((Z7 r 1).toI=0)&&(decide ((Z7 r 2).toI=0)&&decide ((Z7 r 3).toI=0))))=false:=by
     rw[<-B2];intro h;exact hb (by simpa using h)
    simp only[hb',cond_false];by_cases hz:C.length=0
    .simp[W7,Z6,bU,dB,cA,cM,p1,p2,p3,q0,q1,q2,q3,hb,hz,g2,g3,g4]
    simp_all[W7,Z6,bU,dB,cA,cM]
  .obtain⟨a,b,c,d,hS⟩:=Kk (I.w 0).toL (I.w 0).toL.length;unfold AH Kr;simp_all[W7,Z6,bU,dB,cA,cM]
 obtain⟨a,b,c,d,hS⟩:=Kk (I.w 0).toL (I.w 0).toL.length;have cl:(jC (I.w 0).toL).length<=1000:=n7 (gl _) hn;have tl:(jT (I.w 0).toL).length<=1000:=by grind[jT]
 have e1:bU I jX=cr (0,[.vi (jC (I.w 0).toL).length,.vi (jT (I.w 0).toL).length,.vi (I.w 0).toL.length,a,b,c,d,.vl (jC (I.w 0).toL),.vl (jT (I.w 0).toL)]):=by
  rw[e0];unfold AH;rw[hS];rfl
 have d1:bU I HD= .vi (jC (I.w 0).toL).length:=by show bZ (bU I jX).toL 1 0=_;rw[e1];rfl
 have d2:bU I GT= .vl (jC (I.w 0).toL):=by show bZ (bU I jX).toL 1 7=_;rw[e1];rfl
 have d4:bU I CR= .vi (jT (I.w 0).toL).length:=by show bZ (bU I jX).toL 1 1=_;rw[e1];rfl
 have d5:bU I Ey= .vl (jT (I.w 0).toL):=by show bZ (bU I jX).toL 1 8=_;rw[e1];rfl
 have d6:bU I (zo jX 5)=c:=by show bZ (bU I jX).toL 1 5=_;rw[e1];rfl
 have d7:bU I (zo jX 6)=d:=by show bZ (bU I jX).toL 1 6=_;rw[e1];rfl
 have ls: ∀l:List Val,(l.drop (0:Int).toNat).take ((l.length:Int)-0).toNat=l:=λl=>by simp
 have d3:bU I qE= .vl (jC (I.w 0).toL):=by
  show Val.vl (((bU I GT).toL.drop (0:Int).toNat).take ((bU I HD).toI-0).toNat)=_;simp_all
 have d8:bU I rV= .vl (jT (I.w 0).toL):=by
  show Val.vl (((bU I Ey).toL.drop (0:Int).toNat).take ((bU I CR).toI-0).toNat)=_;simp_all
 unfold T_join;refine Z3 lp e0 (W8 ?_ (W8 ?_ ?_))
 .rw[db,db,cB,cB,cB,cx,cx,d1];show((decide ((0:Int)<=((jC (I.w 0).toL).length:Int))&&decide (((jC (I.w 0).toL).length:Int)<=((bU I GT).toL.length:Int)))&&decide (((bU I qE).toL.length:Int)<=1000000))=true;rw[d2,d3];exact a3 (by omega) (x5 _) (by show((jC (I.w 0).toL).length:Int)<=1000000;omega)
 .rw[db,db,cB,cB,cB,cx,cx,d4];show((decide ((0:Int)<=((jT (I.w 0).toL).length:Int))&&decide (((jT (I.w 0).toL).length:Int)<=((bU I Ey).toL.length:Int)))&&decide (((bU I rV).toL.length:Int)<=1000000))=true;rw[d5,d8];exact a3 (by omega) (x5 _) (by show((jT (I.w 0).toL).length:Int)<=1000000;omega)
 .have f1:I.f 703 [bU I qE]= .vi (fR (jC (I.w 0).toL)):=by rw[hf,d3];rfl
  have f2:I.f 703 [bU I rV]= .vi (fR (jT (I.w 0).toL)):=by rw[hf,d8];rfl
  have f3:I.f 702 [bU I qE]= .vi (qa (jC (I.w 0).toL)):=by rw[hf,d3];rfl
  have f4:I.f 702 [bU I rV]= .vi (qa (jT (I.w 0).toL)):=by rw[hf,d8];rfl
  show W7 (.ite (dv (.app 703 [qE]) aN) _ _) I=some (0,[(jR (I.w 0).toL).getD 0 default,(jR (I.w 0).toL).getD 1 default,(jR (I.w 0).toL).getD 2 default,(jR (I.w 0).toL).getD 3 default,.vi (jE (I.w 0).toL)]);unfold jR jE;rw[hS];by_cases h1:fR (jC (I.w 0).toL)=0
  .refine cu ?_ ?_
   .show(!decide ((I.f 703 [bU I qE]).toI=0))=false;simp_all
   .by_cases h2:fR (jT (I.w 0).toL)=0
    .rw[b9 (by omega),b9 (by omega)];refine cu ?_ ?_
     .show(!decide ((I.f 703 [bU I rV]).toI=0))=false;simp_all
     .show some (0,[I.f 702 [bU I qE],I.f 702 [bU I rV],bU I (zo jX 5),bU I (zo jX 6),.vi 0])=_;grind
    .rw[e8 (.inr h2),e8 (.inr h2)];refine cy ?_ rfl;show(!decide ((I.f 703 [bU I rV]).toI=0))=true;simp_all
  .rw[e8 (.inl h1),e8 (.inl h1)];refine cy ?_ rfl;show(!decide ((I.f 703 [bU I qE]).toI=0))=true;simp_all
end
end Go.Ev.S9
namespace Go.Ev.S9
open Go Go.Ev
theorem b47{I:Opq}{hd:LHd}{l:SX}{b k:VT}{ks:List VT}{D:List Val}{x:Option (Nat×List Val)}(h1:AA (λvs=>W7 b (I.upd hd.v0 vs)) (dL I l).length (Z6 I hd.s0) D)(h2:I.f hd.id (Z6 I (hd.s0++hd.fv))=cr (0,[.vi D.length,.vl D]))(h3:W7 k I=x):W7 (.mloop hd l b (k::ks)) I=x:=by
 rw[W7,e8 ⟨D,h1,h2⟩];exact h3
theorem run_map{step:List Val->Option (Nat×List Val)}{g:Nat->List Val}(hg: ∀i,(g i).length<=1)
 (h: ∀(i:Nat) (A:List Val),A.length<1000000->step [.vi A.length,.vl A,.vi i]=some (0,[.vi (A++g i).length,.vl (A++g i)])): ∀(p:List Nat) (A:List Val),A.length+p.length<=1000000->
 iA step p [.vi A.length,.vl A]=some [.vi (A++p.flatMap g).length,.vl (A++p.flatMap g)]
 | [],A,_=>by rw[List.flatMap_nil,s6];rfl
 |i::p,A,hl=>by
  rw[List.length_cons]at hl;have:=hg i;have ih:=run_map hg h p (A++g i) (by rw[k7];omega);rw[iA];show(match step [.vi A.length,.vl A,.vi i]with|some (0,s')=>iA step p s'|_=>none)=_;rw[h i A (by omega)];show iA _ p [.vi (A++g i).length,.vl (A++g i)]=_;rw[ih,A4];rfl
theorem map_map{step:List Val->Option (Nat×List Val)}{g:Nat->List Val}{n:Nat}(hn:n<=1000000)(hg: ∀i,(g i).length<=1)
 (h: ∀(i:Nat) (A:List Val),A.length<1000000->step [.vi A.length,.vl A,.vi i]=some (0,[.vi (A++g i).length,.vl (A++g i)])):AA step n [.vi (0:Nat),.vl []] (cn g n):=by
 rw[qN];constructor
 .exact run_map hg h (List.range n) [] (by simpa using hn)
 .intro p hp;have:=run_map hg h p [] (by rw[hp.length_eq];simpa using hn);exact⟨_,this,hp.flatMap_right _⟩
section
variable{X:Nat->List Val->Val}{I:Opq}(hf: ∀i a,I.f i a=FT X i a)
include hf
theorem t_aput:W7 T_aput I=some (0,[(nR (I.w 0) (I.w 1) (I.w 2) (I.w 3) (I.w 4)).getD 0 default,(nR (I.w 0) (I.w 1) (I.w 2) (I.w 3) (I.w 4)).getD 1 default,(nR (I.w 0) (I.w 1) (I.w 2) (I.w 3) (I.w 4)).getD 2 default,(nR (I.w 0) (I.w 1) (I.w 2) (I.w 3) (I.w 4)).getD 3 default,FT X 708 [I.w 0,I.w 1,I.w 2,I.w 3,I.w 4]]):=by
 have r0:bU I ko= .vl (pR (I.w 0) (I.w 1) (I.w 2) (I.w 3) (I.w 4)):=rfl;have f6:I.f 706 [bU I ko]= .vi (jE (pR (I.w 0) (I.w 1) (I.w 2) (I.w 3) (I.w 4))):=by rw[hf,r0];rfl
 have f5:I.f 705 [bU I ko]= .vl [.vl (jR (pR (I.w 0) (I.w 1) (I.w 2) (I.w 3) (I.w 4)))]:=by rw[hf,r0];rfl
 have f8:FT X 708 [I.w 0,I.w 1,I.w 2,I.w 3,I.w 4]= .vi (jE (pR (I.w 0) (I.w 1) (I.w 2) (I.w 3) (I.w 4))):=rfl;rw[f8];unfold T_aput nR;generalize pR (I.w 0) (I.w 1) (I.w 2) (I.w 3) (I.w 4)=l at r0 f5 f6;refine W8 (by rw[cB,cx];exact e9 (by show(2:Int)<=1000;omega)) ?_;by_cases h:jE l=0
 .rw[b9 (by simp[h])];refine cu ?_ ?_
  .show(!decide ((I.f 706 [bU I ko]).toI=0))=false;rw[f6];simp[h]
  .show some (0,[bZ (I.f 705 [bU I ko]).toL 0 0,bZ (I.f 705 [bU I ko]).toL 0 1,bZ (I.f 705 [bU I ko]).toL 0 2,bZ (I.f 705 [bU I ko]).toL 0 3,.vi 0])=_;rw[f5,h];rfl
 .rw[e8 h];refine cy ?_ ?_
  .show(!decide ((I.f 706 [bU I ko]).toI=0))=true;rw[f6];simp[h]
  .show some (0,[I.w 0,I.w 1,I.w 2,I.w 3,I.f 706 [bU I ko]])=_;rw[f6];rfl
omit hf in
theorem t_tget:W7 T_tget I=some (0,[iZ (I.w 4).toL (.vl [I.w 5,I.w 6,I.w 7]) 3,iZ (I.w 4).toL (.vl [I.w 5,I.w 6,I.w 7]) 4,iZ (I.w 4).toL (.vl [I.w 5,I.w 6,I.w 7]) 5,iZ (I.w 4).toL (.vl [I.w 5,I.w 6,I.w 7]) 6,FT X 722 [I.w 4,I.w 5,I.w 6,I.w 7]]):=by
 have h1:bU I nF= .vb (gy (I.w 4).toL (.vl [I.w 5,I.w 6,I.w 7])):=by
  show Val.vb (decide ((gw (I.w 4).toL (.vl [I.w 5,I.w 6,I.w 7]):Int)<((I.w 4).toL.length:Int)))=_;unfold gy;congr 1;rw[decide_eq_decide];omega
 have h2: ∀j:Nat,bU I (.op .ite [nF,.op .lget [aS,rH,.ci (j:Int)],aN])=iZ (I.w 4).toL (.vl [I.w 5,I.w 6,I.w 7]) j:=λj=>by
  show(bif (bU I nF).toB then bZ (I.w 4).toL ((gw (I.w 4).toL (.vl [I.w 5,I.w 6,I.w 7]):Nat):Int) (j:Int)else Val.vi 0)=_;rw[h1];rfl
 show some (0,[bU I (.op .ite [nF,.op .lget [aS,rH,.ci ((3:Nat):Int)],aN]),bU I (.op .ite [nF,.op .lget [aS,rH,.ci ((4:Nat):Int)],aN]),bU I (.op .ite [nF,.op .lget [aS,rH,.ci ((5:Nat):Int)],aN]),bU I (.op .ite [nF,.op .lget [aS,rH,.ci ((6:Nat):Int)],aN]),bU I nF])=_;rw[h2,h2,h2,h2,h1];rfl
theorem t_trows(h431: ∀v:Val,(X 431 [v]).toB=true->v= .vl v.toL/\ ∀r∈v.toL,cK r=r)(hn:dB I (zn (zn (zb (zl 4) 400) (.app 431 [aS])) (.app 491 [aS]))=true):
 W7 T_trows I=some (0,[X 490 [I.w 4]]):=by
 obtain⟨n1,n2⟩:=W5 (show(dB I (zn (zb (zl 4) 400) (.app 431 [aS]))&&dB I (.app 491 [aS]))=true from hn);obtain⟨n3,n4⟩:=W5 (show(dB I (zb (zl 4) 400)&&dB I (.app 431 [aS]))=true from n1);have n3':((I.w 4).toL.length:Int)<=400:=j6 n3;obtain⟨e4,hk⟩:=h431 (I.w 4) (by rw[show X 431 [I.w 4]=I.f 431 [I.w 4]from(hf 431 [I.w 4]).symm];exact n4);have hm:(I.w 4).toL.map cK=(I.w 4).toL:=by
  conv=>rhs;rw[<-G4 (I.w 4).toL]
  exact y7 hk
 have e0:bU I Ar=cr (0,[.vi (I.w 4).toL.length,I.w 4]):=by
  show I.f 750 [.vi 0,.vl [],I.w 4]=_;rw[hf];show cr (0,[.vi (I.w 4).toL.length,.vl ((I.w 4).toL.map cK)])=_;rw[hm,<-e4]
 have e1:bU I pJ=I.w 4:=by show bZ (bU I Ar).toL 1 1=_;rw[e0];rfl
 have hga:cn (λi=>[cK (bW (I.w 4).toL i)]) (I.w 4).toL.length=(I.w 4).toL:=by
  rw[qN];refine Eq.trans ?_ hm;rw[<-T3];refine J3 (by simp) (λi h1 h2=> ?_);have hi:i<(I.w 4).toL.length:=by simpa using h1
  simp[bW,j9,hi]
 unfold T_trows;refine b47 (D:=(I.w 4).toL) ?_ ?_ (W8 ?_ ?_)
 .show AA _ (I.w 4).toL.length [.vi ((0:Nat):Int),.vl []] (I.w 4).toL;have:=map_map (step:=λvs=>W7 Uq (I.upd 2000 vs)) (g:=λi=>[cK (bW (I.w 4).toL i)]) (n:=(I.w 4).toL.length) (by omega) (λ_=>i6 _) (λi A hA=> ?_)
  .rw[hga]at this;exact this
  .have p4: ∀j:Nat,bZ (I.w 4).toL (i:Int) (j:Int)=Z7 (bW (I.w 4).toL i) j:=λ_=>rfl
   have q0:=p4 0;have q1:=p4 1;have q2:=p4 2;have q3:=p4 3;have q4:=p4 4;have q5:=p4 5;have q6:=p4 6;simp only[Int.natCast_zero,show((1:Nat):Int)=1 from rfl,show((2:Nat):Int)=2 from rfl,show((3:Nat):Int)=3 from rfl,show((4:Nat):Int)=4 from rfl,show((5:Nat):Int)=5 from rfl,show((6:Nat):Int)=6 from rfl]at q0 q1 q2 q3 q4 q5 q6;have g3:(A.length:Int)+1<=1000000:=by omega
   unfold Uq cK;simp[W7,Z6,bU,dB,cA,cM,q0,q1,q2,q3,q4,q5,q6,g3]
 .show bU I Ar=_;rw[e0];conv=>lhs;rw[e4]
  rfl
 .show(decide ((bZ (bU I Ar).toL 1 0).toI=((bU I pJ).toL.length:Int))&&(decide (((bU I pJ).toL.length:Int)<=400)&&(I.f 431 [bU I pJ]).toB&&(I.f 491 [bU I pJ]).toB))=true;rw[e1,e0];have m1:(I.f 431 [I.w 4]).toB=true:=n4;have m2:(I.f 491 [I.w 4]).toB=true:=n2;rw[m1,m2];show(decide (((I.w 4).toL.length:Int)=((I.w 4).toL.length:Int))&&(decide (((I.w 4).toL.length:Int)<=400)&&true&&true))=true;simp;omega
 .show some (0,[I.f 490 [bU I pJ]])=_;rw[e1,hf];rfl
end
end Go.Ev.S9
namespace Go.Ev.S9
open Go Go.Ev
theorem eb9{a b c:Bool}(h1:a=true)(h2:b=true)(h3:c=true):(a&&(b&&c))=true:=by grind
theorem Gh(x y:Val):Go.Proofs.ltOf spanV x y=decide (ci x 1<ci y 1\/ci x 1=ci y 1/\ci x 0<ci y 0):=by
 unfold Go.Proofs.ltOf spanV AI;grind
theorem swo_spanV:Go.Sort.SWO (Go.Proofs.ltOf spanV)where
 irrefl x:=by grind[Gh,decide_eq_false]
 trans x y z h1 h2:=by
  rw[Gh]at*
  grind
 ntrans x y z h1 h2:=by
  grind[Gh,of_decide_eq_false,decide_eq_false]
theorem cy0(l:List Val)(key:List UInt8)(i:Nat):(CC l key i).length<=1:=by
 grind[CC,decide,Z7,bW]
def HV(key:List UInt8)(r:Val):List Val:=bif decide ((Z7 r 0).toS=key)then [.vl [Z7 r 1,Z7 r 2]]else []
theorem bZ5(l:List Val)(key:List UInt8):gg l key=l.flatMap (HV key):=by
 unfold gg;rw[qN];show((List.range l.length).flatMap λi=>HV key (l.getD i (.vl [])))=_;induction l with
 |nil=>rfl
 |cons a l ih=>
  simp_all[List.length_cons,J8,C0,K8]
theorem Fx(l:List Val)(key:List UInt8):(gg l key).length<=l.length:=by unfold gg;simpa using je (g:=CC l key) (m:=1) (cy0 l key) l.length
theorem d33{l:List Val}(key:List UInt8)(h:(l.map Z2).Nodup):((gg l key).map Z4).Nodup:=by
 rw[bZ5];induction l with
 |nil=>grind
 |cons a l ih=>
  rw[m8,E8]at h;rw[C0,u9];unfold HV;cases hk:decide ((Z7 a 0).toS=key)with
  |false=>exact ih h.2
  |true=>
   show(Z4 (.vl [Z7 a 1,Z7 a 2])::_).Nodup;rw[E8];refine⟨λhm=>h.1 ?_,ih h.2⟩;obtain⟨x,hx,e⟩:=j8.1 hm;obtain⟨r,hr,hx⟩:=C1.1 hx;cases hk':decide ((Z7 r 0).toS=key)with
   |false=>grind
   |true=>
    rw[hk']at hx;have hx:x∈[Val.vl [Z7 r 1,Z7 r 2]]:=hx;rw[n9]at hx;subst hx;have e1:(Z7 r 1).toI=(Z7 a 1).toI:=congrArg Prod.fst e;have e2:(Z7 r 2).toI=(Z7 a 2).toI:=congrArg Prod.snd e;grind[Z2]
section
variable{X:Nat->List Val->Val}{I:Opq}(hf: ∀i a,I.f i a=FT X i a)
include hf
theorem t_tsess(h491: ∀v:Val,(X 491 [v]).toB=true->(v.toL.map Z2).Nodup)(hn:dB I (zn (zb (zl 4) 400) (.app 491 [aS]))=true):
 W7 T_tsess I=some (0,[FT X 723 [I.w 4,I.w 5]]):=by
 obtain⟨n3,n4⟩:=W5 (show(dB I (zb (zl 4) 400)&&dB I (.app 491 [aS]))=true from hn);have n3':((I.w 4).toL.length:Int)<=400:=j6 n3;have nd:=h491 (I.w 4) (by rw[show X 491 [I.w 4]=I.f 491 [I.w 4]from(hf 491 [I.w 4]).symm];exact n4);have sl:=Fx (I.w 4).toL (I.w 5).toS;have sn:=d33 (I.w 5).toS nd;have e0:bU I EU=cr (0,[.vi (gg (I.w 4).toL (I.w 5).toS).length,.vl (gg (I.w 4).toL (I.w 5).toS)]):=by
  show I.f 757 [.vi 0,.vl [],I.w 5,I.w 4]=_;rw[hf];rfl
 have hs:FT X 723 [I.w 4,I.w 5]= .vl (gK spanV (gg (I.w 4).toL (I.w 5).toS)):=rfl;rw[hs];have hg: ∀i,(CC (I.w 4).toL (I.w 5).toS i).length<=1:=cy0 _ _;have hmap:AA (λvs=>W7 QR (I.upd 2000 vs)) (I.w 4).toL.length [.vi ((0:Nat):Int),.vl []] (gg (I.w 4).toL (I.w 5).toS):=by
  refine map_map (by omega) hg (λi A hA=> ?_);have p4: ∀j:Nat,bZ (I.w 4).toL (i:Int) (j:Int)=Z7 (bW (I.w 4).toL i) j:=λ_=>rfl
  have q0:=p4 0;have q1:=p4 1;have q2:=p4 2;simp at q0 q1 q2;have g3:(A.length:Int)+1<=1000000:=by omega
  unfold QR CC;by_cases hk:(Z7 (bW (I.w 4).toL i) 0).toS=(I.w 5).toS
  .simp[W7,Z6,bU,dB,cA,cM,q0,q1,q2,g3,hk]
  simp_all[W7,Z6,bU,dB,cA,cM]
 generalize gg (I.w 4).toL (I.w 5).toS=D at*
 have e1:bU I Ep= .vi D.length:=by show bZ (bU I EU).toL 1 0=_;rw[e0];rfl
 have e2:bU I oE= .vl D:=by show bZ (bU I EU).toL 1 1=_;rw[e0];rfl
 have e3:I.f 715 [bU I oE]= .vl (gK spanV D):=by rw[e2,hf];rfl
 refine b47 (D:=D) hmap e0 (W8 ?_ (W8 ?_ ?_))
 .show(decide ((bU I Ep).toI=((bU I oE).toL.length:Int))&&(decide (((bU I oE).toL.length:Int)<=1000000)&&(I.f 716 [bU I oE]).toB))=true;rw[e1,e2,hf];exact eb9 (e9 rfl) (e9 (by show(D.length:Int)<=1000000;omega)) (e9 sn)
 .show decide ((bU I Ep).toI=((I.f 715 [bU I oE]).toL.length:Int))=true;simp_all[e9,congrArg,KD,swo_spanV]
 .show some (0,[I.f 715 [bU I oE]])=_;rw[e3]
end
end Go.Ev.S9
namespace Go.Ev.S9
open Go Go.Ev
section
variable{X:Nat->List Val->Val}{I:Opq}(hf: ∀i a,I.f i a=FT X i a)
include hf
omit hf in
theorem Vr{i:Nat}(hn:(I.w 1).toL.length<=400)(hi:i<(I.w 1).toL.length):
 W7 BD (I.upd 2000 [.vb false,.vi i])=if mK (I.w 0).toI (I.w 1).toL i=true then some (2,[.vb false,.vi i])else some (0,[.vb false,.vi (i+1:Nat)]):=by
 have p1:(i:Int)<((I.w 1).toL.length:Int):=by omega
 have p2:(0:Int)<=(i:Int):=by omega
 have p3:=eH hi (by omega);have p0:(bZ (I.w 1).toL (i:Int) (0:Int)).toI=ci (bW (I.w 1).toL i) 0:=rfl;have p4:(bZ (I.w 1).toL (i:Int) (1:Int)).toI=ci (bW (I.w 1).toL i) 1:=rfl;have p5:0<i->cg .sub .i64 (i:Int) 1=((i-1:Nat):Int):=λh=>by grind[lQ]
 have p6:(bZ (I.w 1).toL ((i-1:Nat):Int) (1:Int)).toI=ci (bW (I.w 1).toL (i-1)) 1:=rfl;unfold mK dD4;generalize hs:ci (bW (I.w 1).toL i) 0=s at*
 generalize he:ci (bW (I.w 1).toL i) 1=e at*
 generalize hp:ci (bW (I.w 1).toL (i-1)) 1=p at*
 generalize hg:(I.w 0).toI=g;generalize hw:cg .sub .i64 e s=w;unfold BD;have z1:((i-1:Nat):Int)<((I.w 1).toL.length:Int):=by omega
 have z2:(0:Int)<=((i-1:Nat):Int):=by omega
 rcases N5 i with i0|i0
 .subst i0;have h0:(0:Int)<((I.w 1).toL.length:Int):=by omega
  have p3':cg .add .i64 0 1=1:=p3;have p0':(bZ (I.w 1).toL 0 0).toI=s:=p0;have p4':(bZ (I.w 1).toL 0 1).toI=e:=p4;clear p0 p1 p2 p3 p4 p5 p6 z1 z2 hp;by_cases a1:0<=e<;>by_cases a2:0<=s<;>by_cases a3:0<=w<;>by_cases a4:e<=s<;>by_cases a5:w<g<;>
   simp[W7,Z6,bU,dB,cA,cM,hi,h0,p3',p0',p4',hg,hw,a1,a2,a3,a4,a5]
 .have p5:=p5 i0;have i1:(0:Int)<(i:Int):=by omega
  by_cases a1:0<=e<;>by_cases a2:0<=s<;>by_cases a3:0<=w<;>by_cases a4:e<=s<;>by_cases a5:w<g<;>by_cases a6:s<p<;>
   simp[W7,Z6,bU,dB,cA,cM,p1,p2,p3,p0,p4,p5,p6,hg,hw,a1,a2,a3,a4,a5,a6,i0,i1,z1,z2]
theorem t_sRight(hn:dB I (zb (zl 1) 400)=true):W7 T_sRight I=some (0,[FT X 711 [I.w 0,I.w 1]]):=by
 have hn:((I.w 1).toL.length:Int)<=400:=j6 hn;have hF:FT X 711 [I.w 0,I.w 1]= .vb (!(List.range (I.w 1).toL.length).any (mK (I.w 0).toI (I.w 1).toL)):=rfl;have h0:=Ek (x:= .vb false) (px:=λk=>[.vb false,.vi k]) (bad:=mK (I.w 0).toI (I.w 1).toL) (n:=(I.w 1).toL.length);have e0:I.f 754 [.vb false,.vi 0,I.w 0,.vi 0,.vi (I.w 1).toL.length,I.w 1,.vi 0,.vi (I.w 1).toL.length,I.w 1,.vi (I.w 1).toL.length]=cr (gv (.vb false) (λk=>[.vb false,.vi k]) (mK (I.w 0).toI (I.w 1).toL) (I.w 1).toL.length):=by rw[hf];rfl
 rw[hF];unfold T_sRight;refine Z3 (r:=gv (.vb false) (λk=>[.vb false,.vi k]) (mK (I.w 0).toI (I.w 1).toL) (I.w 1).toL.length) ?_ e0 ?_
 .show cI _ [.vb false,.vi 0]=_;refine ws (λi hi hb=> ?_) (λi hi hb=> ?_) ?_
  .show W7 BD (I.upd 2000 [.vb false,.vi i])=_;rw[Vr (by omega) hi,hb];rfl
  .show W7 BD (I.upd 2000 [.vb false,.vi i])=_;rw[Vr (by omega) hi,hb];rfl
  simp_all[BD,W7,Z6,bU,dB,cA,cM]
 .rw[h0]at e0;rw[h0];cases hb:(List.range (I.w 1).toL.length).any (mK (I.w 0).toI (I.w 1).toL)with
  |true=>
   rw[hb]at e0;show some (0,[bZ (I.f 754 [.vb false,.vi 0,I.w 0,.vi 0,.vi (I.w 1).toL.length,I.w 1,.vi 0,.vi (I.w 1).toL.length,I.w 1,.vi (I.w 1).toL.length]).toL 1 0])=_;rw[e0];rfl
  |false=>rfl
end
end Go.Ev.S9
namespace Go.Ev.S9
open Go Go.Ev
theorem cy2(l:List Val)(t o:Int)(i:Nat):(yK l t o i).length<=1:=by grind[yK,ql,bW]
theorem cy3(l:List Val)(t o:Int)(i:Nat):(zd l t o i).length<=1:=by grind[zd,ql,bW]
theorem NT(l:List Val)(x:Int): ∀n i j:Nat,i<=j->j-i<=n->i<=mS l x n i j/\mS l x n i j<=j
 |0,i,j,h,h2=>by grind[mS]
 |n+1,i,j,h,h2=>by
  unfold mS;split
  .split
   .have:=NT l x n ((i+j)/2+1) j (by omega) (by omega);omega
   .have:=NT l x n i ((i+j)/2) (by omega) (by omega);omega
  .omega
theorem SU{step:List Val->Option (Nat×List Val)}{l:List Val}{x:Int}{m:Nat}
 (h1: ∀i j:Nat,i<j->j<=m->step [.vi i,.vi j]=some (0,if ci (bW l ((i+j)/2)) 0<x then [.vi ((i+j)/2+1:Nat),.vi j]else [.vi i,.vi ((i+j)/2:Nat)]))
 (h2: ∀i:Nat,step [.vi i,.vi i]=some (1,[.vi i,.vi i])): ∀n i j:Nat,i<=j->j<=m->j-i<=n->cI step [.vi i,.vi j]=some (0,[.vi (mS l x n i j),.vi (mS l x n i j)])
 |0,i,j,a,b,c=>by
  obtain rfl:i=j:=by omega
  rw[nh];exact .out (h2 i)
 |n+1,i,j,a,b,c=>by
  unfold mS;by_cases h:i<j
  .rw[e8 h];have s:=h1 i j h b;by_cases q:ci (bW l ((i+j)/2)) 0<x
   .rw[e8 q]at s⊢;have:=SU h1 h2 n ((i+j)/2+1) j (by omega) b (by omega);rw[nh]at this⊢;exact .more s this
   .rw[b9 q]at s⊢;have:=SU h1 h2 n i ((i+j)/2) (by omega) (by omega) (by omega);rw[nh]at this⊢;exact .more s this
  .rw[b9 h];obtain rfl:i=j:=by omega
   rw[nh];exact .out (h2 i)
def yy(l:List Val)(t o:Val)(k:Nat):List Val:=[.vi (cn (yK l t.toI o.toI) k).length,.vi (cn (zd l t.toI o.toI) k).length,.vi k,(kI l t o k).1,(kI l t o k).2,.vl (cn (yK l t.toI o.toI) k),.vl (cn (zd l t.toI o.toI) k)]
theorem dT9{I:Opq}{l:List Val}(h2:(I.w 2).toL=l)(hl:l.length<=24):
 cI (λvs=>W7 HH (I.upd 2000 vs)) [.vi 0,.vi 0,.vi 0,I.w 1,.vi (cg .add .i64 (I.w 1).toI (I.w 0).toI),.vl [],.vl []]=some (0,yy l (I.w 1) (.vi (cg .add .i64 (I.w 1).toI (I.w 0).toI)) l.length):=by
 refine eG (st:=yy l (I.w 1) (.vi (cg .add .i64 (I.w 1).toI (I.w 0).toI))) (n:=l.length) (λk hk=> ?_) ?_
 .have p1:(k:Int)<(l.length:Int):=by omega
  have p2:(0:Int)<=(k:Int):=by omega
  have p3:=eH hk (by omega);have p4: ∀j:Nat,bZ l (k:Int) (j:Int)=Z7 (bW l k) j:=λ_=>rfl
  have q0:=p4 0;have q1:=p4 1;simp only[Int.natCast_zero,show((1:Nat):Int)=1 from rfl]at q0 q1;have g1:=je (λi=>cy2 l (I.w 1).toI (cg .add .i64 (I.w 1).toI (I.w 0).toI) i) k;have g2:=je (λi=>cy3 l (I.w 1).toI (cg .add .i64 (I.w 1).toI (I.w 0).toI) i) k;unfold yy;simp only[cn,kI,a06];generalize cn (yK l (I.w 1).toI (cg .add .i64 (I.w 1).toI (I.w 0).toI)) k=J at*
  generalize cn (zd l (I.w 1).toI (cg .add .i64 (I.w 1).toI (I.w 0).toI)) k=A at*
  generalize kI l (I.w 1) (.vi (cg .add .i64 (I.w 1).toI (I.w 0).toI)) k=N at*
  unfold yK zd ql dV ci;have g3:(J.length:Int)+1<=1000000:=by omega
  have g4:(A.length:Int)+1<=1000000:=by omega
  generalize hr:bW l k=r at*
  generalize ho:cg .add .i64 (I.w 1).toI (I.w 0).toI=o at*
  unfold HH;by_cases c1:(Z7 r 0).toI<o<;>by_cases c2:(I.w 1).toI<(Z7 r 1).toI<;>
   simp[W7,Z6,bU,dB,cA,cM,h2,p1,p2,p3,q0,q1,ho,g3,g4,c1,c2]
 .unfold yy HH;simp_all[W7,Z6,bU,dB,cA,cM]
def jM:SX:= zh aV aR
theorem dj3:Ud= .ite (zs aV aR) (.need (zn (zp jM) (zs jM gd)) (.need (zs jM (zL ir)) (.ite (zs (bX ir jM 0) gi) (.ret 0 [zi jM,aR]) (.ite (fm (bX ir jM 0) gi) (.ret 0 [aV,jM]) (.ret 0 [aV,jM]))))) (.ret 1 [aV,aR]):=rfl
theorem dj4{i j m:Nat}(h:i<j)(hj:j<=m)(hm:m<=1000000):IntKind.i64.wrap (cg .shr .u64 (IntKind.u64.wrap (cg .add .i64 (i:Int) (j:Int))) 1)=(((i+j)/2:Nat):Int):=by
 rw[gb (by omega) (by omega)];have e1:IntKind.u64.wrap ((i:Int)+(j:Int))=(i:Int)+(j:Int):=by
  simp only[IntKind.wrap,IntKind.bits,IntKind.signed];simp;omega
 have e2:cg .shr .u64 ((i:Int)+(j:Int)) 1=(((i+j)/2:Nat):Int):=by
  show((i:Int)+(j:Int)).fdiv (2^(min (1:Int).toNat IntKind.u64.bits))=_;rw[show(2:Int)^(min (1:Int).toNat IntKind.u64.bits)=2 from rfl,Q0 _ (by omega)];omega
 grind[mG]
theorem dU0{I:Opq}{A:List Val}{x:Val}(hA:A.length<=24)(d2: ∀vs,bU (I.upd 2000 vs) gd= .vi A.length)(d3: ∀vs,bU (I.upd 2000 vs) ir= .vl A)(d4: ∀vs,bU (I.upd 2000 vs) gi=x):
 cI (λvs=>W7 Ud (I.upd 2000 vs)) [.vi 0,.vi A.length]=some (0,[.vi (mS A x.toI A.length 0 A.length),.vi (mS A x.toI A.length 0 A.length)]):=by
 refine SU (m:=A.length) (λi j h hj=> ?_) (λi=> ?_) A.length 0 A.length (by omega) (i6 _) (by omega)
 .have d2:=d2 [.vi i,.vi j];have d3:=d3 [.vi i,.vi j];have d4:=d4 [.vi i,.vi j];have v0:(I.upd 2000 [.vi i,.vi j]).w 2000= .vi i:=by rfl
  have v1:(I.upd 2000 [.vi i,.vi j]).w 2001= .vi j:=by rfl
  generalize I.upd 2000 [.vi i,.vi j]=aa at*
  have dh:bU aa jM= .vi ((i+j)/2:Nat):=by
   show Val.vi (IntKind.i64.wrap (cg .shr .u64 (IntKind.u64.wrap (cg .add .i64 (aa.w 2000).toI (aa.w 2001).toI)) 1))=_;rw[v0,v1];exact congrArg Val.vi (dj4 h hj (by omega))
  have hlt:(i+j)/2<A.length:=by omega
  have dg:bU aa (bX ir jM 0)=Z7 (bW A ((i+j)/2)) 0:=by
   show bZ (bU aa ir).toL (bU aa jM).toI 0=_;rw[d3,dh];rfl
  rw[dj3];refine cy ?_ (W8 ?_ (W8 ?_ ?_))
  .show decide ((aa.w 2000).toI<(aa.w 2001).toI)=true;simp_all
  .rw[db,cB,cx,dh];show(decide ((0:Int)<=(((i+j)/2:Nat):Int))&&decide ((bU aa jM).toI<(bU aa gd).toI))=true;rw[dh,d2,e9 (show(0:Int)<=(((i+j)/2:Nat):Int) by omega)];exact e9 (by show(((i+j)/2:Nat):Int)<(A.length:Int);omega)
  .show decide ((bU aa jM).toI<((bU aa ir).toL.length:Int))=true;rw[dh,d3];exact e9 (by show(((i+j)/2:Nat):Int)<(A.length:Int);omega)
  .by_cases q:ci (bW A ((i+j)/2)) 0<x.toI
   .rw[e8 q];refine cy ?_ ?_
    .show decide ((bU aa (bX ir jM 0)).toI<(bU aa gi).toI)=true;rw[dg,d4];exact e9 q
    .show some (0,[Val.vi (cg .add .i64 (bU aa jM).toI 1),aa.w 2001])=_;rw[dh,v1];rw[show cg .add .i64 (Val.vi (((i+j)/2:Nat):Int)).toI 1=(((i+j)/2+1:Nat):Int)from eH hlt (by omega)]
   .rw[b9 q];refine cu ?_ ?_
    .show decide ((bU aa (bX ir jM 0)).toI<(bU aa gi).toI)=false;rw[dg,d4];exact j5 q
    .have e:some (0,[aa.w 2000,bU aa jM])=some ((0:Nat),[Val.vi i,Val.vi (((i+j)/2:Nat):Int)]):=by grind
     cases hc:dB aa (fm (bX ir jM 0) gi)with
     |true=>exact cy hc e
     |false=>exact cu hc e
 .have v0:(I.upd 2000 [.vi i,.vi i]).w 2000= .vi i:=by rfl
  have v1:(I.upd 2000 [.vi i,.vi i]).w 2001= .vi i:=by rfl
  generalize I.upd 2000 [.vi i,.vi i]=aa at*
  refine cu ?_ ?_
  .show decide ((aa.w 2000).toI<(aa.w 2001).toI)=false;grind
  .show some (1,[aa.w 2000,aa.w 2001])=_;grind
theorem cy5(x a b:Int)(h:a<=b):x=max a (min x b)↔a<=x/\x<=b:=by omega
section
variable{X:Nat->List Val->Val}{I:Opq}(hf: ∀i a,I.f i a=FT X i a)
include hf
theorem t_sinsert(hn:dB I (zb (zl 2) 24)=true):W7 T_sinsert I=some (0,[bZ (FT X 718 [I.w 0,I.w 1,I.w 2]).toL 0 0,bZ (FT X 718 [I.w 0,I.w 1,I.w 2]).toL 0 1,FT X 720 [I.w 0,I.w 1,I.w 2],FT X 717 [I.w 0,I.w 1,I.w 2],FT X 719 [I.w 0,I.w 1,I.w 2]]):=by
 have hn:((I.w 2).toL.length:Int)<=24:=j6 hn;have a8:FT X 718 [I.w 0,I.w 1,I.w 2]= .vl [.vl (bif iM (I.w 0).toI (I.w 1).toI (I.w 2).toL then [(ix (I.w 0) (I.w 1) (I.w 2).toL).1,(ix (I.w 0) (I.w 1) (I.w 2).toL).2]else [.vi 0,.vi 0])]:=rfl;have a0:FT X 720 [I.w 0,I.w 1,I.w 2]= .vi (bif iM (I.w 0).toI (I.w 1).toI (I.w 2).toL then 0 else 2):=rfl;have a7:FT X 717 [I.w 0,I.w 1,I.w 2]= .vl (bif iM (I.w 0).toI (I.w 1).toI (I.w 2).toL then pL (I.w 0) (I.w 1) (I.w 2).toL else []):=rfl;have a9:FT X 719 [I.w 0,I.w 1,I.w 2]= .vl (bif iM (I.w 0).toI (I.w 1).toI (I.w 2).toL then Gf (iz (I.w 0) (I.w 1) (I.w 2).toL) (nK (I.w 0) (I.w 1) (I.w 2).toL) (ix (I.w 0) (I.w 1) (I.w 2).toL).1 (ix (I.w 0) (I.w 1) (I.w 2).toL).2 else []):=rfl;rw[a8,a0,a7,a9];have c1:dB I (cC aM (.op .imax [aZ,.op .imin [aM,bS]]))=(decide (1<=(I.w 0).toI)&&decide ((I.w 0).toI<=1048576)):=by
  rw[dX,co,show(bU I (.op .imax [aZ,.op .imin [aM,bS]])).toI=max 1 (min (I.w 0).toI 1048576)from rfl,<-Bool.decide_and,decide_eq_decide];omega
 have c2:dB I (dv aO (.op .imax [.ci (-1099511627776),.op .imin [aO,bT]]))= !ep (I.w 1).toI:=by
  show(!decide ((I.w 1).toI=max (-1099511627776) (min (I.w 1).toI 1099511627776)))=_;simp_all[ep,Bool.decide_and,decide_eq_decide,cy5]
 have c3:dB I (dJ (.app 711 [aM,aT]))=(List.range (I.w 2).toL.length).any (mK (I.w 0).toI (I.w 2).toL):=by
  show(!(I.f 711 [I.w 0,I.w 2]).toB)=_;rw[hf];exact R3 _
 cases g1:(decide (1<=(I.w 0).toI)&&decide ((I.w 0).toI<=1048576))with
 |false=>
  have:iM (I.w 0).toI (I.w 1).toI (I.w 2).toL=false:=by grind[iM]
  rw[this];exact cu (c1.trans g1) rfl
 |true=>
 refine cy (c1.trans g1) ?_;cases g2:ep (I.w 1).toI with
 |false=>
  have:iM (I.w 0).toI (I.w 1).toI (I.w 2).toL=false:=by grind[iM]
  rw[this];exact cy (by grind) rfl
 |true=>
 refine cu (by grind) (W8 (by grind[cB,cx,decide_eq_true]) ?_);cases g3:(List.range (I.w 2).toL.length).any (mK (I.w 0).toI (I.w 2).toL)with
 |true=>
  have:iM (I.w 0).toI (I.w 1).toI (I.w 2).toL=false:=by grind[iM]
  rw[this];exact cy (c3.trans g3) rfl
 |false=>
 have hok:iM (I.w 0).toI (I.w 1).toI (I.w 2).toL=true:=by grind[iM]
 rw[hok];refine cu (c3.trans g3) ?_;obtain⟨l,h2⟩: ∃l,(I.w 2).toL=l:=⟨_,rfl⟩;rw[h2]at hn⊢;have own:bU I nk=ou (I.w 0).toI (I.w 1).toI:=rfl;have E1: ∀vs,bU (I.upd 2000 vs) ju=cr (0,yy l (I.w 1) (ou (I.w 0).toI (I.w 1).toI) l.length):=λvs=>by
  have w0:(I.upd 2000 vs).w 0=I.w 0:=by rfl
  have w1:(I.upd 2000 vs).w 1=I.w 1:=by rfl
  have w2:(I.upd 2000 vs).w 2=I.w 2:=by rfl
  have wf:(I.upd 2000 vs).f=I.f:=rfl;generalize I.upd 2000 vs=aa at*
  have own':bU aa nk=ou (I.w 0).toI (I.w 1).toI:=by
   show Val.vi (cg .add .i64 (aa.w 1).toI (aa.w 0).toI)=_;rw[w0,w1];rfl
  show aa.f 755 [.vi 0,.vi 0,.vi 0,aa.w 1,bU aa nk,.vl [],.vl [],aa.w 1,bU aa nk,aa.w 1,bU aa nk,.vi 0,.vi (aa.w 2).toL.length,aa.w 2,.vi (aa.w 2).toL.length]=_;rw[wf,hf,w1,w2,own',<-h2];rfl
 have e1:bU I ju=cr (0,yy l (I.w 1) (ou (I.w 0).toI (I.w 1).toI) l.length):=by
  show I.f 755 [.vi 0,.vi 0,.vi 0,I.w 1,bU I nk,.vl [],.vl [],I.w 1,bU I nk,I.w 1,bU I nk,.vi 0,.vi (I.w 2).toL.length,I.w 2,.vi (I.w 2).toL.length]=_;rw[hf,own,<-h2];rfl
 have lA:(iz (I.w 0) (I.w 1) l).length<=24:=by
  have:=je (λi=>cy3 l (I.w 1).toI (ou (I.w 0).toI (I.w 1).toI).toI i) l.length;grind[iz,LX]
 have D2: ∀vs,bU (I.upd 2000 vs) gd= .vi (iz (I.w 0) (I.w 1) l).length:=λvs=>by
  show bZ (bU (I.upd 2000 vs) ju).toL 1 1=_;rw[E1];rfl
 have D3: ∀vs,bU (I.upd 2000 vs) ir= .vl (iz (I.w 0) (I.w 1) l):=λvs=>by
  show bZ (bU (I.upd 2000 vs) ju).toL 1 6=_;rw[E1];rfl
 have D4: ∀vs,bU (I.upd 2000 vs) gi=(ix (I.w 0) (I.w 1) l).1:=λvs=>by
  show bZ (bU (I.upd 2000 vs) ju).toL 1 3=_;rw[E1];rfl
 have d2:bU I gd= .vi (iz (I.w 0) (I.w 1) l).length:=by show bZ (bU I ju).toL 1 1=_;rw[e1];rfl
 have d3:bU I ir= .vl (iz (I.w 0) (I.w 1) l):=by show bZ (bU I ju).toL 1 6=_;rw[e1];rfl
 have d4:bU I gi=(ix (I.w 0) (I.w 1) l).1:=by show bZ (bU I ju).toL 1 3=_;rw[e1];rfl
 have d5:bU I mu=(ix (I.w 0) (I.w 1) l).2:=by show bZ (bU I ju).toL 1 4=_;rw[e1];rfl
 have d9:bU I tT= .vl (pL (I.w 0) (I.w 1) l):=by show bZ (bU I ju).toL 1 5=_;rw[e1];rfl
 have dj:bU I (zo ju 0)= .vi (pL (I.w 0) (I.w 1) l).length:=by show bZ (bU I ju).toL 1 0=_;rw[e1];rfl
 have e6:I.f 756 [.vi 0,bU I gd,bU I gd,bU I ir,bU I gi,bU I mu,bU I gd]=cr (0,[.vi (nK (I.w 0) (I.w 1) l),.vi (nK (I.w 0) (I.w 1) l)]):=by
  rw[hf,d2,d3,d4,d5];rfl
 have d6:bU I oi= .vi (nK (I.w 0) (I.w 1) l):=by
  show bZ (I.f 756 [.vi 0,bU I gd,bU I gd,bU I ir,bU I gi,bU I mu,bU I gd]).toL 1 0=_;rw[e6];rfl
 obtain⟨b1,b2⟩:=NT (iz (I.w 0) (I.w 1) l) (ix (I.w 0) (I.w 1) l).1.toI (iz (I.w 0) (I.w 1) l).length 0 (iz (I.w 0) (I.w 1) l).length (by omega) (by omega);have b2:nK (I.w 0) (I.w 1) l<=(iz (I.w 0) (I.w 1) l).length:=b2;have d8:dB I Cy=true:=by
  show(I.f 713 [bU I ir,bU I gd,bU I oi,bU I gi,bU I mu]).toB=true;rw[hf,d2,d3,d4,d5,d6];show(decide (((iz (I.w 0) (I.w 1) l).length:Int)=((iz (I.w 0) (I.w 1) l).length:Int))&&decide ((0:Int)<=((nK (I.w 0) (I.w 1) l:Nat):Int))&&decide (((nK (I.w 0) (I.w 1) l:Nat):Int)<=((iz (I.w 0) (I.w 1) l).length:Int))&&decide ((iz (I.w 0) (I.w 1) l).length<=24))=true;grind
 have d10:dB I AB=true:=by
  show decide ((bU I (zo ju 0)).toI=((bU I tT).toL.length:Int))=true;simp_all
 have d11:bU I yZ= .vl (Gf (iz (I.w 0) (I.w 1) l) (nK (I.w 0) (I.w 1) l) (ix (I.w 0) (I.w 1) l).1 (ix (I.w 0) (I.w 1) l).2):=by
  show I.f 714 [bU I ir,bU I gd,bU I oi,bU I gi,bU I mu]=_;rw[hf,d2,d3,d4,d5,d6];rfl
 have fin:W7 (.need Cy (.need AB (.ret 0 [gi,mu,aN,tT,yZ]))) I=some (0,[(ix (I.w 0) (I.w 1) l).1,(ix (I.w 0) (I.w 1) l).2,.vi 0,.vl (pL (I.w 0) (I.w 1) l),.vl (Gf (iz (I.w 0) (I.w 1) l) (nK (I.w 0) (I.w 1) l) (ix (I.w 0) (I.w 1) l).1 (ix (I.w 0) (I.w 1) l).2)]):=by
  refine W8 d8 (W8 d10 ?_);show some (0,[bU I gi,bU I mu,.vi 0,bU I tT,bU I yZ])=_;grind
 refine Z3 (r:=(0,yy l (I.w 1) (ou (I.w 0).toI (I.w 1).toI) l.length)) (dT9 h2 (by omega)) e1 (W8 ?_ (Z3 (r:=(0,[.vi (nK (I.w 0) (I.w 1) l),.vi (nK (I.w 0) (I.w 1) l)])) ?_ e6 ?_))
 .simp_all[cB,cx,e9,iz]
 .show cI _ [.vi 0,bU I gd]=_;rw[d2];exact dU0 lA D2 D3 D4
 .cases h7:dB I (zs oi gd)with
  |false=>exact cu h7 fin
  |true=>
   have h7':(bU I oi).toI<(bU I gd).toI:=j6 h7;refine cy h7 (W8 ?_ (W8 ?_ ?_))
   .simp_all[cB,cx,e9,nK]
   .show decide ((bU I oi).toI<((bU I ir).toL.length:Int))=true;simp_all
   .cases q1:dB I (zs Jt gi)with
    |true=>exact cy q1 fin
    |false=>
     refine cu q1 ?_;cases q2:dB I (fm Jt gi)with
     |true=>exact cy q2 fin
     |false=>exact cu q2 fin
end
end Go.Ev.S9
namespace Go.Ev.S9
open Go Go.Ev
theorem dj5(g t:Val)(l:List Val):(pL g t l).length<=l.length:=by
 have:=je (λi=>cy2 l t.toI (ou g.toI t.toI).toI i) l.length;grind[pL,yi]
theorem UL(g:Val)(m:List Val)(key t:Val):(kT g m key t).length<=m.length:=by
 have h1:=KD swo_spanV (gg m key.toS);have h2:=Fx m key.toS;unfold kT;cases iM g.toI t.toI (cS m key)
 .exact r9 _
 grind[dj5,cS,pL]
theorem An(f:Val->Val)(l:List Val):cn (λi=>[f (bW l i)]) l.length=l.map f:=by
 rw[qN,<-T3];refine J3 (by simp) (λi h1 h2=> ?_);have hi:i<l.length:=by simpa using h1
 simp[bW,j9,hi]
def KO:SX:= zc aW (.op .row [.op .row [bd,bX jU aR 0,bX jU aR 1]])
theorem dU1{I:Opq}{J:List Val}(hJ:J.length<=24)(d3: ∀vs,bU (I.upd 2000 vs) jU= .vl J):
 cI (λvs=>W7 Xw (I.upd 2000 vs)) [.vi 0,.vi 0,.vl []]=some (0,[.vi J.length,.vi J.length,.vl (J.map (fx (I.w 6)))]):=by
 have hl:(J.map (fx (I.w 6))).length=J.length:=l5 ..;refine Bq (λi acc=>[.vi acc.length,.vi i,.vl acc]) (a0:=[]) (g:=λi=>[fx (I.w 6) (bW J i)]) (n:=J.length) rfl (λi hi=> ?_) ?_
 .rw[List.nil_append];have hg:=mX (λi=>fx (I.w 6) (bW J i)) i;generalize cn (λi=>[fx (I.w 6) (bW J i)]) i=acc at*
  have d3:=d3 [.vi acc.length,.vi i,.vl acc];have v0:(I.upd 2000 [.vi acc.length,.vi i,.vl acc]).w 2000= .vi acc.length:=by rfl
  have v1:(I.upd 2000 [.vi acc.length,.vi i,.vl acc]).w 2001= .vi i:=by rfl
  have v2:(I.upd 2000 [.vi acc.length,.vi i,.vl acc]).w 2002= .vl acc:=by rfl
  have v6:(I.upd 2000 [.vi acc.length,.vi i,.vl acc]).w 6=I.w 6:=by rfl
  generalize I.upd 2000 [.vi acc.length,.vi i,.vl acc]=aa at*
  have dc:bU aa KO= .vl (acc++[fx (I.w 6) (bW J i)]):=by
   show Val.vl ((aa.w 2002).toL++[.vl [aa.w 6,bZ (bU aa jU).toL (aa.w 2001).toI 0,bZ (bU aa jU).toL (aa.w 2001).toI 1]])=_;rw[v1,v2,v6,d3];rfl
  refine cy ?_ (W8 ?_ (W8 ?_ ?_))
  .show decide ((aa.w 2001).toI<((bU aa jU).toL.length:Int))=true;simp_all
  .simp_all[cB,cx,co,e9]
  .show(decide ((aa.w 2000).toI=((aa.w 2002).toL.length:Int))&&decide (((bU aa KO).toL.length:Int)<=1000000))=true;rw[v0,v2,dc];rw[j7];exact⟨e9 rfl,e9 (by show((acc++[_]).length:Int)<=1000000;grind)⟩
  .show some (0,[Val.vi ((bU aa KO).toL.length:Int),Val.vi (cg .add .i64 (aa.w 2001).toI 1),bU aa KO])=_;rw[dc,v1];rw[show cg .add .i64 (Val.vi (i:Int)).toI 1=((i+1:Nat):Int)from eH hi (by omega)];rfl
 .rw[List.nil_append,An (fx (I.w 6)) J,hl];have d3:=d3 [.vi J.length,.vi J.length,.vl (J.map (fx (I.w 6)))];have v0:(I.upd 2000 [.vi J.length,.vi J.length,.vl (J.map (fx (I.w 6)))]).w 2000= .vi J.length:=by rfl
  have v1:(I.upd 2000 [.vi J.length,.vi J.length,.vl (J.map (fx (I.w 6)))]).w 2001= .vi J.length:=by rfl
  have v2:(I.upd 2000 [.vi J.length,.vi J.length,.vl (J.map (fx (I.w 6)))]).w 2002= .vl (J.map (fx (I.w 6))):=by rfl
  generalize I.upd 2000 [.vi J.length,.vi J.length,.vl (J.map (fx (I.w 6)))]=aa at*
  refine cu ?_ ?_
  .show decide ((aa.w 2001).toI<((bU aa jU).toL.length:Int))=false;simp_all
  .show some (1,[aa.w 2000,aa.w 2001,aa.w 2002])=_;grind
section
variable{X:Nat->List Val->Val}{I:Opq}(hf: ∀i a,I.f i a=FT X i a)
include hf
theorem t_joined(hn:dB I (zn (zb (zl 4) 24) (.app 491 [aS]))=true):W7 T_joined I=some (0,[bZ (FT X 725 [I.w 3,I.w 4,I.w 6,I.w 7]).toL 0 0,bZ (FT X 725 [I.w 3,I.w 4,I.w 6,I.w 7]).toL 0 1,bZ (FT X 725 [I.w 3,I.w 4,I.w 6,I.w 7]).toL 0 2,FT X 724 [I.w 3,I.w 4,I.w 6,I.w 7]]):=by
 obtain⟨n3,n4⟩:=W5 (show(dB I (zb (zl 4) 24)&&dB I (.app 491 [aS]))=true from hn);have n3':((I.w 4).toL.length:Int)<=24:=j6 n3;have hs:I.f 723 [I.w 4,I.w 6]= .vl (cS (I.w 4).toL (I.w 6)):=by rw[hf];rfl
 have hl:(cS (I.w 4).toL (I.w 6)).length<=24:=by
  grind[KD,swo_spanV,gg,Fx,cS]
 have jl:(kT (I.w 3) (I.w 4).toL (I.w 6) (I.w 7)).length<=24:=by grind[UL]
 have d3:bU I jU= .vl (kT (I.w 3) (I.w 4).toL (I.w 6) (I.w 7)):=by
  show I.f 717 [I.w 3,I.w 7,I.f 723 [I.w 4,I.w 6]]=_;rw[hs,hf];rfl
 have D3: ∀vs,bU (I.upd 2000 vs) jU= .vl (kT (I.w 3) (I.w 4).toL (I.w 6) (I.w 7)):=λvs=>by
  have w3:(I.upd 2000 vs).w 3=I.w 3:=by rfl
  have w4:(I.upd 2000 vs).w 4=I.w 4:=by rfl
  have w6:(I.upd 2000 vs).w 6=I.w 6:=by rfl
  have w7:(I.upd 2000 vs).w 7=I.w 7:=by rfl
  have wf:(I.upd 2000 vs).f=I.f:=rfl;generalize I.upd 2000 vs=aa at*
  show aa.f 717 [aa.w 3,aa.w 7,aa.f 723 [aa.w 4,aa.w 6]]=_;rw[w3,w4,w6,w7,wf];exact d3
 have d0:bU I Hl= .vl [.vl (kN (I.w 3) (I.w 4).toL (I.w 6) (I.w 7))]:=by
  show I.f 718 [I.w 3,I.w 7,I.f 723 [I.w 4,I.w 6]]=_;rw[hs,hf];rfl
 have d1:bU I Ax=(kN (I.w 3) (I.w 4).toL (I.w 6) (I.w 7)).getD 0 default:=by show bZ (bU I Hl).toL 0 0=_;rw[d0];rfl
 have d2:bU I BS=(kN (I.w 3) (I.w 4).toL (I.w 6) (I.w 7)).getD 1 default:=by show bZ (bU I Hl).toL 0 1=_;rw[d0];rfl
 have a1:bZ (FT X 725 [I.w 3,I.w 4,I.w 6,I.w 7]).toL 0 0=I.w 6:=rfl;have a2:bZ (FT X 725 [I.w 3,I.w 4,I.w 6,I.w 7]).toL 0 1=(kN (I.w 3) (I.w 4).toL (I.w 6) (I.w 7)).getD 0 default:=rfl;have a3:bZ (FT X 725 [I.w 3,I.w 4,I.w 6,I.w 7]).toL 0 2=(kN (I.w 3) (I.w 4).toL (I.w 6) (I.w 7)).getD 1 default:=rfl;have a4:FT X 724 [I.w 3,I.w 4,I.w 6,I.w 7]= .vl ((kT (I.w 3) (I.w 4).toL (I.w 6) (I.w 7)).map (fx (I.w 6))):=rfl;have ml:((kT (I.w 3) (I.w 4).toL (I.w 6) (I.w 7)).map (fx (I.w 6))).length=(kT (I.w 3) (I.w 4).toL (I.w 6) (I.w 7)).length:=l5 ..;generalize kT (I.w 3) (I.w 4).toL (I.w 6) (I.w 7)=J at*
 have e4:bU I Hq=cr (0,[.vi J.length,.vi J.length,.vl (J.map (fx (I.w 6)))]):=by
  show I.f 758 [.vi 0,.vi 0,.vl [],I.w 5,I.w 6,I.w 7,I.w 8,bU I Ax,bU I BS,.vi (bU I jU).toL.length,bU I jU,.vi (bU I jU).toL.length]=_;rw[hf,d3];rfl
 have d5:bU I FO= .vl (J.map (fx (I.w 6))):=by show bZ (bU I Hq).toL 1 2=_;rw[e4];rfl
 refine W8 ?_ (W8 ?_ (Z3 (r:=(0,[.vi J.length,.vi J.length,.vl (J.map (fx (I.w 6)))])) (dU1 jl D3) e4 (W8 ?_ ?_)))
 .rw[db,j7];grind[cB,cx,decide_eq_true]
 .show decide (((I.f 723 [I.w 4,I.w 6]).toL.length:Int)<=24)=true;rw[hs];exact e9 (by show((cS (I.w 4).toL (I.w 6)).length:Int)<=24;omega)
 .show decide ((bZ (bU I Hq).toL 1 0).toI=((bU I FO).toL.length:Int))=true;rw[d5,e4];exact e9 (congrArg Int.ofNat ml.symm)
 .show some (0,[I.w 6,bU I Ax,bU I BS,bU I FO])=_;grind
end
end Go.Ev.S9
namespace Go.Ev.S9
open Go Go.Ev
theorem Z8{I:Opq}(x:SX):(bU I (zL x)).toI=((bU I x).toL.length:Int):=rfl
theorem dN{I:Opq}(n:Nat):bU I (.va n)=I.w n:=rfl
theorem wo{A:List Val}{x:Val}(h:A.length<1000000):(decide ((Val.vi (A.length:Int)).toI=((Val.vl A).toL.length:Int))&&decide (((Val.vl (A++[x])).toL.length:Int)<=1000000))=true:=by
 grind[a06,a84,List.length_append,List.length_singleton]
theorem Vf(key ns ne r:Val):(kv key ns ne r).length<=1:=by grind[kv,zV]
def Bb(m P:List Val)(key ns ne v:Val)(k:Nat):List Val:=[.vi (cn (λi=>kv key ns ne (bW P i)) k).length,.vi ([Val.vl [.vi 1,v,v,v]]++cn (λi=>[kS m (bW P i)]) k).length,.vi k,.vl (cn (λi=>kv key ns ne (bW P i)) k),.vl ([Val.vl [.vi 1,v,v,v]]++cn (λi=>[kS m (bW P i)]) k)]
theorem dU2{I:Opq}{P:List Val}{key ns ne v:Val}(hP:P.length<=24)(d5: ∀vs,bU (I.upd 2000 vs) fS= .vl P)(d2: ∀vs,bU (I.upd 2000 vs) sw=key)(d3: ∀vs,bU (I.upd 2000 vs) se=ns)(d4: ∀vs,bU (I.upd 2000 vs) sa=ne):
 cI (λvs=>W7 e57 (I.upd 2000 vs)) [.vi 0,.vi 1,.vi 0,.vl [],.vl [.vl [.vi 1,v,v,v]]]=some (0,Bb (I.w 4).toL P key ns ne v P.length):=by
 refine eG (st:=Bb (I.w 4).toL P key ns ne v) (n:=P.length) (λk hk=> ?_) ?_
 .have g1:=je (λi=>Vf key ns ne (bW P i)) k;have g2:=mX (λi=>kS (I.w 4).toL (bW P i)) k;unfold Bb;simp only[cn];rw[<-A4];have g3:([Val.vl [.vi 1,v,v,v]]++cn (λi=>[kS (I.w 4).toL (bW P i)]) k).length=k+1:=by grind
  generalize [Val.vl [.vi 1,v,v,v]]++cn (λi=>[kS (I.w 4).toL (bW P i)]) k=A at*
  generalize cn (λi=>kv key ns ne (bW P i)) k=G at*
  have d2:=d2 [.vi G.length,.vi A.length,.vi k,.vl G,.vl A];have d3:=d3 [.vi G.length,.vi A.length,.vi k,.vl G,.vl A];have d4:=d4 [.vi G.length,.vi A.length,.vi k,.vl G,.vl A];have d5:=d5 [.vi G.length,.vi A.length,.vi k,.vl G,.vl A];have v0:(I.upd 2000 [.vi G.length,.vi A.length,.vi k,.vl G,.vl A]).w 2000= .vi G.length:=by rfl
  have v1:(I.upd 2000 [.vi G.length,.vi A.length,.vi k,.vl G,.vl A]).w 2001= .vi A.length:=by rfl
  have v2:(I.upd 2000 [.vi G.length,.vi A.length,.vi k,.vl G,.vl A]).w 2002= .vi k:=by rfl
  have v3:(I.upd 2000 [.vi G.length,.vi A.length,.vi k,.vl G,.vl A]).w 2003= .vl G:=by rfl
  have v4:(I.upd 2000 [.vi G.length,.vi A.length,.vi k,.vl G,.vl A]).w 2004= .vl A:=by rfl
  have vm:(I.upd 2000 [.vi G.length,.vi A.length,.vi k,.vl G,.vl A]).w 4=I.w 4:=by rfl
  generalize I.upd 2000 [.vi G.length,.vi A.length,.vi k,.vl G,.vl A]=aa at*
  have dk:bU aa wn=eh (bW P k):=by
   show Val.vl [bZ (bU aa fS).toL (aa.w 2002).toI 0,bZ (bU aa fS).toL (aa.w 2002).toI 1,bZ (bU aa fS).toL (aa.w 2002).toI 2]=_;rw[d5,v2];rfl
  have dc: ∀j:Nat,bU aa (nZ (j:Int))=iZ (I.w 4).toL (eh (bW P k)) j:=λj=>by
   show(bif decide (((gw (aa.w 4).toL (bU aa wn):Nat):Int)<((aa.w 4).toL.length:Int))then bZ (aa.w 4).toL ((gw (aa.w 4).toL (bU aa wn):Nat):Int) (j:Int)else Val.vi 0)=_;rw[dk,vm];have e:decide (((gw (I.w 4).toL (eh (bW P k)):Nat):Int)<((I.w 4).toL.length:Int))=gy (I.w 4).toL (eh (bW P k)):=by
    simp_all[gy,decide_eq_decide]
   rw[e];rfl
  have da:bU aa sL= .vl (A++[kS (I.w 4).toL (bW P k)]):=by
   have c3:bU aa (nZ 3)=_:=dc 3;have c4:bU aa (nZ 4)=_:=dc 4;have c5:bU aa (nZ 5)=_:=dc 5;have c6:bU aa (nZ 6)=_:=dc 6;show Val.vl ((aa.w 2004).toL++[.vl [bU aa (nZ 3),bU aa (nZ 4),bU aa (nZ 5),bU aa (nZ 6)]])=_;rw[v4,c3,c4,c5,c6];rfl
  have dg:bU aa BB= .vl (G++[eh (bW P k)]):=by
   show Val.vl ((aa.w 2003).toL++[bU aa wn])=_;simp_all
  have ds:dB aa WH=zV key ns ne (bW P k):=by
   show(decide ((bZ (bU aa fS).toL (aa.w 2002).toI 0).toS=(bU aa sw).toS)&&(decide ((bZ (bU aa fS).toL (aa.w 2002).toI 1).toI=(bU aa se).toI)&&decide ((bZ (bU aa fS).toL (aa.w 2002).toI 2).toI=(bU aa sa).toI)))=_;rw[d2,d3,d4,d5,v2];rfl
  have inc:cg .add .i64 (Val.vi (k:Int)).toI 1=((k+1:Nat):Int):=eH hk (by omega);refine cy ?_ (W8 ?_ (W8 ?_ ?_))
  .show decide ((aa.w 2002).toI<((bU aa fS).toL.length:Int))=true;simp_all
  .simp_all[cB,cx,co,e9]
  .rw[db,dX,cB,cx,Z8,Z8,da,co,dN,v1,v4];grind[wo]
  .unfold kv;cases hS:zV key ns ne (bW P k)with
   |true=>
    refine cu (by rw[iu,ds,hS];rfl) ?_;show some (0,[aa.w 2000,Val.vi ((bU aa sL).toL.length:Int),Val.vi (cg .add .i64 (aa.w 2002).toI 1),aa.w 2003,bU aa sL])=_;simp_all
   |false=>
    refine cy (by grind[iu]) (W8 ?_ ?_)
    .rw[db,dX,cB,cx,Z8,Z8,dg,co,dN,v0,v3];grind[wo]
    .show some (0,[Val.vi ((bU aa BB).toL.length:Int),Val.vi ((bU aa sL).toL.length:Int),Val.vi (cg .add .i64 (aa.w 2002).toI 1),bU aa BB,bU aa sL])=_;simp_all
 .unfold Bb;generalize [Val.vl [.vi 1,v,v,v]]++cn (λi=>[kS (I.w 4).toL (bW P i)]) P.length=A;generalize cn (λi=>kv key ns ne (bW P i)) P.length=G;have d5:=d5 [.vi G.length,.vi A.length,.vi P.length,.vl G,.vl A];have v0:(I.upd 2000 [.vi G.length,.vi A.length,.vi P.length,.vl G,.vl A]).w 2000= .vi G.length:=by rfl
  have v1:(I.upd 2000 [.vi G.length,.vi A.length,.vi P.length,.vl G,.vl A]).w 2001= .vi A.length:=by rfl
  have v2:(I.upd 2000 [.vi G.length,.vi A.length,.vi P.length,.vl G,.vl A]).w 2002= .vi P.length:=by rfl
  have v3:(I.upd 2000 [.vi G.length,.vi A.length,.vi P.length,.vl G,.vl A]).w 2003= .vl G:=by rfl
  have v4:(I.upd 2000 [.vi G.length,.vi A.length,.vi P.length,.vl G,.vl A]).w 2004= .vl A:=by rfl
  generalize I.upd 2000 [.vi G.length,.vi A.length,.vi P.length,.vl G,.vl A]=aa at*
  refine cu ?_ ?_
  .show decide ((aa.w 2002).toI<((bU aa fS).toL.length:Int))=false;simp_all
  .show some (1,[aa.w 2000,aa.w 2001,aa.w 2002,aa.w 2003,aa.w 2004])=_;grind
theorem eZ{I:Opq}(a b:SX):dB I (dv a b)= !decide ((bU I a).toI=(bU I b).toI):=rfl
theorem cy6(l:List Val):(l.drop (0:Int).toNat).take ((l.length:Int)-0).toNat=l:=by simp
section
variable{X:Nat->List Val->Val}{I:Opq}(hf: ∀i a,I.f i a=FT X i a)
include hf
theorem t_sess(hn:dB I (zn (zb (zl 4) 24) (.app 491 [aS]))=true):W7 T_sess I=some (0,[FT X 729 [I.w 3,I.w 4,I.w 6,I.w 7,I.w 8],FT X 727 [I.w 3,I.w 4,I.w 6,I.w 7,I.w 8],FT X 728 [I.w 3,I.w 4,I.w 6,I.w 7,I.w 8]]):=by
 obtain⟨n3,n4⟩:=W5 (show(dB I (zb (zl 4) 24)&&dB I (.app 491 [aS]))=true from hn);have n3':((I.w 4).toL.length:Int)<=24:=j6 n3;have a9:FT X 729 [I.w 3,I.w 4,I.w 6,I.w 7,I.w 8]= .vi (sM (I.w 3) (I.w 4).toL (I.w 6) (I.w 7) (I.w 8)):=rfl;have a7:FT X 727 [I.w 3,I.w 4,I.w 6,I.w 7,I.w 8]= .vl (nB (I.w 3) (I.w 4).toL (I.w 6) (I.w 7) (I.w 8)):=rfl;have a8:FT X 728 [I.w 3,I.w 4,I.w 6,I.w 7,I.w 8]= .vl (nQ (I.w 3) (I.w 4).toL (I.w 6) (I.w 7) (I.w 8)):=rfl;rw[a9,a7,a8];have jl:=UL (I.w 3) (I.w 4).toL (I.w 6) (I.w 7);have pl:(ja (I.w 3) (I.w 4).toL (I.w 6) (I.w 7)).length<=24:=by
  unfold ja;rw[List.length_map];omega
 have f4:I.f 724 [I.w 3,I.w 4,I.w 6,I.w 7]= .vl (ja (I.w 3) (I.w 4).toL (I.w 6) (I.w 7)):=by rw[hf];rfl
 have f5:I.f 725 [I.w 3,I.w 4,I.w 6,I.w 7]= .vl [.vl (I.w 6::kN (I.w 3) (I.w 4).toL (I.w 6) (I.w 7))]:=by rw[hf];rfl
 unfold nB nQ sM;generalize ja (I.w 3) (I.w 4).toL (I.w 6) (I.w 7)=P at*
 generalize kN (I.w 3) (I.w 4).toL (I.w 6) (I.w 7)=N at*
 have W: ∀vs:List Val,∀n:Nat,n<2000->(I.upd 2000 vs).w n=I.w n:=λvs n hn=>by rw[cM,b9 (by omega)]
 have d5:bU I fS= .vl P:=f4;have d1:bU I qT= .vl [.vl (I.w 6::N)]:=f5;have D5: ∀vs,bU (I.upd 2000 vs) fS= .vl P:=λvs=>by
  exact f4
 have D1: ∀vs,bU (I.upd 2000 vs) qT= .vl [.vl (I.w 6::N)]:=λvs=>by
  exact f5
 have d2:bU I sw=I.w 6:=by show bZ (bU I qT).toL 0 0=_;rw[d1];rfl
 have d3:bU I se=N.getD 0 default:=by show bZ (bU I qT).toL 0 1=_;rw[d1];rfl
 have d4:bU I sa=N.getD 1 default:=by show bZ (bU I qT).toL 0 2=_;rw[d1];rfl
 have D2: ∀vs,bU (I.upd 2000 vs) sw=I.w 6:=λvs=>by show bZ (bU (I.upd 2000 vs) qT).toL 0 0=_;rw[D1];rfl
 have D3: ∀vs,bU (I.upd 2000 vs) se=N.getD 0 default:=λvs=>by show bZ (bU (I.upd 2000 vs) qT).toL 0 1=_;rw[D1];rfl
 have D4: ∀vs,bU (I.upd 2000 vs) sa=N.getD 1 default:=λvs=>by show bZ (bU (I.upd 2000 vs) qT).toL 0 2=_;rw[D1];rfl
 generalize N.getD 0 default=ns at*
 generalize N.getD 1 default=ne at*
 have d0:bU I zU= .vl [.vl [.vi 1,I.w 8,I.w 8,I.w 8]]:=rfl;have hA:[Val.vl [.vi 1,I.w 8,I.w 8,I.w 8]]++cn (λi=>[kS (I.w 4).toL (bW P i)]) P.length=kH (I.w 4).toL P (I.w 8):=by
  rw[An (kS (I.w 4).toL) P];rfl
 have hst:Bb (I.w 4).toL P (I.w 6) ns ne (I.w 8) P.length=[.vi (iS P (I.w 6) ns ne).length,.vi (kH (I.w 4).toL P (I.w 8)).length,.vi P.length,.vl (iS P (I.w 6) ns ne),.vl (kH (I.w 4).toL P (I.w 8))]:=by
  unfold Bb;rw[hA];rfl
 have lp:=dU2 (v:=I.w 8) pl D5 D2 D3 D4;rw[hst]at lp;have al:(kH (I.w 4).toL P (I.w 8)).length<=31:=by
  show(P.map _).length+1<=31;rw[l5];omega
 have e6:bU I sH=cr (0,[.vi (iS P (I.w 6) ns ne).length,.vi (kH (I.w 4).toL P (I.w 8)).length,.vi P.length,.vl (iS P (I.w 6) ns ne),.vl (kH (I.w 4).toL P (I.w 8))]):=by
  show I.f 759 [.vi 0,.vi (bU I zU).toL.length,.vi 0,.vl [],bU I zU,I.w 0,I.w 1,I.w 2,I.w 3,I.w 4,bU I sw,bU I se,bU I sa,.vi (bU I fS).toL.length,bU I fS,.vi (bU I fS).toL.length]=_;rw[hf,d0,d2,d3,d4,d5];rfl
 generalize iS P (I.w 6) ns ne=G at*
 generalize kH (I.w 4).toL P (I.w 8)=A at*
 have d7:bU I DF= .vi A.length:=by show bZ (bU I sH).toL 1 1=_;rw[e6];rfl
 have d8:bU I JX= .vl A:=by show bZ (bU I sH).toL 1 4=_;rw[e6];rfl
 have dg:bU I (zo sH 0)= .vi G.length:=by show bZ (bU I sH).toL 1 0=_;rw[e6];rfl
 have d10:bU I MZ= .vl G:=by show bZ (bU I sH).toL 1 3=_;rw[e6];rfl
 have d9:bU I kr= .vl A:=by
  show Val.vl (((bU I JX).toL.drop (0:Int).toNat).take ((bU I DF).toI-0).toNat)=_;rw[d7,d8];exact congrArg Val.vl (cy6 A)
 have f6:I.f 706 [bU I kr]= .vi (jE A):=by rw[d9,hf];rfl
 have f5':I.f 705 [bU I kr]= .vl [.vl (jR A)]:=by rw[d9,hf];rfl
 refine W8 hn (Z3 (r:=(0,[.vi G.length,.vi A.length,.vi P.length,.vl G,.vl A])) lp e6 (W8 ?_ ?_))
 .rw[db,db,cB,cB,cB,cx,cx,Z8,Z8,d7,d8,d9];exact a3 (by show(0:Int)<=(A.length:Int);omega) (x5 _) (by show(A.length:Int)<=1000;omega)
 .have hne:dB I (dv (.app 706 [kr]) aN)= !decide (jE A=0):=by
   show(!decide ((I.f 706 [bU I kr]).toI=0))=_;rw[f6];rfl
  by_cases h:jE A=0
  .refine cu (by rw[hne,e9 h];rfl) (W8 ?_ ?_)
   .rw[dX,Z8,dg,d10];exact e9 rfl
   .show some (0,[Val.vi 0,bU I MZ,.vl [.vl [bU I sw,bU I se,bU I sa,bZ (I.f 705 [bU I kr]).toL 0 0,bZ (I.f 705 [bU I kr]).toL 0 1,bZ (I.f 705 [bU I kr]).toL 0 2,bZ (I.f 705 [bU I kr]).toL 0 3]]])=_;rw[d10,d2,d3,d4,f5',h];rfl
  .rw[e8 h,e8 h];refine cy (by rw[hne,j5 h];rfl) ?_;show some (0,[I.f 706 [bU I kr],Val.vl [],Val.vl []])=_;rw[f6]
end
end Go.Ev.S9
namespace Go.Ev.S9
open Go Go.Ev
def Dv(m S:List Val)(key v e0:Val)(k:Nat):List Val:=[.vi (fV m S key v k).length,if k=0 then e0 else .vi 0,.vi k,.vl (fV m S key v k)]
section
variable{X:Nat->List Val->Val}{I:Opq}(hf: ∀i a,I.f i a=FT X i a)
include hf
theorem d34{S:List Val}{e0:Val}(D1: ∀vs,bU (I.upd 2000 vs) gF= .vl S){k:Nat}(hk:k<S.length)(hS:S.length<=1000):
 W7 Kg (I.upd 2000 (Dv (I.w 4).toL S (I.w 6) (I.w 8) e0 k))=if kf (I.w 4).toL (I.w 6) (I.w 8) (bW S k)≠0 then some (1,[.vi k,.vi (kf (I.w 4).toL (I.w 6) (I.w 8) (bW S k)),.vi k,.vl (fV (I.w 4).toL S (I.w 6) (I.w 8) k)])else some (0,Dv (I.w 4).toL S (I.w 6) (I.w 8) e0 (k+1)):=by
 have hl:(fV (I.w 4).toL S (I.w 6) (I.w 8) k).length=k:=mX (λi=>nP (I.w 4).toL (I.w 6) (I.w 8) (bW S i)) k;have hs:fV (I.w 4).toL S (I.w 6) (I.w 8) (k+1)=fV (I.w 4).toL S (I.w 6) (I.w 8) k++[nP (I.w 4).toL (I.w 6) (I.w 8) (bW S k)]:=rfl;unfold Dv;have W: ∀vs:List Val,∀n:Nat,n<2000->(I.upd 2000 vs).w n=I.w n:=λvs n hn=>by simp_all[cM,b9]
 generalize fV (I.w 4).toL S (I.w 6) (I.w 8) k=L at*
 generalize (if k=0 then e0 else Val.vi 0)=ee;have D1:=D1 [.vi L.length,ee,.vi k,.vl L];have W:=W [.vi L.length,ee,.vi k,.vl L];have w4:=W 4 (by omega);have w6:=W 6 (by omega);have w8:=W 8 (by omega);have v0:(I.upd 2000 [.vi L.length,ee,.vi k,.vl L]).w 2000= .vi L.length:=by rfl
 have v2:(I.upd 2000 [.vi L.length,ee,.vi k,.vl L]).w 2002= .vi k:=by rfl
 have v3:(I.upd 2000 [.vi L.length,ee,.vi k,.vl L]).w 2003= .vl L:=by rfl
 have wf:(I.upd 2000 [.vi L.length,ee,.vi k,.vl L]).f=I.f:=rfl;generalize I.upd 2000 [.vi L.length,ee,.vi k,.vl L]=aa at*
 have dk:bU aa EA=fx (I.w 6) (bW S k):=by
  show Val.vl [aa.w 6,bZ (bU aa gF).toL (aa.w 2002).toI 0,bZ (bU aa gF).toL (aa.w 2002).toI 1]=_;rw[D1,v2,w6];rfl
 have dc: ∀j:Nat,bU aa (iQ (j:Int))=qx (I.w 4).toL (I.w 6) (bW S k) j:=λj=>by
  show(bif decide (((gw (aa.w 4).toL (bU aa EA):Nat):Int)<((aa.w 4).toL.length:Int))then bZ (aa.w 4).toL ((gw (aa.w 4).toL (bU aa EA):Nat):Int) (j:Int)else Val.vi 0)=_;rw[dk,w4];have e:decide (((gw (I.w 4).toL (fx (I.w 6) (bW S k)):Nat):Int)<((I.w 4).toL.length:Int))=gy (I.w 4).toL (fx (I.w 6) (bW S k)):=by
   simp_all[gy,decide_eq_decide]
  rw[e];rfl
 have c3:bU aa (iQ 3)=_:=dc 3;have c4:bU aa (iQ 4)=_:=dc 4;have c5:bU aa (iQ 5)=_:=dc 5;have c6:bU aa (iQ 6)=_:=dc 6;have de:bU aa wL= .vi (kf (I.w 4).toL (I.w 6) (I.w 8) (bW S k)):=by
  show aa.f 708 [bU aa (iQ 3),bU aa (iQ 4),bU aa (iQ 5),bU aa (iQ 6),aa.w 8]=_;rw[wf,hf,c3,c4,c5,c6,w8];rfl
 have dq:bU aa sZ= .vl [.vl (Aj (I.w 4).toL (I.w 6) (I.w 8) (bW S k))]:=by
  show aa.f 707 [bU aa (iQ 3),bU aa (iQ 4),bU aa (iQ 5),bU aa (iQ 6),aa.w 8]=_;rw[wf,hf,c3,c4,c5,c6,w8];rfl
 have dr:bU aa Bs= .vl (L++[nP (I.w 4).toL (I.w 6) (I.w 8) (bW S k)]):=by
  show Val.vl ((aa.w 2003).toL++[.vl [aa.w 6,bZ (bU aa gF).toL (aa.w 2002).toI 0,bZ (bU aa gF).toL (aa.w 2002).toI 1,bZ (bU aa sZ).toL 0 0,bZ (bU aa sZ).toL 0 1,bZ (bU aa sZ).toL 0 2,bZ (bU aa sZ).toL 0 3]])=_;rw[v3,w6,D1,v2,dq];rfl
 have inc:cg .add .i64 (Val.vi (k:Int)).toI 1=((k+1:Nat):Int):=eH hk (by omega);have dn:dB aa (dv wL aN)= !decide (kf (I.w 4).toL (I.w 6) (I.w 8) (bW S k)=0):=by
  rw[eZ,cx,de];rfl
 refine cy ?_ (W8 ?_ ?_)
 .show decide ((aa.w 2002).toI<((bU aa gF).toL.length:Int))=true;simp_all
 .simp_all[cB,cx,co,e9]
 .by_cases h:kf (I.w 4).toL (I.w 6) (I.w 8) (bW S k)=0
  .refine cu (by grind) (W8 ?_ ?_)
   .rw[db,dX,cB,cx,Z8,Z8,dr,co,dN,v0,v3];grind[wo]
   .show some (0,[Val.vi ((bU aa Bs).toL.length:Int),bU aa wL,Val.vi (cg .add .i64 (aa.w 2002).toI 1),bU aa Bs])=_;simp_all
  .refine cy (by rw[dn,j5 h];rfl) ?_;show some (1,[aa.w 2000,bU aa wL,aa.w 2002,aa.w 2003])=_;grind
end
end Go.Ev.S9
namespace Go.Ev.S9
open Go Go.Ev
def rowS(r:Val):Prop:= ∃(k:List UInt8) (a b c d e f:Int),r= .vl [.vs k,.vi a,.vi b,.vi c,.vi d,.vi e,.vi f]/\k.length<=1000
theorem dD8(l:List Val): ∀k,∃a b,(jS l k).getD 2 default= .vi a/\(jS l k).getD 3 default= .vi b
 |0=>⟨0,0,rfl,rfl⟩
 |k+1=>by
  unfold jS;cases tN (bW l k)with
  |true=>exact dD8 l k
  |false=>
   split<;>exact⟨_,_,rfl,rfl⟩
theorem dU3{l:List Val}(h:jE l=0): ∃a b c d,jR l=[.vi a,.vi b,.vi c,.vi d]:=by
 obtain⟨c,d,h1,h2⟩:=dD8 l l.length;have hn: ¬(fR (jC l)≠0\/fR (jT l)≠0):=λhc=>by
  unfold jE at h;rw[if_pos hc]at h;cases h
 unfold jR;rw[b9 hn,h1,h2];exact⟨_,_,_,_,rfl⟩
theorem dj6{k s l g:Int}{t:Val}(h3:k≠3): ∀r∈cX k s l g t,∃a b,r= .vl [.vi a,.vi b]:=by
 intro r hr;unfold cX at hr;cases h:(cT k s l g&&ep t.toI)with
 |false=>rw[h]at hr;cases hr
 |true=>
  simp_all;rw[qN]at hr;obtain⟨i,_,hi⟩:=C1.1 hr;unfold iG at hi;rw[n9]at hi;exact⟨_,_,hi⟩
theorem CL{k s l g:Int}{t:Val}(h3:k≠3):(cX k s l g t).length<=16:=by
 unfold cX;cases h:(cT k s l g&&ep t.toI)with
 |false=>grind
 |true=>
  simp[cond_true,b9 h3];rw[show(cn (iG (fk t.toI (dz k s l)-s+dz k s l) (dz k s l) s) (fe k s l)).length=fe k s l from mX _ _];have hw:=(W5 h).1;unfold cT at hw;unfold fe dz;by_cases k2:k=2
  .grind
  .grind[Int.ediv_self]
theorem QW(m S:List Val)(key v:Val):gI m S key v<=S.length/\(∀i,i<gI m S key v->kf m key v (bW S i)=0)/\(gI m S key v<S.length->kf m key v (bW S (gI m S key v))≠0):=by
 unfold gI;cases hf:(List.range S.length).find? λi=>decide (kf m key v (bW S i)≠0)with
 |none=>
  grind
 |some k=>
  grind[oI,Nat.le_of_lt]
section
variable{X:Nat->List Val->Val}{I:Opq}(hf: ∀i a,I.f i a=FT X i a)
include hf
theorem dU4{S:List Val}{e0:Val}(D1: ∀vs,bU (I.upd 2000 vs) gF= .vl S)(hS:S.length<=16):
 cI (λvs=>W7 Kg (I.upd 2000 vs)) [.vi 0,e0,.vi 0,.vl []]=some (0,[.vi (gI (I.w 4).toL S (I.w 6) (I.w 8)),kL (I.w 4).toL S (I.w 6) (I.w 8) e0,.vi (gI (I.w 4).toL S (I.w 6) (I.w 8)),.vl (fV (I.w 4).toL S (I.w 6) (I.w 8) (gI (I.w 4).toL S (I.w 6) (I.w 8)))]):=by
 obtain⟨k1,k2,k3⟩:=QW (I.w 4).toL S (I.w 6) (I.w 8);refine eG (st:=Dv (I.w 4).toL S (I.w 6) (I.w 8) e0) (n:=gI (I.w 4).toL S (I.w 6) (I.w 8)) (λk hk=> ?_) ?_
 .rw[d34 hf D1 (by omega) (by omega),b9 (by grind)]
 .unfold kL;by_cases h:gI (I.w 4).toL S (I.w 6) (I.w 8)<S.length
  .rw[d34 hf D1 h (by omega),e8 (k3 h),e8 h]
  .have e:gI (I.w 4).toL S (I.w 6) (I.w 8)=S.length:=by omega
   rw[b9 h,e];have hl:(fV (I.w 4).toL S (I.w 6) (I.w 8) S.length).length=S.length:=mX (λi=>nP (I.w 4).toL (I.w 6) (I.w 8) (bW S i)) _;unfold Dv;rw[hl];generalize fV (I.w 4).toL S (I.w 6) (I.w 8) S.length=L at*
   generalize (if S.length=0 then e0 else Val.vi 0)=ee;have D1:=D1 [.vi S.length,ee,.vi S.length,.vl L];have v0:(I.upd 2000 [.vi S.length,ee,.vi S.length,.vl L]).w 2000= .vi S.length:=by rfl
   have v1:(I.upd 2000 [.vi S.length,ee,.vi S.length,.vl L]).w 2001=ee:=by rfl
   have v2:(I.upd 2000 [.vi S.length,ee,.vi S.length,.vl L]).w 2002= .vi S.length:=by rfl
   have v3:(I.upd 2000 [.vi S.length,ee,.vi S.length,.vl L]).w 2003= .vl L:=by rfl
   generalize I.upd 2000 [.vi S.length,ee,.vi S.length,.vl L]=aa at*
   refine cu ?_ ?_
   .show decide ((aa.w 2002).toI<((bU aa gF).toL.length:Int))=false;simp_all
   .show some (1,[aa.w 2000,aa.w 2001,aa.w 2002,aa.w 2003])=_;grind
end
end Go.Ev.S9
namespace Go.Ev.S9
open Go Go.Ev
def w9(I:Opq):List Val:=[I.w 0,I.w 1,I.w 2,I.w 3,I.w 4,I.w 5,I.w 6,I.w 7,I.w 8]
theorem dj7{m:List Val}{key v r:Val}(hk:Uv key=true)(hl:key.toS.length<=1000)(hr: ∃a b,r= .vl [.vi a,.vi b])(he:kf m key v r=0):rowS (nP m key v r):=by
 obtain⟨a,b,rfl⟩:=hr;obtain⟨c,d,e,f,hq⟩:=dU3 he;cases key with
 |vs k=>
  refine⟨k,a,b,c,d,e,f,?_,hl⟩;unfold nP Aj nR;unfold kf at he;rw[b9 (by simp[he]),hq];rfl
 |vi _=>cases hk
 |vb _=>cases hk
 |vl _=>cases hk
section
variable{X:Nat->List Val->Val}{I:Opq}(hf: ∀i a,I.f i a=FT X i a)
include hf
theorem t_tryE(h431: ∀l:List Val,(∀r∈l,rowS r)->(X 431 [.vl l]).toB=true)
 (hn:dB I (zn (zn (zn (zb (zl 4) 400) (.app 431 [aS])) (.app 491 [aS])) (.app 739 [aM,aS,bd]))=true):
 W7 T_tryE I=some (0,[.vi (dD (w9 I)),.vl (ew (w9 I)),eJ X (w9 I)]):=by
 obtain⟨m1,m2⟩:=W5 hn;obtain⟨m3,m4⟩:=W5 m1;have m2:(I.f 739 [I.w 0,I.w 4,I.w 6]).toB=true:=m2;rw[hf]at m2;have m2:((!decide ((I.w 0).toI=3)||decide ((I.w 4).toL.length<=24))&&Uv (I.w 6))=true:=m2;obtain⟨m5,m6⟩:=W5 m2;have t0:bU I rY= .vi (Z9 (I.w 5).toI (I.w 6).toS (I.w 7).toI (I.w 8).toI):=by
  show I.f 701 [I.w 5,I.w 6,I.w 7,I.w 8]=_;rw[hf];rfl
 have g9:dD (w9 I)=if Z9 (I.w 5).toI (I.w 6).toS (I.w 7).toI (I.w 8).toI≠0 then Z9 (I.w 5).toI (I.w 6).toS (I.w 7).toI (I.w 8).toI else if(I.w 5).toI≠1 then 2 else if(I.w 0).toI=3 then sM (I.w 3) (I.w 4).toL (I.w 6) (I.w 7) (I.w 8)else(kL (I.w 4).toL (cX (I.w 0).toI (I.w 1).toI (I.w 2).toI (I.w 3).toI (I.w 7)) (I.w 6) (I.w 8) (.vi 0)).toI:=rfl
 have gG:ew (w9 I)=if Z9 (I.w 5).toI (I.w 6).toS (I.w 7).toI (I.w 8).toI≠0\/(I.w 5).toI≠1 then []else if(I.w 0).toI=3 then nB (I.w 3) (I.w 4).toL (I.w 6) (I.w 7) (I.w 8)else []:=rfl
 have gR:eJ X (w9 I)=if Z9 (I.w 5).toI (I.w 6).toS (I.w 7).toI (I.w 8).toI≠0\/(I.w 5).toI≠1 then .vl []else if(I.w 0).toI=3 then .vl (nQ (I.w 3) (I.w 4).toL (I.w 6) (I.w 7) (I.w 8))else if dD (w9 I)≠0 then .vl []else X 490 [.vl (fV (I.w 4).toL (cX (I.w 0).toI (I.w 1).toI (I.w 2).toI (I.w 3).toI (I.w 7)) (I.w 6) (I.w 8) (cX (I.w 0).toI (I.w 1).toI (I.w 2).toI (I.w 3).toI (I.w 7)).length)]:=rfl
 rw[gR,g9,gG];have c0:dB I (dv rY aN)= !decide (Z9 (I.w 5).toI (I.w 6).toS (I.w 7).toI (I.w 8).toI=0):=by rw[eZ,cx,t0];rfl
 by_cases h0:Z9 (I.w 5).toI (I.w 6).toS (I.w 7).toI (I.w 8).toI≠0
 .rw[e8 h0,e8 (.inl h0),e8 (.inl h0)];refine cy (by rw[c0,j5 h0];rfl) ?_;show some (0,[bU I rY,Val.vl [],Val.vl []])=_;rw[t0]
 rw[b9 h0];have hlen:(I.w 5).toI=1->(I.w 6).toS.length<=32:=λh1=>by
  have h:=Classical.not_not.1 h0;rw[h1]at h;unfold Z9 at h;by_cases q:(I.w 6).toS=[]\/32<(I.w 6).toS.length
  .rw[e8 q]at h;cases h
  .exact D8.1 λhh=>q (.inr hh)
 replace h0:=Classical.not_not.1 h0;refine cu (by rw[c0,e9 h0];rfl) ?_;have c1:dB I (dv be aZ)= !decide ((I.w 5).toI=1):=by rw[eZ,cx,co]
 by_cases h1:(I.w 5).toI≠1
 .rw[e8 h1,e8 (.inr h1),e8 (.inr h1)];exact cy (by rw[c1,j5 h1];rfl) rfl
 have hd: ¬(Z9 (I.w 5).toI (I.w 6).toS (I.w 7).toI (I.w 8).toI≠0\/(I.w 5).toI≠1):=λh=>h.elim (λh=>h h0) h1
 simp only[b9 h1,b9 hd];replace h1:=Classical.not_not.1 h1;refine cu (by rw[c1,e9 h1];rfl) ?_;by_cases h3:(I.w 0).toI=3
 .simp[e8 h3];refine cy (by exact e9 h3) (W8 ?_ ?_)
  .rw[db,j7];refine⟨?_,m4⟩;rw[e9 h3]at m5;have m5:(I.w 4).toL.length<=24:=j6 m5;exact e9 (by show((I.w 4).toL.length:Int)<=24;omega)
  .show some (0,[I.f 729 [I.w 3,I.w 4,I.w 6,I.w 7,I.w 8],I.f 727 [I.w 3,I.w 4,I.w 6,I.w 7,I.w 8],I.f 728 [I.w 3,I.w 4,I.w 6,I.w 7,I.w 8]])=_;rw[hf,hf,hf];rfl
 simp only[b9 h3];refine cu (by exact j5 h3) ?_;have hS:=CL (k:=(I.w 0).toI) (s:=(I.w 1).toI) (l:=(I.w 2).toI) (g:=(I.w 3).toI) (t:=I.w 7) h3;have hvi:=dj6 (k:=(I.w 0).toI) (s:=(I.w 1).toI) (l:=(I.w 2).toI) (g:=(I.w 3).toI) (t:=I.w 7) h3;have d1:bU I gF= .vl (cX (I.w 0).toI (I.w 1).toI (I.w 2).toI (I.w 3).toI (I.w 7)):=by
  show I.f 704 [I.w 0,I.w 1,I.w 2,I.w 3,I.w 7]=_;rw[hf];rfl
 have W: ∀vs:List Val,∀n:Nat,n<2000->(I.upd 2000 vs).w n=I.w n:=λvs n hn=>by rw[cM,b9 (by omega)]
 have D1: ∀vs,bU (I.upd 2000 vs) gF= .vl (cX (I.w 0).toI (I.w 1).toI (I.w 2).toI (I.w 3).toI (I.w 7)):=λvs=>by
  exact d1
 generalize cX (I.w 0).toI (I.w 1).toI (I.w 2).toI (I.w 3).toI (I.w 7)=S at*
 have lp:=dU4 hf (e0:= .vi 0) D1 hS;rw[h0]at t0;obtain⟨k1,k2,k3⟩:=QW (I.w 4).toL S (I.w 6) (I.w 8);have e2:bU I yM=cr (0,[.vi (gI (I.w 4).toL S (I.w 6) (I.w 8)),kL (I.w 4).toL S (I.w 6) (I.w 8) (.vi 0),.vi (gI (I.w 4).toL S (I.w 6) (I.w 8)),.vl (fV (I.w 4).toL S (I.w 6) (I.w 8) (gI (I.w 4).toL S (I.w 6) (I.w 8)))]):=by
  show I.f 760 [.vi 0,bU I rY,.vi 0,.vl [],I.w 0,I.w 1,I.w 2,I.w 3,I.w 4,I.w 5,I.w 6,I.w 7,I.w 8,.vi (bU I gF).toL.length,bU I gF,.vi (bU I gF).toL.length]=_;rw[hf,t0,d1];rfl
 have lp':cI (λvs=>W7 Kg (I.upd 2000 vs)) (Z6 I [zL ck,rY,aN,ck])=some (0,[.vi (gI (I.w 4).toL S (I.w 6) (I.w 8)),kL (I.w 4).toL S (I.w 6) (I.w 8) (.vi 0),.vi (gI (I.w 4).toL S (I.w 6) (I.w 8)),.vl (fV (I.w 4).toL S (I.w 6) (I.w 8) (gI (I.w 4).toL S (I.w 6) (I.w 8)))]):=by
  show cI _ [.vi 0,bU I rY,.vi 0,.vl []]=_;rw[t0];exact lp
 have d3:bU I FU=kL (I.w 4).toL S (I.w 6) (I.w 8) (.vi 0):=by show bZ (bU I yM).toL 1 1=_;rw[e2];rfl
 have hX: ∃x,kL (I.w 4).toL S (I.w 6) (I.w 8) (.vi 0)= .vi x:=by
  unfold kL;split
  .exact⟨_,rfl⟩
  .split<;>exact⟨_,rfl⟩
 obtain⟨x,hX⟩:=hX;refine Z3 lp' e2 ?_;have c3:dB I (dv FU aN)= !decide (x=0):=by rw[eZ,cx,d3,hX];rfl
 by_cases hx:x=0
 .subst hx;have hK:gI (I.w 4).toL S (I.w 6) (I.w 8)=S.length:=by
   refine Q9 k1 (D8.1 λh=> ?_);unfold kL at hX;rw[e8 h]at hX;exact k3 h (Val.vi.inj hX)
  have d4:bU I Ed= .vi S.length:=by show bZ (bU I yM).toL 1 0=_;rw[e2,hK];rfl
  have d5:bU I Nc= .vl (fV (I.w 4).toL S (I.w 6) (I.w 8) S.length):=by show bZ (bU I yM).toL 1 3=_;rw[e2,hK];rfl
  have hl:(fV (I.w 4).toL S (I.w 6) (I.w 8) S.length).length=S.length:=mX (λi=>nP (I.w 4).toL (I.w 6) (I.w 8) (bW S i)) _;have d6:bU I Ap= .vl (fV (I.w 4).toL S (I.w 6) (I.w 8) S.length):=by
   show Val.vl (((bU I Nc).toL.drop (0:Int).toNat).take ((bU I Ed).toI-0).toNat)=_;rw[d4,d5];have:=cy6 (fV (I.w 4).toL S (I.w 6) (I.w 8) S.length);rw[hl]at this;exact congrArg Val.vl this
  have hrows: ∀r∈fV (I.w 4).toL S (I.w 6) (I.w 8) S.length,rowS r:=λr hr=>by
   unfold fV at hr;rw[qN]at hr;obtain⟨i,hi,hr⟩:=C1.1 hr;rw[n9]at hr;subst hr;have hi:=o8.1 hi;refine dj7 m6 (by omega) (hvi _ ?_) (k2 i (by omega));have:bW S i=S[i]:=by simp[bW,j9,hi]
   rw[this];exact C7 hi
  have h43:=h431 _ hrows;rw[hX,b9 (by simp)];generalize fV (I.w 4).toL S (I.w 6) (I.w 8) S.length=L at*
  refine cu (by rw[c3];rfl) (W8 ?_ ?_)
  .rw[db,db,db,cB,cB,cB,cx,cx,Z8,Z8,d4,d5,d6,j7,j7,j7];refine⟨⟨e9 (by show(0:Int)<=(S.length:Int);omega),e9 (by show(S.length:Int)<=(L.length:Int);omega)⟩,e9 (by show(L.length:Int)<=400;omega),?_⟩;show(I.f 431 [bU I Ap]).toB=true;rw[d6,hf];exact h43
  .show some (0,[Val.vi 0,Val.vl [],I.f 490 [bU I Ap]])=_;rw[d6,hf];rfl
 .rw[hX,e8 (by simpa using hx)];refine cy (by rw[c3,j5 hx];rfl) ?_;show some (0,[bU I FU,Val.vl [],Val.vl []])=_;rw[d3,hX];rfl
end
end Go.Ev.S9
namespace Go.Ev.S9
open Go Go.Ev
def e58:SX:= .op .row [bX gV aV 0,bX gV aV 1,bX gV aV 2]
def Qv:SX:= .op .row [bX dU aV 0,bX dU aV 1,bX dU aV 2]
def Ve:SX:= .op .row [bX dU aV 0,bX dU aV 1,bX dU aV 2,bX dU aV 3,bX dU aV 4,bX dU aV 5,bX dU aV 6]
def OZ:SX:= .op (.mfind [.str,.int .i64,.int .i64]) [aR,Qv]
theorem dU8{I:Opq}{G:List Val}{m:Val}(hG:G.length<=1000000)(D2: ∀vs,bU (I.upd 2000 vs) gV= .vl G):
 cI (λvs=>W7 QB (I.upd 2000 vs)) [.vi 0,m]=some (0,[.vi G.length,fI m G G.length]):=by
 refine eG (st:=λk=>[.vi k,fI m G k]) (n:=G.length) (λk hk=> ?_) ?_
 .show W7 QB (I.upd 2000 [.vi k,fI m G k])=some (0,[.vi (k+1:Nat),.vl ((fI m G k).toL.eraseIdx (gw (fI m G k).toL (eh (bW G k))))]);have D2:=D2 [.vi k,fI m G k];have v0:(I.upd 2000 [.vi k,fI m G k]).w 2000= .vi k:=by rfl
  have v1:(I.upd 2000 [.vi k,fI m G k]).w 2001=fI m G k:=by rfl
  generalize I.upd 2000 [.vi k,fI m G k]=aa at*
  have dk:bU aa e58=eh (bW G k):=by
   show Val.vl [bZ (bU aa gV).toL (aa.w 2000).toI 0,bZ (bU aa gV).toL (aa.w 2000).toI 1,bZ (bU aa gV).toL (aa.w 2000).toI 2]=_;rw[D2,v0];rfl
  have inc:cg .add .i64 (Val.vi (k:Int)).toI 1=((k+1:Nat):Int):=eH hk (by omega);refine cy ?_ (W8 ?_ ?_)
  .show decide ((aa.w 2000).toI<((bU aa gV).toL.length:Int))=true;simp_all
  .simp_all[cB,cx,co,e9]
  .show some (0,[Val.vi (cg .add .i64 (aa.w 2000).toI 1),Val.vl ((aa.w 2001).toL.eraseIdx (gw (aa.w 2001).toL (bU aa e58)))])=_;grind
 .have D2:=D2 [.vi G.length,fI m G G.length];have v0:(I.upd 2000 [.vi G.length,fI m G G.length]).w 2000= .vi G.length:=by rfl
  have v1:(I.upd 2000 [.vi G.length,fI m G G.length]).w 2001=fI m G G.length:=by rfl
  generalize I.upd 2000 [.vi G.length,fI m G G.length]=aa at*
  refine cu ?_ ?_
  .show decide ((aa.w 2000).toI<((bU aa gV).toL.length:Int))=false;simp_all
  .show some (1,[aa.w 2000,aa.w 2001])=_;grind
theorem dU9{I:Opq}{R:List Val}{m:Val}(hR:R.length<=1000000)(D1: ∀vs,(bU (I.upd 2000 vs) dU).toL=R):
 cI (λvs=>W7 RD (I.upd 2000 vs)) [.vi 0,m]=some (0,[.vi R.length,eU m R R.length]):=by
 refine eG (st:=λk=>[.vi k,eU m R k]) (n:=R.length) (λk hk=> ?_) ?_
 .show W7 RD (I.upd 2000 [.vi k,eU m R k])=some (0,[.vi (k+1:Nat),bif gy (eU m R k).toL (eh (bW R k))then .vl ((eU m R k).toL.set (gw (eU m R k).toL (eh (bW R k))) (cK (bW R k)))else .vl ((eU m R k).toL++[cK (bW R k)])]);have D1:=D1 [.vi k,eU m R k];have v0:(I.upd 2000 [.vi k,eU m R k]).w 2000= .vi k:=by rfl
  have v1:(I.upd 2000 [.vi k,eU m R k]).w 2001=eU m R k:=by rfl
  generalize I.upd 2000 [.vi k,eU m R k]=aa at*
  generalize eU m R k=M at*
  have dk:bU aa Qv=eh (bW R k):=by
   show Val.vl [bZ (bU aa dU).toL (aa.w 2000).toI 0,bZ (bU aa dU).toL (aa.w 2000).toI 1,bZ (bU aa dU).toL (aa.w 2000).toI 2]=_;rw[D1,v0];rfl
  have dn:bU aa Ve=cK (bW R k):=by
   show Val.vl [bZ (bU aa dU).toL (aa.w 2000).toI 0,bZ (bU aa dU).toL (aa.w 2000).toI 1,bZ (bU aa dU).toL (aa.w 2000).toI 2,bZ (bU aa dU).toL (aa.w 2000).toI 3,bZ (bU aa dU).toL (aa.w 2000).toI 4,bZ (bU aa dU).toL (aa.w 2000).toI 5,bZ (bU aa dU).toL (aa.w 2000).toI 6]=_;rw[D1,v0];rfl
  have dm:bU aa OZ= .vi (gw M.toL (eh (bW R k)):Nat):=by
   show Val.vi ((gw (aa.w 2001).toL (bU aa Qv):Nat):Int)=_;grind
  have inc:cg .add .i64 (Val.vi (k:Int)).toI 1=((k+1:Nat):Int):=eH hk (by omega);have e:decide (((gw M.toL (eh (bW R k)):Nat):Int)<(M.toL.length:Int))=gy M.toL (eh (bW R k)):=by
   simp_all[gy,decide_eq_decide]
  refine cy ?_ (W8 ?_ ?_)
  .show decide ((aa.w 2000).toI<((bU aa dU).toL.length:Int))=true;simp_all
  .simp_all[cB,cx,co,e9]
  .show some (0,[Val.vi (cg .add .i64 (aa.w 2000).toI 1),bif decide ((bU aa OZ).toI<((aa.w 2001).toL.length:Int))then Val.vl ((aa.w 2001).toL.set (bU aa OZ).toI.toNat (bU aa Ve))else Val.vl ((aa.w 2001).toL++[bU aa Ve])])=_;simp_all
 .have D1:=D1 [.vi R.length,eU m R R.length];have v0:(I.upd 2000 [.vi R.length,eU m R R.length]).w 2000= .vi R.length:=by rfl
  have v1:(I.upd 2000 [.vi R.length,eU m R R.length]).w 2001=eU m R R.length:=by rfl
  generalize I.upd 2000 [.vi R.length,eU m R R.length]=aa at*
  refine cu ?_ ?_
  .show decide ((aa.w 2000).toI<((bU aa dU).toL.length:Int))=false;simp_all
  .show some (1,[aa.w 2000,aa.w 2001])=_;grind
section
variable{X:Nat->List Val->Val}{I:Opq}(hf: ∀i a,I.f i a=FT X i a)
include hf
theorem dV0(hG:(ew (w9 I)).length<=1000000)(hR:(eJ X (w9 I)).toL.length<=1000000)
 (hn:dB I (zn (zn (zn (zb (zl 4) 400) (.app 431 [aS])) (.app 491 [aS])) (.app 739 [aM,aS,bd]))=true):
 W7 T_put I=some (0,[.vi (dD (w9 I)),fN X (w9 I)]):=by
 have W9: ∀vs:List Val,[(I.upd 2000 vs).w 0,(I.upd 2000 vs).w 1,(I.upd 2000 vs).w 2,(I.upd 2000 vs).w 3,(I.upd 2000 vs).w 4,(I.upd 2000 vs).w 5,(I.upd 2000 vs).w 6,(I.upd 2000 vs).w 7,(I.upd 2000 vs).w 8]=w9 I:=λvs=>by
  rfl
 have p0:bU I Fv= .vi (dD (w9 I)):=by
  show I.f 732 (w9 I)=_;rw[hf];rfl
 have p1:bU I dU=eJ X (w9 I):=by
  show I.f 731 (w9 I)=_;rw[hf];rfl
 have p2:bU I gV= .vl (ew (w9 I)):=by
  show I.f 730 (w9 I)=_;rw[hf];rfl
 have P1: ∀vs,(bU (I.upd 2000 vs) dU).toL=(eJ X (w9 I)).toL:=λvs=>by
  show(I.f 731 [(I.upd 2000 vs).w 0,(I.upd 2000 vs).w 1,(I.upd 2000 vs).w 2,(I.upd 2000 vs).w 3,(I.upd 2000 vs).w 4,(I.upd 2000 vs).w 5,(I.upd 2000 vs).w 6,(I.upd 2000 vs).w 7,(I.upd 2000 vs).w 8]).toL=_;rw[W9,hf];rfl
 have P2: ∀vs,bU (I.upd 2000 vs) gV= .vl (ew (w9 I)):=λvs=>by
  show I.f 730 [(I.upd 2000 vs).w 0,(I.upd 2000 vs).w 1,(I.upd 2000 vs).w 2,(I.upd 2000 vs).w 3,(I.upd 2000 vs).w 4,(I.upd 2000 vs).w 5,(I.upd 2000 vs).w 6,(I.upd 2000 vs).w 7,(I.upd 2000 vs).w 8]=_;rw[W9,hf];rfl
 have c0:dB I (dv Fv aN)= !decide (dD (w9 I)=0):=by rw[eZ,cx,p0];rfl
 have hm:fN X (w9 I)=if dD (w9 I)≠0 then I.w 4 else eU (fI (I.w 4) (ew (w9 I)) (ew (w9 I)).length) (eJ X (w9 I)).toL (eJ X (w9 I)).toL.length:=rfl
 rw[hm];refine W8 hn ?_;by_cases h:dD (w9 I)=0
 .refine cu (by grind) ?_;rw[h];generalize ew (w9 I)=G at*
  have e1:I.f 761 [.vi 0,I.w 4,I.w 0,I.w 1,I.w 2,I.w 3,I.w 4,.vi (bU I dU).toL.length,bU I dU,.vi (bU I gV).toL.length,bU I gV,.vi (bU I gV).toL.length]=cr (0,[.vi G.length,fI (I.w 4) G G.length]):=by
   rw[hf,p2];rfl
  have p3:bU I sf=fI (I.w 4) G G.length:=by
   show bZ (I.f 761 [.vi 0,I.w 4,I.w 0,I.w 1,I.w 2,I.w 3,I.w 4,.vi (bU I dU).toL.length,bU I dU,.vi (bU I gV).toL.length,bU I gV,.vi (bU I gV).toL.length]).toL 1 1=_;rw[e1];rfl
  refine Z3 (r:=(0,[.vi G.length,fI (I.w 4) G G.length])) (dU8 hG P2) e1 ?_;generalize fI (I.w 4) G G.length=M at*
  have e2:I.f 762 [.vi 0,bU I sf,I.w 0,I.w 1,I.w 2,I.w 3,bU I sf,.vi (bU I dU).toL.length,bU I dU,.vi (bU I dU).toL.length]=cr (0,[.vi (eJ X (w9 I)).toL.length,eU M (eJ X (w9 I)).toL (eJ X (w9 I)).toL.length]):=by
   rw[hf,p1,p3];rfl
  refine Z3 (r:=(0,[.vi (eJ X (w9 I)).toL.length,eU M (eJ X (w9 I)).toL (eJ X (w9 I)).toL.length])) ?_ e2 ?_
  .show cI _ [.vi 0,bU I sf]=_;rw[p3];exact dU9 hR P1
  .show some (0,[Val.vi 0,bZ (I.f 762 [.vi 0,bU I sf,I.w 0,I.w 1,I.w 2,I.w 3,bU I sf,.vi (bU I dU).toL.length,bU I dU,.vi (bU I dU).toL.length]).toL 1 1])=_;rw[e2];rfl
 .rw[e8 h];refine cy (by grind) ?_;show some (0,[bU I Fv,I.w 4])=_;rw[p0]
end
end Go.Ev.S9
namespace Go.Ev.S9
open Go Go.Ev
def cH(x:Int):Prop:= -9223372036854775808<=x/\x<9223372036854775808
def qS(g:Nat->Int):Nat->Int
 |0=>0
 |k+1=>qS g k+g k
theorem VX{x:Int}(h: -18446744073709551616<=x)(h2:x<18446744073709551616):cH (IntKind.i64.wrap x)/\((cH x/\IntKind.i64.wrap x=x)\/(x< -9223372036854775808/\IntKind.i64.wrap x=x+18446744073709551616)\/(9223372036854775808<=x/\IntKind.i64.wrap x=x-18446744073709551616)):=by
 grind[cH,IntKind.wrap,IntKind.bits,IntKind.signed]
theorem bc8{g:Nat->Int}(hg: ∀k,cH (g k)): ∀n:Nat,n<=1000000->cH (fw g n).1/\ -(n:Int)<=(fw g n).2/\(fw g n).2<=n/\(fw g n).1+(fw g n).2*18446744073709551616=qS g n
 |0,_=>⟨⟨by show(-9223372036854775808:Int)<=0;omega,by show(0:Int)<9223372036854775808;omega⟩,by show-((0:Nat):Int)<=0;omega,by show(0:Int)<=((0:Nat):Int);omega,rfl⟩
 |n+1,hn=>by
  obtain⟨a,b,c,d⟩:=bc8 hg n (by omega);have hx:=hg n;unfold qS;rw[show fw g (n+1)=if 0<=(fw g n).1/\0<=g n/\cg .add .i64 (fw g n).1 (g n)<0 then(cg .add .i64 (fw g n).1 (g n),cg .add .i64 (fw g n).2 1)else if(fw g n).1<0/\g n<0/\0<=cg .add .i64 (fw g n).1 (g n)then(cg .add .i64 (fw g n).1 (g n),cg .sub .i64 (fw g n).2 1)else(cg .add .i64 (fw g n).1 (g n),(fw g n).2)from rfl];generalize (fw g n).1=s at*
  generalize g n=x at*
  have w:=VX (x:=s+x) (by have:=a.1;have:=hx.1;omega) (by have:=a.2;have:=hx.2;omega);grind[cg,gb,lQ,cH]
theorem bz6{g:Nat->Int}(hg: ∀k,cH (g k)){n:Nat}(hn:n<=1000000):((fw g n).2=0↔cH (qS g n))/\((fw g n).2=0->(fw g n).1=qS g n):=by
 grind[bc8,cH,fw]
end Go.Ev.S9
