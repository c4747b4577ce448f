import Derived.Test.YtdbiooidpgafaaaGreatEL1
set_option linter.unusedSimpArgs false
set_option linter.unusedVariables false
namespace Go.Ev.S9
open Go Go.Ev
theorem bm6{step:List Val→Option (Nat×List Val)}{n:Nat}{a0:List Val}{g:Nat→List Val}(mk:Nat→List Val→List Val){s0 p:List Val}(h0:s0=mk 0 a0)
 (h1: ∀i,i<n→step (mk i (a0++Y2 g i))=some (0,mk (i+1) (a0++Y2 g i++g i))) (h2:step (mk n (a0++Y2 g n))=some (1,p)):R9 step s0=some (0,p):=by
 have:=Z6 (step:=step) (st:=fun i=>mk i (a0++Y2 g i)) (n:=n) (j:=0) (p:=p) (fun i hi=>by
   show step (mk i (a0++Y2 g i))=some (0,mk (i+1) (a0++(Y2 g i++g i)))
   rw[h1 i hi,v8]) h2
 rw[h0]
 simpa only[Y2,x7]using this
theorem a18(f:Nat→Val): ∀n,(Y2 (fun i=>[f i]) n).length=n
 |0=>rfl
 |n+1=>by rw[Y2,j9,a18 f n];rfl
theorem aI3{s l:Int}(h:s % l=0)(hl:1≤l)(hs:1≤s):((s/l).toNat:Int)*l=s∧1≤(s/l).toNat:=by
 have h1:0≤s/l:=Int.ediv_nonneg (by omega) (by omega)
 have h2:=Int.emod_def s l
 have h3:l*(s/l)=s:=by omega
 have h4:((s/l).toNat:Int)=s/l:=K9 h1
 refine⟨by rw[h4,F5];exact h3,?_⟩
 rcases J1 (s/l).toNat with z|z
 ·have:s/l=0:=by omega
  rw[this]at h3;omega
 ·exact z
theorem cf3{ω:Opq}{B:VT}{st step size:Int}{n:Nat}(hB: ∀(i:Nat) (acc:List Val),i<n→acc.length=i→Q1 B (ω.upd 2000 [.vi i,.vi (st+i*step),.vl acc])=some (0,[.vi (i+1:Nat),.vi (st+(i+1:Nat)*step),.vl (acc++bb3 st step size i)]))
 (hE: ∀acc:List Val,Q1 B (ω.upd 2000 [.vi n,.vi (st+n*step),.vl acc])=some (1,[.vi n,.vi (st+n*step),.vl acc])):
 R9 (fun vs=>Q1 B (ω.upd 2000 vs)) [.vi 0,.vi st,.vl []]=some (0,[.vi n,.vi (st+n*step),.vl (Y2 (bb3 st step size) n)]):=by
 refine bm6 (fun i acc=>[.vi i,.vi (st+i*step),.vl acc]) (a0:=[]) (g:=bb3 st step size) (n:=n) ?_ (fun i hi=> ?_) ?_
 ·simp
 ·exact hB i _ hi (by rw[List.nil_append];exact a18 _ i)
 ·rw[List.nil_append];exact hE _
theorem cx5{ω:Opq}(a b:SX):dB ω (.op (.cmp .geq) [a,b])=decide ((den ω b).toI≤(den ω a).toI):=rfl
theorem V3{ω:Opq}(a b:SX):dB ω (.op (.cmp .leq) [a,b])=decide ((den ω a).toI≤(den ω b).toI):=rfl
theorem aC8{ω:Opq}(a b:SX):dB ω (.op (.cmp .eql) [a,b])=decide ((den ω a).toI=(den ω b).toI):=rfl
theorem aG1{ω:Opq}(a:SX):dB ω (.op .not [a])= !dB ω a:=rfl
theorem Z1{ω:Opq}(a b:SX):dB ω (zn a b)=(dB ω a&&dB ω b):=rfl
theorem a08{ω:Opq}(n:Int):(den ω (.ci n)).toI=n:=rfl
theorem ad3{ω:Opq}(n:Nat):(den ω (.va n)).toI=(ω.w n).toI:=rfl
section
variable{X:Nat→List Val→Val}{ω:Opq}(hf: ∀i a,ω.f i a=FT X i a)
include hf
theorem t_wOf:Q1 T_wOf ω=some (0,[FT X 704 [ω.w 0,ω.w 1,ω.w 2,ω.w 3,ω.w 4]]):=by
 show Q1 T_wOf ω=some (0,[Val.vl (ofV (ω.w 0).toI (ω.w 1).toI (ω.w 2).toI (ω.w 3).toI (ω.w 4))])
 generalize hk:(ω.w 0).toI=k
 generalize hs:(ω.w 1).toI=s
 generalize hl:(ω.w 2).toI=l
 generalize hg:(ω.w 3).toI=g
 unfold T_wOf ofV
 generalize ht:(ω.w 4).toI=t
 have r0:den ω (.app 700 [.va 0,.va 1,.va 2,.va 3])= .vb (T2 k s l g):=by
  show ω.f 700 [ω.w 0,ω.w 1,ω.w 2,ω.w 3]=_
  rw[hf,←hk,←hs,←hl,←hg];rfl
 cases hR:T2 k s l g with
 |false=>
  refine T7 ?_ rfl
  show(!(den ω (.app 700 [.va 0,.va 1,.va 2,.va 3])).toB)=true
  rw[r0,hR];rfl
 |true=>
 refine T1 (by show(!(den ω (.app 700 [.va 0,.va 1,.va 2,.va 3])).toB)=false;rw[r0,hR];rfl) ?_
 by_cases t1: ¬ -1099511627776≤t
 ·have e:U8 t=false:=by unfold U8;rw[decide_eq_false t1];rfl
  rw[e]
  exact T1 (by rw[cx5,a08,ad3,ht];exact decide_eq_false t1) rfl
 replace t1:=Classical.not_not.1 t1
 refine T7 (by rw[cx5,a08,ad3,ht];exact decide_eq_true t1) ?_
 by_cases t2: ¬t≤1099511627776
 ·have e:U8 t=false:=by unfold U8;rw[decide_eq_false t2,Bool.and_false]
  rw[e]
  exact T7 (by rw[aG1,V3,a08,ad3,ht,decide_eq_false t2];rfl) rfl
 replace t2:=Classical.not_not.1 t2
 have e:U8 t=true:=by unfold U8;rw[decide_eq_true t1,decide_eq_true t2];rfl
 rw[e]
 refine T1 (by rw[aG1,V3,a08,ad3,ht,decide_eq_true t2];rfl) ?_
 show Q1 _ ω=some (0,[Val.vl (if k=3 then [.vl [ω.w 4,.vi (t+g)]]else Y2 (bb3 (al0 t (Z9 k s l)-s+Z9 k s l) (Z9 k s l) s) (aF9 k s l))])
 by_cases k3:k=3
 ·rw[if_pos k3]
  refine T7 (by show decide ((ω.w 0).toI=3)=true;rw[hk];exact decide_eq_true k3) ?_
  have:arI .add .i64 t g=t+g:=by
   unfold T2 at hR
   simp[k3]at hR
   exact ak8 (by omega) (by omega)
  show some (0,[Val.vl [Val.vl [ω.w 4,Val.vi (arI .add .i64 (ω.w 4).toI (ω.w 3).toI)]]])=_
  rw[ht,hg,this]
 rw[if_neg k3]
 refine T1 (by show decide ((ω.w 0).toI=3)=false;rw[hk];exact decide_eq_false k3) ?_
 by_cases k2:k=2
 ·refine T7 (by show decide ((ω.w 0).toI=2)=true;rw[hk];exact decide_eq_true k2) ?_
  have hR':(1≤s∧s≤1048576)∧(1≤l∧l≤1048576)∧s % l=0∧s/l≤16:=by
   unfold T2 at hR
   simp[k2]at hR
   omega
  obtain⟨⟨s1,s2⟩,⟨l1,l2⟩,sl,sq⟩:=hR'
  obtain⟨n1,n2⟩:=aI3 sl l1 s1
  have hst:Z9 k s l=l:=if_pos k2
  have hN:aF9 k s l=(s/l).toNat:=by unfold aF9;rw[hst]
  rw[hst,hN]
  have hn16:(s/l).toNat≤16:=by omega
  generalize (s/l).toNat=n at n1 n2 hN hn16
  have q0:=K7 t (show l≠0 by omega)
  have q1:=K8 t (show 0<l by omega)
  have hd:den ω (.app 709 [.va 4,.va 2])= .vi (al0 t l):=by
   show ω.f 709 [ω.w 4,ω.w 2]=_
   rw[hf,←ht,←hl];rfl
  have hD:al0 t l=t-t % l:=rfl
  generalize al0 t l=D at hd hD
  have a1:arI .sub .i64 D s=D-s:=aF8 (by omega) (by omega)
  have a2:arI .add .i64 (D-s) l=D-s+l:=ak8 (by omega) (by omega)
  have hw0:den ω cc8= .vi (D-s+l):=by
   show Val.vi (arI .add .i64 (arI .sub .i64 (den ω (.app 709 [.va 4,.va 2])).toI (ω.w 1).toI) (ω.w 2).toI)=_
   rw[hd,hs,hl];show Val.vi (arI .add .i64 (arI .sub .i64 D s) l)=_;rw[a1,a2]
  have e0:den ω cc9=W4 (0,[.vi n,.vi (D-s+l+n*l),.vl (Y2 (bb3 (D-s+l) l s) n)]):=by
   show ω.f 753 [.vi 0,den ω cc8,.vl [],ω.w 0,ω.w 1,ω.w 2,ω.w 3,den ω (.app 709 [.va 4,.va 2])]=_
   rw[hf,hw0]
   show W4 (0,[.vi (aF9 (ω.w 0).toI (ω.w 1).toI (ω.w 2).toI),.vi (D-s+l+aF9 (ω.w 0).toI (ω.w 1).toI (ω.w 2).toI*Z9 (ω.w 0).toI (ω.w 1).toI (ω.w 2).toI),.vl (Y2 (bb3 (D-s+l) (Z9 (ω.w 0).toI (ω.w 1).toI (ω.w 2).toI) (ω.w 1).toI) (aF9 (ω.w 0).toI (ω.w 1).toI (ω.w 2).toI))])=_
   rw[hk,hs,hl,hN,hst]
  have e1:den ω cd0= .vl (Y2 (bb3 (D-s+l) l s) n):=by show R6 (den ω cc9).toL 1 2=_;rw[e0];rfl
  refine Q6 (by
   rw[Z1,V3,V3,a08,a08,ad3,hl,decide_eq_true l1,decide_eq_true l2];rfl) (Q8 (r:=(0,[.vi n,.vi (D-s+l+n*l),.vl (Y2 (bb3 (D-s+l) l s) n)])) ?_ e0 (Q6 ?_ ?_))
  ·show R9 _ [.vi 0,den ω cc8,.vl []]=_
   rw[hw0]
   have hd':ω.f 709 [ω.w 4,ω.w 2]= .vi D:=hd
   refine cf3 (size:=s) (fun i acc hi hacc=> ?_) (fun acc=> ?_)
   ·have b1:(i:Int)*l+l≤n*l:=by
     have:((i:Int)+1)*l≤n*l:=O8 (by omega) (by omega)
     rw[G9]at this;omega
    have b2:0≤(i:Int)*l:=Int.mul_nonneg (by omega) (by omega)
    have b3:((i+1:Nat):Int)*l=(i:Int)*l+l:=by rw[Int.natCast_add,G9];simp
    have p1:D-s+l+(i:Int)*l≤D:=by omega
    have p2:arI .add .i64 (D-s+l+(i:Int)*l) l=D-s+l+((i:Int)*l+l):=by rw[ak8 (by omega) (by omega)];omega
    have p3:arI .add .i64 (D-s+l+(i:Int)*l) s=D-s+l+(i:Int)*l+s:=ak8 (by omega) (by omega)
    have p4:(i:Int)+1≤1000000:=by omega
    rw[b3]
    unfold dj5 bb3
    generalize (i:Int)*l=z at*
    simp[Q1,Q4,den,dB,X5,Q3,ah9,hd',hk,hs,hl,k2,p1,p2,p3,p4,hacc]
   ·have p1: ¬D-s+l+(n:Int)*l≤D:=by omega
    unfold dj5
    simp[Q1,Q4,den,dB,X5,Q3,ah9,hd',p1]
  ·show decide ((R6 (den ω cc9).toL 1 0).toI=((den ω cd0).toL.length:Int))=true
   rw[e1,e0]
   exact decide_eq_true (congrArg Int.ofNat (a18 _ n).symm)
  ·show some (0,[den ω cd0])=_
   rw[e1]
 ·refine T1 (by show decide ((ω.w 0).toI=2)=false;rw[hk];exact decide_eq_false k2) ?_
  have hR':1≤s∧s≤1048576:=by
   unfold T2 at hR
   by_cases k1:k=1
   ·simp[k1]at hR;omega
   ·simp[k1,k2,k3]at hR
  obtain⟨s1,s2⟩:=hR'
  have sl:s % s=0:=Int.emod_self
  obtain⟨n1,n2⟩:=aI3 sl s1 s1
  have hst:Z9 k s l=s:=if_neg k2
  have hN:aF9 k s l=(s/s).toNat:=by unfold aF9;rw[hst]
  rw[hst,hN]
  have hn16:(s/s).toNat≤16:=by rw[Int.ediv_self (by omega)];decide
  generalize (s/s).toNat=n at n1 n2 hN hn16
  have q0:=K7 t (show s≠0 by omega)
  have q1:=K8 t (show 0<s by omega)
  have hd:den ω (.app 709 [.va 4,.va 1])= .vi (al0 t s):=by
   show ω.f 709 [ω.w 4,ω.w 1]=_
   rw[hf,←ht,←hs];rfl
  have hD:al0 t s=t-t % s:=rfl
  generalize al0 t s=D at hd hD
  have a1:arI .sub .i64 D s=D-s:=aF8 (by omega) (by omega)
  have a2:arI .add .i64 (D-s) s=D-s+s:=ak8 (by omega) (by omega)
  have hw0:den ω cd1= .vi (D-s+s):=by
   show Val.vi (arI .add .i64 (arI .sub .i64 (den ω (.app 709 [.va 4,.va 1])).toI (ω.w 1).toI) (ω.w 1).toI)=_
   rw[hd,hs];show Val.vi (arI .add .i64 (arI .sub .i64 D s) s)=_;rw[a1,a2]
  have e0:den ω cd2=W4 (0,[.vi n,.vi (D-s+s+n*s),.vl (Y2 (bb3 (D-s+s) s s) n)]):=by
   show ω.f 753 [.vi 0,den ω cd1,.vl [],ω.w 0,ω.w 1,ω.w 2,ω.w 3,den ω (.app 709 [.va 4,.va 1])]=_
   rw[hf,hw0]
   show W4 (0,[.vi (aF9 (ω.w 0).toI (ω.w 1).toI (ω.w 2).toI),.vi (D-s+s+aF9 (ω.w 0).toI (ω.w 1).toI (ω.w 2).toI*Z9 (ω.w 0).toI (ω.w 1).toI (ω.w 2).toI),.vl (Y2 (bb3 (D-s+s) (Z9 (ω.w 0).toI (ω.w 1).toI (ω.w 2).toI) (ω.w 1).toI) (aF9 (ω.w 0).toI (ω.w 1).toI (ω.w 2).toI))])=_
   rw[hk,hs,hl,hN,hst]
  have e1:den ω cd3= .vl (Y2 (bb3 (D-s+s) s s) n):=by show R6 (den ω cd2).toL 1 2=_;rw[e0];rfl
  refine Q6 (by
   rw[Z1,V3,V3,a08,a08,ad3,hs,decide_eq_true s1,decide_eq_true s2];rfl) (Q8 (r:=(0,[.vi n,.vi (D-s+s+n*s),.vl (Y2 (bb3 (D-s+s) s s) n)])) ?_ e0 (Q6 ?_ ?_))
  ·show R9 _ [.vi 0,den ω cd1,.vl []]=_
   rw[hw0]
   have hd':ω.f 709 [ω.w 4,ω.w 1]= .vi D:=hd
   refine cf3 (size:=s) (fun i acc hi hacc=> ?_) (fun acc=> ?_)
   ·have b1:(i:Int)*s+s≤n*s:=by
     have:((i:Int)+1)*s≤n*s:=O8 (by omega) (by omega)
     rw[G9]at this;omega
    have b2:0≤(i:Int)*s:=Int.mul_nonneg (by omega) (by omega)
    have b3:((i+1:Nat):Int)*s=(i:Int)*s+s:=by rw[Int.natCast_add,G9];simp
    have p1:D-s+s+(i:Int)*s≤D:=by omega
    have p2:arI .add .i64 (D-s+s+(i:Int)*s) s=D-s+s+((i:Int)*s+s):=by rw[ak8 (by omega) (by omega)];omega
    have p3:arI .add .i64 (D-s+s+(i:Int)*s) s=D-s+s+(i:Int)*s+s:=ak8 (by omega) (by omega)
    have p4:(i:Int)+1≤1000000:=by omega
    rw[b3]
    unfold cd4 bb3
    generalize (i:Int)*s=z at*
    simp only[Int.sub_add_cancel]at p1 p2 p3⊢
    simp[Q1,Q4,den,dB,X5,Q3,ah9,hd',hk,hs,k2,p1,p2,p3,p4,hacc]
    omega
   ·have p1: ¬D-s+s+(n:Int)*s≤D:=by omega
    unfold cd4
    simp only[Int.sub_add_cancel]at p1⊢
    simp[Q1,Q4,den,dB,X5,Q3,ah9,hd',p1]
  ·show decide ((R6 (den ω cd2).toL 1 0).toI=((den ω cd3).toL.length:Int))=true
   rw[e1,e0]
   exact decide_eq_true (congrArg Int.ofNat (a18 _ n).symm)
  ·show some (0,[den ω cd3])=_
   rw[e1]
end
end Go.Ev.S9
namespace Go.Ev.S9
open Go Go.Ev
theorem a3{p q r:Prop} [Decidable p] [Decidable q] [Decidable r](hp:p)(hq:q)(hr:r):(decide p&&decide q&&decide r)=true:=by simp[hp,hq,hr]
theorem d84(l:List Val)(c k:Nat):(jG l c k).length≤1:=by unfold jG;cases ay4 (atV l k)<;>simp
theorem d85(l:List Val): ∀k,(Y2 (jG l 1) k).length=(Y2 (jG l 0) k).length
 |0=>rfl
 |k+1=>by
  rw[Y2,Y2,j9,j9,d85 l k]
  unfold jG
  cases ay4 (atV l k)<;>simp
theorem bK1(l:List Val): ∀k,∃a b c d,jS l k=[a,b,c,d]
 |0=>⟨_,_,_,_,rfl⟩
 |k+1=>by
  unfold jS
  cases ay4 (atV l k)with
  |true=>exact bK1 l k
  |false=>
   simp only[cond_false]
   split<;>exact⟨_,_,_,_,rfl⟩
def jSt(l:List Val)(k:Nat):List Val:=[.vi (Y2 (jG l 0) k).length,.vi (Y2 (jG l 1) k).length,.vi k]++jS l k++[.vl (Y2 (jG l 0) k),.vl (Y2 (jG l 1) k)]
section
variable{X:Nat→List Val→Val}{ω:Opq}(hf: ∀i a,ω.f i a=FT X i a)
include hf
theorem t_join(hn:(ω.w 0).toL.length≤1000):Q1 T_join ω=some (0,[(jR (ω.w 0).toL).getD 0 default,(jR (ω.w 0).toL).getD 1 default,(jR (ω.w 0).toL).getD 2 default,(jR (ω.w 0).toL).getD 3 default,FT X 706 [ω.w 0]]):=by
 have gl: ∀k,(Y2 (jG (ω.w 0).toL 0) k).length≤k:=fun k=>by simpa using a64 (g:=jG (ω.w 0).toL 0) (m:=1) (fun _=>d84 _ _ _) k
 have gs: ∀k,(Y2 (jG (ω.w 0).toL 1) k).length=(Y2 (jG (ω.w 0).toL 0) k).length:=fun k=>d85 _ k
 have e0:den ω a43=W4 (0,jSt (ω.w 0).toL (ω.w 0).toL.length):=by
  show ω.f 752 [.vi 0,.vi 0,.vi 0,.vi 0,.vi 0,.vi 0,.vi 0,.vl [],.vl [],.vi 0,.vi (ω.w 0).toL.length,ω.w 0,.vi (ω.w 0).toL.length]=_
  rw[hf];rfl
 have lp:R9 (fun vs=>Q1 dd5 (ω.upd 2000 vs)) [.vi 0,.vi 0,.vi 0,.vi 0,.vi 0,.vi 0,.vi 0,.vl [],.vl []]=some (0,jSt (ω.w 0).toL (ω.w 0).toL.length):=by
  refine Z6 (st:=jSt (ω.w 0).toL) (n:=(ω.w 0).toL.length) (fun k hk=> ?_) ?_
  ·have p1:(k:Int)<((ω.w 0).toL.length:Int):=by omega
   have p2:(0:Int)≤(k:Int):=by omega
   have p3:=a03 hk (by omega)
   have p4: ∀j:Nat,R6 (ω.w 0).toL (k:Int) (j:Int)=Q9 (atV (ω.w 0).toL k) j:=fun _=>rfl
   have q0:=p4 0
   have q1:=p4 1
   have q2:=p4 2
   have q3:=p4 3
   simp only[Int.natCast_zero,show((1:Nat):Int)=1 from rfl,show((2:Nat):Int)=2 from rfl,show((3:Nat):Int)=3 from rfl]at q0 q1 q2 q3
   have g1:=gl k
   have g2:=gs k
   obtain⟨a,b,c,d,hS⟩:=bK1 (ω.w 0).toL k
   unfold jSt
   rw[Y2,Y2,jS,hS]
   generalize Y2 (jG (ω.w 0).toL 0) k=C at*
   generalize Y2 (jG (ω.w 0).toL 1) k=T at*
   have g3:(C.length:Int)+1≤1000000:=by omega
   have g4:(T.length:Int)=(C.length:Int):=by omega
   unfold jG ay4 ak9 ci
   generalize hr:atV (ω.w 0).toL k=r at*
   unfold dd5
   by_cases hb:(Q9 r 0).toI=0∧(Q9 r 1).toI=0∧(Q9 r 2).toI=0∧(Q9 r 3).toI=0
   ·simp[Q1,Q4,den,dB,X5,Q3,p1,p2,p3,q0,q1,q2,q3,hb]
   ·have hb':(decide ((Q9 r 0).toI=0)&&(decide ((Q9 r 1).toI=0)&&(decide ((Q9 r 2).toI=0)&&decide ((Q9 r 3).toI=0))))=false:=by
     rw[←u4];intro h;exact hb (by simpa using h)
    simp only[hb',cond_false]
    by_cases hz:C.length=0
    ·simp[Q1,Q4,den,dB,X5,Q3,p1,p2,p3,q0,q1,q2,q3,hb,hz,g2,g3,g4]
    ·simp[Q1,Q4,den,dB,X5,Q3,p1,p2,p3,q0,q1,q2,q3,hb,hz,g2,g3,g4]
  ·obtain⟨a,b,c,d,hS⟩:=bK1 (ω.w 0).toL (ω.w 0).toL.length
   unfold jSt dd5
   rw[hS]
   simp[Q1,Q4,den,dB,X5,Q3]
 obtain⟨a,b,c,d,hS⟩:=bK1 (ω.w 0).toL (ω.w 0).toL.length
 have cl:(jC (ω.w 0).toL).length≤1000:=p7 (gl _) hn
 have tl:(jT (ω.w 0).toL).length≤1000:=by have:=gs (ω.w 0).toL.length;unfold jT;have:=gl (ω.w 0).toL.length;omega
 have e1:den ω a43=W4 (0,[.vi (jC (ω.w 0).toL).length,.vi (jT (ω.w 0).toL).length,.vi (ω.w 0).toL.length,a,b,c,d,.vl (jC (ω.w 0).toL),.vl (jT (ω.w 0).toL)]):=by
  rw[e0];unfold jSt;rw[hS];rfl
 have d1:den ω bl9= .vi (jC (ω.w 0).toL).length:=by show R6 (den ω a43).toL 1 0=_;rw[e1];rfl
 have d2:den ω bm0= .vl (jC (ω.w 0).toL):=by show R6 (den ω a43).toL 1 7=_;rw[e1];rfl
 have d4:den ω bm1= .vi (jT (ω.w 0).toL).length:=by show R6 (den ω a43).toL 1 1=_;rw[e1];rfl
 have d5:den ω bm2= .vl (jT (ω.w 0).toL):=by show R6 (den ω a43).toL 1 8=_;rw[e1];rfl
 have d6:den ω (zo a43 5)=c:=by show R6 (den ω a43).toL 1 5=_;rw[e1];rfl
 have d7:den ω (zo a43 6)=d:=by show R6 (den ω a43).toL 1 6=_;rw[e1];rfl
 have ls: ∀l:List Val,(l.drop (0:Int).toNat).take ((l.length:Int)-0).toNat=l:=fun l=>by simp
 have d3:den ω ak6= .vl (jC (ω.w 0).toL):=by
  show Val.vl (((den ω bm0).toL.drop (0:Int).toNat).take ((den ω bl9).toI-0).toNat)=_
  rw[d1,d2];exact congrArg Val.vl (ls _)
 have d8:den ω ap8= .vl (jT (ω.w 0).toL):=by
  show Val.vl (((den ω bm2).toL.drop (0:Int).toNat).take ((den ω bm1).toI-0).toNat)=_
  rw[d4,d5];exact congrArg Val.vl (ls _)
 unfold T_join
 refine Q8 lp e0 (Q6 ?_ (Q6 ?_ ?_))
 ·rw[Z1,Z1,V3,V3,V3,a08,a08,d1]
  show((decide ((0:Int)≤((jC (ω.w 0).toL).length:Int))&&decide (((jC (ω.w 0).toL).length:Int)≤((den ω bm0).toL.length:Int)))&&decide (((den ω ak6).toL.length:Int)≤1000000))=true
  rw[d2,d3];exact a3 (by omega) (y8 _) (by show((jC (ω.w 0).toL).length:Int)≤1000000;omega)
 ·rw[Z1,Z1,V3,V3,V3,a08,a08,d4]
  show((decide ((0:Int)≤((jT (ω.w 0).toL).length:Int))&&decide (((jT (ω.w 0).toL).length:Int)≤((den ω bm2).toL.length:Int)))&&decide (((den ω ap8).toL.length:Int)≤1000000))=true
  rw[d5,d8];exact a3 (by omega) (y8 _) (by show((jT (ω.w 0).toL).length:Int)≤1000000;omega)
 ·have f1:ω.f 703 [den ω ak6]= .vi (aV6 (jC (ω.w 0).toL)):=by rw[hf,d3];rfl
  have f2:ω.f 703 [den ω ap8]= .vi (aV6 (jT (ω.w 0).toL)):=by rw[hf,d8];rfl
  have f3:ω.f 702 [den ω ak6]= .vi (cd6 (jC (ω.w 0).toL)):=by rw[hf,d3];rfl
  have f4:ω.f 702 [den ω ap8]= .vi (cd6 (jT (ω.w 0).toL)):=by rw[hf,d8];rfl
  show Q1 (.ite (.op (.cmp .neq) [.app 703 [ak6],.ci 0]) _ _) ω=some (0,[(jR (ω.w 0).toL).getD 0 default,(jR (ω.w 0).toL).getD 1 default,(jR (ω.w 0).toL).getD 2 default,(jR (ω.w 0).toL).getD 3 default,.vi (jE (ω.w 0).toL)])
  unfold jR jE
  rw[hS]
  by_cases h1:aV6 (jC (ω.w 0).toL)=0
  ·refine T1 ?_ ?_
   ·show(!decide ((ω.f 703 [den ω ak6]).toI=0))=false
    rw[f1];simp[h1]
   ·by_cases h2:aV6 (jT (ω.w 0).toL)=0
    ·rw[if_neg (by simp[h1,h2]),if_neg (by simp[h1,h2])]
     refine T1 ?_ ?_
     ·show(!decide ((ω.f 703 [den ω ap8]).toI=0))=false
      rw[f2];simp[h2]
     ·show some (0,[ω.f 702 [den ω ak6],ω.f 702 [den ω ap8],den ω (zo a43 5),den ω (zo a43 6),.vi 0])=_
      rw[f3,f4,d6,d7];rfl
    ·rw[if_pos (.inr h2),if_pos (.inr h2)]
     refine T7 ?_ rfl
     show(!decide ((ω.f 703 [den ω ap8]).toI=0))=true
     rw[f2];simp[h2]
  ·rw[if_pos (.inl h1),if_pos (.inl h1)]
   refine T7 ?_ rfl
   show(!decide ((ω.f 703 [den ω ak6]).toI=0))=true
   rw[f1];simp[h1]
end
end Go.Ev.S9
namespace Go.Ev.S9
open Go Go.Ev
theorem aT1{ω:Opq}{hd:LHd}{l:SX}{b k:VT}{ks:List VT}{D:List Val}{x:Option (Nat×List Val)}(h1:cV1 (fun vs=>Q1 b (ω.upd hd.v0 vs)) (dL ω l).length (Q4 ω hd.s0) D)(h2:ω.f hd.id (Q4 ω (hd.s0++hd.fv))=W4 (0,[.vi D.length,.vl D]))(h3:Q1 k ω=x):Q1 (.mloop hd l b (k::ks)) ω=x:=by
 rw[Q1,if_pos ⟨D,h1,h2⟩];exact h3
theorem run_map{step:List Val→Option (Nat×List Val)}{g:Nat→List Val}(hg: ∀i,(g i).length≤1)
 (h: ∀(i:Nat) (A:List Val),A.length<1000000→step [.vi A.length,.vl A,.vi i]=some (0,[.vi (A++g i).length,.vl (A++g i)])): ∀(p:List Nat) (A:List Val),A.length+p.length≤1000000→
 aT8 step p [.vi A.length,.vl A]=some [.vi (A++p.flatMap g).length,.vl (A++p.flatMap g)]
 | [],A,_=>by rw[List.flatMap_nil,x7];rfl
 |i::p,A,hl=>by
  rw[List.length_cons]at hl
  have:=hg i
  have ih:=run_map hg h p (A++g i) (by rw[j9];omega)
  rw[aT8]
  show(match step [.vi A.length,.vl A,.vi i]with|some (0,s')=>aT8 step p s'|_=>none)=_
  rw[h i A (by omega)]
  show aT8 _ p [.vi (A++g i).length,.vl (A++g i)]=_
  rw[ih,v8];rfl
theorem map_map{step:List Val→Option (Nat×List Val)}{g:Nat→List Val}{n:Nat}(hn:n≤1000000)(hg: ∀i,(g i).length≤1)
 (h: ∀(i:Nat) (A:List Val),A.length<1000000→step [.vi A.length,.vl A,.vi i]=some (0,[.vi (A++g i).length,.vl (A++g i)])):cV1 step n [.vi (0:Nat),.vl []] (Y2 g n):=by
 rw[Z5]
 constructor
 ·exact run_map hg h (List.range n) [] (by simpa using hn)
 ·intro p hp
  have:=run_map hg h p [] (by rw[hp.length_eq];simpa using hn)
  exact⟨_,this,hp.flatMap_right _⟩
section
variable{X:Nat→List Val→Val}{ω:Opq}(hf: ∀i a,ω.f i a=FT X i a)
include hf
theorem t_aput:Q1 T_aput ω=some (0,[(bS2 (ω.w 0) (ω.w 1) (ω.w 2) (ω.w 3) (ω.w 4)).getD 0 default,(bS2 (ω.w 0) (ω.w 1) (ω.w 2) (ω.w 3) (ω.w 4)).getD 1 default,(bS2 (ω.w 0) (ω.w 1) (ω.w 2) (ω.w 3) (ω.w 4)).getD 2 default,(bS2 (ω.w 0) (ω.w 1) (ω.w 2) (ω.w 3) (ω.w 4)).getD 3 default,FT X 708 [ω.w 0,ω.w 1,ω.w 2,ω.w 3,ω.w 4]]):=by
 have r0:den ω a73= .vl (pR (ω.w 0) (ω.w 1) (ω.w 2) (ω.w 3) (ω.w 4)):=rfl
 have f6:ω.f 706 [den ω a73]= .vi (jE (pR (ω.w 0) (ω.w 1) (ω.w 2) (ω.w 3) (ω.w 4))):=by rw[hf,r0];rfl
 have f5:ω.f 705 [den ω a73]= .vl [.vl (jR (pR (ω.w 0) (ω.w 1) (ω.w 2) (ω.w 3) (ω.w 4)))]:=by rw[hf,r0];rfl
 have f8:FT X 708 [ω.w 0,ω.w 1,ω.w 2,ω.w 3,ω.w 4]= .vi (jE (pR (ω.w 0) (ω.w 1) (ω.w 2) (ω.w 3) (ω.w 4))):=rfl
 rw[f8]
 unfold T_aput bS2
 generalize pR (ω.w 0) (ω.w 1) (ω.w 2) (ω.w 3) (ω.w 4)=l at r0 f5 f6
 refine Q6 (by rw[V3,a08];exact decide_eq_true (by show(2:Int)≤1000;omega)) ?_
 by_cases h:jE l=0
 ·rw[if_neg (by simp[h])]
  refine T1 ?_ ?_
  ·show(!decide ((ω.f 706 [den ω a73]).toI=0))=false
   rw[f6];simp[h]
  ·show some (0,[R6 (ω.f 705 [den ω a73]).toL 0 0,R6 (ω.f 705 [den ω a73]).toL 0 1,R6 (ω.f 705 [den ω a73]).toL 0 2,R6 (ω.f 705 [den ω a73]).toL 0 3,.vi 0])=_
   rw[f5,h];rfl
 ·rw[if_pos h]
  refine T7 ?_ ?_
  ·show(!decide ((ω.f 706 [den ω a73]).toI=0))=true
   rw[f6];simp[h]
  ·show some (0,[ω.w 0,ω.w 1,ω.w 2,ω.w 3,ω.f 706 [den ω a73]])=_
   rw[f6];rfl
omit hf in
theorem t_tget:Q1 T_tget ω=some (0,[aZ5 (ω.w 4).toL (.vl [ω.w 5,ω.w 6,ω.w 7]) 3,aZ5 (ω.w 4).toL (.vl [ω.w 5,ω.w 6,ω.w 7]) 4,aZ5 (ω.w 4).toL (.vl [ω.w 5,ω.w 6,ω.w 7]) 5,aZ5 (ω.w 4).toL (.vl [ω.w 5,ω.w 6,ω.w 7]) 6,FT X 722 [ω.w 4,ω.w 5,ω.w 6,ω.w 7]]):=by
 have h1:den ω af4= .vb (aU0 (ω.w 4).toL (.vl [ω.w 5,ω.w 6,ω.w 7])):=by
  show Val.vb (decide ((a58 (ω.w 4).toL (.vl [ω.w 5,ω.w 6,ω.w 7]):Int)<((ω.w 4).toL.length:Int)))=_
  unfold aU0
  congr 1
  rw[decide_eq_decide];omega
 have h2: ∀j:Nat,den ω (.op .ite [af4,.op .lget [.va 4,ap9,.ci (j:Int)],.ci 0])=aZ5 (ω.w 4).toL (.vl [ω.w 5,ω.w 6,ω.w 7]) j:=fun j=>by
  show(bif (den ω af4).toB then R6 (ω.w 4).toL ((a58 (ω.w 4).toL (.vl [ω.w 5,ω.w 6,ω.w 7]):Nat):Int) (j:Int)else Val.vi 0)=_
  rw[h1];rfl
 show some (0,[den ω (.op .ite [af4,.op .lget [.va 4,ap9,.ci ((3:Nat):Int)],.ci 0]),den ω (.op .ite [af4,.op .lget [.va 4,ap9,.ci ((4:Nat):Int)],.ci 0]),den ω (.op .ite [af4,.op .lget [.va 4,ap9,.ci ((5:Nat):Int)],.ci 0]),den ω (.op .ite [af4,.op .lget [.va 4,ap9,.ci ((6:Nat):Int)],.ci 0]),den ω af4])=_
 rw[h2,h2,h2,h2,h1];rfl
theorem t_trows(h431: ∀v:Val,(X 431 [v]).toB=true→v= .vl v.toL∧ ∀r∈v.toL,a30 r=r)(hn:dB ω (zn (zn (zb (zl 4) 400) (.app 431 [.va 4])) (.app 491 [.va 4]))=true):
 Q1 T_trows ω=some (0,[X 490 [ω.w 4]]):=by
 obtain⟨n1,n2⟩:=P8 (show(dB ω (zn (zb (zl 4) 400) (.app 431 [.va 4]))&&dB ω (.app 491 [.va 4]))=true from hn)
 obtain⟨n3,n4⟩:=P8 (show(dB ω (zb (zl 4) 400)&&dB ω (.app 431 [.va 4]))=true from n1)
 have n3':((ω.w 4).toL.length:Int)≤400:=of_decide_eq_true n3
 obtain⟨e4,hk⟩:=h431 (ω.w 4) (by rw[show X 431 [ω.w 4]=ω.f 431 [ω.w 4]from(hf 431 [ω.w 4]).symm];exact n4)
 have hm:(ω.w 4).toL.map a30=(ω.w 4).toL:=by
  conv=>rhs;rw[←List.map_id (ω.w 4).toL]
  exact u5 hk
 have e0:den ω aC3=W4 (0,[.vi (ω.w 4).toL.length,ω.w 4]):=by
  show ω.f 750 [.vi 0,.vl [],ω.w 4]=_
  rw[hf]
  show W4 (0,[.vi (ω.w 4).toL.length,.vl ((ω.w 4).toL.map a30)])=_
  rw[hm,←e4]
 have e1:den ω ab6=ω.w 4:=by show R6 (den ω aC3).toL 1 1=_;rw[e0];rfl
 have hga:Y2 (fun i=>[a30 (atV (ω.w 4).toL i)]) (ω.w 4).toL.length=(ω.w 4).toL:=by
  rw[Z5]
  refine Eq.trans ?_ hm
  rw[←O9]
  refine I9 (by simp) (fun i h1 h2=> ?_)
  have hi:i<(ω.w 4).toL.length:=by simpa using h1
  simp[atV,i6,hi]
 unfold T_trows
 refine aT1 (D:=(ω.w 4).toL) ?_ ?_ (Q6 ?_ ?_)
 ·show cV1 _ (ω.w 4).toL.length [.vi ((0:Nat):Int),.vl []] (ω.w 4).toL
  have:=map_map (step:=fun vs=>Q1 dj6 (ω.upd 2000 vs)) (g:=fun i=>[a30 (atV (ω.w 4).toL i)]) (n:=(ω.w 4).toL.length) (by omega) (fun _=>e8 _) (fun i A hA=> ?_)
  ·rw[hga]at this;exact this
  ·have p4: ∀j:Nat,R6 (ω.w 4).toL (i:Int) (j:Int)=Q9 (atV (ω.w 4).toL i) j:=fun _=>rfl
   have q0:=p4 0
   have q1:=p4 1
   have q2:=p4 2
   have q3:=p4 3
   have q4:=p4 4
   have q5:=p4 5
   have q6:=p4 6
   simp only[Int.natCast_zero,show((1:Nat):Int)=1 from rfl,show((2:Nat):Int)=2 from rfl,show((3:Nat):Int)=3 from rfl,show((4:Nat):Int)=4 from rfl,show((5:Nat):Int)=5 from rfl,show((6:Nat):Int)=6 from rfl]at q0 q1 q2 q3 q4 q5 q6
   have g3:(A.length:Int)+1≤1000000:=by omega
   unfold dj6 a30
   simp[Q1,Q4,den,dB,X5,Q3,q0,q1,q2,q3,q4,q5,q6,g3]
 ·show den ω aC3=_
  rw[e0]
  conv=>lhs;rw[e4]
  rfl
 ·show(decide ((R6 (den ω aC3).toL 1 0).toI=((den ω ab6).toL.length:Int))&&(decide (((den ω ab6).toL.length:Int)≤400)&&(ω.f 431 [den ω ab6]).toB&&(ω.f 491 [den ω ab6]).toB))=true
  rw[e1,e0]
  have m1:(ω.f 431 [ω.w 4]).toB=true:=n4
  have m2:(ω.f 491 [ω.w 4]).toB=true:=n2
  rw[m1,m2]
  show(decide (((ω.w 4).toL.length:Int)=((ω.w 4).toL.length:Int))&&(decide (((ω.w 4).toL.length:Int)≤400)&&true&&true))=true
  simp;omega
 ·show some (0,[ω.f 490 [den ω ab6]])=_
  rw[e1,hf];rfl
end
end Go.Ev.S9
namespace Go.Ev.S9
open Go Go.Ev
theorem dr9{a b c:Bool}(h1:a=true)(h2:b=true)(h3:c=true):(a&&(b&&c))=true:=by rw[h1,h2,h3];rfl
theorem aI4(x y:Val):Go.Proofs.ltOf spanV x y=decide (ci x 1<ci y 1∨ci x 1=ci y 1∧ci x 0<ci y 0):=by
 unfold Go.Proofs.ltOf spanV bS1
 rw[decide_eq_decide]
 split
 ·constructor
  ·intro _;omega
  ·intro _;omega
 ·split
  ·constructor
   ·intro h;omega
   ·intro h;omega
  ·split
   ·constructor
    ·intro _;omega
    ·intro _;omega
   ·split
    ·constructor
     ·intro h;omega
     ·intro h;omega
    ·constructor
     ·intro h;omega
     ·intro h;omega
theorem swo_spanV:Go.Sort.SWO (Go.Proofs.ltOf spanV)where
 irrefl x:=by rw[aI4];exact decide_eq_false (by omega)
 trans x y z h1 h2:=by
  rw[aI4]at*
  have h1:=of_decide_eq_true h1
  have h2:=of_decide_eq_true h2
  exact decide_eq_true (by omega)
 ntrans x y z h1 h2:=by
  rw[aI4]at*
  have h1:=of_decide_eq_false h1
  have h2:=of_decide_eq_false h2
  exact decide_eq_false (by omega)
theorem cf4(l:List Val)(key:List UInt8)(i:Nat):(spG l key i).length≤1:=by
 unfold spG;cases decide ((Q9 (atV l i) 0).toS=key)<;>simp
def spF(key:List UInt8)(r:Val):List Val:=bif decide ((Q9 r 0).toS=key)then [.vl [Q9 r 1,Q9 r 2]]else []
theorem bK2(l:List Val)(key:List UInt8):spL l key=l.flatMap (spF key):=by
 unfold spL
 rw[Z5]
 show((List.range l.length).flatMap fun i=>spF key (l.getD i (.vl [])))=_
 induction l with
 |nil=>rfl
 |cons a l ih=>
  rw[List.length_cons,J3,x6,List.flatMap_map,x6,←ih]
  rfl
theorem b99(l:List Val)(key:List UInt8):(spL l key).length≤l.length:=by unfold spL;simpa using a64 (g:=spG l key) (m:=1) (cf4 l key) l.length
theorem cE4{l:List Val}(key:List UInt8)(h:(l.map Q5).Nodup):((spL l key).map Q7).Nodup:=by
 rw[bK2]
 induction l with
 |nil=>exact List.nodup_nil
 |cons a l ih=>
  rw[k6,B2]at h
  rw[x6,o9]
  unfold spF
  cases hk:decide ((Q9 a 0).toS=key)with
  |false=>exact ih h.2
  |true=>
   have hk:=of_decide_eq_true hk
   show(Q7 (.vl [Q9 a 1,Q9 a 2])::_).Nodup
   rw[B2]
   refine⟨fun hm=>h.1 ?_,ih h.2⟩
   obtain⟨x,hx,e⟩:=j6.1 hm
   obtain⟨r,hr,hx⟩:=B6.1 hx
   cases hk':decide ((Q9 r 0).toS=key)with
   |false=>rw[hk']at hx;cases hx
   |true=>
    rw[hk']at hx
    have hx:x∈[Val.vl [Q9 r 1,Q9 r 2]]:=hx
    rw[o7]at hx
    subst hx
    have hk':=of_decide_eq_true hk'
    refine j6.2 ⟨r,hr,?_⟩
    have e1:(Q9 r 1).toI=(Q9 a 1).toI:=congrArg Prod.fst e
    have e2:(Q9 r 2).toI=(Q9 a 2).toI:=congrArg Prod.snd e
    unfold Q5
    rw[e1,e2,hk,hk']
section
variable{X:Nat→List Val→Val}{ω:Opq}(hf: ∀i a,ω.f i a=FT X i a)
include hf
theorem t_tsess(h491: ∀v:Val,(X 491 [v]).toB=true→(v.toL.map Q5).Nodup)(hn:dB ω (zn (zb (zl 4) 400) (.app 491 [.va 4]))=true):
 Q1 T_tsess ω=some (0,[FT X 723 [ω.w 4,ω.w 5]]):=by
 obtain⟨n3,n4⟩:=P8 (show(dB ω (zb (zl 4) 400)&&dB ω (.app 491 [.va 4]))=true from hn)
 have n3':((ω.w 4).toL.length:Int)≤400:=of_decide_eq_true n3
 have nd:=h491 (ω.w 4) (by rw[show X 491 [ω.w 4]=ω.f 491 [ω.w 4]from(hf 491 [ω.w 4]).symm];exact n4)
 have sl:=b99 (ω.w 4).toL (ω.w 5).toS
 have sn:=cE4 (ω.w 5).toS nd
 have e0:den ω aS2=W4 (0,[.vi (spL (ω.w 4).toL (ω.w 5).toS).length,.vl (spL (ω.w 4).toL (ω.w 5).toS)]):=by
  show ω.f 757 [.vi 0,.vl [],ω.w 5,ω.w 4]=_
  rw[hf];rfl
 have hs:FT X 723 [ω.w 4,ω.w 5]= .vl (a81 spanV (spL (ω.w 4).toL (ω.w 5).toS)):=rfl
 rw[hs]
 have hg: ∀i,(spG (ω.w 4).toL (ω.w 5).toS i).length≤1:=cf4 _ _
 have hmap:cV1 (fun vs=>Q1 dj7 (ω.upd 2000 vs)) (ω.w 4).toL.length [.vi ((0:Nat):Int),.vl []] (spL (ω.w 4).toL (ω.w 5).toS):=by
  refine map_map (by omega) hg (fun i A hA=> ?_)
  have p4: ∀j:Nat,R6 (ω.w 4).toL (i:Int) (j:Int)=Q9 (atV (ω.w 4).toL i) j:=fun _=>rfl
  have q0:=p4 0
  have q1:=p4 1
  have q2:=p4 2
  simp only[Int.natCast_zero,show((1:Nat):Int)=1 from rfl,show((2:Nat):Int)=2 from rfl]at q0 q1 q2
  have g3:(A.length:Int)+1≤1000000:=by omega
  unfold dj7 spG
  by_cases hk:(Q9 (atV (ω.w 4).toL i) 0).toS=(ω.w 5).toS
  ·simp[Q1,Q4,den,dB,X5,Q3,q0,q1,q2,g3,hk]
  ·simp[Q1,Q4,den,dB,X5,Q3,q0,q1,q2,g3,hk]
 generalize spL (ω.w 4).toL (ω.w 5).toS=D at*
 have e1:den ω aS3= .vi D.length:=by show R6 (den ω aS2).toL 1 0=_;rw[e0];rfl
 have e2:den ω a82= .vl D:=by show R6 (den ω aS2).toL 1 1=_;rw[e0];rfl
 have e3:ω.f 715 [den ω a82]= .vl (a81 spanV D):=by rw[e2,hf];rfl
 unfold T_tsess
 refine aT1 (D:=D) hmap e0 (Q6 ?_ (Q6 ?_ ?_))
 ·show(decide ((den ω aS3).toI=((den ω a82).toL.length:Int))&&(decide (((den ω a82).toL.length:Int)≤1000000)&&(ω.f 716 [den ω a82]).toB))=true
  rw[e1,e2,hf]
  exact dr9 (decide_eq_true rfl) (decide_eq_true (by show(D.length:Int)≤1000000;omega)) (decide_eq_true sn)
 ·show decide ((den ω aS3).toI=((ω.f 715 [den ω a82]).toL.length:Int))=true
  rw[e3,e1]
  exact decide_eq_true (congrArg Int.ofNat (ac7 swo_spanV D).symm)
 ·show some (0,[ω.f 715 [den ω a82]])=_
  rw[e3]
end
end Go.Ev.S9
namespace Go.Ev.S9
open Go Go.Ev
section
variable{X:Nat→List Val→Val}{ω:Opq}(hf: ∀i a,ω.f i a=FT X i a)
include hf
omit hf in
theorem cf5{i:Nat}(hn:(ω.w 1).toL.length≤400)(hi:i<(ω.w 1).toL.length):
 Q1 cV9 (ω.upd 2000 [.vb false,.vi i])=if bw9 (ω.w 0).toI (ω.w 1).toL i=true then some (2,[.vb false,.vi i])else some (0,[.vb false,.vi (i+1:Nat)]):=by
 have p1:(i:Int)<((ω.w 1).toL.length:Int):=by omega
 have p2:(0:Int)≤(i:Int):=by omega
 have p3:=a03 hi (by omega)
 have p0:(R6 (ω.w 1).toL (i:Int) (0:Int)).toI=ci (atV (ω.w 1).toL i) 0:=rfl
 have p4:(R6 (ω.w 1).toL (i:Int) (1:Int)).toI=ci (atV (ω.w 1).toL i) 1:=rfl
 have p5:0<i→arI .sub .i64 (i:Int) 1=((i-1:Nat):Int):=fun h=>by rw[aF8 (by omega) (by omega)];omega
 have p6:(R6 (ω.w 1).toL ((i-1:Nat):Int) (1:Int)).toI=ci (atV (ω.w 1).toL (i-1)) 1:=rfl
 unfold bw9 d77
 generalize hs:ci (atV (ω.w 1).toL i) 0=s at*
 generalize he:ci (atV (ω.w 1).toL i) 1=e at*
 generalize hp:ci (atV (ω.w 1).toL (i-1)) 1=p at*
 generalize hg:(ω.w 0).toI=g
 generalize hw:arI .sub .i64 e s=w
 unfold cV9
 have z1:((i-1:Nat):Int)<((ω.w 1).toL.length:Int):=by omega
 have z2:(0:Int)≤((i-1:Nat):Int):=by omega
 rcases J1 i with i0|i0
 ·subst i0
  have h0:(0:Int)<((ω.w 1).toL.length:Int):=by omega
  have p3':arI .add .i64 0 1=1:=p3
  have p0':(R6 (ω.w 1).toL 0 0).toI=s:=p0
  have p4':(R6 (ω.w 1).toL 0 1).toI=e:=p4
  clear p0 p1 p2 p3 p4 p5 p6 z1 z2 hp
  by_cases a1:0≤e<;>by_cases a2:0≤s<;>by_cases a3:0≤w<;>by_cases a4:e≤s<;>by_cases a5:w<g<;>
   simp[Q1,Q4,den,dB,X5,Q3,hi,h0,p3',p0',p4',hg,hw,a1,a2,a3,a4,a5]
 ·have p5:=p5 i0
  have i1:(0:Int)<(i:Int):=by omega
  by_cases a1:0≤e<;>by_cases a2:0≤s<;>by_cases a3:0≤w<;>by_cases a4:e≤s<;>by_cases a5:w<g<;>by_cases a6:s<p<;>
   simp[Q1,Q4,den,dB,X5,Q3,p1,p2,p3,p0,p4,p5,p6,hg,hw,a1,a2,a3,a4,a5,a6,i0,i1,z1,z2]
theorem t_sRight(hn:dB ω (zb (zl 1) 400)=true):Q1 T_sRight ω=some (0,[FT X 711 [ω.w 0,ω.w 1]]):=by
 have hn:((ω.w 1).toL.length:Int)≤400:=of_decide_eq_true hn
 have hF:FT X 711 [ω.w 0,ω.w 1]= .vb (!(List.range (ω.w 1).toL.length).any (bw9 (ω.w 0).toI (ω.w 1).toL)):=rfl
 have h0:=aB7 (x:= .vb false) (px:=fun k=>[.vb false,.vi k]) (bad:=bw9 (ω.w 0).toI (ω.w 1).toL) (n:=(ω.w 1).toL.length)
 have e0:ω.f 754 [.vb false,.vi 0,ω.w 0,.vi 0,.vi (ω.w 1).toL.length,ω.w 1,.vi 0,.vi (ω.w 1).toL.length,ω.w 1,.vi (ω.w 1).toL.length]=W4 (aB6 (.vb false) (fun k=>[.vb false,.vi k]) (bw9 (ω.w 0).toI (ω.w 1).toL) (ω.w 1).toL.length):=by rw[hf];rfl
 rw[hF]
 unfold T_sRight
 refine Q8 (r:=aB6 (.vb false) (fun k=>[.vb false,.vi k]) (bw9 (ω.w 0).toI (ω.w 1).toL) (ω.w 1).toL.length) ?_ e0 ?_
 ·show R9 _ [.vb false,.vi 0]=_
  refine aQ7 (fun i hi hb=> ?_) (fun i hi hb=> ?_) ?_
  ·show Q1 cV9 (ω.upd 2000 [.vb false,.vi i])=_
   rw[cf5 (by omega) hi,hb];rfl
  ·show Q1 cV9 (ω.upd 2000 [.vb false,.vi i])=_
   rw[cf5 (by omega) hi,hb];rfl
  ·unfold cV9
   simp[Q1,Q4,den,dB,X5,Q3]
 ·rw[h0]at e0
  rw[h0]
  cases hb:(List.range (ω.w 1).toL.length).any (bw9 (ω.w 0).toI (ω.w 1).toL)with
  |true=>
   rw[hb]at e0
   show some (0,[R6 (ω.f 754 [.vb false,.vi 0,ω.w 0,.vi 0,.vi (ω.w 1).toL.length,ω.w 1,.vi 0,.vi (ω.w 1).toL.length,ω.w 1,.vi (ω.w 1).toL.length]).toL 1 0])=_
   rw[e0];rfl
  |false=>rfl
end
end Go.Ev.S9
namespace Go.Ev.S9
open Go Go.Ev
theorem cf6(l:List Val)(t o:Int)(i:Nat):(jnG l t o i).length≤1:=by unfold jnG;cases bS3 t o (atV l i)<;>simp
theorem cf7(l:List Val)(t o:Int)(i:Nat):(rsG l t o i).length≤1:=by unfold rsG;cases bS3 t o (atV l i)<;>simp
theorem cf8(l:List Val)(x:Int): ∀n i j:Nat,i≤j→j-i≤n→i≤bsV l x n i j∧bsV l x n i j≤j
 |0,i,j,h,h2=>by unfold bsV;omega
 |n+1,i,j,h,h2=>by
  unfold bsV
  split
  ·split
   ·have:=cf8 l x n ((i+j)/2+1) j (by omega) (by omega);omega
   ·have:=cf8 l x n i ((i+j)/2) (by omega) (by omega);omega
  ·omega
theorem bx9{step:List Val→Option (Nat×List Val)}{l:List Val}{x:Int}{m:Nat}
 (h1: ∀i j:Nat,i<j→j≤m→step [.vi i,.vi j]=some (0,if ci (atV l ((i+j)/2)) 0<x then [.vi ((i+j)/2+1:Nat),.vi j]else [.vi i,.vi ((i+j)/2:Nat)]))
 (h2: ∀i:Nat,step [.vi i,.vi i]=some (1,[.vi i,.vi i])): ∀n i j:Nat,i≤j→j≤m→j-i≤n→R9 step [.vi i,.vi j]=some (0,[.vi (bsV l x n i j),.vi (bsV l x n i j)])
 |0,i,j,a,b,c=>by
  obtain rfl:i=j:=by omega
  rw[Y0]
  unfold bsV
  exact .out (h2 i)
 |n+1,i,j,a,b,c=>by
  unfold bsV
  by_cases h:i<j
  ·rw[if_pos h]
   have s:=h1 i j h b
   by_cases q:ci (atV l ((i+j)/2)) 0<x
   ·rw[if_pos q]at s⊢
    have:=bx9 h1 h2 n ((i+j)/2+1) j (by omega) b (by omega)
    rw[Y0]at this⊢
    exact .more s this
   ·rw[if_neg q]at s⊢
    have:=bx9 h1 h2 n i ((i+j)/2) (by omega) (by omega) (by omega)
    rw[Y0]at this⊢
    exact .more s this
  ·rw[if_neg h]
   obtain rfl:i=j:=by omega
   rw[Y0]
   exact .out (h2 i)
def by0(l:List Val)(t o:Val)(k:Nat):List Val:=[.vi (Y2 (jnG l t.toI o.toI) k).length,.vi (Y2 (rsG l t.toI o.toI) k).length,.vi k,(nwV l t o k).1,(nwV l t o k).2,.vl (Y2 (jnG l t.toI o.toI) k),.vl (Y2 (rsG l t.toI o.toI) k)]
theorem dl0{ω:Opq}{l:List Val}(h2:(ω.w 2).toL=l)(hl:l.length≤24):
 R9 (fun vs=>Q1 dd6 (ω.upd 2000 vs)) [.vi 0,.vi 0,.vi 0,ω.w 1,.vi (arI .add .i64 (ω.w 1).toI (ω.w 0).toI),.vl [],.vl []]=some (0,by0 l (ω.w 1) (.vi (arI .add .i64 (ω.w 1).toI (ω.w 0).toI)) l.length):=by
 refine Z6 (st:=by0 l (ω.w 1) (.vi (arI .add .i64 (ω.w 1).toI (ω.w 0).toI))) (n:=l.length) (fun k hk=> ?_) ?_
 ·have p1:(k:Int)<(l.length:Int):=by omega
  have p2:(0:Int)≤(k:Int):=by omega
  have p3:=a03 hk (by omega)
  have p4: ∀j:Nat,R6 l (k:Int) (j:Int)=Q9 (atV l k) j:=fun _=>rfl
  have q0:=p4 0
  have q1:=p4 1
  simp only[Int.natCast_zero,show((1:Nat):Int)=1 from rfl]at q0 q1
  have g1:=a64 (fun i=>cf6 l (ω.w 1).toI (arI .add .i64 (ω.w 1).toI (ω.w 0).toI) i) k
  have g2:=a64 (fun i=>cf7 l (ω.w 1).toI (arI .add .i64 (ω.w 1).toI (ω.w 0).toI) i) k
  unfold by0
  simp only[Y2,nwV,R0]
  generalize Y2 (jnG l (ω.w 1).toI (arI .add .i64 (ω.w 1).toI (ω.w 0).toI)) k=J at*
  generalize Y2 (rsG l (ω.w 1).toI (arI .add .i64 (ω.w 1).toI (ω.w 0).toI)) k=A at*
  generalize nwV l (ω.w 1) (.vi (arI .add .i64 (ω.w 1).toI (ω.w 0).toI)) k=N at*
  unfold jnG rsG bS3 sp2 ci
  have g3:(J.length:Int)+1≤1000000:=by omega
  have g4:(A.length:Int)+1≤1000000:=by omega
  generalize hr:atV l k=r at*
  generalize ho:arI .add .i64 (ω.w 1).toI (ω.w 0).toI=o at*
  unfold dd6
  by_cases c1:(Q9 r 0).toI<o<;>by_cases c2:(ω.w 1).toI<(Q9 r 1).toI<;>
   simp[Q1,Q4,den,dB,X5,Q3,h2,p1,p2,p3,q0,q1,ho,g3,g4,c1,c2]
 ·unfold by0 dd6
  simp[Q1,Q4,den,dB,X5,Q3,h2]
def bb4:SX:= zh (.va 2000) (.va 2001)
theorem cf9:d66= .ite (zs (.va 2000) (.va 2001)) (.need (zn (zp bb4) (zs bb4 S4)) (.need (zs bb4 (zL T4)) (.ite (zs (.op .lget [T4,bb4,.ci 0]) S5) (.ret 0 [zi bb4,.va 2001]) (.ite (.op (.cmp .gtr) [.op .lget [T4,bb4,.ci 0],S5]) (.ret 0 [.va 2000,bb4]) (.ret 0 [.va 2000,bb4]))))) (.ret 1 [.va 2000,.va 2001]):=rfl
theorem cS2{i j m:Nat}(h:i<j)(hj:j≤m)(hm:m≤1000000):IntKind.i64.wrap (arI .shr .u64 (IntKind.u64.wrap (arI .add .i64 (i:Int) (j:Int))) 1)=(((i+j)/2:Nat):Int):=by
 rw[ak8 (by omega) (by omega)]
 have e1:IntKind.u64.wrap ((i:Int)+(j:Int))=(i:Int)+(j:Int):=by
  simp only[IntKind.wrap,IntKind.bits,IntKind.signed]
  simp
  omega
 rw[e1]
 have e2:arI .shr .u64 ((i:Int)+(j:Int)) 1=(((i+j)/2:Nat):Int):=by
  show((i:Int)+(j:Int)).fdiv (2^(min (1:Int).toNat IntKind.u64.bits))=_
  rw[show(2:Int)^(min (1:Int).toNat IntKind.u64.bits)=2 from rfl,I2 _ (by omega)]
  omega
 rw[e2,cl0 (by omega) (by omega)]
theorem dl1{ω:Opq}{A:List Val}{x:Val}(hA:A.length≤24)(d2: ∀vs,den (ω.upd 2000 vs) S4= .vi A.length)(d3: ∀vs,den (ω.upd 2000 vs) T4= .vl A)(d4: ∀vs,den (ω.upd 2000 vs) S5=x):
 R9 (fun vs=>Q1 d66 (ω.upd 2000 vs)) [.vi 0,.vi A.length]=some (0,[.vi (bsV A x.toI A.length 0 A.length),.vi (bsV A x.toI A.length 0 A.length)]):=by
 refine bx9 (m:=A.length) (fun i j h hj=> ?_) (fun i=> ?_) A.length 0 A.length (by omega) (e8 _) (by omega)
 ·show Q1 d66 (ω.upd 2000 [.vi i,.vi j])=_
  have d2:=d2 [.vi i,.vi j]
  have d3:=d3 [.vi i,.vi j]
  have d4:=d4 [.vi i,.vi j]
  have v0:(ω.upd 2000 [.vi i,.vi j]).w 2000= .vi i:=by rw[Q3];simp
  have v1:(ω.upd 2000 [.vi i,.vi j]).w 2001= .vi j:=by rw[Q3];simp
  generalize ω.upd 2000 [.vi i,.vi j]=ω' at*
  have dh:den ω' bb4= .vi ((i+j)/2:Nat):=by
   show Val.vi (IntKind.i64.wrap (arI .shr .u64 (IntKind.u64.wrap (arI .add .i64 (ω'.w 2000).toI (ω'.w 2001).toI)) 1))=_
   rw[v0,v1];exact congrArg Val.vi (cS2 h hj (by omega))
  have hlt:(i+j)/2<A.length:=by omega
  have dg:den ω' (.op .lget [T4,bb4,.ci 0])=Q9 (atV A ((i+j)/2)) 0:=by
   show R6 (den ω' T4).toL (den ω' bb4).toI 0=_
   rw[d3,dh];rfl
  rw[cf9]
  refine T7 ?_ (Q6 ?_ (Q6 ?_ ?_))
  ·show decide ((ω'.w 2000).toI<(ω'.w 2001).toI)=true
   rw[v0,v1];exact decide_eq_true (by show(i:Int)<(j:Int);omega)
  ·rw[Z1,V3,a08,dh]
   show(decide ((0:Int)≤(((i+j)/2:Nat):Int))&&decide ((den ω' bb4).toI<(den ω' S4).toI))=true
   rw[dh,d2,decide_eq_true (show(0:Int)≤(((i+j)/2:Nat):Int) by omega)]
   exact decide_eq_true (by show(((i+j)/2:Nat):Int)<(A.length:Int);omega)
  ·show decide ((den ω' bb4).toI<((den ω' T4).toL.length:Int))=true
   rw[dh,d3];exact decide_eq_true (by show(((i+j)/2:Nat):Int)<(A.length:Int);omega)
  ·by_cases q:ci (atV A ((i+j)/2)) 0<x.toI
   ·rw[if_pos q]
    refine T7 ?_ ?_
    ·show decide ((den ω' (.op .lget [T4,bb4,.ci 0])).toI<(den ω' S5).toI)=true
     rw[dg,d4];exact decide_eq_true q
    ·show some (0,[Val.vi (arI .add .i64 (den ω' bb4).toI 1),ω'.w 2001])=_
     rw[dh,v1]
     rw[show arI .add .i64 (Val.vi (((i+j)/2:Nat):Int)).toI 1=(((i+j)/2+1:Nat):Int)from a03 hlt (by omega)]
   ·rw[if_neg q]
    refine T1 ?_ ?_
    ·show decide ((den ω' (.op .lget [T4,bb4,.ci 0])).toI<(den ω' S5).toI)=false
     rw[dg,d4];exact decide_eq_false q
    ·have e:some (0,[ω'.w 2000,den ω' bb4])=some ((0:Nat),[Val.vi i,Val.vi (((i+j)/2:Nat):Int)]):=by rw[dh,v0]
     cases hc:dB ω' (.op (.cmp .gtr) [.op .lget [T4,bb4,.ci 0],S5])with
     |true=>exact T7 hc e
     |false=>exact T1 hc e
 ·show Q1 d66 (ω.upd 2000 [.vi i,.vi i])=_
  have v0:(ω.upd 2000 [.vi i,.vi i]).w 2000= .vi i:=by rw[Q3];simp
  have v1:(ω.upd 2000 [.vi i,.vi i]).w 2001= .vi i:=by rw[Q3];simp
  generalize ω.upd 2000 [.vi i,.vi i]=ω' at*
  rw[cf9]
  refine T1 ?_ ?_
  ·show decide ((ω'.w 2000).toI<(ω'.w 2001).toI)=false
   rw[v0,v1];exact decide_eq_false (Int.lt_irrefl _)
  ·show some (1,[ω'.w 2000,ω'.w 2001])=_
   rw[v0,v1]
end Go.Ev.S9
namespace Go.Ev.S9
open Go Go.Ev
theorem bm7(x a b:Int)(h:a≤b):x=max a (min x b)↔a≤x∧x≤b:=by omega
section
variable{X:Nat→List Val→Val}{ω:Opq}(hf: ∀i a,ω.f i a=FT X i a)
include hf
theorem t_sinsert(hn:dB ω (zb (zl 2) 24)=true):Q1 T_sinsert ω=some (0,[R6 (FT X 718 [ω.w 0,ω.w 1,ω.w 2]).toL 0 0,R6 (FT X 718 [ω.w 0,ω.w 1,ω.w 2]).toL 0 1,FT X 720 [ω.w 0,ω.w 1,ω.w 2],FT X 717 [ω.w 0,ω.w 1,ω.w 2],FT X 719 [ω.w 0,ω.w 1,ω.w 2]]):=by
 have hn:((ω.w 2).toL.length:Int)≤24:=of_decide_eq_true hn
 have a8:FT X 718 [ω.w 0,ω.w 1,ω.w 2]= .vl [.vl (bif ae1 (ω.w 0).toI (ω.w 1).toI (ω.w 2).toL then [(siN (ω.w 0) (ω.w 1) (ω.w 2).toL).1,(siN (ω.w 0) (ω.w 1) (ω.w 2).toL).2]else [.vi 0,.vi 0])]:=rfl
 have a0:FT X 720 [ω.w 0,ω.w 1,ω.w 2]= .vi (bif ae1 (ω.w 0).toI (ω.w 1).toI (ω.w 2).toL then 0 else 2):=rfl
 have a7:FT X 717 [ω.w 0,ω.w 1,ω.w 2]= .vl (bif ae1 (ω.w 0).toI (ω.w 1).toI (ω.w 2).toL then siJ (ω.w 0) (ω.w 1) (ω.w 2).toL else []):=rfl
 have a9:FT X 719 [ω.w 0,ω.w 1,ω.w 2]= .vl (bif ae1 (ω.w 0).toI (ω.w 1).toI (ω.w 2).toL then d78 (siA (ω.w 0) (ω.w 1) (ω.w 2).toL) (bx0 (ω.w 0) (ω.w 1) (ω.w 2).toL) (siN (ω.w 0) (ω.w 1) (ω.w 2).toL).1 (siN (ω.w 0) (ω.w 1) (ω.w 2).toL).2 else []):=rfl
 rw[a8,a0,a7,a9]
 have c1:dB ω (.op (.cmp .eql) [.va 0,.op .imax [.ci 1,.op .imin [.va 0,.ci 1048576]]])=(decide (1≤(ω.w 0).toI)&&decide ((ω.w 0).toI≤1048576)):=by
  rw[aC8,ad3,show(den ω (.op .imax [.ci 1,.op .imin [.va 0,.ci 1048576]])).toI=max 1 (min (ω.w 0).toI 1048576)from rfl,←Bool.decide_and,decide_eq_decide]
  exact bm7 _ _ _ (by omega)
 have c2:dB ω (.op (.cmp .neq) [.va 1,.op .imax [.ci (-1099511627776),.op .imin [.va 1,.ci 1099511627776]]])= !U8 (ω.w 1).toI:=by
  show(!decide ((ω.w 1).toI=max (-1099511627776) (min (ω.w 1).toI 1099511627776)))=_
  unfold U8
  rw[←Bool.decide_and]
  congr 1
  rw[decide_eq_decide]
  exact bm7 _ _ _ (by omega)
 have c3:dB ω (.op .not [.app 711 [.va 0,.va 2]])=(List.range (ω.w 2).toL.length).any (bw9 (ω.w 0).toI (ω.w 2).toL):=by
  show(!(ω.f 711 [ω.w 0,ω.w 2]).toB)=_
  rw[hf];exact I3 _
 unfold T_sinsert
 cases g1:(decide (1≤(ω.w 0).toI)&&decide ((ω.w 0).toI≤1048576))with
 |false=>
  have:ae1 (ω.w 0).toI (ω.w 1).toI (ω.w 2).toL=false:=by unfold ae1;rw[g1];rfl
  rw[this]
  exact T1 (c1.trans g1) rfl
 |true=>
 refine T7 (c1.trans g1) ?_
 cases g2:U8 (ω.w 1).toI with
 |false=>
  have:ae1 (ω.w 0).toI (ω.w 1).toI (ω.w 2).toL=false:=by unfold ae1;rw[g1,g2];rfl
  rw[this]
  exact T7 (by rw[c2,g2];rfl) rfl
 |true=>
 refine T1 (by rw[c2,g2];rfl) (Q6 (by rw[V3,a08];exact decide_eq_true (by show((ω.w 2).toL.length:Int)≤400;omega)) ?_)
 cases g3:(List.range (ω.w 2).toL.length).any (bw9 (ω.w 0).toI (ω.w 2).toL)with
 |true=>
  have:ae1 (ω.w 0).toI (ω.w 1).toI (ω.w 2).toL=false:=by unfold ae1;rw[g1,g2,g3];rfl
  rw[this]
  exact T7 (c3.trans g3) rfl
 |false=>
 have hok:ae1 (ω.w 0).toI (ω.w 1).toI (ω.w 2).toL=true:=by unfold ae1;rw[g1,g2,g3];rfl
 rw[hok]
 refine T1 (c3.trans g3) ?_
 simp only[cond_true]
 obtain⟨l,h2⟩: ∃l,(ω.w 2).toL=l:=⟨_,rfl⟩
 rw[h2]at hn⊢
 have own:den ω X3=bS9 (ω.w 0).toI (ω.w 1).toI:=rfl
 have E1: ∀vs,den (ω.upd 2000 vs) U7=W4 (0,by0 l (ω.w 1) (bS9 (ω.w 0).toI (ω.w 1).toI) l.length):=fun vs=>by
  have w0:(ω.upd 2000 vs).w 0=ω.w 0:=by rw[Q3];simp
  have w1:(ω.upd 2000 vs).w 1=ω.w 1:=by rw[Q3];simp
  have w2:(ω.upd 2000 vs).w 2=ω.w 2:=by rw[Q3];simp
  have wf:(ω.upd 2000 vs).f=ω.f:=rfl
  generalize ω.upd 2000 vs=ω' at*
  have own':den ω' X3=bS9 (ω.w 0).toI (ω.w 1).toI:=by
   show Val.vi (arI .add .i64 (ω'.w 1).toI (ω'.w 0).toI)=_
   rw[w0,w1];rfl
  show ω'.f 755 [.vi 0,.vi 0,.vi 0,ω'.w 1,den ω' X3,.vl [],.vl [],ω'.w 1,den ω' X3,ω'.w 1,den ω' X3,.vi 0,.vi (ω'.w 2).toL.length,ω'.w 2,.vi (ω'.w 2).toL.length]=_
  rw[wf,hf,w1,w2,own',←h2];rfl
 have e1:den ω U7=W4 (0,by0 l (ω.w 1) (bS9 (ω.w 0).toI (ω.w 1).toI) l.length):=by
  show ω.f 755 [.vi 0,.vi 0,.vi 0,ω.w 1,den ω X3,.vl [],.vl [],ω.w 1,den ω X3,ω.w 1,den ω X3,.vi 0,.vi (ω.w 2).toL.length,ω.w 2,.vi (ω.w 2).toL.length]=_
  rw[hf,own,←h2];rfl
 have lA:(siA (ω.w 0) (ω.w 1) l).length≤24:=by
  have:=a64 (fun i=>cf7 l (ω.w 1).toI (bS9 (ω.w 0).toI (ω.w 1).toI).toI i) l.length
  unfold siA rsL;omega
 have D2: ∀vs,den (ω.upd 2000 vs) S4= .vi (siA (ω.w 0) (ω.w 1) l).length:=fun vs=>by
  show R6 (den (ω.upd 2000 vs) U7).toL 1 1=_;rw[E1];rfl
 have D3: ∀vs,den (ω.upd 2000 vs) T4= .vl (siA (ω.w 0) (ω.w 1) l):=fun vs=>by
  show R6 (den (ω.upd 2000 vs) U7).toL 1 6=_;rw[E1];rfl
 have D4: ∀vs,den (ω.upd 2000 vs) S5=(siN (ω.w 0) (ω.w 1) l).1:=fun vs=>by
  show R6 (den (ω.upd 2000 vs) U7).toL 1 3=_;rw[E1];rfl
 have d2:den ω S4= .vi (siA (ω.w 0) (ω.w 1) l).length:=by show R6 (den ω U7).toL 1 1=_;rw[e1];rfl
 have d3:den ω T4= .vl (siA (ω.w 0) (ω.w 1) l):=by show R6 (den ω U7).toL 1 6=_;rw[e1];rfl
 have d4:den ω S5=(siN (ω.w 0) (ω.w 1) l).1:=by show R6 (den ω U7).toL 1 3=_;rw[e1];rfl
 have d5:den ω W7=(siN (ω.w 0) (ω.w 1) l).2:=by show R6 (den ω U7).toL 1 4=_;rw[e1];rfl
 have d9:den ω a38= .vl (siJ (ω.w 0) (ω.w 1) l):=by show R6 (den ω U7).toL 1 5=_;rw[e1];rfl
 have dj:den ω (zo U7 0)= .vi (siJ (ω.w 0) (ω.w 1) l).length:=by show R6 (den ω U7).toL 1 0=_;rw[e1];rfl
 have e6:ω.f 756 [.vi 0,den ω S4,den ω S4,den ω T4,den ω S5,den ω W7,den ω S4]=W4 (0,[.vi (bx0 (ω.w 0) (ω.w 1) l),.vi (bx0 (ω.w 0) (ω.w 1) l)]):=by
  rw[hf,d2,d3,d4,d5];rfl
 have d6:den ω Y9= .vi (bx0 (ω.w 0) (ω.w 1) l):=by
  show R6 (ω.f 756 [.vi 0,den ω S4,den ω S4,den ω T4,den ω S5,den ω W7,den ω S4]).toL 1 0=_
  rw[e6];rfl
 obtain⟨b1,b2⟩:=cf8 (siA (ω.w 0) (ω.w 1) l) (siN (ω.w 0) (ω.w 1) l).1.toI (siA (ω.w 0) (ω.w 1) l).length 0 (siA (ω.w 0) (ω.w 1) l).length (by omega) (by omega)
 have b2:bx0 (ω.w 0) (ω.w 1) l≤(siA (ω.w 0) (ω.w 1) l).length:=b2
 have d8:dB ω af3=true:=by
  show(ω.f 713 [den ω T4,den ω S4,den ω Y9,den ω S5,den ω W7]).toB=true
  rw[hf,d2,d3,d4,d5,d6]
  show(decide (((siA (ω.w 0) (ω.w 1) l).length:Int)=((siA (ω.w 0) (ω.w 1) l).length:Int))&&decide ((0:Int)≤((bx0 (ω.w 0) (ω.w 1) l:Nat):Int))&&decide (((bx0 (ω.w 0) (ω.w 1) l:Nat):Int)≤((siA (ω.w 0) (ω.w 1) l).length:Int))&&decide ((siA (ω.w 0) (ω.w 1) l).length≤24))=true
  rw[decide_eq_true (show((bx0 (ω.w 0) (ω.w 1) l:Nat):Int)≤((siA (ω.w 0) (ω.w 1) l).length:Int) by omega),decide_eq_true lA,decide_eq_true (show(0:Int)≤((bx0 (ω.w 0) (ω.w 1) l:Nat):Int) by omega),decide_eq_true rfl];rfl
 have d10:dB ω a99=true:=by
  show decide ((den ω (zo U7 0)).toI=((den ω a38).toL.length:Int))=true
  rw[dj,d9];exact decide_eq_true rfl
 have d11:den ω a57= .vl (d78 (siA (ω.w 0) (ω.w 1) l) (bx0 (ω.w 0) (ω.w 1) l) (siN (ω.w 0) (ω.w 1) l).1 (siN (ω.w 0) (ω.w 1) l).2):=by
  show ω.f 714 [den ω T4,den ω S4,den ω Y9,den ω S5,den ω W7]=_
  rw[hf,d2,d3,d4,d5,d6];rfl
 have fin:Q1 (.need af3 (.need a99 (.ret 0 [S5,W7,.ci 0,a38,a57]))) ω=some (0,[(siN (ω.w 0) (ω.w 1) l).1,(siN (ω.w 0) (ω.w 1) l).2,.vi 0,.vl (siJ (ω.w 0) (ω.w 1) l),.vl (d78 (siA (ω.w 0) (ω.w 1) l) (bx0 (ω.w 0) (ω.w 1) l) (siN (ω.w 0) (ω.w 1) l).1 (siN (ω.w 0) (ω.w 1) l).2)]):=by
  refine Q6 d8 (Q6 d10 ?_)
  show some (0,[den ω S5,den ω W7,.vi 0,den ω a38,den ω a57])=_
  rw[d4,d5,d9,d11]
 refine Q8 (r:=(0,by0 l (ω.w 1) (bS9 (ω.w 0).toI (ω.w 1).toI) l.length)) (dl0 h2 (by omega)) e1 (Q6 ?_ (Q8 (r:=(0,[.vi (bx0 (ω.w 0) (ω.w 1) l),.vi (bx0 (ω.w 0) (ω.w 1) l)])) ?_ e6 ?_))
 ·rw[V3,a08,d2];exact decide_eq_true (by show(0:Int)≤((siA (ω.w 0) (ω.w 1) l).length:Int);omega)
 ·show R9 _ [.vi 0,den ω S4]=_
  rw[d2]
  exact dl1 lA D2 D3 D4
 ·show Q1 (.ite _ _ _) ω=_
  cases h7:dB ω (zs Y9 S4)with
  |false=>exact T1 h7 fin
  |true=>
   have h7':(den ω Y9).toI<(den ω S4).toI:=of_decide_eq_true h7
   refine T7 h7 (Q6 ?_ (Q6 ?_ ?_))
   ·rw[V3,a08,d6];exact decide_eq_true (by show(0:Int)≤((bx0 (ω.w 0) (ω.w 1) l:Nat):Int);omega)
   ·show decide ((den ω Y9).toI<((den ω T4).toL.length:Int))=true
    rw[d3];rw[d2]at h7';exact decide_eq_true h7'
   ·cases q1:dB ω (zs ax9 S5)with
    |true=>exact T7 q1 fin
    |false=>
     refine T1 q1 ?_
     cases q2:dB ω (.op (.cmp .gtr) [ax9,S5])with
     |true=>exact T7 q2 fin
     |false=>exact T1 q2 fin
end
end Go.Ev.S9
namespace Go.Ev.S9
open Go Go.Ev
theorem cS3(g t:Val)(l:List Val):(siJ g t l).length≤l.length:=by
 have:=a64 (fun i=>cf6 l t.toI (bS9 g.toI t.toI).toI i) l.length
 unfold siJ jnL;omega
theorem by1(g:Val)(m:List Val)(key t:Val):(jnV g m key t).length≤m.length:=by
 have h1:=ac7 swo_spanV (spL m key.toS)
 have h2:=b99 m key.toS
 unfold jnV
 cases ae1 g.toI t.toI (ssV m key)
 ·exact l6 _
 ·have:=cS3 g t (ssV m key)
  show(siJ g t (ssV m key)).length≤_
  unfold ssV at this⊢
  omega
theorem aI5(f:Val→Val)(l:List Val):Y2 (fun i=>[f (atV l i)]) l.length=l.map f:=by
 rw[Z5,←O9]
 refine I9 (by simp) (fun i h1 h2=> ?_)
 have hi:i<l.length:=by simpa using h1
 simp[atV,i6,hi]
def cS4:SX:= zc (.va 2002) (.op .row [.op .row [.va 6,.op .lget [W1,.va 2001,.ci 0],.op .lget [W1,.va 2001,.ci 1]]])
theorem cg0:d67= .ite (zs (.va 2001) (zL W1)) (.need (zp (.va 2001)) (.need (zn (.op (.cmp .eql) [.va 2000,zl 2002]) (zb (zL cS4) 1000000)) (.ret 0 [zL cS4,zi (.va 2001),cS4]))) (.ret 1 [.va 2000,.va 2001,.va 2002]):=rfl
theorem dl2{ω:Opq}{J:List Val}(hJ:J.length≤24)(d3: ∀vs,den (ω.upd 2000 vs) W1= .vl J):
 R9 (fun vs=>Q1 d67 (ω.upd 2000 vs)) [.vi 0,.vi 0,.vl []]=some (0,[.vi J.length,.vi J.length,.vl (J.map (pnR (ω.w 6)))]):=by
 have hl:(J.map (pnR (ω.w 6))).length=J.length:=m7 ..
 refine bm6 (fun i acc=>[.vi acc.length,.vi i,.vl acc]) (a0:=[]) (g:=fun i=>[pnR (ω.w 6) (atV J i)]) (n:=J.length) rfl (fun i hi=> ?_) ?_
 ·rw[List.nil_append]
  have hg:=a18 (fun i=>pnR (ω.w 6) (atV J i)) i
  generalize Y2 (fun i=>[pnR (ω.w 6) (atV J i)]) i=acc at*
  show Q1 d67 (ω.upd 2000 [.vi acc.length,.vi i,.vl acc])=_
  have d3:=d3 [.vi acc.length,.vi i,.vl acc]
  have v0:(ω.upd 2000 [.vi acc.length,.vi i,.vl acc]).w 2000= .vi acc.length:=by rw[Q3];simp
  have v1:(ω.upd 2000 [.vi acc.length,.vi i,.vl acc]).w 2001= .vi i:=by rw[Q3];simp
  have v2:(ω.upd 2000 [.vi acc.length,.vi i,.vl acc]).w 2002= .vl acc:=by rw[Q3];simp
  have v6:(ω.upd 2000 [.vi acc.length,.vi i,.vl acc]).w 6=ω.w 6:=by rw[Q3];simp
  generalize ω.upd 2000 [.vi acc.length,.vi i,.vl acc]=ω' at*
  have dc:den ω' cS4= .vl (acc++[pnR (ω.w 6) (atV J i)]):=by
   show Val.vl ((ω'.w 2002).toL++[.vl [ω'.w 6,R6 (den ω' W1).toL (ω'.w 2001).toI 0,R6 (den ω' W1).toL (ω'.w 2001).toI 1]])=_
   rw[v1,v2,v6,d3];rfl
  rw[cg0]
  refine T7 ?_ (Q6 ?_ (Q6 ?_ ?_))
  ·show decide ((ω'.w 2001).toI<((den ω' W1).toL.length:Int))=true
   rw[v1,d3];exact decide_eq_true (by show(i:Int)<(J.length:Int);omega)
  ·rw[V3,a08,ad3,v1];exact decide_eq_true (by show(0:Int)≤(i:Int);omega)
  ·show(decide ((ω'.w 2000).toI=((ω'.w 2002).toL.length:Int))&&decide (((den ω' cS4).toL.length:Int)≤1000000))=true
   rw[v0,v2,dc]
   rw[e9]
   exact⟨decide_eq_true rfl,decide_eq_true (by show((acc++[_]).length:Int)≤1000000;rw[j9];show((acc.length+1:Nat):Int)≤_;omega)⟩
  ·show some (0,[Val.vi ((den ω' cS4).toL.length:Int),Val.vi (arI .add .i64 (ω'.w 2001).toI 1),den ω' cS4])=_
   rw[dc,v1]
   rw[show arI .add .i64 (Val.vi (i:Int)).toI 1=((i+1:Nat):Int)from a03 hi (by omega)];rfl
 ·rw[List.nil_append,aI5 (pnR (ω.w 6)) J,hl]
  show Q1 d67 (ω.upd 2000 [.vi J.length,.vi J.length,.vl (J.map (pnR (ω.w 6)))])=_
  have d3:=d3 [.vi J.length,.vi J.length,.vl (J.map (pnR (ω.w 6)))]
  have v0:(ω.upd 2000 [.vi J.length,.vi J.length,.vl (J.map (pnR (ω.w 6)))]).w 2000= .vi J.length:=by rw[Q3];simp
  have v1:(ω.upd 2000 [.vi J.length,.vi J.length,.vl (J.map (pnR (ω.w 6)))]).w 2001= .vi J.length:=by rw[Q3];simp
  have v2:(ω.upd 2000 [.vi J.length,.vi J.length,.vl (J.map (pnR (ω.w 6)))]).w 2002= .vl (J.map (pnR (ω.w 6))):=by rw[Q3];simp
  generalize ω.upd 2000 [.vi J.length,.vi J.length,.vl (J.map (pnR (ω.w 6)))]=ω' at*
  rw[cg0]
  refine T1 ?_ ?_
  ·show decide ((ω'.w 2001).toI<((den ω' W1).toL.length:Int))=false
   rw[v1,d3];exact decide_eq_false (by show¬(J.length:Int)<(J.length:Int);omega)
  ·show some (1,[ω'.w 2000,ω'.w 2001,ω'.w 2002])=_
   rw[v0,v1,v2]
section
variable{X:Nat→List Val→Val}{ω:Opq}(hf: ∀i a,ω.f i a=FT X i a)
include hf
theorem t_joined(hn:dB ω (zn (zb (zl 4) 24) (.app 491 [.va 4]))=true):Q1 T_joined ω=some (0,[R6 (FT X 725 [ω.w 3,ω.w 4,ω.w 6,ω.w 7]).toL 0 0,R6 (FT X 725 [ω.w 3,ω.w 4,ω.w 6,ω.w 7]).toL 0 1,R6 (FT X 725 [ω.w 3,ω.w 4,ω.w 6,ω.w 7]).toL 0 2,FT X 724 [ω.w 3,ω.w 4,ω.w 6,ω.w 7]]):=by
 obtain⟨n3,n4⟩:=P8 (show(dB ω (zb (zl 4) 24)&&dB ω (.app 491 [.va 4]))=true from hn)
 have n3':((ω.w 4).toL.length:Int)≤24:=of_decide_eq_true n3
 have hs:ω.f 723 [ω.w 4,ω.w 6]= .vl (ssV (ω.w 4).toL (ω.w 6)):=by rw[hf];rfl
 have hl:(ssV (ω.w 4).toL (ω.w 6)).length≤24:=by
  have h1:=ac7 swo_spanV (spL (ω.w 4).toL (ω.w 6).toS)
  have h2:=b99 (ω.w 4).toL (ω.w 6).toS
  unfold ssV;omega
 have jl:(jnV (ω.w 3) (ω.w 4).toL (ω.w 6) (ω.w 7)).length≤24:=by have:=by1 (ω.w 3) (ω.w 4).toL (ω.w 6) (ω.w 7);omega
 have d3:den ω W1= .vl (jnV (ω.w 3) (ω.w 4).toL (ω.w 6) (ω.w 7)):=by
  show ω.f 717 [ω.w 3,ω.w 7,ω.f 723 [ω.w 4,ω.w 6]]=_
  rw[hs,hf];rfl
 have D3: ∀vs,den (ω.upd 2000 vs) W1= .vl (jnV (ω.w 3) (ω.w 4).toL (ω.w 6) (ω.w 7)):=fun vs=>by
  have w3:(ω.upd 2000 vs).w 3=ω.w 3:=by rw[Q3];simp
  have w4:(ω.upd 2000 vs).w 4=ω.w 4:=by rw[Q3];simp
  have w6:(ω.upd 2000 vs).w 6=ω.w 6:=by rw[Q3];simp
  have w7:(ω.upd 2000 vs).w 7=ω.w 7:=by rw[Q3];simp
  have wf:(ω.upd 2000 vs).f=ω.f:=rfl
  generalize ω.upd 2000 vs=ω' at*
  show ω'.f 717 [ω'.w 3,ω'.w 7,ω'.f 723 [ω'.w 4,ω'.w 6]]=_
  rw[w3,w4,w6,w7,wf];exact d3
 have d0:den ω ay0= .vl [.vl (nwP (ω.w 3) (ω.w 4).toL (ω.w 6) (ω.w 7))]:=by
  show ω.f 718 [ω.w 3,ω.w 7,ω.f 723 [ω.w 4,ω.w 6]]=_
  rw[hs,hf];rfl
 have d1:den ω an2=(nwP (ω.w 3) (ω.w 4).toL (ω.w 6) (ω.w 7)).getD 0 default:=by show R6 (den ω ay0).toL 0 0=_;rw[d0];rfl
 have d2:den ω an3=(nwP (ω.w 3) (ω.w 4).toL (ω.w 6) (ω.w 7)).getD 1 default:=by show R6 (den ω ay0).toL 0 1=_;rw[d0];rfl
 have a1:R6 (FT X 725 [ω.w 3,ω.w 4,ω.w 6,ω.w 7]).toL 0 0=ω.w 6:=rfl
 have a2:R6 (FT X 725 [ω.w 3,ω.w 4,ω.w 6,ω.w 7]).toL 0 1=(nwP (ω.w 3) (ω.w 4).toL (ω.w 6) (ω.w 7)).getD 0 default:=rfl
 have a3:R6 (FT X 725 [ω.w 3,ω.w 4,ω.w 6,ω.w 7]).toL 0 2=(nwP (ω.w 3) (ω.w 4).toL (ω.w 6) (ω.w 7)).getD 1 default:=rfl
 have a4:FT X 724 [ω.w 3,ω.w 4,ω.w 6,ω.w 7]= .vl ((jnV (ω.w 3) (ω.w 4).toL (ω.w 6) (ω.w 7)).map (pnR (ω.w 6))):=rfl
 rw[a1,a2,a3,a4]
 have ml:((jnV (ω.w 3) (ω.w 4).toL (ω.w 6) (ω.w 7)).map (pnR (ω.w 6))).length=(jnV (ω.w 3) (ω.w 4).toL (ω.w 6) (ω.w 7)).length:=m7 ..
 generalize jnV (ω.w 3) (ω.w 4).toL (ω.w 6) (ω.w 7)=J at*
 have e4:den ω ay1=W4 (0,[.vi J.length,.vi J.length,.vl (J.map (pnR (ω.w 6)))]):=by
  show ω.f 758 [.vi 0,.vi 0,.vl [],ω.w 5,ω.w 6,ω.w 7,ω.w 8,den ω an2,den ω an3,.vi (den ω W1).toL.length,den ω W1,.vi (den ω W1).toL.length]=_
  rw[hf,d3];rfl
 have d5:den ω ay2= .vl (J.map (pnR (ω.w 6))):=by show R6 (den ω ay1).toL 1 2=_;rw[e4];rfl
 unfold T_joined
 refine Q6 ?_ (Q6 ?_ (Q8 (r:=(0,[.vi J.length,.vi J.length,.vl (J.map (pnR (ω.w 6)))])) (dl2 jl D3) e4 (Q6 ?_ ?_)))
 ·rw[Z1,e9]
  exact⟨by rw[V3,a08];exact decide_eq_true (by show((ω.w 4).toL.length:Int)≤400;omega),n4⟩
 ·show decide (((ω.f 723 [ω.w 4,ω.w 6]).toL.length:Int)≤24)=true
  rw[hs];exact decide_eq_true (by show((ssV (ω.w 4).toL (ω.w 6)).length:Int)≤24;omega)
 ·show decide ((R6 (den ω ay1).toL 1 0).toI=((den ω ay2).toL.length:Int))=true
  rw[d5,e4];exact decide_eq_true (congrArg Int.ofNat ml.symm)
 ·show some (0,[ω.w 6,den ω an2,den ω an3,den ω ay2])=_
  rw[d1,d2,d5]
end
end Go.Ev.S9
namespace Go.Ev.S9
open Go Go.Ev
theorem cg1:d68= .ite (zs (.va 2002) (zL X7)) (.need (zp (.va 2002)) (.need (zn (.op (.cmp .eql) [.va 2001,zl 2004]) (zb (zL bw7) 1000000)) (.ite (.op .not [dj8]) (.need (zn (.op (.cmp .eql) [.va 2000,zl 2003]) (zb (zL cw1) 1000000)) (.ret 0 [zL cw1,zL bw7,zi (.va 2002),cw1,bw7])) (.ret 0 [.va 2000,zL bw7,zi (.va 2002),.va 2003,bw7])))) (.ret 1 [.va 2000,.va 2001,.va 2002,.va 2003,.va 2004]):=rfl
theorem U9{ω:Opq}(x:SX):(den ω (zL x)).toI=((den ω x).toL.length:Int):=rfl
theorem cx6{ω:Opq}(n:Nat):den ω (.va n)=ω.w n:=rfl
theorem aI6{A:List Val}{x:Val}(h:A.length<1000000):(decide ((Val.vi (A.length:Int)).toI=((Val.vl A).toL.length:Int))&&decide (((Val.vl (A++[x])).toL.length:Int)≤1000000))=true:=by
 simp only[R0,a75,j9,List.length_singleton]
 simp
 omega
theorem by2(key ns ne r:Val):(goF key ns ne r).length≤1:=by unfold goF;cases cW2 key ns ne r<;>simp
def bS4(m P:List Val)(key ns ne v:Val)(k:Nat):List Val:=[.vi (Y2 (fun i=>goF key ns ne (atV P i)) k).length,.vi ([Val.vl [.vi 1,v,v,v]]++Y2 (fun i=>[alR m (atV P i)]) k).length,.vi k,.vl (Y2 (fun i=>goF key ns ne (atV P i)) k),.vl ([Val.vl [.vi 1,v,v,v]]++Y2 (fun i=>[alR m (atV P i)]) k)]
theorem dl3{ω:Opq}{P:List Val}{key ns ne v:Val}(hP:P.length≤24)(d5: ∀vs,den (ω.upd 2000 vs) X7= .vl P)(d2: ∀vs,den (ω.upd 2000 vs) aq0=key)(d3: ∀vs,den (ω.upd 2000 vs) aq1=ns)(d4: ∀vs,den (ω.upd 2000 vs) aq2=ne):
 R9 (fun vs=>Q1 d68 (ω.upd 2000 vs)) [.vi 0,.vi 1,.vi 0,.vl [],.vl [.vl [.vi 1,v,v,v]]]=some (0,bS4 (ω.w 4).toL P key ns ne v P.length):=by
 refine Z6 (st:=bS4 (ω.w 4).toL P key ns ne v) (n:=P.length) (fun k hk=> ?_) ?_
 ·have g1:=a64 (fun i=>by2 key ns ne (atV P i)) k
  have g2:=a18 (fun i=>alR (ω.w 4).toL (atV P i)) k
  unfold bS4
  simp only[Y2]
  rw[←v8]
  have g3:([Val.vl [.vi 1,v,v,v]]++Y2 (fun i=>[alR (ω.w 4).toL (atV P i)]) k).length=k+1:=by rw[j9,g2];exact y9 _ _
  generalize [Val.vl [.vi 1,v,v,v]]++Y2 (fun i=>[alR (ω.w 4).toL (atV P i)]) k=A at*
  generalize Y2 (fun i=>goF key ns ne (atV P i)) k=G at*
  show Q1 d68 (ω.upd 2000 [.vi G.length,.vi A.length,.vi k,.vl G,.vl A])=_
  have d2:=d2 [.vi G.length,.vi A.length,.vi k,.vl G,.vl A]
  have d3:=d3 [.vi G.length,.vi A.length,.vi k,.vl G,.vl A]
  have d4:=d4 [.vi G.length,.vi A.length,.vi k,.vl G,.vl A]
  have d5:=d5 [.vi G.length,.vi A.length,.vi k,.vl G,.vl A]
  have v0:(ω.upd 2000 [.vi G.length,.vi A.length,.vi k,.vl G,.vl A]).w 2000= .vi G.length:=by rw[Q3];simp
  have v1:(ω.upd 2000 [.vi G.length,.vi A.length,.vi k,.vl G,.vl A]).w 2001= .vi A.length:=by rw[Q3];simp
  have v2:(ω.upd 2000 [.vi G.length,.vi A.length,.vi k,.vl G,.vl A]).w 2002= .vi k:=by rw[Q3];simp
  have v3:(ω.upd 2000 [.vi G.length,.vi A.length,.vi k,.vl G,.vl A]).w 2003= .vl G:=by rw[Q3];simp
  have v4:(ω.upd 2000 [.vi G.length,.vi A.length,.vi k,.vl G,.vl A]).w 2004= .vl A:=by rw[Q3];simp
  have vm:(ω.upd 2000 [.vi G.length,.vi A.length,.vi k,.vl G,.vl A]).w 4=ω.w 4:=by rw[Q3];simp
  generalize ω.upd 2000 [.vi G.length,.vi A.length,.vi k,.vl G,.vl A]=ω' at*
  have dk:den ω' cQ2=a23 (atV P k):=by
   show Val.vl [R6 (den ω' X7).toL (ω'.w 2002).toI 0,R6 (den ω' X7).toL (ω'.w 2002).toI 1,R6 (den ω' X7).toL (ω'.w 2002).toI 2]=_
   rw[d5,v2];rfl
  have dc: ∀j:Nat,den ω' (bS0 (j:Int))=aZ5 (ω.w 4).toL (a23 (atV P k)) j:=fun j=>by
   show(bif decide (((a58 (ω'.w 4).toL (den ω' cQ2):Nat):Int)<((ω'.w 4).toL.length:Int))then R6 (ω'.w 4).toL ((a58 (ω'.w 4).toL (den ω' cQ2):Nat):Int) (j:Int)else Val.vi 0)=_
   rw[dk,vm]
   have e:decide (((a58 (ω.w 4).toL (a23 (atV P k)):Nat):Int)<((ω.w 4).toL.length:Int))=aU0 (ω.w 4).toL (a23 (atV P k)):=by
    unfold aU0;rw[decide_eq_decide];omega
   rw[e];rfl
  have da:den ω' bw7= .vl (A++[alR (ω.w 4).toL (atV P k)]):=by
   have c3:den ω' (bS0 3)=_:=dc 3
   have c4:den ω' (bS0 4)=_:=dc 4
   have c5:den ω' (bS0 5)=_:=dc 5
   have c6:den ω' (bS0 6)=_:=dc 6
   show Val.vl ((ω'.w 2004).toL++[.vl [den ω' (bS0 3),den ω' (bS0 4),den ω' (bS0 5),den ω' (bS0 6)]])=_
   rw[v4,c3,c4,c5,c6];rfl
  have dg:den ω' cw1= .vl (G++[a23 (atV P k)]):=by
   show Val.vl ((ω'.w 2003).toL++[den ω' cQ2])=_
   rw[v3,dk];rfl
  have ds:dB ω' dj8=cW2 key ns ne (atV P k):=by
   show(decide ((R6 (den ω' X7).toL (ω'.w 2002).toI 0).toS=(den ω' aq0).toS)&&(decide ((R6 (den ω' X7).toL (ω'.w 2002).toI 1).toI=(den ω' aq1).toI)&&decide ((R6 (den ω' X7).toL (ω'.w 2002).toI 2).toI=(den ω' aq2).toI)))=_
   rw[d2,d3,d4,d5,v2];rfl
  have inc:arI .add .i64 (Val.vi (k:Int)).toI 1=((k+1:Nat):Int):=a03 hk (by omega)
  rw[cg1]
  refine T7 ?_ (Q6 ?_ (Q6 ?_ ?_))
  ·show decide ((ω'.w 2002).toI<((den ω' X7).toL.length:Int))=true
   rw[v2,d5];exact decide_eq_true (by show(k:Int)<(P.length:Int);omega)
  ·rw[V3,a08,ad3,v2];exact decide_eq_true (by show(0:Int)≤(k:Int);omega)
  ·rw[Z1,aC8,V3,a08,U9,U9,da,ad3,cx6,v1,v4];exact aI6 (by omega)
  ·unfold goF
   cases hS:cW2 key ns ne (atV P k)with
   |true=>
    refine T1 (by rw[aG1,ds,hS];rfl) ?_
    show some (0,[ω'.w 2000,Val.vi ((den ω' bw7).toL.length:Int),Val.vi (arI .add .i64 (ω'.w 2002).toI 1),ω'.w 2003,den ω' bw7])=_
    rw[v0,v2,v3,da,inc]
    simp
   |false=>
    refine T7 (by rw[aG1,ds,hS];rfl) (Q6 ?_ ?_)
    ·rw[Z1,aC8,V3,a08,U9,U9,dg,ad3,cx6,v0,v3];exact aI6 (by omega)
    ·show some (0,[Val.vi ((den ω' cw1).toL.length:Int),Val.vi ((den ω' bw7).toL.length:Int),Val.vi (arI .add .i64 (ω'.w 2002).toI 1),den ω' cw1,den ω' bw7])=_
     rw[v2,da,dg,inc];rfl
 ·unfold bS4
  generalize [Val.vl [.vi 1,v,v,v]]++Y2 (fun i=>[alR (ω.w 4).toL (atV P i)]) P.length=A
  generalize Y2 (fun i=>goF key ns ne (atV P i)) P.length=G
  show Q1 d68 (ω.upd 2000 [.vi G.length,.vi A.length,.vi P.length,.vl G,.vl A])=_
  have d5:=d5 [.vi G.length,.vi A.length,.vi P.length,.vl G,.vl A]
  have v0:(ω.upd 2000 [.vi G.length,.vi A.length,.vi P.length,.vl G,.vl A]).w 2000= .vi G.length:=by rw[Q3];simp
  have v1:(ω.upd 2000 [.vi G.length,.vi A.length,.vi P.length,.vl G,.vl A]).w 2001= .vi A.length:=by rw[Q3];simp
  have v2:(ω.upd 2000 [.vi G.length,.vi A.length,.vi P.length,.vl G,.vl A]).w 2002= .vi P.length:=by rw[Q3];simp
  have v3:(ω.upd 2000 [.vi G.length,.vi A.length,.vi P.length,.vl G,.vl A]).w 2003= .vl G:=by rw[Q3];simp
  have v4:(ω.upd 2000 [.vi G.length,.vi A.length,.vi P.length,.vl G,.vl A]).w 2004= .vl A:=by rw[Q3];simp
  generalize ω.upd 2000 [.vi G.length,.vi A.length,.vi P.length,.vl G,.vl A]=ω' at*
  rw[cg1]
  refine T1 ?_ ?_
  ·show decide ((ω'.w 2002).toI<((den ω' X7).toL.length:Int))=false
   rw[v2,d5];exact decide_eq_false (by show¬(P.length:Int)<(P.length:Int);omega)
  ·show some (1,[ω'.w 2000,ω'.w 2001,ω'.w 2002,ω'.w 2003,ω'.w 2004])=_
   rw[v0,v1,v2,v3,v4]
end Go.Ev.S9
namespace Go.Ev.S9
open Go Go.Ev
theorem aC9{ω:Opq}(a b:SX):dB ω (.op (.cmp .neq) [a,b])= !decide ((den ω a).toI=(den ω b).toI):=rfl
theorem cg2(l:List Val):(l.drop (0:Int).toNat).take ((l.length:Int)-0).toNat=l:=by simp
section
variable{X:Nat→List Val→Val}{ω:Opq}(hf: ∀i a,ω.f i a=FT X i a)
include hf
theorem t_sess(hn:dB ω (zn (zb (zl 4) 24) (.app 491 [.va 4]))=true):Q1 T_sess ω=some (0,[FT X 729 [ω.w 3,ω.w 4,ω.w 6,ω.w 7,ω.w 8],FT X 727 [ω.w 3,ω.w 4,ω.w 6,ω.w 7,ω.w 8],FT X 728 [ω.w 3,ω.w 4,ω.w 6,ω.w 7,ω.w 8]]):=by
 obtain⟨n3,n4⟩:=P8 (show(dB ω (zb (zl 4) 24)&&dB ω (.app 491 [.va 4]))=true from hn)
 have n3':((ω.w 4).toL.length:Int)≤24:=of_decide_eq_true n3
 have a9:FT X 729 [ω.w 3,ω.w 4,ω.w 6,ω.w 7,ω.w 8]= .vi (seE (ω.w 3) (ω.w 4).toL (ω.w 6) (ω.w 7) (ω.w 8)):=rfl
 have a7:FT X 727 [ω.w 3,ω.w 4,ω.w 6,ω.w 7,ω.w 8]= .vl (seG (ω.w 3) (ω.w 4).toL (ω.w 6) (ω.w 7) (ω.w 8)):=rfl
 have a8:FT X 728 [ω.w 3,ω.w 4,ω.w 6,ω.w 7,ω.w 8]= .vl (seR (ω.w 3) (ω.w 4).toL (ω.w 6) (ω.w 7) (ω.w 8)):=rfl
 rw[a9,a7,a8]
 have jl:=by1 (ω.w 3) (ω.w 4).toL (ω.w 6) (ω.w 7)
 have pl:(pnV (ω.w 3) (ω.w 4).toL (ω.w 6) (ω.w 7)).length≤24:=by
  unfold pnV;rw[List.length_map];omega
 have f4:ω.f 724 [ω.w 3,ω.w 4,ω.w 6,ω.w 7]= .vl (pnV (ω.w 3) (ω.w 4).toL (ω.w 6) (ω.w 7)):=by rw[hf];rfl
 have f5:ω.f 725 [ω.w 3,ω.w 4,ω.w 6,ω.w 7]= .vl [.vl (ω.w 6::nwP (ω.w 3) (ω.w 4).toL (ω.w 6) (ω.w 7))]:=by rw[hf];rfl
 unfold seG seR seE
 generalize pnV (ω.w 3) (ω.w 4).toL (ω.w 6) (ω.w 7)=P at*
 generalize nwP (ω.w 3) (ω.w 4).toL (ω.w 6) (ω.w 7)=N at*
 have W: ∀vs:List Val,∀n:Nat,n<2000→(ω.upd 2000 vs).w n=ω.w n:=fun vs n hn=>by rw[Q3,if_neg (by omega)]
 have d5:den ω X7= .vl P:=f4
 have d1:den ω ak7= .vl [.vl (ω.w 6::N)]:=f5
 have D5: ∀vs,den (ω.upd 2000 vs) X7= .vl P:=fun vs=>by
  show ω.f 724 [(ω.upd 2000 vs).w 3,(ω.upd 2000 vs).w 4,(ω.upd 2000 vs).w 6,(ω.upd 2000 vs).w 7]=_
  rw[W vs 3 (by omega),W vs 4 (by omega),W vs 6 (by omega),W vs 7 (by omega)];exact f4
 have D1: ∀vs,den (ω.upd 2000 vs) ak7= .vl [.vl (ω.w 6::N)]:=fun vs=>by
  show ω.f 725 [(ω.upd 2000 vs).w 3,(ω.upd 2000 vs).w 4,(ω.upd 2000 vs).w 6,(ω.upd 2000 vs).w 7]=_
  rw[W vs 3 (by omega),W vs 4 (by omega),W vs 6 (by omega),W vs 7 (by omega)];exact f5
 have d2:den ω aq0=ω.w 6:=by show R6 (den ω ak7).toL 0 0=_;rw[d1];rfl
 have d3:den ω aq1=N.getD 0 default:=by show R6 (den ω ak7).toL 0 1=_;rw[d1];rfl
 have d4:den ω aq2=N.getD 1 default:=by show R6 (den ω ak7).toL 0 2=_;rw[d1];rfl
 have D2: ∀vs,den (ω.upd 2000 vs) aq0=ω.w 6:=fun vs=>by show R6 (den (ω.upd 2000 vs) ak7).toL 0 0=_;rw[D1];rfl
 have D3: ∀vs,den (ω.upd 2000 vs) aq1=N.getD 0 default:=fun vs=>by show R6 (den (ω.upd 2000 vs) ak7).toL 0 1=_;rw[D1];rfl
 have D4: ∀vs,den (ω.upd 2000 vs) aq2=N.getD 1 default:=fun vs=>by show R6 (den (ω.upd 2000 vs) ak7).toL 0 2=_;rw[D1];rfl
 generalize N.getD 0 default=ns at*
 generalize N.getD 1 default=ne at*
 have d0:den ω aS4= .vl [.vl [.vi 1,ω.w 8,ω.w 8,ω.w 8]]:=rfl
 have hA:[Val.vl [.vi 1,ω.w 8,ω.w 8,ω.w 8]]++Y2 (fun i=>[alR (ω.w 4).toL (atV P i)]) P.length=bJ6 (ω.w 4).toL P (ω.w 8):=by
  rw[aI5 (alR (ω.w 4).toL) P];rfl
 have hst:bS4 (ω.w 4).toL P (ω.w 6) ns ne (ω.w 8) P.length=[.vi (goV P (ω.w 6) ns ne).length,.vi (bJ6 (ω.w 4).toL P (ω.w 8)).length,.vi P.length,.vl (goV P (ω.w 6) ns ne),.vl (bJ6 (ω.w 4).toL P (ω.w 8))]:=by
  unfold bS4;rw[hA];rfl
 have lp:=dl3 (v:=ω.w 8) pl D5 D2 D3 D4
 rw[hst]at lp
 have al:(bJ6 (ω.w 4).toL P (ω.w 8)).length≤31:=by
  show(P.map _).length+1≤31
  rw[m7];omega
 have e6:den ω aq3=W4 (0,[.vi (goV P (ω.w 6) ns ne).length,.vi (bJ6 (ω.w 4).toL P (ω.w 8)).length,.vi P.length,.vl (goV P (ω.w 6) ns ne),.vl (bJ6 (ω.w 4).toL P (ω.w 8))]):=by
  show ω.f 759 [.vi 0,.vi (den ω aS4).toL.length,.vi 0,.vl [],den ω aS4,ω.w 0,ω.w 1,ω.w 2,ω.w 3,ω.w 4,den ω aq0,den ω aq1,den ω aq2,.vi (den ω X7).toL.length,den ω X7,.vi (den ω X7).toL.length]=_
  rw[hf,d0,d2,d3,d4,d5];rfl
 generalize goV P (ω.w 6) ns ne=G at*
 generalize bJ6 (ω.w 4).toL P (ω.w 8)=A at*
 have d7:den ω bm3= .vi A.length:=by show R6 (den ω aq3).toL 1 1=_;rw[e6];rfl
 have d8:den ω bJ2= .vl A:=by show R6 (den ω aq3).toL 1 4=_;rw[e6];rfl
 have dg:den ω (zo aq3 0)= .vi G.length:=by show R6 (den ω aq3).toL 1 0=_;rw[e6];rfl
 have d10:den ω b88= .vl G:=by show R6 (den ω aq3).toL 1 3=_;rw[e6];rfl
 have d9:den ω a74= .vl A:=by
  show Val.vl (((den ω bJ2).toL.drop (0:Int).toNat).take ((den ω bm3).toI-0).toNat)=_
  rw[d7,d8];exact congrArg Val.vl (cg2 A)
 have f6:ω.f 706 [den ω a74]= .vi (jE A):=by rw[d9,hf];rfl
 have f5':ω.f 705 [den ω a74]= .vl [.vl (jR A)]:=by rw[d9,hf];rfl
 unfold T_sess
 refine Q6 hn (Q8 (r:=(0,[.vi G.length,.vi A.length,.vi P.length,.vl G,.vl A])) lp e6 (Q6 ?_ ?_))
 ·rw[Z1,Z1,V3,V3,V3,a08,a08,U9,U9,d7,d8,d9]
  exact a3 (by show(0:Int)≤(A.length:Int);omega) (y8 _) (by show(A.length:Int)≤1000;omega)
 ·have hne:dB ω (.op (.cmp .neq) [.app 706 [a74],.ci 0])= !decide (jE A=0):=by
   rw[aC9,a08]
   show(!decide ((ω.f 706 [den ω a74]).toI=0))=_
   rw[f6];rfl
  by_cases h:jE A=0
  ·rw[if_neg (by simp[h]),if_neg (by simp[h])]
   refine T1 (by rw[hne,decide_eq_true h];rfl) (Q6 ?_ ?_)
   ·rw[aC8,U9,dg,d10];exact decide_eq_true rfl
   ·show some (0,[Val.vi 0,den ω b88,.vl [.vl [den ω aq0,den ω aq1,den ω aq2,R6 (ω.f 705 [den ω a74]).toL 0 0,R6 (ω.f 705 [den ω a74]).toL 0 1,R6 (ω.f 705 [den ω a74]).toL 0 2,R6 (ω.f 705 [den ω a74]).toL 0 3]]])=_
    rw[d10,d2,d3,d4,f5',h];rfl
  ·rw[if_pos h,if_pos h]
   refine T7 (by rw[hne,decide_eq_false h];rfl) ?_
   show some (0,[ω.f 706 [den ω a74],Val.vl [],Val.vl []])=_
   rw[f6]
end
end Go.Ev.S9
namespace Go.Ev.S9
open Go Go.Ev
theorem cg3:cQ3= .ite (zs (.va 2002) (zL Z0)) (.need (zp (.va 2002)) (.ite (.op (.cmp .neq) [ck9,.ci 0]) (.ret 1 [.va 2000,ck9,.va 2002,.va 2003]) (.need (zn (.op (.cmp .eql) [.va 2000,zl 2003]) (zb (zL cw3) 1000000)) (.ret 0 [zL cw3,ck9,zi (.va 2002),cw3])))) (.ret 1 [.va 2000,.va 2001,.va 2002,.va 2003]):=rfl
def bm8(m S:List Val)(key v e0:Val)(k:Nat):List Val:=[.vi (tpL m S key v k).length,if k=0 then e0 else .vi 0,.vi k,.vl (tpL m S key v k)]
section
variable{X:Nat→List Val→Val}{ω:Opq}(hf: ∀i a,ω.f i a=FT X i a)
include hf
theorem cE5{S:List Val}{e0:Val}(D1: ∀vs,den (ω.upd 2000 vs) Z0= .vl S){k:Nat}(hk:k<S.length)(hS:S.length≤1000):
 Q1 cQ3 (ω.upd 2000 (bm8 (ω.w 4).toL S (ω.w 6) (ω.w 8) e0 k))=if tpE (ω.w 4).toL (ω.w 6) (ω.w 8) (atV S k)≠0 then some (1,[.vi k,.vi (tpE (ω.w 4).toL (ω.w 6) (ω.w 8) (atV S k)),.vi k,.vl (tpL (ω.w 4).toL S (ω.w 6) (ω.w 8) k)])else some (0,bm8 (ω.w 4).toL S (ω.w 6) (ω.w 8) e0 (k+1)):=by
 have hl:(tpL (ω.w 4).toL S (ω.w 6) (ω.w 8) k).length=k:=a18 (fun i=>tpR (ω.w 4).toL (ω.w 6) (ω.w 8) (atV S i)) k
 have hs:tpL (ω.w 4).toL S (ω.w 6) (ω.w 8) (k+1)=tpL (ω.w 4).toL S (ω.w 6) (ω.w 8) k++[tpR (ω.w 4).toL (ω.w 6) (ω.w 8) (atV S k)]:=rfl
 unfold bm8
 rw[hs]
 have W: ∀vs:List Val,∀n:Nat,n<2000→(ω.upd 2000 vs).w n=ω.w n:=fun vs n hn=>by rw[Q3,if_neg (by omega)]
 generalize tpL (ω.w 4).toL S (ω.w 6) (ω.w 8) k=L at*
 generalize (if k=0 then e0 else Val.vi 0)=ee
 have D1:=D1 [.vi L.length,ee,.vi k,.vl L]
 have W:=W [.vi L.length,ee,.vi k,.vl L]
 have w4:=W 4 (by omega)
 have w6:=W 6 (by omega)
 have w8:=W 8 (by omega)
 have v0:(ω.upd 2000 [.vi L.length,ee,.vi k,.vl L]).w 2000= .vi L.length:=by rw[Q3];simp
 have v2:(ω.upd 2000 [.vi L.length,ee,.vi k,.vl L]).w 2002= .vi k:=by rw[Q3];simp
 have v3:(ω.upd 2000 [.vi L.length,ee,.vi k,.vl L]).w 2003= .vl L:=by rw[Q3];simp
 have wf:(ω.upd 2000 [.vi L.length,ee,.vi k,.vl L]).f=ω.f:=rfl
 generalize ω.upd 2000 [.vi L.length,ee,.vi k,.vl L]=ω' at*
 have dk:den ω' d69=pnR (ω.w 6) (atV S k):=by
  show Val.vl [ω'.w 6,R6 (den ω' Z0).toL (ω'.w 2002).toI 0,R6 (den ω' Z0).toL (ω'.w 2002).toI 1]=_
  rw[D1,v2,w6];rfl
 have dc: ∀j:Nat,den ω' (aV4 (j:Int))=pcA (ω.w 4).toL (ω.w 6) (atV S k) j:=fun j=>by
  show(bif decide (((a58 (ω'.w 4).toL (den ω' d69):Nat):Int)<((ω'.w 4).toL.length:Int))then R6 (ω'.w 4).toL ((a58 (ω'.w 4).toL (den ω' d69):Nat):Int) (j:Int)else Val.vi 0)=_
  rw[dk,w4]
  have e:decide (((a58 (ω.w 4).toL (pnR (ω.w 6) (atV S k)):Nat):Int)<((ω.w 4).toL.length:Int))=aU0 (ω.w 4).toL (pnR (ω.w 6) (atV S k)):=by
   unfold aU0;rw[decide_eq_decide];omega
  rw[e];rfl
 have c3:den ω' (aV4 3)=_:=dc 3
 have c4:den ω' (aV4 4)=_:=dc 4
 have c5:den ω' (aV4 5)=_:=dc 5
 have c6:den ω' (aV4 6)=_:=dc 6
 have de:den ω' ck9= .vi (tpE (ω.w 4).toL (ω.w 6) (ω.w 8) (atV S k)):=by
  show ω'.f 708 [den ω' (aV4 3),den ω' (aV4 4),den ω' (aV4 5),den ω' (aV4 6),ω'.w 8]=_
  rw[wf,hf,c3,c4,c5,c6,w8];rfl
 have dq:den ω' cw2= .vl [.vl (tpQ (ω.w 4).toL (ω.w 6) (ω.w 8) (atV S k))]:=by
  show ω'.f 707 [den ω' (aV4 3),den ω' (aV4 4),den ω' (aV4 5),den ω' (aV4 6),ω'.w 8]=_
  rw[wf,hf,c3,c4,c5,c6,w8];rfl
 have dr:den ω' cw3= .vl (L++[tpR (ω.w 4).toL (ω.w 6) (ω.w 8) (atV S k)]):=by
  show Val.vl ((ω'.w 2003).toL++[.vl [ω'.w 6,R6 (den ω' Z0).toL (ω'.w 2002).toI 0,R6 (den ω' Z0).toL (ω'.w 2002).toI 1,R6 (den ω' cw2).toL 0 0,R6 (den ω' cw2).toL 0 1,R6 (den ω' cw2).toL 0 2,R6 (den ω' cw2).toL 0 3]])=_
  rw[v3,w6,D1,v2,dq];rfl
 have inc:arI .add .i64 (Val.vi (k:Int)).toI 1=((k+1:Nat):Int):=a03 hk (by omega)
 have dn:dB ω' (.op (.cmp .neq) [ck9,.ci 0])= !decide (tpE (ω.w 4).toL (ω.w 6) (ω.w 8) (atV S k)=0):=by
  rw[aC9,a08,de];rfl
 rw[cg3]
 refine T7 ?_ (Q6 ?_ ?_)
 ·show decide ((ω'.w 2002).toI<((den ω' Z0).toL.length:Int))=true
  rw[v2,D1];exact decide_eq_true (by show(k:Int)<(S.length:Int);omega)
 ·rw[V3,a08,ad3,v2];exact decide_eq_true (by show(0:Int)≤(k:Int);omega)
 ·by_cases h:tpE (ω.w 4).toL (ω.w 6) (ω.w 8) (atV S k)=0
  ·rw[if_neg (by simp[h])]
   refine T1 (by rw[dn,decide_eq_true h];rfl) (Q6 ?_ ?_)
   ·rw[Z1,aC8,V3,a08,U9,U9,dr,ad3,cx6,v0,v3];exact aI6 (by omega)
   ·show some (0,[Val.vi ((den ω' cw3).toL.length:Int),den ω' ck9,Val.vi (arI .add .i64 (ω'.w 2002).toI 1),den ω' cw3])=_
    rw[v2,dr,de,inc,h];rfl
  ·rw[if_pos h]
   refine T7 (by rw[dn,decide_eq_false h];rfl) ?_
   show some (1,[ω'.w 2000,den ω' ck9,ω'.w 2002,ω'.w 2003])=_
   rw[v0,v2,v3,de,hl]
end
end Go.Ev.S9
namespace Go.Ev.S9
open Go Go.Ev
def rowS(r:Val):Prop:= ∃(k:List UInt8) (a b c d e f:Int),r= .vl [.vs k,.vi a,.vi b,.vi c,.vi d,.vi e,.vi f]∧k.length≤1000
theorem d86(l:List Val): ∀k,∃a b,(jS l k).getD 2 default= .vi a∧(jS l k).getD 3 default= .vi b
 |0=>⟨0,0,rfl,rfl⟩
 |k+1=>by
  unfold jS
  cases ay4 (atV l k)with
  |true=>exact d86 l k
  |false=>
   simp only[cond_false]
   split<;>exact⟨_,_,rfl,rfl⟩
theorem dl4{l:List Val}(h:jE l=0): ∃a b c d,jR l=[.vi a,.vi b,.vi c,.vi d]:=by
 obtain⟨c,d,h1,h2⟩:=d86 l l.length
 have hn: ¬(aV6 (jC l)≠0∨aV6 (jT l)≠0):=fun hc=>by
  unfold jE at h;rw[if_pos hc]at h;cases h
 unfold jR
 rw[if_neg hn,h1,h2]
 exact⟨_,_,_,_,rfl⟩
theorem cS5{k s l g:Int}{t:Val}(h3:k≠3): ∀r∈ofV k s l g t,∃a b,r= .vl [.vi a,.vi b]:=by
 intro r hr
 unfold ofV at hr
 cases h:(T2 k s l g&&U8 t.toI)with
 |false=>rw[h]at hr;cases hr
 |true=>
  rw[h]at hr
  simp only[cond_true,if_neg h3]at hr
  rw[Z5]at hr
  obtain⟨i,_,hi⟩:=B6.1 hr
  unfold bb3 at hi
  rw[o7]at hi
  exact⟨_,_,hi⟩
theorem by3{k s l g:Int}{t:Val}(h3:k≠3):(ofV k s l g t).length≤16:=by
 unfold ofV
 cases h:(T2 k s l g&&U8 t.toI)with
 |false=>exact l6 _
 |true=>
  simp only[cond_true,if_neg h3]
  rw[show(Y2 (bb3 (al0 t.toI (Z9 k s l)-s+Z9 k s l) (Z9 k s l) s) (aF9 k s l)).length=aF9 k s l from a18 _ _]
  have hw:=(P8 h).1
  unfold T2 at hw
  unfold aF9 Z9
  by_cases k2:k=2
  ·simp[k2]at hw
   rw[if_pos k2];omega
  ·rw[if_neg k2]
   by_cases k1:k=1
   ·simp[k1]at hw
    rw[Int.ediv_self (by omega)];decide
   ·simp[k1,k2,h3]at hw
theorem ba0(m S:List Val)(key v:Val):tpK m S key v≤S.length∧(∀i,i<tpK m S key v→tpE m key v (atV S i)=0)∧(tpK m S key v<S.length→tpE m key v (atV S (tpK m S key v))≠0):=by
 unfold tpK
 cases hf:(List.range S.length).find? fun i=>decide (tpE m key v (atV S i)≠0)with
 |none=>
  refine⟨e8 _,fun i hi=> ?_,fun h=>absurd h (K6 _)⟩
  have:=P0.1 hf i (s9.2 hi)
  simpa using this
 |some k=>
  obtain⟨a,b,c⟩:=an1 hf
  refine⟨Nat.le_of_lt a,fun i hi=> ?_,fun _=>by simpa using b⟩
  have:=c i hi
  simpa using this
section
variable{X:Nat→List Val→Val}{ω:Opq}(hf: ∀i a,ω.f i a=FT X i a)
include hf
theorem dl5{S:List Val}{e0:Val}(D1: ∀vs,den (ω.upd 2000 vs) Z0= .vl S)(hS:S.length≤16):
 R9 (fun vs=>Q1 cQ3 (ω.upd 2000 vs)) [.vi 0,e0,.vi 0,.vl []]=some (0,[.vi (tpK (ω.w 4).toL S (ω.w 6) (ω.w 8)),tpX (ω.w 4).toL S (ω.w 6) (ω.w 8) e0,.vi (tpK (ω.w 4).toL S (ω.w 6) (ω.w 8)),.vl (tpL (ω.w 4).toL S (ω.w 6) (ω.w 8) (tpK (ω.w 4).toL S (ω.w 6) (ω.w 8)))]):=by
 obtain⟨k1,k2,k3⟩:=ba0 (ω.w 4).toL S (ω.w 6) (ω.w 8)
 have h0:([.vi 0,e0,.vi 0,.vl []]:List Val)=bm8 (ω.w 4).toL S (ω.w 6) (ω.w 8) e0 0:=rfl
 rw[h0]
 refine Z6 (st:=bm8 (ω.w 4).toL S (ω.w 6) (ω.w 8) e0) (n:=tpK (ω.w 4).toL S (ω.w 6) (ω.w 8)) (fun k hk=> ?_) ?_
 ·show Q1 cQ3 (ω.upd 2000 (bm8 (ω.w 4).toL S (ω.w 6) (ω.w 8) e0 k))=_
  rw[cE5 hf D1 (by omega) (by omega),if_neg (by simp[k2 k hk])]
 ·show Q1 cQ3 (ω.upd 2000 (bm8 (ω.w 4).toL S (ω.w 6) (ω.w 8) e0 (tpK (ω.w 4).toL S (ω.w 6) (ω.w 8))))=_
  unfold tpX
  by_cases h:tpK (ω.w 4).toL S (ω.w 6) (ω.w 8)<S.length
  ·rw[cE5 hf D1 h (by omega),if_pos (k3 h),if_pos h]
  ·have e:tpK (ω.w 4).toL S (ω.w 6) (ω.w 8)=S.length:=by omega
   rw[if_neg h,e]
   have hl:(tpL (ω.w 4).toL S (ω.w 6) (ω.w 8) S.length).length=S.length:=a18 (fun i=>tpR (ω.w 4).toL (ω.w 6) (ω.w 8) (atV S i)) _
   unfold bm8
   rw[hl]
   generalize tpL (ω.w 4).toL S (ω.w 6) (ω.w 8) S.length=L at*
   generalize (if S.length=0 then e0 else Val.vi 0)=ee
   have D1:=D1 [.vi S.length,ee,.vi S.length,.vl L]
   have v0:(ω.upd 2000 [.vi S.length,ee,.vi S.length,.vl L]).w 2000= .vi S.length:=by rw[Q3];simp
   have v1:(ω.upd 2000 [.vi S.length,ee,.vi S.length,.vl L]).w 2001=ee:=by rw[Q3];simp
   have v2:(ω.upd 2000 [.vi S.length,ee,.vi S.length,.vl L]).w 2002= .vi S.length:=by rw[Q3];simp
   have v3:(ω.upd 2000 [.vi S.length,ee,.vi S.length,.vl L]).w 2003= .vl L:=by rw[Q3];simp
   generalize ω.upd 2000 [.vi S.length,ee,.vi S.length,.vl L]=ω' at*
   rw[cg3]
   refine T1 ?_ ?_
   ·show decide ((ω'.w 2002).toI<((den ω' Z0).toL.length:Int))=false
    rw[v2,D1];exact decide_eq_false (by show¬(S.length:Int)<(S.length:Int);omega)
   ·show some (1,[ω'.w 2000,ω'.w 2001,ω'.w 2002,ω'.w 2003])=_
    rw[v0,v1,v2,v3]
end
end Go.Ev.S9
namespace Go.Ev.S9
open Go Go.Ev
def w9(ω:Opq):List Val:=[ω.w 0,ω.w 1,ω.w 2,ω.w 3,ω.w 4,ω.w 5,ω.w 6,ω.w 7,ω.w 8]
theorem cS6{m:List Val}{key v r:Val}(hk:dk2 key=true)(hl:key.toS.length≤1000)(hr: ∃a b,r= .vl [.vi a,.vi b])(he:tpE m key v r=0):rowS (tpR m key v r):=by
 obtain⟨a,b,rfl⟩:=hr
 obtain⟨c,d,e,f,hq⟩:=dl4 he
 cases key with
 |vs k=>
  refine⟨k,a,b,c,d,e,f,?_,hl⟩
  unfold tpR tpQ bS2
  unfold tpE at he
  rw[if_neg (by simp[he]),hq];rfl
 |vi _=>cases hk
 |vb _=>cases hk
 |vl _=>cases hk
section
variable{X:Nat→List Val→Val}{ω:Opq}(hf: ∀i a,ω.f i a=FT X i a)
include hf
theorem t_tryE(h431: ∀l:List Val,(∀r∈l,rowS r)→(X 431 [.vl l]).toB=true)
 (hn:dB ω (zn (zn (zn (zb (zl 4) 400) (.app 431 [.va 4])) (.app 491 [.va 4])) (.app 739 [.va 0,.va 4,.va 6]))=true):
 Q1 T_tryE ω=some (0,[.vi (ao5 (w9 ω)),.vl (ay5 (w9 ω)),as8 X (w9 ω)]):=by
 rw[Z1,Z1]at hn
 obtain⟨m1,m2⟩:=P8 hn
 obtain⟨m3,m4⟩:=P8 m1
 have m2:(ω.f 739 [ω.w 0,ω.w 4,ω.w 6]).toB=true:=m2
 rw[hf]at m2
 have m2:((!decide ((ω.w 0).toI=3)||decide ((ω.w 4).toL.length≤24))&&dk2 (ω.w 6))=true:=m2
 obtain⟨m5,m6⟩:=P8 m2
 have t0:den ω aq4= .vi (R8 (ω.w 5).toI (ω.w 6).toS (ω.w 7).toI (ω.w 8).toI):=by
  show ω.f 701 [ω.w 5,ω.w 6,ω.w 7,ω.w 8]=_
  rw[hf];rfl
 have g9:ao5 (w9 ω)=if R8 (ω.w 5).toI (ω.w 6).toS (ω.w 7).toI (ω.w 8).toI≠0 then R8 (ω.w 5).toI (ω.w 6).toS (ω.w 7).toI (ω.w 8).toI else if(ω.w 5).toI≠1 then 2 else if(ω.w 0).toI=3 then seE (ω.w 3) (ω.w 4).toL (ω.w 6) (ω.w 7) (ω.w 8)else(tpX (ω.w 4).toL (ofV (ω.w 0).toI (ω.w 1).toI (ω.w 2).toI (ω.w 3).toI (ω.w 7)) (ω.w 6) (ω.w 8) (.vi 0)).toI:=rfl
 have gG:ay5 (w9 ω)=if R8 (ω.w 5).toI (ω.w 6).toS (ω.w 7).toI (ω.w 8).toI≠0∨(ω.w 5).toI≠1 then []else if(ω.w 0).toI=3 then seG (ω.w 3) (ω.w 4).toL (ω.w 6) (ω.w 7) (ω.w 8)else []:=rfl
 have gR:as8 X (w9 ω)=if R8 (ω.w 5).toI (ω.w 6).toS (ω.w 7).toI (ω.w 8).toI≠0∨(ω.w 5).toI≠1 then .vl []else if(ω.w 0).toI=3 then .vl (seR (ω.w 3) (ω.w 4).toL (ω.w 6) (ω.w 7) (ω.w 8))else if ao5 (w9 ω)≠0 then .vl []else X 490 [.vl (tpL (ω.w 4).toL (ofV (ω.w 0).toI (ω.w 1).toI (ω.w 2).toI (ω.w 3).toI (ω.w 7)) (ω.w 6) (ω.w 8) (ofV (ω.w 0).toI (ω.w 1).toI (ω.w 2).toI (ω.w 3).toI (ω.w 7)).length)]:=rfl
 rw[gR,g9,gG]
 unfold T_tryE
 have c0:dB ω (.op (.cmp .neq) [aq4,.ci 0])= !decide (R8 (ω.w 5).toI (ω.w 6).toS (ω.w 7).toI (ω.w 8).toI=0):=by rw[aC9,a08,t0];rfl
 by_cases h0:R8 (ω.w 5).toI (ω.w 6).toS (ω.w 7).toI (ω.w 8).toI≠0
 ·rw[if_pos h0,if_pos (.inl h0),if_pos (.inl h0)]
  refine T7 (by rw[c0,decide_eq_false h0];rfl) ?_
  show some (0,[den ω aq4,Val.vl [],Val.vl []])=_
  rw[t0]
 rw[if_neg h0]
 have hlen:(ω.w 5).toI=1→(ω.w 6).toS.length≤32:=fun h1=>by
  have h:=Classical.not_not.1 h0
  rw[h1]at h
  unfold R8 at h
  rw[if_neg (by omega),if_pos rfl]at h
  by_cases q:(ω.w 6).toS=[]∨32<(ω.w 6).toS.length
  ·rw[if_pos q]at h;cases h
  ·exact C7.1 fun hh=>q (.inr hh)
 replace h0:=Classical.not_not.1 h0
 refine T1 (by rw[c0,decide_eq_true h0];rfl) ?_
 have c1:dB ω (.op (.cmp .neq) [.va 5,.ci 1])= !decide ((ω.w 5).toI=1):=by rw[aC9,a08,ad3]
 by_cases h1:(ω.w 5).toI≠1
 ·rw[if_pos h1,if_pos (.inr h1),if_pos (.inr h1)]
  exact T7 (by rw[c1,decide_eq_false h1];rfl) rfl
 have hd: ¬(R8 (ω.w 5).toI (ω.w 6).toS (ω.w 7).toI (ω.w 8).toI≠0∨(ω.w 5).toI≠1):=fun h=>h.elim (fun h=>h h0) h1
 simp only[if_neg h1,if_neg hd]
 replace h1:=Classical.not_not.1 h1
 refine T1 (by rw[c1,decide_eq_true h1];rfl) ?_
 have hlen:=hlen h1
 by_cases h3:(ω.w 0).toI=3
 ·simp only[if_pos h3]
  refine T7 (by rw[aC8,a08,ad3];exact decide_eq_true h3) (Q6 ?_ ?_)
  ·rw[Z1,e9]
   refine⟨?_,m4⟩
   rw[V3,U9,a08]
   rw[decide_eq_true h3]at m5
   have m5:(ω.w 4).toL.length≤24:=of_decide_eq_true m5
   exact decide_eq_true (by show((ω.w 4).toL.length:Int)≤24;omega)
  ·show some (0,[ω.f 729 [ω.w 3,ω.w 4,ω.w 6,ω.w 7,ω.w 8],ω.f 727 [ω.w 3,ω.w 4,ω.w 6,ω.w 7,ω.w 8],ω.f 728 [ω.w 3,ω.w 4,ω.w 6,ω.w 7,ω.w 8]])=_
   rw[hf,hf,hf];rfl
 simp only[if_neg h3]
 refine T1 (by rw[aC8,a08,ad3];exact decide_eq_false h3) ?_
 have hS:=by3 (k:=(ω.w 0).toI) (s:=(ω.w 1).toI) (l:=(ω.w 2).toI) (g:=(ω.w 3).toI) (t:=ω.w 7) h3
 have hvi:=cS5 (k:=(ω.w 0).toI) (s:=(ω.w 1).toI) (l:=(ω.w 2).toI) (g:=(ω.w 3).toI) (t:=ω.w 7) h3
 have d1:den ω Z0= .vl (ofV (ω.w 0).toI (ω.w 1).toI (ω.w 2).toI (ω.w 3).toI (ω.w 7)):=by
  show ω.f 704 [ω.w 0,ω.w 1,ω.w 2,ω.w 3,ω.w 7]=_
  rw[hf];rfl
 have W: ∀vs:List Val,∀n:Nat,n<2000→(ω.upd 2000 vs).w n=ω.w n:=fun vs n hn=>by rw[Q3,if_neg (by omega)]
 have D1: ∀vs,den (ω.upd 2000 vs) Z0= .vl (ofV (ω.w 0).toI (ω.w 1).toI (ω.w 2).toI (ω.w 3).toI (ω.w 7)):=fun vs=>by
  show ω.f 704 [(ω.upd 2000 vs).w 0,(ω.upd 2000 vs).w 1,(ω.upd 2000 vs).w 2,(ω.upd 2000 vs).w 3,(ω.upd 2000 vs).w 7]=_
  rw[W vs 0 (by omega),W vs 1 (by omega),W vs 2 (by omega),W vs 3 (by omega),W vs 7 (by omega)];exact d1
 generalize ofV (ω.w 0).toI (ω.w 1).toI (ω.w 2).toI (ω.w 3).toI (ω.w 7)=S at*
 have lp:=dl5 hf (e0:= .vi 0) D1 hS
 rw[h0]at t0
 obtain⟨k1,k2,k3⟩:=ba0 (ω.w 4).toL S (ω.w 6) (ω.w 8)
 have e2:den ω aS5=W4 (0,[.vi (tpK (ω.w 4).toL S (ω.w 6) (ω.w 8)),tpX (ω.w 4).toL S (ω.w 6) (ω.w 8) (.vi 0),.vi (tpK (ω.w 4).toL S (ω.w 6) (ω.w 8)),.vl (tpL (ω.w 4).toL S (ω.w 6) (ω.w 8) (tpK (ω.w 4).toL S (ω.w 6) (ω.w 8)))]):=by
  show ω.f 760 [.vi 0,den ω aq4,.vi 0,.vl [],ω.w 0,ω.w 1,ω.w 2,ω.w 3,ω.w 4,ω.w 5,ω.w 6,ω.w 7,ω.w 8,.vi (den ω Z0).toL.length,den ω Z0,.vi (den ω Z0).toL.length]=_
  rw[hf,t0,d1];rfl
 have lp':R9 (fun vs=>Q1 cQ3 (ω.upd 2000 vs)) (Q4 ω [.op .llen [.op .row []],aq4,.ci 0,.op .row []])=some (0,[.vi (tpK (ω.w 4).toL S (ω.w 6) (ω.w 8)),tpX (ω.w 4).toL S (ω.w 6) (ω.w 8) (.vi 0),.vi (tpK (ω.w 4).toL S (ω.w 6) (ω.w 8)),.vl (tpL (ω.w 4).toL S (ω.w 6) (ω.w 8) (tpK (ω.w 4).toL S (ω.w 6) (ω.w 8)))]):=by
  show R9 _ [.vi 0,den ω aq4,.vi 0,.vl []]=_
  rw[t0];exact lp
 have d3:den ω aZ3=tpX (ω.w 4).toL S (ω.w 6) (ω.w 8) (.vi 0):=by show R6 (den ω aS5).toL 1 1=_;rw[e2];rfl
 have hX: ∃x,tpX (ω.w 4).toL S (ω.w 6) (ω.w 8) (.vi 0)= .vi x:=by
  unfold tpX
  split
  ·exact⟨_,rfl⟩
  ·split<;>exact⟨_,rfl⟩
 obtain⟨x,hX⟩:=hX
 refine Q8 lp' e2 ?_
 show Q1 (.ite (.op (.cmp .neq) [aZ3,.ci 0]) _ _) ω=_
 have c3:dB ω (.op (.cmp .neq) [aZ3,.ci 0])= !decide (x=0):=by rw[aC9,a08,d3,hX];rfl
 by_cases hx:x=0
 ·subst hx
  have hK:tpK (ω.w 4).toL S (ω.w 6) (ω.w 8)=S.length:=by
   refine N6 k1 (C7.1 fun h=> ?_)
   unfold tpX at hX
   rw[if_pos h]at hX
   exact k3 h (Val.vi.inj hX)
  have d4:den ω bm4= .vi S.length:=by show R6 (den ω aS5).toL 1 0=_;rw[e2,hK];rfl
  have d5:den ω bJ3= .vl (tpL (ω.w 4).toL S (ω.w 6) (ω.w 8) S.length):=by show R6 (den ω aS5).toL 1 3=_;rw[e2,hK];rfl
  have hl:(tpL (ω.w 4).toL S (ω.w 6) (ω.w 8) S.length).length=S.length:=a18 (fun i=>tpR (ω.w 4).toL (ω.w 6) (ω.w 8) (atV S i)) _
  have d6:den ω aZ4= .vl (tpL (ω.w 4).toL S (ω.w 6) (ω.w 8) S.length):=by
   show Val.vl (((den ω bJ3).toL.drop (0:Int).toNat).take ((den ω bm4).toI-0).toNat)=_
   rw[d4,d5]
   have:=cg2 (tpL (ω.w 4).toL S (ω.w 6) (ω.w 8) S.length)
   rw[hl]at this
   exact congrArg Val.vl this
  have hrows: ∀r∈tpL (ω.w 4).toL S (ω.w 6) (ω.w 8) S.length,rowS r:=fun r hr=>by
   unfold tpL at hr
   rw[Z5]at hr
   obtain⟨i,hi,hr⟩:=B6.1 hr
   rw[o7]at hr
   subst hr
   have hi:=s9.1 hi
   refine cS6 m6 (by omega) (hvi _ ?_) (k2 i (by omega))
   have:atV S i=S[i]:=by simp[atV,i6,hi]
   rw[this];exact A7 hi
  have h43:=h431 _ hrows
  rw[hX,if_neg (by simp)]
  generalize tpL (ω.w 4).toL S (ω.w 6) (ω.w 8) S.length=L at*
  refine T1 (by rw[c3];rfl) (Q6 ?_ ?_)
  ·rw[Z1,Z1,Z1,V3,V3,V3,a08,a08,U9,U9,d4,d5,d6,e9,e9,e9]
   refine⟨⟨decide_eq_true (by show(0:Int)≤(S.length:Int);omega),decide_eq_true (by show(S.length:Int)≤(L.length:Int);omega)⟩,decide_eq_true (by show(L.length:Int)≤400;omega),?_⟩
   show(ω.f 431 [den ω aZ4]).toB=true
   rw[d6,hf];exact h43
  ·show some (0,[Val.vi 0,Val.vl [],ω.f 490 [den ω aZ4]])=_
   rw[d6,hf];rfl
 ·rw[hX,if_pos (by simpa using hx)]
  refine T7 (by rw[c3,decide_eq_false hx];rfl) ?_
  show some (0,[den ω aZ3,Val.vl [],Val.vl []])=_
  rw[d3,hX];rfl
end
end Go.Ev.S9
namespace Go.Ev.S9
open Go Go.Ev
def dl6:SX:= .op .row [.op .lget [a92,.va 2000,.ci 0],.op .lget [a92,.va 2000,.ci 1],.op .lget [a92,.va 2000,.ci 2]]
theorem cg4:d70= .ite (zs (.va 2000) (zL a92)) (.need (zp (.va 2000)) (.ret 0 [zi (.va 2000),.op (.mdel [.str,.int .i64,.int .i64]) [.va 2001,dl6]])) (.ret 1 [.va 2000,.va 2001]):=rfl
def dl7:SX:= .op .row [.op .lget [X0,.va 2000,.ci 0],.op .lget [X0,.va 2000,.ci 1],.op .lget [X0,.va 2000,.ci 2]]
def d87:SX:= .op .row [.op .lget [X0,.va 2000,.ci 0],.op .lget [X0,.va 2000,.ci 1],.op .lget [X0,.va 2000,.ci 2],.op .lget [X0,.va 2000,.ci 3],.op .lget [X0,.va 2000,.ci 4],.op .lget [X0,.va 2000,.ci 5],.op .lget [X0,.va 2000,.ci 6]]
def d88:SX:= .op (.mfind [.str,.int .i64,.int .i64]) [.va 2001,dl7]
theorem cg5:d71= .ite (zs (.va 2000) (zL X0)) (.need (zp (.va 2000)) (.ret 0 [zi (.va 2000),.op .ite [zs d88 (zl 2001),.op .lset [.va 2001,d88,d87],zc (.va 2001) (.op .row [d87])]])) (.ret 1 [.va 2000,.va 2001]):=rfl
theorem dl8{ω:Opq}{G:List Val}{m:Val}(hG:G.length≤1000000)(D2: ∀vs,den (ω.upd 2000 vs) a92= .vl G):
 R9 (fun vs=>Q1 d70 (ω.upd 2000 vs)) [.vi 0,m]=some (0,[.vi G.length,at2 m G G.length]):=by
 refine Z6 (st:=fun k=>[.vi k,at2 m G k]) (n:=G.length) (fun k hk=> ?_) ?_
 ·show Q1 d70 (ω.upd 2000 [.vi k,at2 m G k])=some (0,[.vi (k+1:Nat),.vl ((at2 m G k).toL.eraseIdx (a58 (at2 m G k).toL (a23 (atV G k))))])
  have D2:=D2 [.vi k,at2 m G k]
  have v0:(ω.upd 2000 [.vi k,at2 m G k]).w 2000= .vi k:=by rw[Q3];simp
  have v1:(ω.upd 2000 [.vi k,at2 m G k]).w 2001=at2 m G k:=by rw[Q3];simp
  generalize ω.upd 2000 [.vi k,at2 m G k]=ω' at*
  have dk:den ω' dl6=a23 (atV G k):=by
   show Val.vl [R6 (den ω' a92).toL (ω'.w 2000).toI 0,R6 (den ω' a92).toL (ω'.w 2000).toI 1,R6 (den ω' a92).toL (ω'.w 2000).toI 2]=_
   rw[D2,v0];rfl
  have inc:arI .add .i64 (Val.vi (k:Int)).toI 1=((k+1:Nat):Int):=a03 hk (by omega)
  rw[cg4]
  refine T7 ?_ (Q6 ?_ ?_)
  ·show decide ((ω'.w 2000).toI<((den ω' a92).toL.length:Int))=true
   rw[v0,D2];exact decide_eq_true (by show(k:Int)<(G.length:Int);omega)
  ·rw[V3,a08,ad3,v0];exact decide_eq_true (by show(0:Int)≤(k:Int);omega)
  ·show some (0,[Val.vi (arI .add .i64 (ω'.w 2000).toI 1),Val.vl ((ω'.w 2001).toL.eraseIdx (a58 (ω'.w 2001).toL (den ω' dl6)))])=_
   rw[v0,v1,dk,inc]
 ·show Q1 d70 (ω.upd 2000 [.vi G.length,at2 m G G.length])=_
  have D2:=D2 [.vi G.length,at2 m G G.length]
  have v0:(ω.upd 2000 [.vi G.length,at2 m G G.length]).w 2000= .vi G.length:=by rw[Q3];simp
  have v1:(ω.upd 2000 [.vi G.length,at2 m G G.length]).w 2001=at2 m G G.length:=by rw[Q3];simp
  generalize ω.upd 2000 [.vi G.length,at2 m G G.length]=ω' at*
  rw[cg4]
  refine T1 ?_ ?_
  ·show decide ((ω'.w 2000).toI<((den ω' a92).toL.length:Int))=false
   rw[v0,D2];exact decide_eq_false (by show¬(G.length:Int)<(G.length:Int);omega)
  ·show some (1,[ω'.w 2000,ω'.w 2001])=_
   rw[v0,v1]
theorem dl9{ω:Opq}{R:List Val}{m:Val}(hR:R.length≤1000000)(D1: ∀vs,(den (ω.upd 2000 vs) X0).toL=R):
 R9 (fun vs=>Q1 d71 (ω.upd 2000 vs)) [.vi 0,m]=some (0,[.vi R.length,an6 m R R.length]):=by
 refine Z6 (st:=fun k=>[.vi k,an6 m R k]) (n:=R.length) (fun k hk=> ?_) ?_
 ·show Q1 d71 (ω.upd 2000 [.vi k,an6 m R k])=some (0,[.vi (k+1:Nat),bif aU0 (an6 m R k).toL (a23 (atV R k))then .vl ((an6 m R k).toL.set (a58 (an6 m R k).toL (a23 (atV R k))) (a30 (atV R k)))else .vl ((an6 m R k).toL++[a30 (atV R k)])])
  have D1:=D1 [.vi k,an6 m R k]
  have v0:(ω.upd 2000 [.vi k,an6 m R k]).w 2000= .vi k:=by rw[Q3];simp
  have v1:(ω.upd 2000 [.vi k,an6 m R k]).w 2001=an6 m R k:=by rw[Q3];simp
  generalize ω.upd 2000 [.vi k,an6 m R k]=ω' at*
  generalize an6 m R k=M at*
  have dk:den ω' dl7=a23 (atV R k):=by
   show Val.vl [R6 (den ω' X0).toL (ω'.w 2000).toI 0,R6 (den ω' X0).toL (ω'.w 2000).toI 1,R6 (den ω' X0).toL (ω'.w 2000).toI 2]=_
   rw[D1,v0];rfl
  have dn:den ω' d87=a30 (atV R k):=by
   show Val.vl [R6 (den ω' X0).toL (ω'.w 2000).toI 0,R6 (den ω' X0).toL (ω'.w 2000).toI 1,R6 (den ω' X0).toL (ω'.w 2000).toI 2,R6 (den ω' X0).toL (ω'.w 2000).toI 3,R6 (den ω' X0).toL (ω'.w 2000).toI 4,R6 (den ω' X0).toL (ω'.w 2000).toI 5,R6 (den ω' X0).toL (ω'.w 2000).toI 6]=_
   rw[D1,v0];rfl
  have dm:den ω' d88= .vi (a58 M.toL (a23 (atV R k)):Nat):=by
   show Val.vi ((a58 (ω'.w 2001).toL (den ω' dl7):Nat):Int)=_
   rw[v1,dk]
  have inc:arI .add .i64 (Val.vi (k:Int)).toI 1=((k+1:Nat):Int):=a03 hk (by omega)
  have e:decide (((a58 M.toL (a23 (atV R k)):Nat):Int)<(M.toL.length:Int))=aU0 M.toL (a23 (atV R k)):=by
   unfold aU0;rw[decide_eq_decide];omega
  rw[cg5]
  refine T7 ?_ (Q6 ?_ ?_)
  ·show decide ((ω'.w 2000).toI<((den ω' X0).toL.length:Int))=true
   rw[v0,D1];exact decide_eq_true (by show(k:Int)<(R.length:Int);omega)
  ·rw[V3,a08,ad3,v0];exact decide_eq_true (by show(0:Int)≤(k:Int);omega)
  ·show some (0,[Val.vi (arI .add .i64 (ω'.w 2000).toI 1),bif decide ((den ω' d88).toI<((ω'.w 2001).toL.length:Int))then Val.vl ((ω'.w 2001).toL.set (den ω' d88).toI.toNat (den ω' d87))else Val.vl ((ω'.w 2001).toL++[den ω' d87])])=_
   rw[v0,v1,dm,dn,inc]
   show some (0,[Val.vi ((k+1:Nat):Int),bif decide (((a58 M.toL (a23 (atV R k)):Nat):Int)<(M.toL.length:Int))then Val.vl (M.toL.set (a58 M.toL (a23 (atV R k))) (a30 (atV R k)))else Val.vl (M.toL++[a30 (atV R k)])])=_
   rw[e]
 ·show Q1 d71 (ω.upd 2000 [.vi R.length,an6 m R R.length])=_
  have D1:=D1 [.vi R.length,an6 m R R.length]
  have v0:(ω.upd 2000 [.vi R.length,an6 m R R.length]).w 2000= .vi R.length:=by rw[Q3];simp
  have v1:(ω.upd 2000 [.vi R.length,an6 m R R.length]).w 2001=an6 m R R.length:=by rw[Q3];simp
  generalize ω.upd 2000 [.vi R.length,an6 m R R.length]=ω' at*
  rw[cg5]
  refine T1 ?_ ?_
  ·show decide ((ω'.w 2000).toI<((den ω' X0).toL.length:Int))=false
   rw[v0,D1];exact decide_eq_false (by show¬(R.length:Int)<(R.length:Int);omega)
  ·show some (1,[ω'.w 2000,ω'.w 2001])=_
   rw[v0,v1]
end Go.Ev.S9
namespace Go.Ev.S9
open Go Go.Ev
section
variable{X:Nat→List Val→Val}{ω:Opq}(hf: ∀i a,ω.f i a=FT X i a)
include hf
theorem dm0(hG:(ay5 (w9 ω)).length≤1000000)(hR:(as8 X (w9 ω)).toL.length≤1000000)
 (hn:dB ω (zn (zn (zn (zb (zl 4) 400) (.app 431 [.va 4])) (.app 491 [.va 4])) (.app 739 [.va 0,.va 4,.va 6]))=true):
 Q1 T_put ω=some (0,[.vi (ao5 (w9 ω)),aU1 X (w9 ω)]):=by
 have W: ∀vs:List Val,∀n:Nat,n<2000→(ω.upd 2000 vs).w n=ω.w n:=fun vs n hn=>by rw[Q3,if_neg (by omega)]
 have W9: ∀vs:List Val,[(ω.upd 2000 vs).w 0,(ω.upd 2000 vs).w 1,(ω.upd 2000 vs).w 2,(ω.upd 2000 vs).w 3,(ω.upd 2000 vs).w 4,(ω.upd 2000 vs).w 5,(ω.upd 2000 vs).w 6,(ω.upd 2000 vs).w 7,(ω.upd 2000 vs).w 8]=w9 ω:=fun vs=>by
  rw[W vs 0 (by omega),W vs 1 (by omega),W vs 2 (by omega),W vs 3 (by omega),W vs 4 (by omega),W vs 5 (by omega),W vs 6 (by omega),W vs 7 (by omega),W vs 8 (by omega)];rfl
 have p0:den ω cd5= .vi (ao5 (w9 ω)):=by
  show ω.f 732 (w9 ω)=_
  rw[hf];rfl
 have p1:den ω X0=as8 X (w9 ω):=by
  show ω.f 731 (w9 ω)=_
  rw[hf];rfl
 have p2:den ω a92= .vl (ay5 (w9 ω)):=by
  show ω.f 730 (w9 ω)=_
  rw[hf];rfl
 have P1: ∀vs,(den (ω.upd 2000 vs) X0).toL=(as8 X (w9 ω)).toL:=fun vs=>by
  show(ω.f 731 [(ω.upd 2000 vs).w 0,(ω.upd 2000 vs).w 1,(ω.upd 2000 vs).w 2,(ω.upd 2000 vs).w 3,(ω.upd 2000 vs).w 4,(ω.upd 2000 vs).w 5,(ω.upd 2000 vs).w 6,(ω.upd 2000 vs).w 7,(ω.upd 2000 vs).w 8]).toL=_
  rw[W9,hf];rfl
 have P2: ∀vs,den (ω.upd 2000 vs) a92= .vl (ay5 (w9 ω)):=fun vs=>by
  show ω.f 730 [(ω.upd 2000 vs).w 0,(ω.upd 2000 vs).w 1,(ω.upd 2000 vs).w 2,(ω.upd 2000 vs).w 3,(ω.upd 2000 vs).w 4,(ω.upd 2000 vs).w 5,(ω.upd 2000 vs).w 6,(ω.upd 2000 vs).w 7,(ω.upd 2000 vs).w 8]=_
  rw[W9,hf];rfl
 have c0:dB ω (.op (.cmp .neq) [cd5,.ci 0])= !decide (ao5 (w9 ω)=0):=by rw[aC9,a08,p0];rfl
 have hm:aU1 X (w9 ω)=if ao5 (w9 ω)≠0 then ω.w 4 else an6 (at2 (ω.w 4) (ay5 (w9 ω)) (ay5 (w9 ω)).length) (as8 X (w9 ω)).toL (as8 X (w9 ω)).toL.length:=rfl
 rw[hm]
 unfold T_put
 refine Q6 hn ?_
 by_cases h:ao5 (w9 ω)=0
 ·rw[if_neg (by simp[h])]
  refine T1 (by rw[c0,decide_eq_true h];rfl) ?_
  rw[h]
  generalize ay5 (w9 ω)=G at*
  have e1:ω.f 761 [.vi 0,ω.w 4,ω.w 0,ω.w 1,ω.w 2,ω.w 3,ω.w 4,.vi (den ω X0).toL.length,den ω X0,.vi (den ω a92).toL.length,den ω a92,.vi (den ω a92).toL.length]=W4 (0,[.vi G.length,at2 (ω.w 4) G G.length]):=by
   rw[hf,p2];rfl
  have p3:den ω aV5=at2 (ω.w 4) G G.length:=by
   show R6 (ω.f 761 [.vi 0,ω.w 4,ω.w 0,ω.w 1,ω.w 2,ω.w 3,ω.w 4,.vi (den ω X0).toL.length,den ω X0,.vi (den ω a92).toL.length,den ω a92,.vi (den ω a92).toL.length]).toL 1 1=_
   rw[e1];rfl
  refine Q8 (r:=(0,[.vi G.length,at2 (ω.w 4) G G.length])) (dl8 hG P2) e1 ?_
  generalize at2 (ω.w 4) G G.length=M at*
  have e2:ω.f 762 [.vi 0,den ω aV5,ω.w 0,ω.w 1,ω.w 2,ω.w 3,den ω aV5,.vi (den ω X0).toL.length,den ω X0,.vi (den ω X0).toL.length]=W4 (0,[.vi (as8 X (w9 ω)).toL.length,an6 M (as8 X (w9 ω)).toL (as8 X (w9 ω)).toL.length]):=by
   rw[hf,p1,p3];rfl
  refine Q8 (r:=(0,[.vi (as8 X (w9 ω)).toL.length,an6 M (as8 X (w9 ω)).toL (as8 X (w9 ω)).toL.length])) ?_ e2 ?_
  ·show R9 _ [.vi 0,den ω aV5]=_
   rw[p3];exact dl9 hR P1
  ·show some (0,[Val.vi 0,R6 (ω.f 762 [.vi 0,den ω aV5,ω.w 0,ω.w 1,ω.w 2,ω.w 3,den ω aV5,.vi (den ω X0).toL.length,den ω X0,.vi (den ω X0).toL.length]).toL 1 1])=_
   rw[e2];rfl
 ·rw[if_pos h]
  refine T7 (by rw[c0,decide_eq_false h];rfl) ?_
  show some (0,[den ω cd5,ω.w 4])=_
  rw[p0]
end
end Go.Ev.S9
namespace Go.Ev.S9
open Go Go.Ev
def inI(x:Int):Prop:= -9223372036854775808≤x∧x<9223372036854775808
def cS7(g:Nat→Int):Nat→Int
 |0=>0
 |k+1=>cS7 g k+g k
theorem cx7{x:Int}(h: -18446744073709551616≤x)(h2:x<18446744073709551616):inI (IntKind.i64.wrap x)∧((inI x∧IntKind.i64.wrap x=x)∨(x< -9223372036854775808∧IntKind.i64.wrap x=x+18446744073709551616)∨(9223372036854775808≤x∧IntKind.i64.wrap x=x-18446744073709551616)):=by
 unfold inI
 simp only[IntKind.wrap,IntKind.bits,IntKind.signed]
 simp
 omega
theorem b00{g:Nat→Int}(hg: ∀k,inI (g k)): ∀n:Nat,n≤1000000→inI (ao4 g n).1∧ -(n:Int)≤(ao4 g n).2∧(ao4 g n).2≤n∧(ao4 g n).1+(ao4 g n).2*18446744073709551616=cS7 g n
 |0,_=>⟨⟨by show(-9223372036854775808:Int)≤0;omega,by show(0:Int)<9223372036854775808;omega⟩,by show-((0:Nat):Int)≤0;omega,by show(0:Int)≤((0:Nat):Int);omega,rfl⟩
 |n+1,hn=>by
  obtain⟨a,b,c,d⟩:=b00 hg n (by omega)
  have hx:=hg n
  unfold cS7
  rw[←d]
  rw[show ao4 g (n+1)=if 0≤(ao4 g n).1∧0≤g n∧arI .add .i64 (ao4 g n).1 (g n)<0 then(arI .add .i64 (ao4 g n).1 (g n),arI .add .i64 (ao4 g n).2 1)else if(ao4 g n).1<0∧g n<0∧0≤arI .add .i64 (ao4 g n).1 (g n)then(arI .add .i64 (ao4 g n).1 (g n),arI .sub .i64 (ao4 g n).2 1)else(arI .add .i64 (ao4 g n).1 (g n),(ao4 g n).2)from rfl]
  generalize (ao4 g n).1=s at*
  generalize (ao4 g n).2=o at*
  generalize g n=x at*
  have w:=cx7 (x:=s+x) (by have:=a.1;have:=hx.1;omega) (by have:=a.2;have:=hx.2;omega)
  have e:arI .add .i64 s x=IntKind.i64.wrap (s+x):=rfl
  rw[e]
  generalize IntKind.i64.wrap (s+x)=t at*
  have o1:arI .add .i64 o 1=o+1:=ak8 (by omega) (by omega)
  have o2:arI .sub .i64 o 1=o-1:=aF8 (by omega) (by omega)
  rw[o1,o2]
  unfold inI at*
  obtain⟨w1,w2⟩:=w
  split
  ·refine⟨w1,by simp only;omega,by simp only;omega,by simp only;omega⟩
  ·split
   ·refine⟨w1,by simp only;omega,by simp only;omega,by simp only;omega⟩
   ·refine⟨w1,by simp only;omega,by simp only;omega,by simp only;omega⟩
theorem cg6{g:Nat→Int}(hg: ∀k,inI (g k)){n:Nat}(hn:n≤1000000):((ao4 g n).2=0↔inI (cS7 g n))∧((ao4 g n).2=0→(ao4 g n).1=cS7 g n):=by
 obtain⟨a,b,c,d⟩:=b00 hg n hn
 unfold inI at*
 generalize (ao4 g n).1=s at*
 generalize (ao4 g n).2=o at*
 refine⟨⟨fun h=> ?_,fun h=> ?_⟩,fun h=> ?_⟩
 ·subst h;omega
 ·omega
 ·subst h;omega
end Go.Ev.S9
