import Derived.Test.YtdbiooidpgafaaaGreatEG1
import Derived.Test.YtdbiooidpgafaaaGreatEM1
import Derived.Test.YtdbiooidpgafaaaGreatEL1
set_option linter.unusedSimpArgs false
set_option linter.unusedVariables false
namespace Go.Ev
open Go
@[simp]theorem R0(n:Int):(Val.vi n).toI=n:=rfl
@[simp]theorem d76(n:List UInt8):(Val.vs n).toS=n:=rfl
@[simp]theorem ad2(n:Bool):(Val.vb n).toB=n:=rfl
@[simp]theorem a75(n:List Val):(Val.vl n).toL=n:=rfl
structure ChgM where
 key:List UInt8
 a:Int
 b:Int
 dead:Bool
 c:Int
 d:Int
 e:Int
 f:Int
 deriving DecidableEq
def dk3(a:List Val)(i:Nat):PaneM:=⟨(arg a i).toS,(arg a (i+1)).toI,(arg a (i+2)).toI⟩
noncomputable def F0(id:Nat)(a:List Val):Val:=match id with
 |3=> .vb (eqB (bR7 (arg a 0)) (bR7 (arg a 1)))
 |206=> .vi (d59 (dk3 a 0) (dk3 a 3))
 |107=>cv6 bR6 (arg a 4).toL (arg a 7).toL
 |491=> .vb (decide (((arg a 0).toL.map Q5).Nodup))
 |i=>S7.GX i a
noncomputable def F:Nat→List Val→Val:=S9.FT F0
theorem cx0(x:Val)(l:List Val):arg (x::l) 0=x:=rfl
theorem cx1(x:Val)(l:List Val)(n:Nat):arg (x::l) (n+1)=arg l n:=rfl
theorem ah9(ω:Opq)(v0:Nat)(l:List Val):(ω.upd v0 l).f=ω.f:=rfl
theorem Q3(ω:Opq)(v0:Nat)(l:List Val)(n:Nat):(ω.upd v0 l).w n=if v0≤n then l.getD (n-v0) (.vb false)else ω.w n:=rfl
@[simp]theorem cx2{i:Nat}(h:i≤10000000):arI .add .i64 (i:Int) 1=((i+1:Nat):Int):=bR5 h
@[simp]theorem a04(a b:Int):aF5 .lss a b=decide (a<b):=rfl
@[simp]theorem a65(a b:Int):aF5 .leq a b=decide (a≤b):=rfl
@[simp]theorem an5(a b:Int):aF5 .gtr a b=decide (b<a):=rfl
@[simp]theorem cw5(a b:Int):aF5 .geq a b=decide (b≤a):=rfl
@[simp]theorem cw6(a b:Int):aF5 .eql a b=decide (a=b):=rfl
@[simp]theorem cw7(a b:Int):aF5 .neq a b= !decide (a=b):=rfl
@[simp]theorem cw8(a b:List UInt8):ck6 .eql a b=decide (a=b):=rfl
@[simp]theorem cw9(a b:List UInt8):ck6 .neq a b= !decide (a=b):=rfl
theorem cd8{α:Type} [DecidableEq α](m:Val→α)(l r:List Val)(h:l.length=r.length):((List.range l.length).any fun i=> !decide (m (atV l i)=m (atV r i)))= !decide (l.map m=r.map m):=bG3 m (.vl []) l r h
theorem bm5{α:Type} [DecidableEq α](m:Val→α)(l r:List Val)(h:l.length=r.length)(px:Nat→List Val)(x:Val):aB6 x px (fun i=> !decide (m (atV l i)=m (atV r i))) l.length=if l.map m=r.map m then(0,[x,.vi l.length])else(1,px (((List.range l.length).find? (fun i=> !decide (m (atV l i)=m (atV r i)))).getD 0)):=by
 rw[aB7,cd8 m l r h]
 by_cases h1:l.map m=r.map m<;>simp[h1]
theorem bJ7{α:Type} [DecidableEq α](m:Val→α)(l r:List Val)(h:l.length=r.length):cv6 m l r=W4 (if l.map m=r.map m then(0,[.vb false,.vi l.length])else(1,[.vb false,.vi (((List.range l.length).find? (fun i=> !decide (m (atV l i)=m (atV r i)))).getD 0)])):=by
 rw[cv6,bm5 m l r h]
theorem d79{α:Type}(m:Val→α){l r:List Val}(h:l.length≠r.length): ¬l.map m=r.map m:=fun e=>h (by simpa using congrArg List.length e)
theorem bJ8(a b:Val):bR6 a=bR6 b↔((Q9 a 0).toS=(Q9 b 0).toS∧(Q9 a 1).toI=(Q9 b 1).toI∧(Q9 a 2).toI=(Q9 b 2).toI)∧(Q9 a 3).toI=(Q9 b 3).toI∧(Q9 a 4).toI=(Q9 b 4).toI∧(Q9 a 5).toI=(Q9 b 5).toI∧(Q9 a 6).toI=(Q9 b 6).toI:=by
 simp only[bR6,RowM.mk.injEq]
 constructor<;>intro h<;>simp_all
theorem ay6(l:List Val)(i:Nat):R6 l (i:Int) 0=Q9 (atV l i) 0:=rfl
theorem ay7(l:List Val)(i:Nat):R6 l (i:Int) 1=Q9 (atV l i) 1:=rfl
theorem ay8(l:List Val)(i:Nat):R6 l (i:Int) 2=Q9 (atV l i) 2:=rfl
theorem aZ6(l:List Val)(i:Nat):R6 l (i:Int) 3=Q9 (atV l i) 3:=rfl
theorem aZ7(l:List Val)(i:Nat):R6 l (i:Int) 4=Q9 (atV l i) 4:=rfl
theorem aZ8(l:List Val)(i:Nat):R6 l (i:Int) 5=Q9 (atV l i) 5:=rfl
theorem aZ9(l:List Val)(i:Nat):R6 l (i:Int) 6=Q9 (atV l i) 6:=rfl
end Go.Ev
namespace Go.Ev.S7
open Go Go.Ev
theorem cl0{x:Int}(h: -9223372036854775808≤x)(h2:x<9223372036854775808):IntKind.i64.wrap x=x:=by
 simp only[IntKind.wrap,IntKind.bits,IntKind.signed]
 simp
 omega
theorem ak8{x y:Int}(h: -9223372036854775808≤x+y)(h2:x+y<9223372036854775808):arI .add .i64 x y=x+y:=cl0 h h2
theorem aF8{x y:Int}(h: -9223372036854775808≤x-y)(h2:x-y<9223372036854775808):arI .sub .i64 x y=x-y:=cl0 h h2
theorem Q6{ω:Opq}{e:SX}{x:VT}{r:Option (Nat×List Val)}(h:dB ω e=true)(h2:Q1 x ω=r):Q1 (.need e x) ω=r:=by rw[Q1.eq_3,if_pos h,h2]
theorem T7{ω:Opq}{e:SX}{x y:VT}{r:Option (Nat×List Val)}(h:dB ω e=true)(h2:Q1 x ω=r):Q1 (.ite e x y) ω=r:=by rw[Q1.eq_2,if_pos h,h2]
theorem T1{ω:Opq}{e:SX}{x y:VT}{r:Option (Nat×List Val)}(h:dB ω e=false)(h2:Q1 y ω=r):Q1 (.ite e x y) ω=r:=by rw[Q1.eq_2,if_neg (by rw[h];simp),h2]
theorem and2{a b:Bool}(h:a=true)(h2:b=true):(a&&b)=true:=by rw[h,h2];rfl
theorem dr8{K k:Nat}(h:K=k+1)(h2:K≤10000000):arI .sub .i64 (K:Int) 1=(k:Int):=by
 rw[aF8 (by omega) (by omega)];omega
theorem Q8{hd:LHd}{body:VT}{ks:List VT}{ω:Opq}{r:Nat×List Val}{out:Option (Nat×List Val)}(h1:R9 (fun vs=>Q1 body (ω.upd hd.v0 vs)) (Q4 ω hd.s0)=some r)(h2:ω.f hd.id (Q4 ω (hd.s0++hd.fv))=W4 r)(h3:ai5 ks r.1 ω=out):Q1 (.loop hd body ks) ω=out:=by
 rw[Q1.eq_5,h1]
 simp only
 rw[if_pos h2,h3]
theorem b92(r:Val):Val.vl [Q9 r 0,Q9 r 1,Q9 r 2,Q9 r 3,Q9 r 4,Q9 r 5,Q9 r 6]=a30 r:=rfl
theorem af5{step:List Val→Option (Nat×List Val)}{n j:Nat}(st:Nat→List Val){s0 p:List Val}(h0:s0=st 0)(h1: ∀i,i<n→step (st i)=some (0,st (i+1)))(h2:step (st n)=some (j+1,p)):R9 step s0=some (j,p):=by
 rw[h0];exact Z6 h1 h2
end Go.Ev.S7
namespace Go.Ev.S7
open Go Go.Ev
theorem cl2{x y:Nat}(h:x+y≤1000000):arI .add .i64 (x:Int) (y:Int)=((x+y:Nat):Int):=by
 rw[ak8 (by omega) (by omega)];omega
theorem bx1{x y:Nat}(h:y≤x)(h2:x≤1000000):arI .sub .i64 (x:Int) (y:Int)=((x-y:Nat):Int):=by
 rw[aF8 (by omega) (by omega)];omega
theorem cd9{x:Nat}(h:1≤x)(h2:x≤1000000):arI .sub .i64 (x:Int) 1=((x-1:Nat):Int):=by
 rw[aF8 (by omega) (by omega)];omega
theorem bx2{x:Nat}(h2:x≤1000000):arI .add .i64 (x:Int) 1=((x+1:Nat):Int):=by
 rw[ak8 (by omega) (by omega)];omega
theorem aS9{v:Val}(h:0≤v.toI):v.toI=(nt v:Int):=by unfold nt;omega
theorem dk4(n:Nat):nt (.vi n)=n:=rfl
theorem okN{l:List Val}(h:l.all okK=true){k:Nat}(hk:k<l.length):a30 (atV l k)=atV l k:=okK_at (j5.1 h _ (aR7 hk))
theorem an7{l q:List Val}{f:Val→Bool}(h:l.all f=true)(hp:q.Perm l):q.all f=true:=j5.2 fun v hv=>j5.1 h v (hp.mem_iff.1 hv)
theorem b93{l:List Val}{i j:Nat}(h:l.all okK=true)(hi:i<l.length)(hj:j<l.length):(swp l i j).all okK=true:=by
 rw[j5]at h⊢
 intro v hv
 unfold swp at hv
 rcases N9 hv with hv|rfl
 ·rcases N9 hv with hv|rfl
  ·exact h v hv
  ·exact h _ (aR7 hj)
 ·exact h _ (aR7 hi)
theorem aI1{l:List Val}(h:l.all okK=true){i j:Nat}(hi:i<l.length)(hj:j<l.length):(l.set i (a30 (atV l j))).set j (a30 (atV l i))=swp l i j:=by
 rw[okN h hi,okN h hj];rfl
theorem aC7{l:List Val}{a b:Nat}(h:l.all okK=true): ∀n,a+n≤l.length→b+n≤l.length→(swN l a b n).all okK=true
 |0,_,_=>h
 |n+1,h1,h2=>b93 (aC7 h n (by omega) (by omega)) (by rw[ak4];omega) (by rw[ak4];omega)
theorem cQ8{ω:Opq}{a b n N i:Nat}(h7:(ω.w 2).toI=a)(h8:(ω.w 3).toI=b)(h9:(ω.w 4).toI=n)(h6:(ω.w 1).toI=N)(hi:i<n)(h1:a+n≤b)(h2:b+n≤N)(hN:N≤400){M:List Val}(hM:M.length=N)(ho:M.all okK=true):
 Q1 dd4 (ω.upd 2000 [.vi i,.vl M])=some (0,[.vi (i+1:Nat),.vl (swp M (a+i) (b+i))]):=by
 have e1:=cl2 (x:=a) (y:=i) (by omega)
 have e2:=cl2 (x:=b) (y:=i) (by omega)
 have e3:=bx2 (x:=i) (by omega)
 have p1:(i:Int)<n:=by omega
 have p2:(0:Int)≤((b+i:Nat):Int):=by omega
 have p3:((b+i:Nat):Int)<N:=by omega
 have p4:(0:Int)≤((a+i:Nat):Int):=by omega
 have p5:((a+i:Nat):Int)<N:=by omega
 rw[←aI1 ho (by omega) (by omega)]
 unfold dd4
 simp only[Q1,Q4,den,dB,X5,Q3,Nat.reduceLeDiff,Nat.reduceSub,if_true,if_false,A6,B7,R0,a75,ad2,h7,h8,h9,h6,e1,e2,e3,a04,a65,p1,p2,p3,p4,p5,decide_true,A4,hM,C3,ay6,ay7,ay8,aZ6,aZ7,aZ8,aZ9,b92,Int.toNat_natCast]
theorem t_swapR{ω:Opq}(hf: ∀i a,ω.f i a=F i a)(hn:(F 420 [ω.w 0,ω.w 1,ω.w 2,ω.w 3,ω.w 4]).toB=true):Q1 b72 ω=some (0,[F 421 [ω.w 0,ω.w 2,ω.w 3,ω.w 4]]):=by
 obtain⟨ho,hd⟩:=P8 (show(bn7 (ω.w 0) (ω.w 1)&&decide (0≤(ω.w 2).toI∧0≤(ω.w 4).toI∧(ω.w 2).toI+(ω.w 4).toI≤(ω.w 3).toI∧(ω.w 3).toI+(ω.w 4).toI≤(ω.w 1).toI))=true from hn)
 obtain⟨e5,oa,h6,hl⟩:=aS0 ho
 obtain⟨q1,q2,q3,q4⟩:=of_decide_eq_true hd
 have h7:=aS9 q1
 have h9:=aS9 q2
 have h8:=aS9 (show 0≤(ω.w 3).toI by omega)
 have hF:F 421 [ω.w 0,ω.w 2,ω.w 3,ω.w 4]= .vl (swN (ω.w 0).toL (nt (ω.w 2)) (nt (ω.w 3)) (nt (ω.w 4))):=rfl
 have hF2: ∀a c d:Val,F 452 [a,ω.w 0,c,d,ω.w 2,ω.w 3,ω.w 4]=W4 (0,[.vi (nt (ω.w 4)),.vl (swN (ω.w 0).toL (nt (ω.w 2)) (nt (ω.w 3)) (nt (ω.w 4)))]):=fun _ _ _=>rfl
 rw[hF]
 unfold b72
 refine Q8 (r:=(0,[.vi (nt (ω.w 4)),.vl (swN (ω.w 0).toL (nt (ω.w 2)) (nt (ω.w 3)) (nt (ω.w 4)))])) ?_ ?_ ?_
 ·refine af5 (fun i=>[.vi i,.vl (swN (ω.w 0).toL (nt (ω.w 2)) (nt (ω.w 3)) i)]) (n:=nt (ω.w 4)) (by rw[show Q4 ω [.ci 0,.va 0]=[.vi 0,ω.w 0]from rfl,e5];rfl) (fun i hi=> ?_) ?_
  ·exact cQ8 h7 h8 h9 h6 hi (by omega) (by omega) hl (ak4 ..) (aC7 oa i (by omega) (by omega))
  ·unfold dd4
   have p1: ¬((nt (ω.w 4):Nat):Int)<(ω.w 4).toI:=by omega
   simp only[Q1,Q4,den,dB,X5,Q3,Nat.reduceLeDiff,Nat.reduceSub,if_true,if_false,A6,B7,R0,a75,ad2,a04,p1,decide_false,k7]
 ·show ω.f 452 [.vi 0,ω.w 0,ω.w 1,ω.w 0,ω.w 2,ω.w 3,ω.w 4]=_
  rw[hf,hF2]
 ·show some (0,[R6 (ω.f 452 [.vi 0,ω.w 0,ω.w 1,ω.w 0,ω.w 2,ω.w 3,ω.w 4]).toL 1 1])=_
  rw[hf,hF2];rfl
theorem b94(m N:Nat): ∀(n i j:Nat) (M:List Val),0<i→0<j→i≤m→m+j≤N→M.length=N→M.all okK=true→(bb2 m n i j M).2.all okK=true∧(bb2 m n i j M).2.length=N
 |0,i,j,M,_,_,_,_,hM,ho=>⟨ho,hM⟩
 |n+1,i,j,M,hi,hj,him,hjN,hM,ho=>by
  unfold bb2
  by_cases h1:i=j
  ·rw[if_pos h1];exact⟨ho,hM⟩
  ·rw[if_neg h1]
   by_cases h2:j<i
   ·rw[if_pos h2]
    exact b94 m N n (i-j) j _ (by omega) hj (by omega) hjN (by rw[ak4];exact hM) (aC7 ho j (by omega) (by omega))
   ·rw[if_neg h2]
    exact b94 m N n i (j-i) _ hi (by omega) him (by omega) (by rw[ak4];exact hM) (aC7 ho i (by omega) (by omega))
theorem aT0{l:List Val}{n:Val}{N:Nat}(ho:l.all okK=true)(hl:l.length=N)(hn:n.toI=(N:Int))(hN:N≤400):bn7 (.vl l) n=true:=
 and2 rfl (and2 ho (and2 (decide_eq_true (by rw[hn];show(N:Int)=(l.length:Int);omega)) (decide_eq_true (by show l.length≤400;omega))))
theorem b95{v:Val}{n:Nat}(h:v.toI=(n:Int)):nt v=n:=by unfold nt;omega
theorem bx3{M:List Val}{n va vb vk:Val}{N a b k:Nat}(ho:M.all okK=true)(hM:M.length=N)(hn:n.toI=(N:Int))(hN:N≤400)(ha:va.toI=(a:Int))(hb:vb.toI=(b:Int))(hk:vk.toI=(k:Int))(h1:a+k≤b)(h2:b+k≤N):(F 420 [.vl M,n,va,vb,vk]).toB=true:=by
 show(bn7 (.vl M) n&&decide (0≤va.toI∧0≤vk.toI∧va.toI+vk.toI≤vb.toI∧vb.toI+vk.toI≤n.toI))=true
 exact and2 (aT0 ho hM hn hN) (decide_eq_true (by rw[hn,ha,hb,hk];omega))
theorem dk5{M:List Val}{va vb vk:Val}{a b k:Nat}(ha:va.toI=(a:Int))(hb:vb.toI=(b:Int))(hk:vk.toI=(k:Int)):F 421 [.vl M,va,vb,vk]= .vl (swN M a b k):=by
 show Val.vl (swN M (nt va) (nt vb) (nt vk))=_
 rw[b95 ha,b95 hb,b95 hk]
def b96:SX:= zm (.va 3) (.va 2000)
def ce0:SX:= zm (za (.va 3) (.va 2001)) (.va 2000)
theorem bx4:cV4= .ite (.op (.cmp .neq) [.va 2000,.va 2001]) (.ite (.op (.cmp .gtr) [.va 2000,.va 2001]) (.need (.app 420 [.va 2002,.va 1,b96,.va 3,.va 2001]) (.ret 0 [zm (.va 2000) (.va 2001),.va 2001,.app 421 [.va 2002,b96,.va 3,.va 2001]])) (.need (.app 420 [.va 2002,.va 1,b96,ce0,.va 2000]) (.ret 0 [.va 2000,zm (.va 2001) (.va 2000),.app 421 [.va 2002,b96,ce0,.va 2000]]))) (.ret 1 [.va 2000,.va 2001,.va 2002]):=rfl
theorem cQ9{ω:Opq}(hf: ∀i a,ω.f i a=F i a){m N:Nat}(h8:(ω.w 3).toI=m)(h6:(ω.w 1).toI=N)(hN:N≤400): ∀(n i j:Nat) (M:List Val),i+j≤n+1→0<i→0<j→i≤m→m+j≤N→M.length=N→M.all okK=true→
 Iter (fun vs=>Q1 cV4 (ω.upd 2000 vs)) [.vi i,.vi j,.vl M] 0 [.vi (bb2 m n i j M).1,.vi (bb2 m n i j M).1,.vl (bb2 m n i j M).2]
 |0,i,j,M,hn,hi,hj,him,hjN,hM,ho=>by omega
 |n+1,i,j,M,hn,hi,hj,him,hjN,hM,ho=>by
  obtain⟨ω',hω⟩: ∃ω',ω'=ω.upd 2000 [.vi i,.vi j,.vl M]:=⟨_,rfl⟩
  have v0:ω'.w 2000= .vi i:=by rw[hω];rfl
  have v1:ω'.w 2001= .vi j:=by rw[hω];rfl
  have v2:ω'.w 2002= .vl M:=by rw[hω];rfl
  have u8:(ω'.w 3).toI=m:=by rw[hω];exact h8
  have u6:(ω'.w 1).toI=N:=by rw[hω];exact h6
  have hf': ∀i a,ω'.f i a=F i a:=by rw[hω];exact hf
  have a1:den ω' b96= .vi (m-i:Nat):=by
   show Val.vi (arI .sub .i64 (ω'.w 3).toI (ω'.w 2000).toI)=_
   rw[u8,v0,R0,bx1 him (by omega)]
  have a2:den ω' ce0= .vi (m+j-i:Nat):=by
   show Val.vi (arI .sub .i64 (arI .add .i64 (ω'.w 3).toI (ω'.w 2001).toI) (ω'.w 2000).toI)=_
   rw[u8,v0,v1,R0,R0,cl2 (by omega),bx1 (by omega) (by omega)]
  unfold bb2
  by_cases h1:i=j
  ·rw[if_pos h1]
   refine .out ?_
   show Q1 cV4 (ω.upd 2000 [.vi i,.vi j,.vl M])=_
   rw[←hω,bx4]
   refine T1 (by show(!decide ((ω'.w 2000).toI=(ω'.w 2001).toI))=false;rw[v0,v1,R0,R0,h1,decide_eq_true rfl];rfl) ?_
   show some (1,[ω'.w 2000,ω'.w 2001,ω'.w 2002])=_
   rw[v0,v1,v2,h1]
  ·rw[if_neg h1]
   have c1:dB ω' (.op (.cmp .neq) [.va 2000,.va 2001])=true:=by
    show(!decide ((ω'.w 2000).toI=(ω'.w 2001).toI))=true
    rw[v0,v1,R0,R0,decide_eq_false (by omega)];rfl
   by_cases h2:j<i
   ·rw[if_pos h2]
    refine .more (vs':=[.vi (i-j:Nat),.vi j,.vl (swN M (m-i) m j)]) ?_ (cQ9 hf h8 h6 hN n (i-j) j _ (by omega) (by omega) hj (by omega) hjN (by rw[ak4];exact hM) (aC7 ho j (by omega) (by omega)))
    show Q1 cV4 (ω.upd 2000 [.vi i,.vi j,.vl M])=_
    rw[←hω,bx4]
    refine T7 c1 (T7 (by show decide ((ω'.w 2001).toI<(ω'.w 2000).toI)=true;rw[v0,v1];exact decide_eq_true (by show(j:Int)<(i:Int);omega)) (Q6 ?_ ?_))
    ·show(ω'.f 420 [ω'.w 2002,ω'.w 1,den ω' b96,ω'.w 3,ω'.w 2001]).toB=true
     rw[hf',v2,a1,v1]
     exact bx3 ho hM u6 hN rfl u8 rfl (by omega) (by omega)
    ·show some (0,[Val.vi (arI .sub .i64 (ω'.w 2000).toI (ω'.w 2001).toI),ω'.w 2001,ω'.f 421 [ω'.w 2002,den ω' b96,ω'.w 3,ω'.w 2001]])=_
     rw[hf',v0,v1,v2,a1,R0,R0,bx1 (by omega) (by omega),dk5 rfl u8 rfl]
   ·rw[if_neg h2]
    refine .more (vs':=[.vi i,.vi (j-i:Nat),.vl (swN M (m-i) (m+j-i) i)]) ?_ (cQ9 hf h8 h6 hN n i (j-i) _ (by omega) hi (by omega) him (by omega) (by rw[ak4];exact hM) (aC7 ho i (by omega) (by omega)))
    show Q1 cV4 (ω.upd 2000 [.vi i,.vi j,.vl M])=_
    rw[←hω,bx4]
    refine T7 c1 (T1 (by show decide ((ω'.w 2001).toI<(ω'.w 2000).toI)=false;rw[v0,v1];exact decide_eq_false (by show¬(j:Int)<(i:Int);omega)) (Q6 ?_ ?_))
    ·show(ω'.f 420 [ω'.w 2002,ω'.w 1,den ω' b96,den ω' ce0,ω'.w 2000]).toB=true
     rw[hf',v2,a1,a2,v0]
     exact bx3 ho hM u6 hN rfl rfl rfl (by omega) (by omega)
    ·show some (0,[ω'.w 2000,Val.vi (arI .sub .i64 (ω'.w 2001).toI (ω'.w 2000).toI),ω'.f 421 [ω'.w 2002,den ω' b96,den ω' ce0,ω'.w 2000]])=_
     rw[hf',v0,v1,v2,a1,a2,R0,R0,bx1 (by omega) (by omega),dk5 rfl rfl rfl]
theorem t_rotC{ω:Opq}(hf: ∀i a,ω.f i a=F i a)(hn:(F 422 [ω.w 0,ω.w 1,ω.w 2,ω.w 3,ω.w 4]).toB=true):Q1 bH1 ω=some (0,[F 423 [ω.w 0,ω.w 2,ω.w 3,ω.w 4]]):=by
 obtain⟨ho,hd⟩:=P8 (show(bn7 (ω.w 0) (ω.w 1)&&decide (0≤(ω.w 2).toI∧(ω.w 2).toI<(ω.w 3).toI∧(ω.w 3).toI<(ω.w 4).toI∧(ω.w 4).toI≤(ω.w 1).toI))=true from hn)
 obtain⟨e5,oa,h6,hl⟩:=aS0 ho
 obtain⟨q1,q2,q3,q4⟩:=of_decide_eq_true hd
 have h7:=aS9 q1
 have h8:=aS9 (show 0≤(ω.w 3).toI by omega)
 have h9:=aS9 (show 0≤(ω.w 4).toI by omega)
 have hF:F 423 [ω.w 0,ω.w 2,ω.w 3,ω.w 4]= .vl (cP7 (ω.w 0).toL (nt (ω.w 2)) (nt (ω.w 3)) (nt (ω.w 4))):=rfl
 rw[hF]
 generalize nt (ω.w 2)=a at h7⊢
 generalize hm:nt (ω.w 3)=m at h8⊢
 generalize nt (ω.w 4)=b at h9⊢
 generalize hL:(ω.w 0).toL=l at e5 oa h6 hl⊢
 have r0:den ω bk6= .vi (m-a:Nat):=by
  show Val.vi (arI .sub .i64 (ω.w 3).toI (ω.w 2).toI)=_
  rw[h8,h7,bx1 (by omega) (by omega)]
 have r1:den ω bk7= .vi (b-m:Nat):=by
  show Val.vi (arI .sub .i64 (ω.w 4).toI (ω.w 3).toI)=_
  rw[h8,h9,bx1 (by omega) (by omega)]
 have hF2: ∀x y:Val,F 458 [.vi (m-a:Nat),.vi (b-m:Nat),.vl l,x,y,ω.w 3]=W4 (0,[.vi (bb2 (nt (ω.w 3)) (m-a+(b-m)) (m-a) (b-m) l).1,.vi (bb2 (nt (ω.w 3)) (m-a+(b-m)) (m-a) (b-m) l).1,.vl (bb2 (nt (ω.w 3)) (m-a+(b-m)) (m-a) (b-m) l).2]):=fun _ _=>rfl
 rw[hm]at hF2
 have sp:=aR8 m (m-a+(b-m)) (m-a) (b-m) (l.take a) (seg l a m) (seg l m b) (l.drop b) (by omega) (by omega) (by omega) (a09 (by omega)) (a09 (by omega)) (by rw[j0];omega)
 rw[←dr6 (l:=l) (by omega) (by omega)]at sp
 have al:=b94 m l.length (m-a+(b-m)) (m-a) (b-m) l (by omega) (by omega) (by omega) (by omega) rfl oa
 have it:=cQ9 hf h8 h6 hl (m-a+(b-m)) (m-a) (b-m) l (by omega) (by omega) (by omega) (by omega) (by omega) rfl oa
 generalize bb2 m (m-a+(b-m)) (m-a) (b-m) l=R at sp al it hF2
 obtain⟨r,M⟩:=R
 simp only at sp al it hF2
 obtain⟨s1,s2,s3,s4,s5⟩:=sp
 obtain⟨al1,al2⟩:=al
 have d2:den ω bk8=W4 (0,[.vi r,.vi r,.vl M]):=by
  show ω.f 458 [den ω bk6,den ω bk7,ω.w 0,ω.w 1,ω.w 0,ω.w 3]=_
  rw[r0,r1,e5,hf,hF2]
 have d3:den ω bk9= .vl M:=by show R6 (den ω bk8).toL 1 2=_;rw[d2];rfl
 have d4:den ω aR1= .vi r:=by show R6 (den ω bk8).toL 1 0=_;rw[d2];rfl
 have d5:den ω bl0= .vi (m-r:Nat):=by
  show Val.vi (arI .sub .i64 (ω.w 3).toI (den ω aR1).toI)=_
  rw[h8,d4,R0,bx1 (by omega) (by omega)]
 unfold bH1
 refine Q8 (r:=(0,[.vi r,.vi r,.vl M])) ?_ d2 (Q6 ?_ ?_)
 ·show R9 _ [den ω bk6,den ω bk7,ω.w 0]=_
  rw[r0,r1,e5,Y0]
  exact it
 ·show(ω.f 420 [den ω bk9,ω.w 1,den ω bl0,ω.w 3,den ω aR1]).toB=true
  rw[hf,d3,d4,d5]
  exact bx3 al1 al2 h6 hl rfl h8 rfl (by omega) (by omega)
 ·show some (0,[ω.f 421 [den ω bk9,den ω bl0,ω.w 3,den ω aR1]])=_
  rw[hf,d3,d4,d5,dk5 rfl h8 rfl,s5];rfl
end Go.Ev.S7
namespace Go.Ev.S7
open Go Go.Ev
theorem bJ9(l:List Val)(i j:Nat):decide ((F 206 [Q9 (atV l i) 0,Q9 (atV l i) 1,Q9 (atV l i) 2,Q9 (atV l j) 0,Q9 (atV l j) 1,Q9 (atV l j) 2]).toI<0)=S2 false (atV l i) (atV l j):=by
 rw[v7,decide_eq_true_iff]
 exact cv7 _ _
theorem cR0{ω:Opq}(hf: ∀i a,ω.f i a=F i a){a N k:Nat}(h7:(ω.w 2).toI=a)(h6:(ω.w 1).toI=N)(hN:N≤400){l:List Val}(hl:l.length=N)(ho:l.all okK=true)(hk:a+k+1<N):
 Q1 cP0 (ω.upd 3000 [.vi (a+k+1:Nat),.vl l])=some (if S2 false (atV l (a+k+1)) (atV l (a+k))then(0,[.vi (a+k:Nat),.vl (swp l (a+k+1) (a+k))])else(1,[.vi (a+k+1:Nat),.vl l])):=by
 have e1:=dr8 (K:=a+k+1) (k:=a+k) rfl (by omega)
 have p0:(a:Int)<((a+k+1:Nat):Int):=by omega
 have p1:(0:Int)≤((a+k+1:Nat):Int):=by omega
 have p2:((a+k+1:Nat):Int)<N:=by omega
 have p3:(0:Int)≤((a+k:Nat):Int):=by omega
 have p4:((a+k:Nat):Int)<N:=by omega
 have hc:=bJ9 l (a+k+1) (a+k)
 rw[←aI1 ho (by omega) (by omega)]
 unfold cP0
 simp only[Q1,Q4,den,dB,X5,Q3,Nat.reduceLeDiff,Nat.reduceSub,if_true,if_false,A6,B7,R0,a75,ad2,h7,h6,e1,a04,a65,an5,p0,p1,p2,p3,p4,decide_true,A4,hl,C3,ay6,ay7,ay8,aZ6,aZ7,aZ8,aZ9,b92,Int.toNat_natCast,ah9,hf,hc]
 cases S2 false (atV l (a+k+1)) (atV l (a+k))<;>rfl
theorem d80{ω:Opq}(hf: ∀i a,ω.f i a=F i a){a N:Nat}(h7:(ω.w 2).toI=a)(h6:(ω.w 1).toI=N)(hN:N≤400): ∀(k:Nat) (l:List Val),a+k<N→l.length=N→l.all okK=true→
 Iter (fun vs=>Q1 cP0 (ω.upd 3000 vs)) [.vi (a+k:Nat),.vl l] 0 [.vi (bn6 false a l k).1,.vl (bn6 false a l k).2]
 |0,l,hk,hl,ho=>by
  refine .out ?_
  have p0: ¬(a:Int)<((a:Nat):Int):=by omega
  show Q1 cP0 (ω.upd 3000 [.vi (a:Nat),.vl l])=_
  unfold cP0
  simp only[Q1,Q4,den,dB,X5,Q3,Nat.reduceLeDiff,Nat.reduceSub,if_true,if_false,A6,B7,R0,a75,ad2,h7,an5,p0,decide_false,k7,bn6]
 |k+1,l,hk,hl,ho=>by
  have hs:=cR0 hf h7 h6 hN (k:=k) hl ho (by omega)
  unfold bn6
  cases hc:S2 false (atV l (a+k+1)) (atV l (a+k))with
  |true=>
   rw[hc,if_pos rfl]at hs
   rw[if_pos rfl]
   exact .more hs (d80 hf h7 h6 hN k _ (by omega) (by rw[b76,hl]) (b93 ho (by omega) (by omega)))
  |false=>
   rw[hc,if_neg (by simp)]at hs
   rw[if_neg (by simp)]
   exact .out hs
theorem ce1:d61= .ite (zs (.va 2000) (.va 3)) (.loop ⟨461,[.va 2000,.va 2001],3000,[.va 1,.va 2001,.va 2,.va 3,.va 2000]⟩ cP0 [.ret 0 [zi (.va 2000),zo (.app 461 [.va 2000,.va 2001,.va 1,.va 2001,.va 2,.va 3,.va 2000]) 1]]) (.ret 1 [.va 2000,.va 2001]):=rfl
theorem cR1{ω:Opq}(hf: ∀i a,ω.f i a=F i a){a N b i:Nat}(h7:(ω.w 2).toI=a)(h8:(ω.w 3).toI=b)(h6:(ω.w 1).toI=N)(hN:N≤400){l:List Val}(hl:l.length=N)(ho:l.all okK=true)(hai:a≤i)(hib:i<b)(hb:b≤N):
 Q1 d61 (ω.upd 2000 [.vi i,.vl (a13 false l a i)])=some (0,[.vi (i+1:Nat),.vl (a13 false l a (i+1))]):=by
 have hst:=cw0 (sec:=false) (l:=l) hai (by omega)
 have hpl:=bI4 false (l:=l) hai
 have hpo:=an7 ho (ak5 false (l:=l) hai)
 generalize a13 false l a i=M at hst hpl hpo⊢
 obtain⟨ω',hω⟩: ∃ω',ω'=ω.upd 2000 [.vi i,.vl M]:=⟨_,rfl⟩
 have v0:ω'.w 2000= .vi i:=by rw[hω];rfl
 have v1:ω'.w 2001= .vl M:=by rw[hω];rfl
 have u6:(ω'.w 1).toI=N:=by rw[hω];exact h6
 have u7:(ω'.w 2).toI=a:=by rw[hω];exact h7
 have u8:(ω'.w 3).toI=b:=by rw[hω];exact h8
 have hf': ∀i a,ω'.f i a=F i a:=by rw[hω];exact hf
 have lp:=d80 hf' u7 u6 hN (i-a) M (by omega) (by omega) hpo
 rw[show a+(i-a)=i by omega]at lp
 have hF: ∀x y z:Val,F 461 [.vi i,.vl M,x,y,ω'.w 2,z,.vi i]=W4 (0,[.vi (bn6 false (nt (ω'.w 2)) M (i-nt (ω'.w 2))).1,.vl (bn6 false (nt (ω'.w 2)) M (i-nt (ω'.w 2))).2]):=fun _ _ _=>rfl
 rw[b95 u7]at hF
 have e1:ω'.f 461 [ω'.w 2000,ω'.w 2001,ω'.w 1,ω'.w 2001,ω'.w 2,ω'.w 3,ω'.w 2000]=W4 (0,[.vi (bn6 false a M (i-a)).1,.vl (bn6 false a M (i-a)).2]):=by
  rw[hf',v0,v1,hF]
 rw[←hω,ce1]
 refine T7 (by show decide ((ω'.w 2000).toI<(ω'.w 3).toI)=true;rw[v0,u8,R0];exact decide_eq_true (by omega)) (Q8 (r:=(0,[.vi (bn6 false a M (i-a)).1,.vl (bn6 false a M (i-a)).2])) ?_ e1 ?_)
 ·show R9 _ [ω'.w 2000,ω'.w 2001]=_
  rw[v0,v1,Y0]
  exact lp
 ·show some (0,[Val.vi (arI .add .i64 (ω'.w 2000).toI 1),R6 (ω'.f 461 [ω'.w 2000,ω'.w 2001,ω'.w 1,ω'.w 2001,ω'.w 2,ω'.w 3,ω'.w 2000]).toL 1 1])=_
  rw[e1,v0,R0,bx2 (by omega),←hst];rfl
theorem t_insC{ω:Opq}(hf: ∀i a,ω.f i a=F i a)(hn:(F 424 [ω.w 0,ω.w 1,ω.w 2,ω.w 3]).toB=true):Q1 bH2 ω=some (0,[F 425 [ω.w 0,ω.w 2,ω.w 3]]):=by
 obtain⟨ho,hd⟩:=P8 (show(bn7 (ω.w 0) (ω.w 1)&&decide (0≤(ω.w 2).toI∧(ω.w 2).toI≤(ω.w 3).toI∧(ω.w 3).toI≤(ω.w 1).toI))=true from hn)
 obtain⟨e5,oa,h6,hl⟩:=aS0 ho
 obtain⟨q1,q2,q3⟩:=of_decide_eq_true hd
 have h7:=aS9 q1
 have h8:=aS9 (show 0≤(ω.w 3).toI by omega)
 have hF:F 425 [ω.w 0,ω.w 2,ω.w 3]= .vl (a13 false (ω.w 0).toL (nt (ω.w 2)) (nt (ω.w 3))):=rfl
 have hF2: ∀x y z:Val,F 460 [x,ω.w 0,y,z,ω.w 2,ω.w 3]=W4 (0,[.vi (max (nt (ω.w 2)+1) (nt (ω.w 3)):Nat),.vl (a13 false (ω.w 0).toL (nt (ω.w 2)) (nt (ω.w 3)))]):=fun _ _ _=>rfl
 rw[hF]
 generalize nt (ω.w 2)=a at h7 hF2⊢
 generalize nt (ω.w 3)=b at h8 hF2⊢
 have r0:den ω aZ2= .vi (a+1:Nat):=by
  show Val.vi (arI .add .i64 (ω.w 2).toI 1)=_
  rw[h7,bx2 (by omega)]
 have e1:ω.f 460 [den ω aZ2,ω.w 0,ω.w 1,ω.w 0,ω.w 2,ω.w 3]=W4 (0,[.vi (max (a+1) b:Nat),.vl (a13 false (ω.w 0).toL a b)]):=by
  rw[hf,hF2]
 unfold bH2
 refine Q8 (r:=(0,[.vi (max (a+1) b:Nat),.vl (a13 false (ω.w 0).toL a b)])) ?_ e1 ?_
 ·show R9 _ [den ω aZ2,ω.w 0]=_
  rw[r0]
  have hout: ∀(i:Nat) (M:Val),b≤i→Q1 d61 (ω.upd 2000 [.vi i,M])=some (1,[.vi i,M]):=fun i M hi=>by
   rw[ce1]
   refine T1 ?_ rfl
   show decide ((i:Int)<(ω.w 3).toI)=false
   exact decide_eq_false (by omega)
  by_cases hab:a+1<b
  ·rw[K4 (by omega)]
   refine af5 (fun i=>[.vi (a+1+i:Nat),.vl (a13 false (ω.w 0).toL a (a+1+i))]) (n:=b-(a+1)) ?_ (fun i hi=>cR1 hf h7 h8 h6 hl rfl oa (by omega) (by omega) (by omega)) ?_
   ·show _=[Val.vi (a+1:Nat),Val.vl (a13 false (ω.w 0).toL a (a+1))]
    rw[bI7 (by omega) (by omega) (by omega),←e5]
   ·show Q1 d61 (ω.upd 2000 [.vi (a+1+(b-(a+1)):Nat),.vl (a13 false (ω.w 0).toL a (a+1+(b-(a+1))))])=_
    rw[show a+1+(b-(a+1))=b by omega]
    exact hout b _ (e8 _)
  ·rw[O2 (by omega),bI7 (by omega) (by omega) (by omega),←e5,Y0]
   exact .out (hout (a+1) _ (by omega))
 ·show some (0,[R6 (ω.f 460 [den ω aZ2,ω.w 0,ω.w 1,ω.w 0,ω.w 2,ω.w 3]).toL 1 1])=_
  rw[e1];rfl
end Go.Ev.S7
namespace Go.Ev.S7
open Go Go.Ev
theorem ce2{i j:Nat}(h:i+j≤1000000):IntKind.i64.wrap (arI .shr .u64 (IntKind.u64.wrap (arI .add .i64 (i:Int) (j:Int))) 1)=(((i+j)/2:Nat):Int):=by
 rw[cl2 h]
 have e1:IntKind.u64.wrap ((i+j:Nat):Int)=((i+j:Nat):Int):=by
  have:IntKind.u64.wrap ((i+j:Nat):Int)=((i+j:Nat):Int) % 18446744073709551616:=rfl
  rw[this];omega
 have e2:arI .shr .u64 ((i+j:Nat):Int) 1=(((i+j)/2:Nat):Int):=by
  have:arI .shr .u64 ((i+j:Nat):Int) 1=((i+j:Nat):Int).fdiv 2:=rfl
  rw[this,I2 _ (by omega)];omega
 rw[e1,e2]
 exact cl0 (by omega) (by omega)
theorem cR2{ω:Opq}(hf: ∀i a,ω.f i a=F i a){a N i j:Nat}(h7:(ω.w 2).toI=a)(h6:(ω.w 1).toI=N)(hN:N≤400)(hl:(ω.w 0).toL.length=N)(ho:(ω.w 0).toL.all okK=true)(hij:i<j)(hj:j≤N)(ha:a<N):
 Q1 d62 (ω.upd 2000 [.vi i,.vi j])=some (0,if S2 false (atV (ω.w 0).toL ((i+j)/2)) (atV (ω.w 0).toL a)then [.vi ((i+j)/2+1:Nat),.vi j]else [.vi i,.vi ((i+j)/2:Nat)]):=by
 have e0:=ce2 (i:=i) (j:=j) (by omega)
 have hlt:(i+j)/2<j:=by omega
 generalize (i+j)/2=h at e0 hlt⊢
 have e1:=bx2 (x:=h) (by omega)
 have p0:(i:Int)<(j:Int):=by omega
 have p1:(0:Int)≤(h:Int):=by omega
 have p2:(h:Int)<N:=by omega
 have p3:(0:Int)≤(a:Int):=by omega
 have p4:(a:Int)<N:=by omega
 have hc:=bJ9 (ω.w 0).toL (h) (a)
 unfold d62
 simp only[Q1,Q4,den,dB,X5,Q3,Nat.reduceLeDiff,Nat.reduceSub,if_true,if_false,A6,B7,R0,a75,ad2,h7,h6,e0,e1,a04,a65,p0,p1,p2,p3,p4,decide_true,A4,hl,ay6,ay7,ay8,ah9,hf,hc]
 cases S2 false (atV (ω.w 0).toL h) (atV (ω.w 0).toL a)<;>rfl
theorem cR3{ω:Opq}(hf: ∀i a,ω.f i a=F i a){m N i j:Nat}(h8:(ω.w 3).toI=m)(h6:(ω.w 1).toI=N)(hN:N≤400)(hl:(ω.w 0).toL.length=N)(ho:(ω.w 0).toL.all okK=true)(hij:i<j)(hj:j≤N)(ha:m<N):
 Q1 d63 (ω.upd 2000 [.vi i,.vi j])=some (0,if(!S2 false (atV (ω.w 0).toL m) (atV (ω.w 0).toL ((i+j)/2)))=true then [.vi ((i+j)/2+1:Nat),.vi j]else [.vi i,.vi ((i+j)/2:Nat)]):=by
 have e0:=ce2 (i:=i) (j:=j) (by omega)
 have hlt:(i+j)/2<j:=by omega
 generalize (i+j)/2=h at e0 hlt⊢
 have e1:=bx2 (x:=h) (by omega)
 have p0:(i:Int)<(j:Int):=by omega
 have p1:(0:Int)≤(h:Int):=by omega
 have p2:(h:Int)<N:=by omega
 have p3:(0:Int)≤(m:Int):=by omega
 have p4:(m:Int)<N:=by omega
 have hc:=bJ9 (ω.w 0).toL (m) (h)
 unfold d63
 simp only[Q1,Q4,den,dB,X5,Q3,Nat.reduceLeDiff,Nat.reduceSub,if_true,if_false,A6,B7,R0,a75,ad2,h8,h6,e0,e1,a04,a65,p0,p1,p2,p3,p4,decide_true,A4,hl,ay6,ay7,ay8,ah9,hf,hc]
 cases S2 false (atV (ω.w 0).toL m) (atV (ω.w 0).toL h)<;>rfl
theorem cR4{ω:Opq}(hf: ∀i a,ω.f i a=F i a){a m b N i j mid:Nat}(h7:(ω.w 2).toI=a)(h8:(ω.w 3).toI=m)(h9:(ω.w 4).toI=b)(h6:(ω.w 1).toI=N)(hN:N≤400)(hl:(ω.w 0).toL.length=N)(ho:(ω.w 0).toL.all okK=true)(hmid:mid=(a+b)/2)(hb:b≤N)(ham:a<m)(hmb:m<b)
 (hij:i<j) (hj:j≤m) (hj2:j≤mid) (hi:mid+m≤b+i):
 Q1 cP1 (ω.upd 2000 [.vi i,.vi j])=some (0,if(!S2 false (atV (ω.w 0).toL (mid+m-1-(i+j)/2)) (atV (ω.w 0).toL ((i+j)/2)))=true then [.vi ((i+j)/2+1:Nat),.vi j]else [.vi i,.vi ((i+j)/2:Nat)]):=by
 have e0:=ce2 (i:=i) (j:=j) (by omega)
 have g0:=ce2 (i:=a) (j:=b) (by omega)
 rw[←hmid]at g0
 have g1:=cl2 (x:=mid) (y:=m) (by omega)
 have g2:=cd9 (x:=mid+m) (by omega) (by omega)
 have hlt:(i+j)/2<j:=by omega
 have hge:i≤(i+j)/2:=by omega
 generalize (i+j)/2=h at e0 hlt hge⊢
 have g3:=bx1 (x:=mid+m-1) (y:=h) (by omega) (by omega)
 have e1:=bx2 (x:=h) (by omega)
 have hq:mid+m-1-h<N:=by omega
 generalize mid+m-1-h=q at g3 hq⊢
 have p0:(i:Int)<(j:Int):=by omega
 have p1:(0:Int)≤(h:Int):=by omega
 have p2:(h:Int)<N:=by omega
 have p3:(0:Int)≤(q:Int):=by omega
 have p4:(q:Int)<N:=by omega
 have hc:=bJ9 (ω.w 0).toL (q) (h)
 unfold cP1
 simp only[Q1,Q4,den,dB,X5,Q3,Nat.reduceLeDiff,Nat.reduceSub,if_true,if_false,A6,B7,R0,a75,ad2,h7,h8,h9,h6,e0,e1,g0,g1,g2,g3,a04,a65,p0,p1,p2,p3,p4,decide_true,A4,hl,ay6,ay7,ay8,ah9,hf,hc]
 cases S2 false (atV (ω.w 0).toL q) (atV (ω.w 0).toL h)<;>rfl
theorem bx5{ω:Opq}{x:VT}(i:Nat):Q1 (.ite (zs (.va 2000) (.va 2001)) x (.ret 1 [.va 2000,.va 2001])) (ω.upd 2000 [.vi i,.vi i])=some (1,[.vi i,.vi i]):=by
 refine T1 ?_ rfl
 show decide ((i:Int)<(i:Int))=false
 exact decide_eq_false (by omega)
theorem cR5{ω:Opq}{N r i:Nat}(h6:(ω.w 1).toI=N)(hN:N≤400)(hr:R6 (ω.f 462 [ω.w 3,ω.w 4,ω.w 1,ω.w 0,ω.w 2]).toL 1 0= .vi r){M:List Val}(hM:M.length=N)(ho:M.all okK=true)(hi:i+1<r)(hrN:r≤N):
 Q1 cV5 (ω.upd 3000 [.vi i,.vl M])=some (0,[.vi (i+1:Nat),.vl (swp M i (i+1))]):=by
 have e0:=cd9 (x:=r) (by omega) (by omega)
 have e1:=bx2 (x:=i) (by omega)
 have p0:(i:Int)<((r-1:Nat):Int):=by omega
 have p1:(0:Int)≤((i+1:Nat):Int):=by omega
 have p2:((i+1:Nat):Int)<N:=by omega
 have p3:(0:Int)≤(i:Int):=by omega
 have p4:(i:Int)<N:=by omega
 rw[←aI1 ho (by omega) (by omega)]
 unfold cV5
 simp only[Q1,Q4,den,dB,X5,Q3,Nat.reduceLeDiff,Nat.reduceSub,if_true,if_false,A6,B7,ah9,hr,R0,a75,ad2,h6,e0,e1,a04,a65,p0,p1,p2,p3,p4,decide_true,A4,hM,C3,ay6,ay7,ay8,aZ6,aZ7,aZ8,aZ9,b92,Int.toNat_natCast]
theorem cR6{ω:Opq}{N r i:Nat}(h6:(ω.w 1).toI=N)(hN:N≤400)(hr:R6 (ω.f 464 [ω.w 2,ω.w 3,ω.w 1,ω.w 0,ω.w 3]).toL 1 0= .vi r){M:List Val}(hM:M.length=N)(ho:M.all okK=true)(hi:r<i)(hiN:i<N):
 Q1 cV6 (ω.upd 3000 [.vi i,.vl M])=some (0,[.vi (i-1:Nat),.vl (swp M (i-1) i)]):=by
 have e1:=cd9 (x:=i) (by omega) (by omega)
 have p0:(r:Int)<(i:Int):=by omega
 have p1:(0:Int)≤((i-1:Nat):Int):=by omega
 have p2:((i-1:Nat):Int)<N:=by omega
 have p3:(0:Int)≤(i:Int):=by omega
 have p4:(i:Int)<N:=by omega
 rw[bI2 (by omega),←aI1 ho (by omega) (by omega)]
 unfold cV6
 simp only[Q1,Q4,den,dB,X5,Q3,Nat.reduceLeDiff,Nat.reduceSub,if_true,if_false,A6,B7,ah9,hr,R0,a75,ad2,h6,e1,a04,a65,an5,p0,p1,p2,p3,p4,decide_true,A4,hM,C3,ay6,ay7,ay8,aZ6,aZ7,aZ8,aZ9,b92,Int.toNat_natCast]
theorem ce3{l:List Val}{a:Nat}(h:l.all okK=true): ∀n,a+n<l.length→(mvU l a n).all okK=true
 |0,_=>h
 |n+1,h1=>b93 (ce3 h n (by omega)) (by rw[b77];omega) (by rw[b77];omega)
theorem ce4{l:List Val}{m:Nat}(h:l.all okK=true)(hm:m<l.length): ∀n,(mvD l m n).all okK=true
 |0=>h
 |n+1=>b93 (ce4 h hm n) (by rw[b78];omega) (by rw[b78];omega)
def cW3(B:Int)(e mid L:SX):VT:= .ite (zs mid e) (.ite (zs e (.va 4)) (.need (.app 426 [L,.va 1,mid,e,.va 4,.ci B]) (.ret 0 [.app 425 [L,mid,.va 4]])) (.ret 0 [L])) (.ret 0 [L])
def cW4(B:Int)(r e mid L:SX):VT:= .ite (zs (.va 2) r) (.ite (zs r mid) (.need (.app 426 [L,.va 1,.va 2,r,mid,.ci B]) (cW3 B e mid (.app 425 [L,.va 2,mid]))) (cW3 B e mid L)) (cW3 B e mid L)
def d81(B:Int)(r e mid:SX):VT:= .ite (zs r (.va 3)) (.ite (zs (.va 3) e) (.need (.app 422 [.va 0,.va 1,r,.va 3,e]) (cW4 B r e mid (.app 423 [.va 0,r,.va 3,e]))) (cW4 B r e mid (.va 0))) (cW4 B r e mid (.va 0))
theorem cx3(B:Int):af2 B= .ite (ze (zm (.va 3) (.va 2)) 1) (.loop ⟨462,[.va 3,.va 4],2000,[.va 1,.va 0,.va 2]⟩ d62 [.loop ⟨463,[.va 2,.va 0],3000,[.va 1,.va 0,bv7]⟩ cV5 [.ret 0 [zo (.app 463 [.va 2,.va 0,.va 1,.va 0,bv7]) 1]]])
 (.ite (ze (zm (.va 4) (.va 3)) 1) (.loop ⟨464,[.va 2,.va 3],2000,[.va 1,.va 0,.va 3]⟩ d63 [.loop ⟨465,[.va 3,.va 0],3000,[.va 1,.va 0,bv8]⟩ cV6 [.ret 0 [zo (.app 465 [.va 3,.va 0,.va 1,.va 0,bv8]) 1]]])
 (.ite (.op (.cmp .gtr) [.va 3,V7]) (.loop ⟨466,[bv9,V7],2000,[.va 1,.va 0,.va 2,.va 3,.va 4,V7,ag9,aR2]⟩ cP1 [d81 B aR3 aR4 V7]) (.loop ⟨466,[.va 2,.va 3],2000,[.va 1,.va 0,.va 2,.va 3,.va 4,V7,ag9,aR2]⟩ cP1 [d81 B ak1 ak2 V7]))):=rfl
theorem b97{M:List Val}{n:Val}{N a m b:Nat}{B:Int}(ho:M.all okK=true)(hM:M.length=N)(hn:n.toI=(N:Int))(hN:N≤400)(h1:a<m)(h2:m<b)(h3:b≤N)(h4:(b:Int)-a≤B)
 (s1:Sd false (seg M a m)) (s2:Sd false (seg M m b)):(F 426 [.vl M,n,.vi a,.vi m,.vi b,.vi B]).toB=true:=by
 show bR9 [.vl M,n,.vi a,.vi m,.vi b,.vi B]=true
 refine aS1.2 ⟨aT0 ho hM hn hN,?_,?_,?_,?_,h4,rfl,rfl,rfl,s1,s2⟩
 ·show(0:Int)≤(a:Int);omega
 ·show(a:Int)<(m:Int);omega
 ·show(m:Int)<(b:Int);omega
 ·show(b:Int)≤n.toI;omega
theorem cR7{M:List Val}{va vb:Val}{a b:Nat}(ha:va.toI=(a:Int))(hb:vb.toI=(b:Int)):F 425 [.vl M,va,vb]= .vl (a13 false M a b):=by
 show Val.vl (a13 false M (nt va) (nt vb))=_
 rw[b95 ha,b95 hb]
section
variable{ω:Opq}{N a m b R E MID:Nat}{B:Int}{r e mid:SX}
theorem ce5(hf: ∀i a,ω.f i a=F i a)(h6:(ω.w 1).toI=N)(hN:N≤400)(h9:ω.w 4= .vi b)(he:den ω e= .vi E)(hmid:den ω mid= .vi MID)(hb:b≤N)(hB:(b:Int)-MID≤B){L:SX}{M Y:List Val}(hL:den ω L= .vl M)(ho:M.all okK=true)(hM:M.length=N)
 (s1:Sd false (seg M MID E)) (s2:Sd false (seg M E b)) (c1:MID<E→E<b→a13 false M MID b=Y) (c2: ¬(MID<E∧E<b)→M=Y):Q1 (cW3 B e mid L) ω=some (0,[.vl Y]):=by
 unfold cW3
 have hret: ¬(MID<E∧E<b)→Q1 (.ret 0 [L]) ω=some (0,[.vl Y]):=fun h=>by
  show some (0,[den ω L])=_
  rw[hL,c2 h]
 by_cases h1:MID<E
 ·refine T7 (by show decide ((den ω mid).toI<(den ω e).toI)=true;rw[he,hmid];exact decide_eq_true (by show(MID:Int)<(E:Int);omega)) ?_
  by_cases h2:E<b
  ·refine T7 (by show decide ((den ω e).toI<(ω.w 4).toI)=true;rw[he,h9];exact decide_eq_true (by show(E:Int)<(b:Int);omega)) (Q6 ?_ ?_)
   ·show(ω.f 426 [den ω L,ω.w 1,den ω mid,den ω e,ω.w 4,.vi B]).toB=true
    rw[hf,hL,hmid,he,h9]
    exact b97 ho hM h6 hN h1 h2 hb hB s1 s2
   ·show some (0,[ω.f 425 [den ω L,den ω mid,ω.w 4]])=_
    rw[hf,hL,hmid,h9,cR7 rfl rfl,c1 h1 h2]
  ·exact T1 (by show decide ((den ω e).toI<(ω.w 4).toI)=false;rw[he,h9];exact decide_eq_false (by show¬(E:Int)<(b:Int);omega)) (hret (by omega))
 ·exact T1 (by show decide ((den ω mid).toI<(den ω e).toI)=false;rw[he,hmid];exact decide_eq_false (by show¬(MID:Int)<(E:Int);omega)) (hret (by omega))
theorem ce6(hf: ∀i a,ω.f i a=F i a)(h6:(ω.w 1).toI=N)(hN:N≤400)(h7:ω.w 2= .vi a)(h9:ω.w 4= .vi b)(hr:den ω r= .vi R)(he:den ω e= .vi E)(hmid:den ω mid= .vi MID)(hb:b≤N)(hmb:MID<b)(hB:(b:Int)-MID≤B)(hB2:(MID:Int)-a≤B){L:SX}{M M2 Y:List Val}(hL:den ω L= .vl M)(ho:M.all okK=true)(hM:M.length=N)(ho2:M2.all okK=true)(hM2:M2.length=N)
 (t1:Sd false (seg M a R)) (t2:Sd false (seg M R MID)) (d1:a<R→R<MID→a13 false M a MID=M2) (d2: ¬(a<R∧R<MID)→M=M2)
 (s1:Sd false (seg M2 MID E)) (s2:Sd false (seg M2 E b)) (c1:MID<E→E<b→a13 false M2 MID b=Y) (c2: ¬(MID<E∧E<b)→M2=Y):Q1 (cW4 B r e mid L) ω=some (0,[.vl Y]):=by
 unfold cW4
 have hid: ¬(a<R∧R<MID)→Q1 (cW3 B e mid L) ω=some (0,[.vl Y]):=fun h=>by
  have:=d2 h
  subst this
  exact ce5 hf h6 hN h9 he hmid hb hB hL ho hM s1 s2 c1 c2
 by_cases h1:a<R
 ·refine T7 (by show decide ((ω.w 2).toI<(den ω r).toI)=true;rw[hr,h7];exact decide_eq_true (by show(a:Int)<(R:Int);omega)) ?_
  by_cases h2:R<MID
  ·refine T7 (by show decide ((den ω r).toI<(den ω mid).toI)=true;rw[hr,hmid];exact decide_eq_true (by show(R:Int)<(MID:Int);omega)) (Q6 ?_ ?_)
   ·show(ω.f 426 [den ω L,ω.w 1,ω.w 2,den ω r,den ω mid,.vi B]).toB=true
    rw[hf,hL,hmid,hr,h7]
    exact b97 ho hM h6 hN h1 h2 (by omega) hB2 t1 t2
   ·refine ce5 hf h6 hN h9 he hmid hb hB ?_ ho2 hM2 s1 s2 c1 c2
    show ω.f 425 [den ω L,ω.w 2,den ω mid]=_
    rw[hf,hL,hmid,h7,cR7 rfl rfl,d1 h1 h2]
  ·exact T1 (by show decide ((den ω r).toI<(den ω mid).toI)=false;rw[hr,hmid];exact decide_eq_false (by show¬(R:Int)<(MID:Int);omega)) (hid (by omega))
 ·exact T1 (by show decide ((ω.w 2).toI<(den ω r).toI)=false;rw[hr,h7];exact decide_eq_false (by show¬(a:Int)<(R:Int);omega)) (hid (by omega))
theorem cR8{M:List Val}{n va vm vb:Val}{a m b:Nat}(ho:M.all okK=true)(hM:M.length=N)(hn:n.toI=(N:Int))(hN:N≤400)(ha:va.toI=(a:Int))(hm:vm.toI=(m:Int))(hb:vb.toI=(b:Int))(h1:a<m)(h2:m<b)(h3:b≤N):(F 422 [.vl M,n,va,vm,vb]).toB=true:=by
 show(bn7 (.vl M) n&&decide (0≤va.toI∧va.toI<vm.toI∧vm.toI<vb.toI∧vb.toI≤n.toI))=true
 exact and2 (aT0 ho hM hn hN) (decide_eq_true (by omega))
theorem cR9(hf: ∀i a,ω.f i a=F i a)(h6:(ω.w 1).toI=N)(hN:N≤400)(h7:ω.w 2= .vi a)(h8:(ω.w 3).toI=m)(h9:ω.w 4= .vi b)(hr:den ω r= .vi R)(he:den ω e= .vi E)(hmid:den ω mid= .vi MID)(hb:b≤N)(hEb:E≤b)(hmb:MID<b)(hB:(b:Int)-MID≤B)(hB2:(MID:Int)-a≤B){l M M2 Y:List Val}(h5:ω.w 0= .vl l)(hl:l.length=N)(hlo:l.all okK=true)
 (b1:R<m→m<E→cP7 l R m E=M) (b2: ¬(R<m∧m<E)→l=M) (p1:M.Perm l)
 (t1:Sd false (seg M a R)) (t2:Sd false (seg M R MID)) (d1:a<R→R<MID→a13 false M a MID=M2) (d2: ¬(a<R∧R<MID)→M=M2) (p2:M2.Perm l)
 (s1:Sd false (seg M2 MID E)) (s2:Sd false (seg M2 E b)) (c1:MID<E→E<b→a13 false M2 MID b=Y) (c2: ¬(MID<E∧E<b)→M2=Y):Q1 (d81 B r e mid) ω=some (0,[.vl Y]):=by
 unfold d81
 have oM:=an7 hlo p1
 have lM:M.length=N:=p1.length_eq.trans hl
 have oM2:=an7 hlo p2
 have lM2:M2.length=N:=p2.length_eq.trans hl
 have hid: ¬(R<m∧m<E)→Q1 (cW4 B r e mid (.va 0)) ω=some (0,[.vl Y]):=fun h=>
  ce6 hf h6 hN h7 h9 hr he hmid hb hmb hB hB2 (L:= .va 0) (by show ω.w 0=_;rw[h5,b2 h]) oM lM oM2 lM2 t1 t2 d1 d2 s1 s2 c1 c2
 by_cases h1:R<m
 ·refine T7 (by show decide ((den ω r).toI<(ω.w 3).toI)=true;rw[hr,h8];exact decide_eq_true (by show(R:Int)<(m:Int);omega)) ?_
  by_cases h2:m<E
  ·refine T7 (by show decide ((ω.w 3).toI<(den ω e).toI)=true;rw[he,h8];exact decide_eq_true (by show(m:Int)<(E:Int);omega)) (Q6 ?_ ?_)
   ·show(ω.f 422 [ω.w 0,ω.w 1,den ω r,ω.w 3,den ω e]).toB=true
    rw[hf,h5,hr,he]
    exact cR8 hlo hl h6 hN rfl h8 rfl h1 h2 (by omega)
   ·refine ce6 hf h6 hN h7 h9 hr he hmid hb hmb hB hB2 ?_ oM lM oM2 lM2 t1 t2 d1 d2 s1 s2 c1 c2
    show ω.f 423 [ω.w 0,den ω r,ω.w 3,den ω e]=_
    rw[hf,h5,hr,he,←b1 h1 h2]
    show Val.vl (cP7 l R (nt (ω.w 3)) E)=_
    rw[b95 h8]
  ·exact T1 (by show decide ((ω.w 3).toI<(den ω e).toI)=false;rw[he,h8];exact decide_eq_false (by show¬(m:Int)<(E:Int);omega)) (hid (by omega))
 ·exact T1 (by show decide ((den ω r).toI<(ω.w 3).toI)=false;rw[hr,h8];exact decide_eq_false (by show¬(R:Int)<(m:Int);omega)) (hid (by omega))
end
end Go.Ev.S7
namespace Go.Ev.S7
open Go Go.Ev
theorem bx6{T:Nat→Bool}{lo hi:Nat}{step:List Val→Option (Nat×List Val)}{va vb:Val}(hle:lo≤hi)(h1: ∀i j:Nat,lo≤i→i<j→j≤hi→step [.vi i,.vi j]=some (0,if T ((i+j)/2)=true then [.vi ((i+j)/2+1:Nat),.vi j]else [.vi i,.vi ((i+j)/2:Nat)]))(h2: ∀i:Nat,step [.vi i,.vi i]=some (1,[.vi i,.vi i])):
 R9 step [.vi lo,.vi hi]=some (0,[.vi (bs T (hi-lo) lo hi),.vi (bs T (hi-lo) lo hi)]):=by
 rw[Y0]
 exact bw2 h1 h2 (hi-lo) lo hi (e8 _) hle (e8 _) (e8 _)
theorem t_sym{ω:Opq}{B:Int}(hf: ∀i a,ω.f i a=F i a)(hn:(F 426 [ω.w 0,ω.w 1,ω.w 2,ω.w 3,ω.w 4,.vi (2*B)]).toB=true):Q1 (af2 B) ω=some (0,[F 425 [ω.w 0,ω.w 2,ω.w 4]]):=by
 have hn':bR9 [ω.w 0,ω.w 1,ω.w 2,ω.w 3,ω.w 4,.vi (2*B)]=true:=hn
 obtain⟨ho,q1,q2,q3,q4,q5,i7,i8,i9,s1,s2⟩:=aS1.1 hn'
 have ho:bn7 (ω.w 0) (ω.w 1)=true:=ho
 have q1:0≤(ω.w 2).toI:=q1
 have q2:(ω.w 2).toI<(ω.w 3).toI:=q2
 have q3:(ω.w 3).toI<(ω.w 4).toI:=q3
 have q4:(ω.w 4).toI≤(ω.w 1).toI:=q4
 have q5:(ω.w 4).toI-(ω.w 2).toI≤2*B:=q5
 have s1:Sd false (seg (ω.w 0).toL (nt (ω.w 2)) (nt (ω.w 3))):=s1
 have s2:Sd false (seg (ω.w 0).toL (nt (ω.w 3)) (nt (ω.w 4))):=s2
 obtain⟨e5,oa,h6,hl⟩:=aS0 ho
 have h7:=aS9 q1
 have h8:=aS9 (show 0≤(ω.w 3).toI by omega)
 have h9:=aS9 (show 0≤(ω.w 4).toI by omega)
 have w7:ω.w 2= .vi (nt (ω.w 2)):=(bI9 (show isI (ω.w 2)=true from i7)).trans (congrArg Val.vi h7)
 have w8:ω.w 3= .vi (nt (ω.w 3)):=(bI9 (show isI (ω.w 3)=true from i8)).trans (congrArg Val.vi h8)
 have w9:ω.w 4= .vi (nt (ω.w 4)):=(bI9 (show isI (ω.w 4)=true from i9)).trans (congrArg Val.vi h9)
 have hF:F 425 [ω.w 0,ω.w 2,ω.w 4]= .vl (a13 false (ω.w 0).toL (nt (ω.w 2)) (nt (ω.w 4))):=rfl
 rw[hF]
 generalize nt (ω.w 2)=a at h7 w7 s1⊢
 generalize nt (ω.w 3)=m at h8 w8 s1 s2⊢
 generalize nt (ω.w 4)=b at h9 w9 s2⊢
 obtain⟨l,hL⟩: ∃l,(ω.w 0).toL=l:=⟨_,rfl⟩
 obtain⟨N,hNN⟩: ∃N,l.length=N:=⟨_,rfl⟩
 have hlN:(ω.w 0).toL.length=N:=by rw[hL];exact hNN
 rw[hlN]at h6 hl
 have ham:a<m:=by omega
 have hmb:m<b:=by omega
 have hbN:b≤N:=by omega
 rw[cx3]
 by_cases c1:m=a+1
 ·
  refine T7 (by show decide (arI .sub .i64 (ω.w 3).toI (ω.w 2).toI=1)=true;rw[h8,h7,bx1 (by omega) (by omega)];exact decide_eq_true (by omega)) ?_
  subst c1
  have so:=cP9 (sec:=false) (l:=(ω.w 0).toL) (a:=a) (b:=b) hmb (by omega) s2
  have hlp:R9 (fun vs=>Q1 d62 (ω.upd 2000 vs)) [.vi (a+1:Nat),.vi b]=_:=bx6 (T:=fun h=>S2 false (atV (ω.w 0).toL h) (atV (ω.w 0).toL a)) (va:= .vi 0) (vb:= .vi 0) (by omega) (fun i j h1 h2 h3=>cR2 hf h7 h6 hl hlN oa h2 (by omega) (by omega)) (fun i=>bx5 i)
  have hF2:F 462 [.vi (a+1:Nat),.vi b,ω.w 1,ω.w 0,.vi a]=W4 (0,[.vi (bs (fun h=>S2 false (atV (ω.w 0).toL h) (atV (ω.w 0).toL a)) (b-(a+1)) (a+1) b),.vi (bs (fun h=>S2 false (atV (ω.w 0).toL h) (atV (ω.w 0).toL a)) (b-(a+1)) (a+1) b)]):=rfl
  generalize bs (fun h=>S2 false (atV (ω.w 0).toL h) (atV (ω.w 0).toL a)) (b-(a+1)) (a+1) b=r at so hlp hF2
  obtain⟨r1,r2,r3⟩:=so
  have e462:ω.f 462 [ω.w 3,ω.w 4,ω.w 1,ω.w 0,ω.w 2]=W4 (0,[.vi r,.vi r]):=by
   rw[hf,w7,w8,w9,hF2]
  have er:R6 (ω.f 462 [ω.w 3,ω.w 4,ω.w 1,ω.w 0,ω.w 2]).toL 1 0= .vi r:=by rw[e462];rfl
  have hF3: ∀x y:Val,F 463 [.vi a,ω.w 0,x,y,.vi r]=W4 (0,[.vi (r-1:Nat),.vl (mvU (ω.w 0).toL a (r-1-a))]):=fun _ _=>rfl
  have e463:ω.f 463 [ω.w 2,ω.w 0,ω.w 1,ω.w 0,den ω bv7]=W4 (0,[.vi (r-1:Nat),.vl (mvU (ω.w 0).toL a (r-1-a))]):=by
   rw[show den ω bv7= .vi r from er,hf,w7,hF3]
  refine Q8 (r:=(0,[.vi r,.vi r])) ?_ e462 (Q8 (r:=(0,[.vi (r-1:Nat),.vl (mvU (ω.w 0).toL a (r-1-a))])) ?_ e463 ?_)
  ·show R9 _ [ω.w 3,ω.w 4]=_
   rw[w8,w9];exact hlp
  ·show R9 _ [ω.w 2,ω.w 0]=_
   rw[w7]
   refine af5 (fun i=>[.vi (a+i:Nat),.vl (mvU (ω.w 0).toL a i)]) (n:=r-1-a) (by rw[show mvU (ω.w 0).toL a 0=(ω.w 0).toL from rfl,←e5];rfl) (fun i hi=> ?_) ?_
   ·exact cR5 h6 hl er (by rw[b77];exact hlN) (ce3 oa i (by omega)) (by omega) (by omega)
   ·show Q1 cV5 (ω.upd 3000 [.vi (a+(r-1-a):Nat),.vl (mvU (ω.w 0).toL a (r-1-a))])=_
    rw[show a+(r-1-a)=r-1 by omega]
    unfold cV5
    refine T1 ?_ rfl
    show decide (((r-1:Nat):Int)<arI .sub .i64 (R6 (ω.f 462 [ω.w 3,ω.w 4,ω.w 1,ω.w 0,ω.w 2]).toL 1 0).toI 1)=false
    rw[er,R0,cd9 (by omega) (by omega)]
    exact decide_eq_false (by omega)
  ·show some (0,[R6 (ω.f 463 [ω.w 2,ω.w 0,ω.w 1,ω.w 0,den ω bv7]).toL 1 1])=_
   rw[e463,←r3];rfl
 ·refine T1 (by show decide (arI .sub .i64 (ω.w 3).toI (ω.w 2).toI=1)=false;rw[h8,h7,bx1 (by omega) (by omega)];exact decide_eq_false (by omega)) ?_
  by_cases c2:b=m+1
  ·
   refine T7 (by show decide (arI .sub .i64 (ω.w 4).toI (ω.w 3).toI=1)=true;rw[h8,h9,bx1 (by omega) (by omega)];exact decide_eq_true (by omega)) ?_
   subst c2
   have so:=cQ0 (sec:=false) (l:=(ω.w 0).toL) (a:=a) (m:=m) ham (by omega) s1
   have hlp:R9 (fun vs=>Q1 d63 (ω.upd 2000 vs)) [.vi a,.vi m]=_:=bx6 (T:=fun h=> !S2 false (atV (ω.w 0).toL m) (atV (ω.w 0).toL h)) (va:= .vi 0) (vb:= .vi 0) (by omega) (fun i j h1 h2 h3=>cR3 hf h8 h6 hl hlN oa h2 (by omega) (by omega)) (fun i=>bx5 i)
   have hF2:F 464 [.vi a,.vi m,ω.w 1,ω.w 0,.vi m]=W4 (0,[.vi (bs (fun h=> !S2 false (atV (ω.w 0).toL m) (atV (ω.w 0).toL h)) (m-a) a m),.vi (bs (fun h=> !S2 false (atV (ω.w 0).toL m) (atV (ω.w 0).toL h)) (m-a) a m)]):=rfl
   generalize bs (fun h=> !S2 false (atV (ω.w 0).toL m) (atV (ω.w 0).toL h)) (m-a) a m=r at so hlp hF2
   obtain⟨r1,r2,r3⟩:=so
   have e464:ω.f 464 [ω.w 2,ω.w 3,ω.w 1,ω.w 0,ω.w 3]=W4 (0,[.vi r,.vi r]):=by
    rw[hf,w7,w8,hF2]
   have er:R6 (ω.f 464 [ω.w 2,ω.w 3,ω.w 1,ω.w 0,ω.w 3]).toL 1 0= .vi r:=by rw[e464];rfl
   have hF3: ∀x y:Val,F 465 [.vi m,ω.w 0,x,y,.vi r]=W4 (0,[.vi r,.vl (mvD (ω.w 0).toL m (m-r))]):=fun _ _=>rfl
   have e465:ω.f 465 [ω.w 3,ω.w 0,ω.w 1,ω.w 0,den ω bv8]=W4 (0,[.vi r,.vl (mvD (ω.w 0).toL m (m-r))]):=by
    rw[show den ω bv8= .vi r from er,hf,w8,hF3]
   refine Q8 (r:=(0,[.vi r,.vi r])) ?_ e464 (Q8 (r:=(0,[.vi r,.vl (mvD (ω.w 0).toL m (m-r))])) ?_ e465 ?_)
   ·show R9 _ [ω.w 2,ω.w 3]=_
    rw[w7,w8];exact hlp
   ·show R9 _ [ω.w 3,ω.w 0]=_
    rw[w8]
    refine af5 (fun i=>[.vi (m-i:Nat),.vl (mvD (ω.w 0).toL m i)]) (n:=m-r) (by rw[show mvD (ω.w 0).toL m 0=(ω.w 0).toL from rfl,←e5];rfl) (fun i hi=> ?_) ?_
    ·have:=cR6 (i:=m-i) h6 hl er (M:=mvD (ω.w 0).toL m i) (by rw[b78];exact hlN) (ce4 oa (by omega) i) (by omega) (by omega)
     rw[show m-i-1=m-(i+1) by omega]at this
     refine this.trans ?_
     show _=some (0,[Val.vi (m-(i+1):Nat),Val.vl (swp (mvD (ω.w 0).toL m i) (m-i-1) (m-i))])
     rw[show m-i-1=m-(i+1) by omega]
    ·show Q1 cV6 (ω.upd 3000 [.vi (m-(m-r):Nat),.vl (mvD (ω.w 0).toL m (m-r))])=_
     rw[show m-(m-r)=r by omega]
     unfold cV6
     refine T1 ?_ rfl
     show decide ((R6 (ω.f 464 [ω.w 2,ω.w 3,ω.w 1,ω.w 0,ω.w 3]).toL 1 0).toI<(r:Int))=false
     rw[er,R0]
     exact decide_eq_false (by omega)
   ·show some (0,[R6 (ω.f 465 [ω.w 3,ω.w 0,ω.w 1,ω.w 0,den ω bv8]).toL 1 1])=_
    rw[e465,←r3];rfl
  ·refine T1 (by show decide (arI .sub .i64 (ω.w 4).toI (ω.w 3).toI=1)=false;rw[h8,h9,bx1 (by omega) (by omega)];exact decide_eq_false (by omega)) ?_
   obtain⟨mid,hmid⟩: ∃mid,mid=(a+b)/2:=⟨_,rfl⟩
   have d2:den ω V7= .vi mid:=by
    show Val.vi (IntKind.i64.wrap (arI .shr .u64 (IntKind.u64.wrap (arI .add .i64 (ω.w 2).toI (ω.w 4).toI)) 1))=_
    rw[h7,h9,ce2 (by omega),←hmid]
   have d3:den ω ag9= .vi (mid+m:Nat):=by
    show Val.vi (arI .add .i64 (den ω V7).toI (ω.w 3).toI)=_
    rw[d2,h8,R0,cl2 (by omega)]
   have d5:den ω aR2= .vi (mid+m-1:Nat):=by
    show Val.vi (arI .sub .i64 (den ω ag9).toI 1)=_
    rw[d3,R0,cd9 (by omega) (by omega)]
   have key: ∀(lo hi r:Nat) (va vb:Val) (er ee:SX),(mid<m∧lo=mid+m-b∧hi=mid∨m≤mid∧lo=a∧hi=m)→r=bs (fun c=> !S2 false (atV (ω.w 0).toL (mid+m-1-c)) (atV (ω.w 0).toL c)) (hi-lo) lo hi→den ω er= .vi r→(∀n:Nat,den ω er= .vi n→n≤mid+m→den ω ee= .vi (mid+m-n:Nat))→Q1 (d81 B er ee V7) ω=some (0,[.vl (a13 false (ω.w 0).toL a b)]):=fun lo hi r va vb er ee hlh hr h1 h2=>by
    obtain⟨g1,g2,g3,g4,M,M2,b1,b2,p1,t1,t2,k1,k2,p2,u1,u2,x1,x2⟩:=cQ1 (sec:=false) (l:=(ω.w 0).toL) ham hmb (by omega) s1 s2 hmid hlh hr
    exact cR9 hf h6 hl w7 h8 w9 h1 (h2 r h1 (by omega)) d2 hbN g4 (by omega) (by omega) (by omega) e5 hlN oa b1 b2 p1 t1 t2 k1 k2 p2 u1 u2 x1 x2
   have hlp: ∀lo hi:Nat,(mid<m∧lo=mid+m-b∧hi=mid∨m≤mid∧lo=a∧hi=m)→R9 (fun vs=>Q1 cP1 (ω.upd 2000 vs)) [.vi lo,.vi hi]=some (0,[.vi (bs (fun c=> !S2 false (atV (ω.w 0).toL (mid+m-1-c)) (atV (ω.w 0).toL c)) (hi-lo) lo hi),.vi (bs (fun c=> !S2 false (atV (ω.w 0).toL (mid+m-1-c)) (atV (ω.w 0).toL c)) (hi-lo) lo hi)]):=fun lo hi hlh=>bx6 (T:=fun c=> !S2 false (atV (ω.w 0).toL (mid+m-1-c)) (atV (ω.w 0).toL c)) (va:= .vi 0) (vb:= .vi 0) (by omega) (fun i j h1 h2 h3=>cR4 hf h7 h8 h9 h6 hl hlN oa hmid hbN ham hmb h2 (by omega) (by omega) (by omega)) (fun i=>bx5 i)
   have hF2: ∀(lo hi:Nat) (va vb x y:Val),nt va=lo→nt vb=hi→F 466 [va,vb,ω.w 1,ω.w 0,ω.w 2,ω.w 3,ω.w 4,x,y,.vi (mid+m-1:Nat)]=W4 (0,[.vi (bs (fun c=> !S2 false (atV (ω.w 0).toL (mid+m-1-c)) (atV (ω.w 0).toL c)) (hi-lo) lo hi),.vi (bs (fun c=> !S2 false (atV (ω.w 0).toL (mid+m-1-c)) (atV (ω.w 0).toL c)) (hi-lo) lo hi)]):=fun lo hi va vb x y h1 h2=>by subst h1;subst h2;rfl
   by_cases c3:mid<m
   ·refine T7 (by show decide ((den ω V7).toI<(ω.w 3).toI)=true;rw[d2,h8,R0];exact decide_eq_true (by omega)) ?_
    have hlh:mid<m∧mid+m-b=mid+m-b∧mid=mid∨m≤mid∧mid+m-b=a∧mid=m:= .inl ⟨c3,rfl,rfl⟩
    have d4:den ω bv9= .vi (mid+m-b:Nat):=by
     show Val.vi (arI .sub .i64 (den ω ag9).toI (ω.w 4).toI)=_
     rw[d3,h9,R0,bx1 (by omega) (by omega)]
    have e466:ω.f 466 [den ω bv9,den ω V7,ω.w 1,ω.w 0,ω.w 2,ω.w 3,ω.w 4,den ω V7,den ω ag9,den ω aR2]=W4 (0,[.vi (bs (fun c=> !S2 false (atV (ω.w 0).toL (mid+m-1-c)) (atV (ω.w 0).toL c)) (mid-(mid+m-b)) (mid+m-b) mid),.vi (bs (fun c=> !S2 false (atV (ω.w 0).toL (mid+m-1-c)) (atV (ω.w 0).toL c)) (mid-(mid+m-b)) (mid+m-b) mid)]):=by
     rw[hf,d5]
     exact hF2 (mid+m-b) mid _ _ _ _ (by rw[d4];rfl) (by rw[d2];rfl)
    refine Q8 (r:=(0,_)) ?_ e466 ?_
    ·show R9 _ [den ω bv9,den ω V7]=_
     rw[d4,d2];exact hlp _ _ hlh
    ·refine key _ _ _ (.vi 0) (.vi 0) aR3 aR4 hlh rfl ?_ (fun n h1 h2=> ?_)
     ·show R6 (ω.f 466 [den ω bv9,den ω V7,ω.w 1,ω.w 0,ω.w 2,ω.w 3,ω.w 4,den ω V7,den ω ag9,den ω aR2]).toL 1 0=_
      rw[e466];rfl
     ·show Val.vi (arI .sub .i64 (den ω ag9).toI (den ω aR3).toI)=_
      rw[d3,h1,R0,R0,bx1 h2 (by omega)]
   ·refine T1 (by show decide ((den ω V7).toI<(ω.w 3).toI)=false;rw[d2,h8,R0];exact decide_eq_false (by omega)) ?_
    have hlh:mid<m∧a=mid+m-b∧m=mid∨m≤mid∧a=a∧m=m:= .inr ⟨by omega,rfl,rfl⟩
    have e466:ω.f 466 [ω.w 2,ω.w 3,ω.w 1,ω.w 0,ω.w 2,ω.w 3,ω.w 4,den ω V7,den ω ag9,den ω aR2]=W4 (0,[.vi (bs (fun c=> !S2 false (atV (ω.w 0).toL (mid+m-1-c)) (atV (ω.w 0).toL c)) (m-a) a m),.vi (bs (fun c=> !S2 false (atV (ω.w 0).toL (mid+m-1-c)) (atV (ω.w 0).toL c)) (m-a) a m)]):=by
     rw[hf,d5]
     exact hF2 a m _ _ _ _ (b95 h7) (b95 h8)
    refine Q8 (r:=(0,_)) ?_ e466 ?_
    ·show R9 _ [ω.w 2,ω.w 3]=_
     rw[w7,w8];exact hlp _ _ hlh
    ·refine key _ _ _ (.vi 0) (.vi 0) ak1 ak2 hlh rfl ?_ (fun n h1 h2=> ?_)
     ·show R6 (ω.f 466 [ω.w 2,ω.w 3,ω.w 1,ω.w 0,ω.w 2,ω.w 3,ω.w 4,den ω V7,den ω ag9,den ω aR2]).toL 1 0=_
      rw[e466];rfl
     ·show Val.vi (arI .sub .i64 (den ω ag9).toI (den ω ak1).toI)=_
      rw[d3,h1,R0,R0,bx1 h2 (by omega)]
theorem sym_vac{a b c d e:Val}(hn:(F 426 [a,b,c,d,e,.vi 1]).toB=true):False:=by
 obtain⟨_,_,q2,q3,_,q5,_⟩:=aS1.1 (show bR9 [a,b,c,d,e,.vi 1]=true from hn)
 have q2:c.toI<d.toI:=q2
 have q3:d.toI<e.toI:=q3
 have q5:e.toI-c.toI≤1:=q5
 omega
end Go.Ev.S7
namespace Go.Ev.S7
open Go Go.Ev
theorem ce7{l:List Val}{a b c d:Nat}(ha:a≤l.length)(hd:d≤a):seg (a13 false l a b) c d=seg l c d:=by
 unfold seg a13
 rw[P5 (by rw[j0];omega),List.take_take,x9 hd]
theorem cS0{l:List Val}{a b c:Nat}(h:a≤b)(hb:b≤l.length)(hc:b≤c):(a13 false l a b).drop c=l.drop c:=by
 unfold a13
 rw[←v8,M7,E5 (by rw[j9,j0,srt_len,a09 hb];omega),List.nil_append,j9,j0,srt_len,a09 hb,I5]
 congr 1;omega
theorem d82{l:List Val}{a b c d:Nat}(h:a≤b)(hb:b≤l.length)(hc:b≤c):seg (a13 false l a b) c d=seg l c d:=by
 unfold seg
 rw[I4,I4,cS0 h hb hc]
theorem a17(B:Nat)(l:List Val): ∀k,(a86 B l k).length=l.length
 |0=>rfl
 |k+1=>by rw[a86,bI4 false (by omega),a17 B l k]
theorem al3(B:Nat)(l:List Val): ∀k,(a86 B l k).Perm l
 |0=> .refl _
 |k+1=>(ak5 false (by omega)).trans (al3 B l k)
theorem b98(B:Nat)(l:List Val): ∀k,Cl false (a86 B l k) l
 |0=>Cl.refl _ _
 |k+1=>(bw5 false (by omega)).trans (b98 B l k)
theorem as9{B:Nat}{l:List Val}: ∀{k c d:Nat},B*k≤l.length→B*k≤c→seg (a86 B l k) c d=seg l c d
 |0,c,d,_,_=>rfl
 |k+1,c,d,hl,hc=>by
  rw[Nat.mul_succ]at hl hc
  rw[a86,d82 (by omega) (by rw[a17];exact hl) hc,as9 (by omega) (by omega)]
theorem bx7{B:Nat}{l:List Val}: ∀{k j:Nat},j<k→B*k≤l.length→seg (a86 B l k) (B*j) (B*j+B)=srt false (seg l (B*j) (B*j+B))
 |k+1,j,hj,hl=>by
  rw[Nat.mul_succ]at hl
  rw[a86]
  by_cases h:j=k
  ·subst h
   rw[bw6 (by omega) (by rw[a17];exact hl),as9 (by omega) (e8 _)]
  ·have hjk:j<k:=by omega
   have:B*j+B≤B*k:=by rw[←Nat.mul_succ];exact G8 _ hjk
   rw[ce7 (by rw[a17];omega) this,bx7 hjk (by omega)]
def Bk(B n:Nat)(l:List Val):Prop:= ∀k,Sd false (seg l (B*k) (min (B*k+B) n))
theorem ce8:Sd false []:=List.Pairwise.nil
theorem ce9{l:List Val}{n:Nat}(hl:l.length=n):Bk 20 n (a13 false (a86 20 l (n/20)) (20*(n/20)) n):=by
 have hq:20*(n/20)≤n:=E8 n 20
 have hq2:n<20*(n/20)+20:=by omega
 intro k
 rcases F6 k (n/20)with h|h|h
 ·have h1:20*k+20≤20*(n/20):=by omega
  rw[x9 (by omega),ce7 (by rw[a17];omega) h1,bx7 h (by omega)]
  exact a29 _ _
 ·subst h
  rw[C5 (by omega),bw6 hq (by rw[a17];omega)]
  exact a29 _ _
 ·rw[bw4 (by omega)];exact ce8
theorem cf0{bs n:Nat}{l:List Val}(h0:0<bs)(hl:l.length=n)(hb:Bk bs n l):Bk (2*bs) n (pass bs n l)∧Cl false (pass bs n l) l∧(pass bs n l).Perm l:=by
 have hq:2*bs*(n/(2*bs))≤n:=E8 n (2*bs)
 have hq2:n<2*bs*(n/(2*bs))+2*bs:=by
  have:=O7 n (show 0<2*bs by omega)
  rw[Nat.mul_succ]at this;exact this
 have ev: ∀k,bs*(2*k)=2*bs*k:=fun k=>by rw[←E9,A2 bs 2]
 have hp:pass bs n l=if 2*bs*(n/(2*bs))+bs<n then a13 false (a86 (2*bs) l (n/(2*bs))) (2*bs*(n/(2*bs))) n else a86 (2*bs) l (n/(2*bs)):=rfl
 generalize n/(2*bs)=q at hq hq2 hp
 have hM: ∀k,k<q→Sd false (seg (a86 (2*bs) l q) (2*bs*k) (min (2*bs*k+2*bs) n)):=fun k hk=>by
  have:2*bs*k+2*bs≤2*bs*q:=by rw[←Nat.mul_succ];exact G8 _ hk
  rw[x9 (by omega),bx7 hk (by omega)]
  exact a29 _ _
 have hgt: ∀k,q<k→n≤2*bs*k:=fun k hk=>by
  have:2*bs*(q+1)≤2*bs*k:=G8 _ hk
  rw[Nat.mul_succ]at this;omega
 by_cases hc:2*bs*q+bs<n
 ·have e:(if 2*bs*q+bs<n then a13 false (a86 (2*bs) l q) (2*bs*q) n else a86 (2*bs) l q)=a13 false (a86 (2*bs) l q) (2*bs*q) n:=if_pos hc
  refine⟨fun k=> ?_,?_,?_⟩
  ·rw[hp,e]
   rcases F6 k q with h|h|h
   ·have:2*bs*k+2*bs≤2*bs*q:=by rw[←Nat.mul_succ];exact G8 _ h
    rw[ce7 (by rw[a17];omega) (by rw[x9 (by omega)];exact this)]
    exact hM k h
   ·subst h
    rw[C5 (by omega),bw6 hq (by rw[a17];omega)]
    exact a29 _ _
   ·rw[bw4 (by have:=hgt k h;omega)];exact ce8
  ·rw[hp,e]
   exact(bw5 false hq).trans (b98 _ _ _)
  ·rw[hp,e]
   exact(ak5 false hq).trans (al3 _ _ _)
 ·have e:(if 2*bs*q+bs<n then a13 false (a86 (2*bs) l q) (2*bs*q) n else a86 (2*bs) l q)=a86 (2*bs) l q:=if_neg hc
  refine⟨fun k=> ?_,?_,?_⟩
  ·rw[hp,e]
   rcases F6 k q with h|h|h
   ·exact hM k h
   ·subst h
    rw[C5 (by omega),as9 (by omega) (e8 _)]
    have:=hb (2*k)
    rw[ev,C5 (by omega)]at this
    exact this
   ·rw[bw4 (by have:=hgt k h;omega)];exact ce8
  ·rw[hp,e];exact b98 _ _ _
  ·rw[hp,e];exact al3 _ _ _
theorem bK0{n:Nat}: ∀(f bs:Nat) (l:List Val),0<bs→n≤bs*2^f→l.length=n→Bk bs n l→(aC2 n f bs l).2=srt false l
 |0,bs,l,h0,hn,hl,hb=>by
  rw[aC2,aR6]
  have:=hb 0
  rw[Nat.mul_zero,j7,C5 (by simpa using hn),←hl]at this
  unfold seg at this
  simpa using this
 |f+1,bs,l,h0,hn,hl,hb=>by
  rw[aC2]
  by_cases h:bs<n
  ·rw[if_pos h]
   obtain⟨p1,p2,p3⟩:=cf0 h0 hl hb
   rw[bK0 f (2*bs) _ (by omega) (by rw[Nat.pow_succ,A2 (2^f) 2,←E9,A2 bs 2]at hn;exact hn) (by rw[p3.length_eq];exact hl) p1]
   exact srt_cl p2
  ·rw[if_neg h,aR6]
   have:=hb 0
   rw[Nat.mul_zero,j7,C5 (by omega),←hl]at this
   unfold seg at this
   simpa using this
end Go.Ev.S7
namespace Go.Ev.S7
open Go Go.Ev
theorem dk6{x y:Nat}(h:x*y≤1000000):arI .mul .i64 (x:Int) (y:Int)=((x*y:Nat):Int):=by
 have:arI .mul .i64 (x:Int) (y:Int)=IntKind.i64.wrap ((x:Int)*(y:Int)):=rfl
 rw[this,←Int.natCast_mul]
 exact cl0 (by omega) (by omega)
theorem cf1{M:List Val}{n va vb:Val}{N a b:Nat}(ho:M.all okK=true)(hM:M.length=N)(hn:n.toI=(N:Int))(hN:N≤400)(ha:va.toI=(a:Int))(hb:vb.toI=(b:Int))(h1:a≤b)(h2:b≤N):(F 424 [.vl M,n,va,vb]).toB=true:=by
 show(bn7 (.vl M) n&&decide (0≤va.toI∧va.toI≤vb.toI∧vb.toI≤n.toI))=true
 exact and2 (aT0 ho hM hn hN) (decide_eq_true (by rw[hn,ha,hb];omega))
theorem aI2{B:Nat}{l:List Val}(h:l.all okK=true)(k:Nat):(a86 B l k).all okK=true:=an7 h (al3 B l k)
theorem dk7{ω:Opq}(hf: ∀i a,ω.f i a=F i a){n:Nat}{l:List Val}(h1:(ω.w 1).toI=n)(h2:(ω.w 2).toI=n)(hl:l.length=n)(ho:l.all okK=true)(hn:n≤400):
 R9 (fun vs=>Q1 cV7 (ω.upd 2000 vs)) [.vi 0,.vi 20,.vl l]=some (0,[.vi (20*(n/20):Nat),.vi (20*(n/20)+20:Nat),.vl (a86 20 l (n/20))]):=by
 have hq:=E8 n 20
 refine af5 (fun k=>[.vi (20*k:Nat),.vi (20*k+20:Nat),.vl (a86 20 l k)]) (n:=n/20) rfl (fun k hk=> ?_) ?_
 ·have hk2:20*k+20≤n:=by omega
  show Q1 cV7 (ω.upd 2000 [.vi (20*k:Nat),.vi (20*k+20:Nat),.vl (a86 20 l k)])=_
  obtain⟨ω',hω⟩: ∃ω',ω'=ω.upd 2000 [.vi (20*k:Nat),.vi (20*k+20:Nat),.vl (a86 20 l k)]:=⟨_,rfl⟩
  have v0:ω'.w 2000= .vi (20*k:Nat):=by rw[hω];rfl
  have v1:ω'.w 2001= .vi (20*k+20:Nat):=by rw[hω];rfl
  have v2:ω'.w 2002= .vl (a86 20 l k):=by rw[hω];rfl
  have u1:(ω'.w 1).toI=n:=by rw[hω];exact h1
  have u2:(ω'.w 2).toI=n:=by rw[hω];exact h2
  have hf': ∀i a,ω'.f i a=F i a:=by rw[hω];exact hf
  rw[←hω]
  unfold cV7
  refine T7 (by show decide ((ω'.w 2001).toI≤(ω'.w 2).toI)=true;rw[v1,u2];exact decide_eq_true (by show((20*k+20:Nat):Int)≤(n:Int);omega)) (Q6 ?_ ?_)
  ·show(ω'.f 424 [ω'.w 2002,ω'.w 1,ω'.w 2000,ω'.w 2001]).toB=true
   rw[hf',v0,v1,v2]
   exact cf1 (aI2 ho k) (by rw[a17];exact hl) u1 hn rfl rfl (by omega) hk2
  ·show some (0,[ω'.w 2001,Val.vi (arI .add .i64 (ω'.w 2001).toI 20),ω'.f 425 [ω'.w 2002,ω'.w 2000,ω'.w 2001]])=_
   rw[hf',v0,v1,v2,cR7 rfl rfl,R0,show(20:Int)=((20:Nat):Int)from rfl,cl2 (by omega)]
   rfl
 ·show Q1 cV7 (ω.upd 2000 [.vi (20*(n/20):Nat),.vi (20*(n/20)+20:Nat),.vl (a86 20 l (n/20))])=_
  unfold cV7
  refine T1 ?_ rfl
  show decide (((20*(n/20)+20:Nat):Int)≤(ω.w 2).toI)=false
  rw[h2];exact decide_eq_false (by omega)
theorem dk8{ω:Opq}(hf: ∀i a,ω.f i a=F i a){n bs:Nat}{l:List Val}(h1:(ω.w 1).toI=n)(h2:ω.w 2= .vi n)(h3:ω.w 3000= .vi bs)(h0:0<bs)(hl:l.length=n)(ho:l.all okK=true)(hn:n≤400)(hbs:bs≤1000)(hb:Bk bs n l):
 R9 (fun vs=>Q1 cP4 (ω.upd 4000 vs)) [.vi 0,.vi (2*bs:Nat),.vl l]=some (0,[.vi (2*bs*(n/(2*bs)):Nat),.vi (2*bs*(n/(2*bs))+2*bs:Nat),.vl (a86 (2*bs) l (n/(2*bs)))]):=by
 have hq:2*bs*(n/(2*bs))≤n:=E8 n (2*bs)
 have hq2:n<2*bs*(n/(2*bs))+2*bs:=by
  have:=O7 n (show 0<2*bs by omega)
  rw[Nat.mul_succ]at this;exact this
 have ev: ∀k,bs*(2*k)=2*bs*k:=fun k=>by rw[←E9,A2 bs 2]
 have od: ∀k,bs*(2*k+1)=2*bs*k+bs:=fun k=>by rw[Nat.mul_succ,ev]
 generalize n/(2*bs)=q at hq hq2⊢
 refine af5 (fun k=>[.vi (2*bs*k:Nat),.vi (2*bs*k+2*bs:Nat),.vl (a86 (2*bs) l k)]) (n:=q) (by rw[Nat.mul_zero,j7];rfl) (fun k hk=> ?_) ?_
 ·have hk2:2*bs*k+2*bs≤n:=by
   have:2*bs*(k+1)≤2*bs*q:=G8 _ hk
   rw[Nat.mul_succ]at this;omega
  show Q1 cP4 (ω.upd 4000 [.vi (2*bs*k:Nat),.vi (2*bs*k+2*bs:Nat),.vl (a86 (2*bs) l k)])=some (0,[.vi (2*bs*(k+1):Nat),.vi (2*bs*(k+1)+2*bs:Nat),.vl (a86 (2*bs) l (k+1))])
  obtain⟨ω',hω⟩: ∃ω',ω'=ω.upd 4000 [.vi (2*bs*k:Nat),.vi (2*bs*k+2*bs:Nat),.vl (a86 (2*bs) l k)]:=⟨_,rfl⟩
  have v0:ω'.w 4000= .vi (2*bs*k:Nat):=by rw[hω];rfl
  have v1:ω'.w 4001= .vi (2*bs*k+2*bs:Nat):=by rw[hω];rfl
  have v2:ω'.w 4002= .vl (a86 (2*bs) l k):=by rw[hω];rfl
  have u1:(ω'.w 1).toI=n:=by rw[hω];exact h1
  have u2:ω'.w 2= .vi n:=by rw[hω];exact h2
  have u3:ω'.w 3000= .vi bs:=by rw[hω];exact h3
  have hf': ∀i a,ω'.f i a=F i a:=by rw[hω];exact hf
  have a1:arI .add .i64 ((2*bs*k:Nat):Int) (bs:Int)=((2*bs*k+bs:Nat):Int):=cl2 (by omega)
  have a2:arI .mul .i64 2 (bs:Int)=((2*bs:Nat):Int):=dk6 (x:=2) (by omega)
  have a3:arI .add .i64 ((2*bs*k+2*bs:Nat):Int) ((2*bs:Nat):Int)=((2*bs*k+2*bs+2*bs:Nat):Int):=cl2 (by omega)
  have s1:=hb (2*k)
  rw[ev,x9 (by omega)]at s1
  have s2:=hb (2*k+1)
  rw[od,show 2*bs*k+bs+bs=2*bs*k+2*bs by omega,x9 (by omega)]at s2
  rw[←hω]
  unfold cP4
  refine T7 (by show decide ((ω'.w 4001).toI≤(ω'.w 2).toI)=true;rw[v1,u2];exact decide_eq_true (by show((2*bs*k+2*bs:Nat):Int)≤(n:Int);omega)) (Q6 ?_ ?_)
  ·show(ω'.f 426 [ω'.w 4002,ω'.w 1,ω'.w 4000,Val.vi (arI .add .i64 (ω'.w 4000).toI (ω'.w 3000).toI),ω'.w 4001,.vi 512]).toB=true
   rw[hf',v0,v1,v2,u3,R0,R0,a1]
   exact b97 (aI2 ho k) (by rw[a17];exact hl) u1 hn (by omega) (by omega) hk2 (by omega) (by rw[as9 (by omega) (e8 _)];exact s1) (by rw[as9 (by omega) (by omega)];exact s2)
  ·show some (0,[ω'.w 4001,Val.vi (arI .add .i64 (ω'.w 4001).toI (arI .mul .i64 2 (ω'.w 3000).toI)),ω'.f 425 [ω'.w 4002,ω'.w 4000,ω'.w 4001]])=_
   rw[hf',v0,v1,v2,u3,cR7 rfl rfl,R0,R0,a2,a3,Nat.mul_succ]
   rfl
 ·show Q1 cP4 (ω.upd 4000 [.vi (2*bs*q:Nat),.vi (2*bs*q+2*bs:Nat),.vl (a86 (2*bs) l q)])=_
  unfold cP4
  refine T1 ?_ rfl
  show decide (((2*bs*q+2*bs:Nat):Int)≤(ω.w 2).toI)=false
  rw[h2];exact decide_eq_false (by show¬((2*bs*q+2*bs:Nat):Int)≤(n:Int);omega)
def d83:SX:= .app 469 [.ci 0,.op (.ar .mul .i64) [.ci 2,.va 3000],.va 3001,.va 1,.va 3001,.va 2,.va 3000]
def aG0:SX:= zo d83 0
def bx8:SX:= zo d83 2
theorem cf2:d64= .ite (zs (.va 3000) (.va 2)) (.loop ⟨469,[.ci 0,.op (.ar .mul .i64) [.ci 2,.va 3000],.va 3001],4000,[.va 1,.va 3001,.va 2,.va 3000]⟩ cP4 [.ite (zs (za aG0 (.va 3000)) (.va 2)) (.need (.app 426 [bx8,.va 1,aG0,za aG0 (.va 3000),.va 2,.ci 512]) (.ret 0 [.op (.ar .mul .i64) [.va 3000,.ci 2],.app 425 [bx8,aG0,.va 2]])) (.ret 0 [.op (.ar .mul .i64) [.va 3000,.ci 2],bx8])]) (.ret 1 [.va 3000,.va 3001]):=rfl
theorem cS1{ω:Opq}(hf: ∀i a,ω.f i a=F i a){n bs:Nat}{l:List Val}(h1:(ω.w 1).toI=n)(h2:ω.w 2= .vi n)(h0:0<bs)(hlt:bs<n)(hl:l.length=n)(ho:l.all okK=true)(hn:n≤400)(hb:Bk bs n l):
 Q1 d64 (ω.upd 3000 [.vi bs,.vl l])=some (0,[.vi (2*bs:Nat),.vl (pass bs n l)]):=by
 obtain⟨ω',hω⟩: ∃ω',ω'=ω.upd 3000 [.vi bs,.vl l]:=⟨_,rfl⟩
 have v0:ω'.w 3000= .vi bs:=by rw[hω];rfl
 have v1:ω'.w 3001= .vl l:=by rw[hω];rfl
 have u1:(ω'.w 1).toI=n:=by rw[hω];exact h1
 have u2:ω'.w 2= .vi n:=by rw[hω];exact h2
 have hf': ∀i a,ω'.f i a=F i a:=by rw[hω];exact hf
 have a2:arI .mul .i64 2 (bs:Int)=((2*bs:Nat):Int):=dk6 (x:=2) (by omega)
 have a2':arI .mul .i64 (bs:Int) 2=((2*bs:Nat):Int):=by rw[A2];exact dk6 (y:=2) (by omega)
 have it:=dk8 hf' (l:=l) u1 u2 v0 h0 hl ho hn (by omega) hb
 have hp:pass bs n l=if 2*bs*(n/(2*bs))+bs<n then a13 false (a86 (2*bs) l (n/(2*bs))) (2*bs*(n/(2*bs))) n else a86 (2*bs) l (n/(2*bs)):=rfl
 have hF: ∀x y:Val,F 469 [.vi 0,.vi (2*bs:Nat),.vl l,x,y,.vi n,.vi bs]=W4 (0,[.vi (2*bs*(n/(2*bs)):Nat),.vi (2*bs*(n/(2*bs))+2*bs:Nat),.vl (a86 (2*bs) l (n/(2*bs)))]):=fun _ _=>rfl
 have hq:2*bs*(n/(2*bs))≤n:=E8 n (2*bs)
 have hq2:n<2*bs*(n/(2*bs))+2*bs:=by
  have:=O7 n (show 0<2*bs by omega)
  rw[Nat.mul_succ]at this;exact this
 generalize n/(2*bs)=q at it hp hF hq hq2
 have e469:den ω' d83=W4 (0,[.vi (2*bs*q:Nat),.vi (2*bs*q+2*bs:Nat),.vl (a86 (2*bs) l q)]):=by
  show ω'.f 469 [.vi 0,.vi (arI .mul .i64 2 (ω'.w 3000).toI),ω'.w 3001,ω'.w 1,ω'.w 3001,ω'.w 2,ω'.w 3000]=_
  rw[hf',v0,v1,u2,R0,a2,hF]
 have ea:den ω' aG0= .vi (2*bs*q:Nat):=by show R6 (den ω' d83).toL 1 0=_;rw[e469];rfl
 have el:den ω' bx8= .vl (a86 (2*bs) l q):=by show R6 (den ω' d83).toL 1 2=_;rw[e469];rfl
 have eb:den ω' (za aG0 (.va 3000))= .vi (2*bs*q+bs:Nat):=by
  show Val.vi (arI .add .i64 (den ω' aG0).toI (ω'.w 3000).toI)=_
  rw[ea,v0,R0,R0,cl2 (by omega)]
 rw[←hω,cf2]
 refine T7 (by show decide ((ω'.w 3000).toI<(ω'.w 2).toI)=true;rw[v0,u2];exact decide_eq_true (by show((bs:Nat):Int)<(n:Int);omega)) (Q8 (r:=(0,[.vi (2*bs*q:Nat),.vi (2*bs*q+2*bs:Nat),.vl (a86 (2*bs) l q)])) ?_ e469 ?_)
 ·show R9 _ [.vi 0,.vi (arI .mul .i64 2 (ω'.w 3000).toI),ω'.w 3001]=_
  rw[v0,v1,R0,a2];exact it
 ·by_cases hc:2*bs*q+bs<n
  ·rw[hp,if_pos hc]
   refine T7 (by show decide ((den ω' (za aG0 (.va 3000))).toI<(ω'.w 2).toI)=true;rw[eb,u2];exact decide_eq_true (by show((2*bs*q+bs:Nat):Int)<(n:Int);omega)) (Q6 ?_ ?_)
   ·show(ω'.f 426 [den ω' bx8,ω'.w 1,den ω' aG0,den ω' (za aG0 (.va 3000)),ω'.w 2,.vi 512]).toB=true
    rw[hf',el,ea,eb,u2]
    have s1:=hb (2*q)
    rw[←E9,A2 bs 2,x9 (by omega)]at s1
    have s2:=hb (2*q+1)
    rw[Nat.mul_succ,←E9,A2 bs 2,C5 (by omega)]at s2
    exact b97 (aI2 ho q) (by rw[a17];exact hl) u1 hn (by omega) hc (e8 _) (by omega) (by rw[as9 (by omega) (e8 _)];exact s1) (by rw[as9 (by omega) (by omega)];exact s2)
   ·show some (0,[Val.vi (arI .mul .i64 (ω'.w 3000).toI 2),ω'.f 425 [den ω' bx8,den ω' aG0,ω'.w 2]])=_
    rw[hf',el,ea,u2,v0,R0,a2',cR7 rfl rfl]
  ·rw[hp,if_neg hc]
   refine T1 (by show decide ((den ω' (za aG0 (.va 3000))).toI<(ω'.w 2).toI)=false;rw[eb,u2];exact decide_eq_false (by show¬((2*bs*q+bs:Nat):Int)<(n:Int);omega)) ?_
   show some (0,[Val.vi (arI .mul .i64 (ω'.w 3000).toI 2),den ω' bx8])=_
   rw[el,v0,R0,a2']
theorem dk9{ω:Opq}(hf: ∀i a,ω.f i a=F i a){n:Nat}(h1:(ω.w 1).toI=n)(h2:ω.w 2= .vi n)(hn:n≤400): ∀(f bs:Nat) (l:List Val),0<bs→n≤bs*2^f→l.length=n→l.all okK=true→Bk bs n l→
 Iter (fun vs=>Q1 d64 (ω.upd 3000 vs)) [.vi bs,.vl l] 0 [.vi (aC2 n f bs l).1,.vl (aC2 n f bs l).2]:=by
 have out: ∀(bs:Nat) (l:List Val),n≤bs→Q1 d64 (ω.upd 3000 [.vi bs,.vl l])=some (1,[.vi bs,.vl l]):=fun bs l h=>by
  rw[cf2]
  refine T1 ?_ rfl
  show decide ((bs:Int)<(ω.w 2).toI)=false
  rw[h2];exact decide_eq_false (by show¬((bs:Nat):Int)<(n:Int);omega)
 intro f
 induction f with
 |zero=>
  intro bs l h0 hb hl ho hbk
  exact .out (out bs l (by simpa using hb))
 |succ f ih=>
  intro bs l h0 hb hl ho hbk
  rw[aC2]
  by_cases h:bs<n
  ·rw[if_pos h]
   obtain⟨p1,p2,p3⟩:=cf0 h0 hl hbk
   exact .more (cS1 hf h1 h2 h0 h hl ho hn hbk) (ih (2*bs) _ (by omega) (by rw[Nat.pow_succ,A2 (2^f) 2,←E9,A2 bs 2]at hb;exact hb) (by rw[p3.length_eq];exact hl) (an7 ho p3) p1)
  ·rw[if_neg h]
   exact .out (out bs l (by omega))
theorem t_stab{ω:Opq}(hf: ∀i a,ω.f i a=F i a)(hn:(F 428 [ω.w 0,ω.w 1,ω.w 2]).toB=true):Q1 bH8 ω=some (0,[F 425 [ω.w 0,.vi 0,ω.w 2]]):=by
 obtain⟨ho,hd⟩:=P8 (show(bn7 (ω.w 0) (ω.w 1)&&(isI (ω.w 2)&&decide ((ω.w 2).toI=(ω.w 1).toI)))=true from hn)
 obtain⟨i2,hd⟩:=P8 hd
 obtain⟨e0,oa,h1,hl⟩:=aS0 ho
 have q1:=of_decide_eq_true hd
 generalize hL:(ω.w 0).toL=l at e0 oa h1 hl
 obtain⟨n,hnn⟩: ∃n,l.length=n:=⟨_,rfl⟩
 rw[hnn]at h1 hl
 have w2:ω.w 2= .vi n:=(bI9 i2).trans (congrArg Val.vi (q1.trans h1))
 have h2:(ω.w 2).toI=n:=q1.trans h1
 have hq:=E8 n 20
 have e467:den ω bl1=W4 (0,[.vi (20*(n/20):Nat),.vi (20*(n/20)+20:Nat),.vl (a86 20 l (n/20))]):=by
  show ω.f 467 [.vi 0,.vi 20,ω.w 0,ω.w 1,ω.w 0,ω.w 2]=_
  rw[hf,e0,w2];rfl
 have d1:den ω bl2= .vl (a86 20 l (n/20)):=by show R6 (den ω bl1).toL 1 2=_;rw[e467];rfl
 have d2:den ω bl3= .vi (20*(n/20):Nat):=by show R6 (den ω bl1).toL 1 0=_;rw[e467];rfl
 have d3:den ω ap7= .vl (a13 false (a86 20 l (n/20)) (20*(n/20)) n):=by
  show ω.f 425 [den ω bl2,den ω bl3,ω.w 2]=_
  rw[hf,d1,d2,w2,cR7 rfl rfl]
 have bk:=ce9 hnn
 have pm:(a13 false (a86 20 l (n/20)) (20*(n/20)) n).Perm l:=(ak5 false hq).trans (al3 _ _ _)
 have cl:Cl false (a13 false (a86 20 l (n/20)) (20*(n/20)) n) l:=(bw5 false hq).trans (b98 _ _ _)
 have bl:=a17 20 l (n/20)
 have ba:=aI2 (B:=20) oa (n/20)
 generalize a13 false (a86 20 l (n/20)) (20*(n/20)) n=L at d3 bk pm cl
 have hres:=bK0 9 20 L (by omega) (by omega) (by rw[pm.length_eq];exact hnn) bk
 rw[srt_cl cl]at hres
 have e468:ω.f 468 [.vi 20,den ω ap7,ω.w 1,den ω ap7,ω.w 2]=W4 (0,[.vi (aC2 n 9 20 L).1,.vl (aC2 n 9 20 L).2]):=by
  rw[hf,d3,w2];rfl
 have hF:F 425 [ω.w 0,.vi 0,ω.w 2]= .vl (srt false l):=by
  rw[e0,w2,show Val.vi 0= .vi ((0:Nat):Int)from rfl,cR7 rfl rfl,←hnn,bI8]
 rw[hF]
 unfold bH8
 refine Q8 (r:=(0,[.vi (20*(n/20):Nat),.vi (20*(n/20)+20:Nat),.vl (a86 20 l (n/20))])) ?_ e467 (Q6 ?_ ?_)
 ·show R9 _ [.vi 0,.vi 20,ω.w 0]=_
  rw[e0];exact dk7 hf h1 h2 hnn oa hl
 ·show(ω.f 424 [den ω bl2,ω.w 1,den ω bl3,ω.w 2]).toB=true
  rw[hf,d1,d2]
  exact cf1 ba (bl.trans hnn) h1 hl rfl h2 hq (e8 _)
 ·refine Q8 (r:=(0,[.vi (aC2 n 9 20 L).1,.vl (aC2 n 9 20 L).2])) ?_ e468 ?_
  ·show R9 _ [.vi 20,den ω ap7]=_
   rw[d3,Y0]
   exact dk9 hf h1 w2 hl 9 20 L (by omega) (by omega) (by rw[pm.length_eq];exact hnn) (an7 oa pm) bk
  ·show some (0,[R6 (ω.f 468 [.vi 20,den ω ap7,ω.w 1,den ω ap7,ω.w 2]).toL 1 1])=_
   rw[e468,hres];rfl
end Go.Ev.S7
namespace Go.Ev.S7
open Go Go.Ev
theorem t_cmpR{ω:Opq}:Q1 bk5 ω=some (0,[F 206 [ω.w 0,ω.w 1,ω.w 2,ω.w 7,ω.w 8,ω.w 9]]):=by
 show Q1 bk5 ω=some (0,[Val.vi (d59 ⟨(ω.w 0).toS,(ω.w 1).toI,(ω.w 2).toI⟩ ⟨(ω.w 7).toS,(ω.w 8).toI,(ω.w 9).toI⟩)])
 simp only[bk5,bG9,ap5,ap6,bH0,Q1,Q4,den,dB,X5,cx0,cx1,dk3,ad2,a04,an5,show∀a b,ck6 .lss a b=a34 a b from fun _ _=>rfl,show∀a b,ck6 .gtr a b=a34 b a from fun _ _=>rfl,d59,decide_eq_true_eq,R0]
 by_cases h1:a34 (ω.w 0).toS (ω.w 7).toS=true<;>by_cases h2:a34 (ω.w 7).toS (ω.w 0).toS=true<;>by_cases c1:(ω.w 2).toI<(ω.w 9).toI<;>by_cases c2:(ω.w 9).toI<(ω.w 2).toI<;>by_cases c3:(ω.w 1).toI<(ω.w 8).toI<;>by_cases c4:(ω.w 8).toI<(ω.w 1).toI<;>simp[h1,h2,c1,c2,c3,c4]
theorem f431{v:Val}(h:(F 431 [v]).toB=true):v= .vl v.toL∧v.toL.all okK=true:=by
 obtain⟨h1,h2⟩:=P8 (show(isL v&&v.toL.all okK)=true from h)
 exact⟨isL_at h1,h2⟩
theorem t_sstab{ω:Opq}(hf: ∀i a,ω.f i a=F i a)(hn:(ω.w 0).toL.length≤400)(h:(F 431 [ω.w 0]).toB=true):Q1 b73 ω=some (0,[F 425 [ω.w 0,.vi 0,.vi (ω.w 0).toL.length]]):=by
 obtain⟨e,ho⟩:=f431 h
 unfold b73
 refine Q6 ?_ ?_
 ·show(ω.f 428 [ω.w 0,.vi (ω.w 0).toL.length,.vi (ω.w 0).toL.length]).toB=true
  rw[hf]
  show(bn7 (ω.w 0) (.vi (ω.w 0).toL.length)&&(isI (.vi (ω.w 0).toL.length)&&decide (((ω.w 0).toL.length:Int)=((ω.w 0).toL.length:Int))))=true
  refine and2 ?_ (and2 rfl (decide_eq_true rfl))
  rw[e];exact aT0 ho rfl rfl hn
 ·show some (0,[ω.f 425 [ω.w 0,.vi 0,.vi (ω.w 0).toL.length]])=_
  rw[hf]
theorem cx4(v:Val):F 425 [v,.vi 0,.vi v.toL.length]= .vl (srt false v.toL):=by
 show Val.vl (a13 false v.toL 0 (nt (.vi v.toL.length)))=_
 rw[show nt (.vi (v.toL.length:Int))=v.toL.length from dk4 _,bI8]
theorem t_aggSort{ω:Opq}(hf: ∀i a,ω.f i a=F i a)(hn:(ω.w 0).toL.length≤400)(h:(F 431 [ω.w 0]).toB=true):Q1 ax7 ω=some (0,[F 490 [ω.w 0]]):=by
 have e1:den ω (.app 425 [.va 0,.ci 0,zl 0])= .vl (srt false (ω.w 0).toL):=by
  show ω.f 425 [ω.w 0,.vi 0,.vi (ω.w 0).toL.length]=_
  rw[hf,cx4]
 unfold ax7 aR5
 refine Q6 ?_ (Q6 ?_ ?_)
 ·show(decide (((ω.w 0).toL.length:Int)≤400)&&(ω.f 431 [ω.w 0]).toB)=true
  rw[hf];exact and2 (decide_eq_true (by omega)) h
 ·show decide (((ω.w 0).toL.length:Int)=((den ω (.app 425 [.va 0,.ci 0,zl 0])).toL.length:Int))=true
  rw[e1]
  exact decide_eq_true (by show((ω.w 0).toL.length:Int)=((srt false (ω.w 0).toL).length:Int);rw[srt_len])
 ·show some (0,[den ω (.app 425 [.va 0,.ci 0,zl 0])])=_
  rw[e1];rfl
theorem t_cloneR{ω:Opq}(hf: ∀i a,ω.f i a=F i a)(hn:(ω.w 0).toL.length≤400)(h:(F 431 [ω.w 0]).toB=true):Q1 ax2 ω=some (0,[ω.w 0]):=by
 obtain⟨e,ho⟩:=f431 h
 have hb:decide (((ω.w 0).toL.length:Int)≤1000000)=true:=decide_eq_true (by omega)
 by_cases h0:0<(ω.w 0).toL.length
 ·have h1:decide ((0:Int)<((ω.w 0).toL.length:Int))=true:=decide_eq_true (by omega)
  simp[ax2,aH7,Q1,Q4,den,dB,X5,h1,hb,h0,ad2,a04,a65,show(ω.w 0).toL.length≤1000000 by omega]
 ·have h2:(ω.w 0).toL=[]:=y6.1 (by omega)
  have h3:ω.w 0= .vl []:=by rw[e,h2]
  simp[ax2,aH7,Q1,Q4,den,dB,X5,h3,ad2,a04,a65]
end Go.Ev.S7
