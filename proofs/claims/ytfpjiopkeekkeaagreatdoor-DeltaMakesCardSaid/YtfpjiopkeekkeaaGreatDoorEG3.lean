import Derived.Test.YtfpjiopkeekkeaaGreatDoorEG1
import Derived.Test.YtfpjiopkeekkeaaGreatDoorET12
set_option autoImplicit false
set_option linter.unusedSimpArgs false
set_option linter.unusedVariables false
namespace Go.Ev
open Go
@[simp]theorem O9(n:Int):(Val.vi n).toI=n:=rfl
@[simp]theorem af4(n:List UInt8):(Val.vs n).toS=n:=rfl
@[simp]theorem S0(n:Bool):(Val.vb n).toB=n:=rfl
@[simp]theorem Q4(n:List Val):(Val.vl n).toL=n:=rfl
structure ChgM where
 key:List UInt8
 a:Int
 b:Int
 dead:Bool
 c:Int
 d:Int
 e:Int
 f:Int
 deriving DecidableEq
def b17(r:Val):ChgM:=⟨(P3 r 0).toS,(P3 r 1).toI,(P3 r 2).toI,(P3 r 3).toB,(P3 r 4).toI,(P3 r 5).toI,(P3 r 6).toI,(P3 r 7).toI⟩
theorem aJ8(a b:Val):b17 a=b17 b↔((P3 a 0).toS=(P3 b 0).toS∧(P3 a 1).toI=(P3 b 1).toI∧(P3 a 2).toI=(P3 b 2).toI)∧(P3 a 3).toB=(P3 b 3).toB∧(P3 a 4).toI=(P3 b 4).toI∧(P3 a 5).toI=(P3 b 5).toI∧(P3 a 6).toI=(P3 b 6).toI∧(P3 a 7).toI=(P3 b 7).toI:=by
 simp only[b17,ChgM.mk.injEq]
 constructor<;>intro h<;>simp_all
def bv3(v:Val):List ChgM:=v.toL.map b17
def okV(r:Val):Bool:= !(decide ((P3 r 3).toI=0)&&(decide ((P3 r 4).toI=0)&&(decide ((P3 r 5).toI=0)&&decide ((P3 r 6).toI=0))))&&(decide ((P3 r 3).toI=1)&&(decide ((P3 r 4).toI=(P3 r 5).toI)&&decide ((P3 r 5).toI=(P3 r 6).toI))||decide (1<(P3 r 3).toI)&&decide ((P3 r 5).toI≤(P3 r 6).toI))
theorem cs0(r:Val):okV r=true↔ ¬((P3 r 3).toI=0∧(P3 r 4).toI=0∧(P3 r 5).toI=0∧(P3 r 6).toI=0)∧((P3 r 3).toI=1∧(P3 r 4).toI=(P3 r 5).toI∧(P3 r 5).toI=(P3 r 6).toI∨1<(P3 r 3).toI∧(P3 r 5).toI≤(P3 r 6).toI):=by
 simp only[okV,e8,m9,n9,E2,decide_eq_true_eq,decide_eq_false_iff_not]
 constructor<;>intro h<;>omega
theorem d35(r:Val):okV r=false↔ ¬(¬((P3 r 3).toI=0∧(P3 r 4).toI=0∧(P3 r 5).toI=0∧(P3 r 6).toI=0)∧((P3 r 3).toI=1∧(P3 r 4).toI=(P3 r 5).toI∧(P3 r 5).toI=(P3 r 6).toI∨1<(P3 r 3).toI∧(P3 r 5).toI≤(P3 r 6).toI)):=by
 rw[←cs0];simp
def de7(l:List Val)(i k:Nat):Bool:=decide (P1 (atV l k)=P1 (atV l i))
def aX8(l:List Val)(i:Nat):Bool:=(List.range i).any (de7 l i)
def bm5(l:List Val)(i:Nat):Bool:= !okV (atV l i)||aX8 l i
def P4(l:List Val):Bool:= !(List.range l.length).any (bm5 l)
def Y7(l:List Val)(p:PaneM):Nat:=l.findIdx fun r=>decide (P1 r=p)
def hasV(l:List Val)(p:PaneM):Bool:=decide (Y7 l p<l.length)
def aU8(r:Val):Val:= .vl [P3 r 0,P3 r 1,P3 r 2,.vb true,.vi 0,.vi 0,.vi 0,.vi 0]
def bG8(r:Val):Val:= .vl [P3 r 0,P3 r 1,P3 r 2,.vb false,P3 r 3,P3 r 4,P3 r 5,P3 r 6]
def ac7(m:List Val)(r:Val):List Val:=bif hasV m (P1 r)then []else [aU8 r]
def b96(a b:Val):Bool:=decide ((P3 a 3).toI=(P3 b 3).toI∧(P3 a 4).toI=(P3 b 4).toI∧(P3 a 5).toI=(P3 b 5).toI∧(P3 a 6).toI=(P3 b 6).toI)
def aX9(m:List Val)(r:Val):List Val:=bif hasV m (P1 r)&&b96 (atV m (Y7 m (P1 r))) r then []else [bG8 r]
def Y4(a b:List Val):List Val:=a.flatMap (ac7 b)++b.flatMap (aX9 a)
def cK9(a:List Val)(i:Nat):PaneM:=⟨(arg a i).toS,(arg a (i+1)).toI,(arg a (i+2)).toI⟩
def b97(a0:List Val)(g:Val→List Val)(l:List Val):Val:=T1 (0,[.vi (az5 a0 g l).length,.vi l.length,.vl (az5 a0 g l)])
def bl2(l:List Val):Nat×List Val:=match(List.range l.length).find? (bm5 l)with
 |some k=>(1,[.vi k,.vl (a10 (fun i=>[Q8 (atV l i)]) k)])
 |none=>(0,[.vi l.length,.vl (a10 (fun i=>[Q8 (atV l i)]) l.length)])
def aG2(r:Val):Val:= .vl [P3 r 0,P3 r 1,P3 r 2,P3 r 4,P3 r 5,P3 r 6,P3 r 7]
def a24(r:Val):Bool:=(P3 r 3).toB
def am7(r:Val):Bool:=decide ((P3 r 4).toI=0)&&(decide ((P3 r 5).toI=0)&&(decide ((P3 r 6).toI=0)&&decide ((P3 r 7).toI=0)))
def okC(r:Val):Bool:=bif a24 r then am7 r else okV (aG2 r)
def cS0(l:List Val)(i:Nat):Bool:= !okC (atV l i)||aX8 l i
def am8(l:List Val):Bool:= !(List.range l.length).any (cS0 l)
def bQ3(rows l:List Val)(i:Nat):Bool:=a24 (atV l i)&& !hasV rows (P1 (atV l i))
def a69(rows l:List Val):Bool:=P4 rows&&(am8 l&& !(List.range l.length).any (bQ3 rows l))
def a71(l:List Val)(r:Val):Bool:=l.any fun c=>decide (P1 c=P1 r)
def bv4(l:List Val)(r:Val):List Val:=bif a71 l r then []else [Q8 r]
def bG9(c:Val):List Val:=bif a24 c then []else [aG2 c]
def af5(rows l:List Val):List Val:=rows.flatMap (bv4 l)++l.flatMap bG9
def cs1(m:List Val)(c:Val):List Val:=if Y7 m (P1 c)<m.length then m.set (Y7 m (P1 c)) (aG2 c)else m++[aG2 c]
def cL0(m:List Val)(c:Val):List Val:=bif a24 c then(cs1 m c).eraseIdx (Y7 (cs1 m c) (P1 c))else cs1 m c
def bH0(m l:List Val):Nat→List Val
 |0=>m
 |i+1=>cL0 (bH0 m l i) (atV l i)
def cs2(r:Val):Val:= .vl [P3 r 0,P3 r 1,P3 r 2,.vi 1]
def sN(l:List Val)(i:Nat):List Val:=a10 (fun k=>[cs2 (atV l k)]) i
def bUp(s:List Val)(r:Val):List Val:=if Y7 s (P1 r)<s.length then s else s++[.vl [P3 r 0,P3 r 1,P3 r 2,.vi 0]]
def cUp(s:List Val)(r:Val):Int:=if Y7 s (P1 r)<s.length then(P3 (atV s (Y7 s (P1 r))) 3).toI else 0
def sUp(s:List Val)(r:Val):List Val:=(bUp s r).set (Y7 s (P1 r)) (.vl [P3 (atV (bUp s r) (Y7 s (P1 r))) 0,P3 (atV (bUp s r) (Y7 s (P1 r))) 1,P3 (atV (bUp s r) (Y7 s (P1 r))) 2,.vi (arI .add .i64 (cUp s r) 1)])
def ai0(l had:List Val)(i:Nat):Bool:=cS0 l i||a24 (atV l i)&& !hasV had (P1 (atV l i))
def aA4(l:List Val)(had:Val):Nat×List Val:=match(List.range l.length).find? (ai0 l had.toL)with
 |some i=>(1,[.vi i,.vi i,had,.vl (sUp (sN l i) (atV l i))])
 |none=>(0,[.vi 0,.vi l.length,had,.vl (sN l l.length)])
noncomputable def F(id:Nat)(a:List Val):Val:=match id with
 |1=> .vb (!(arg a 0).toL.any cJ8)
 |3=> .vb (eqB (c99 (arg a 0)) (c99 (arg a 1)))
 |201=> .vb (eqB (bv3 (arg a 0)) (bv3 (arg a 1)))
 |206=> .vi (cR7 (cK9 a 0) (cK9 a 3))
 |208=> .vl (bif P4 (arg a 0).toL&&P4 (arg a 1).toL then a09 (Y4 (arg a 0).toL (arg a 1).toL)else [])
 |209=> .vi (bif P4 (arg a 0).toL&&P4 (arg a 1).toL then 0 else 2)
 |211=> .vl (ay1 cfV (arg a 0).toL)
 |101=>cJ9 cJ8 (arg a 4).toL
 |103=>b97 [] (fun r=>[Q8 r]) (arg a 5).toL
 |107=>ca0 bm4 (arg a 4).toL (arg a 7).toL
 |131=>ca0 b17 (arg a 4).toL (arg a 7).toL
 |140=>T1 (bl2 (arg a 5).toL)
 |141=>b97 [] (ac7 (arg a 7).toL) (arg a 10).toL
 |142=>b97 (arg a 2).toL (aX9 (arg a 3).toL) (arg a 6).toL
 |220=> .vb (a69 (arg a 0).toL (arg a 1).toL)
 |221=>T1 (aA4 (arg a 6).toL (arg a 2))
 |222=> .vl (bif a69 (arg a 0).toL (arg a 1).toL then S7.srt none (af5 (arg a 0).toL (arg a 1).toL)else [])
 |232=> .vi (bif a69 (arg a 0).toL (arg a 1).toL then 0 else 2)
 |223=>T1 (0,[.vi (arg a 5).toL.length,.vl (bH0 (arg a 1).toL (arg a 5).toL (arg a 5).toL.length)])
 |224=>T1 (0,[.vi (arg a 2).toL.length,.vl ((arg a 2).toL.map Q8)])
 |651=>ca0 b17 (arg a 4).toL (arg a 7).toL
 |491=> .vb (decide (((arg a 0).toL.map P1).Nodup))
 |i=>S7.GX i a
theorem aA5(x:Val)(l:List Val):arg (x::l) 0=x:=rfl
theorem aA6(x:Val)(l:List Val)(n:Nat):arg (x::l) (n+1)=arg l n:=rfl
theorem bv5(a b:Nat):decide ((a:Int)<(b:Int))=decide (a<b):=by simp
theorem ai5(ω:Opq)(v0:Nat)(l:List Val):(ω.upd v0 l).f=ω.f:=rfl
theorem R9(ω:Opq)(v0:Nat)(l:List Val)(n:Nat):(ω.upd v0 l).w n=if v0≤n then l.getD (n-v0) (.vb false)else ω.w n:=rfl
@[simp]theorem a26{i:Nat}(h:i≤10000000):arI .add .i64 (i:Int) 1=((i+1:Nat):Int):=aD6 h
@[simp]theorem Q0(a b:Int):aG6 .lss a b=decide (a<b):=rfl
@[simp]theorem R1(a b:Int):aG6 .leq a b=decide (a≤b):=rfl
@[simp]theorem X6(a b:Int):aG6 .gtr a b=decide (b<a):=rfl
@[simp]theorem bF5(a b:Int):aG6 .geq a b=decide (b≤a):=rfl
@[simp]theorem U7(a b:Int):aG6 .eql a b=decide (a=b):=rfl
@[simp]theorem cr4(a b:Int):aG6 .neq a b= !decide (a=b):=rfl
@[simp]theorem bF6(a b:List UInt8):bb7 .eql a b=decide (a=b):=rfl
@[simp]theorem cr5(a b:List UInt8):bb7 .neq a b= !decide (a=b):=rfl
theorem bH1(bad:Val→Bool)(l:List Val):cJ9 bad l=T1 (if l.any bad then(1,[.vb false,.vi (((List.range l.length).find? (fun i=>bad (atV l i))).getD 0)])else(0,[.vb false,.vi l.length])):=by
  rw[cJ9,ap1]
  rw[show(List.range l.length).any (fun i=>bad (atV l i))=l.any bad from az4 bad (.vl []) l]
theorem bH2(bad:Val→Bool)(l:List Val)(px:Nat→List Val)(x:Val):aq3 x px (fun i=>bad (atV l i)) l.length=if l.any bad then(1,px (((List.range l.length).find? (fun i=>bad (atV l i))).getD 0))else(0,[x,.vi l.length]):=by
  rw[ap1]
  rw[show(List.range l.length).any (fun i=>bad (atV l i))=l.any bad from az4 bad (.vl []) l]
theorem cb9{α:Type} [DecidableEq α](m:Val→α)(l r:List Val)(h:l.length=r.length):((List.range l.length).any fun i=> !decide (m (atV l i)=m (atV r i)))= !decide (l.map m=r.map m):=bE9 m (.vl []) l r h
theorem aA7{α:Type} [DecidableEq α](m:Val→α)(l r:List Val)(h:l.length=r.length)(px:Nat→List Val)(x:Val):aq3 x px (fun i=> !decide (m (atV l i)=m (atV r i))) l.length=if l.map m=r.map m then(0,[x,.vi l.length])else(1,px (((List.range l.length).find? (fun i=> !decide (m (atV l i)=m (atV r i)))).getD 0)):=by
 rw[ap1,cb9 m l r h]
 by_cases h1:l.map m=r.map m<;>simp[h1]
theorem ap6{α:Type} [DecidableEq α](m:Val→α)(l r:List Val)(h:l.length=r.length):ca0 m l r=T1 (if l.map m=r.map m then(0,[.vb false,.vi l.length])else(1,[.vb false,.vi (((List.range l.length).find? (fun i=> !decide (m (atV l i)=m (atV r i)))).getD 0)])):=by
 rw[ca0,aA7 m l r h]
theorem cc0{α:Type}(m:Val→α){l r:List Val}(h:l.length≠r.length): ¬l.map m=r.map m:=fun e=>h (by simpa using congrArg List.length e)
theorem b98(a b:Val):bm4 a=bm4 b↔((P3 a 0).toS=(P3 b 0).toS∧(P3 a 1).toI=(P3 b 1).toI∧(P3 a 2).toI=(P3 b 2).toI)∧(P3 a 3).toI=(P3 b 3).toI∧(P3 a 4).toI=(P3 b 4).toI∧(P3 a 5).toI=(P3 b 5).toI∧(P3 a 6).toI=(P3 b 6).toI:=by
 simp only[bm4,RowM.mk.injEq]
 constructor<;>intro h<;>simp_all
theorem cc1(a b:Val):P1 a=P1 b↔(P3 a 0).toS=(P3 b 0).toS∧(P3 a 1).toI=(P3 b 1).toI∧(P3 a 2).toI=(P3 b 2).toI:=by
 simp only[P1,PaneM.mk.injEq]
theorem W2(l:List Val)(i:Nat):S4 l (i:Int) 0=P3 (atV l i) 0:=rfl
theorem W3(l:List Val)(i:Nat):S4 l (i:Int) 1=P3 (atV l i) 1:=rfl
theorem W4(l:List Val)(i:Nat):S4 l (i:Int) 2=P3 (atV l i) 2:=rfl
theorem Z6(l:List Val)(i:Nat):S4 l (i:Int) 3=P3 (atV l i) 3:=rfl
theorem Z7(l:List Val)(i:Nat):S4 l (i:Int) 4=P3 (atV l i) 4:=rfl
theorem Z8(l:List Val)(i:Nat):S4 l (i:Int) 5=P3 (atV l i) 5:=rfl
theorem Z9(l:List Val)(i:Nat):S4 l (i:Int) 6=P3 (atV l i) 6:=rfl
end Go.Ev
namespace Go.Ev.S7
open Go Go.Ev
theorem cg7{x:Int}(h: -9223372036854775808≤x)(h2:x<9223372036854775808):IntKind.i64.wrap x=x:=by
 simp only[IntKind.wrap,IntKind.bits,IntKind.signed]
 simp
 omega
theorem aU2{x y:Int}(h: -9223372036854775808≤x+y)(h2:x+y<9223372036854775808):arI .add .i64 x y=x+y:=cg7 h h2
theorem bu5{x y:Int}(h: -9223372036854775808≤x-y)(h2:x-y<9223372036854775808):arI .sub .i64 x y=x-y:=cg7 h h2
theorem need_ok{ω:Opq}{e:SX}{x:VT}{r:Option (Nat×List Val)}(h:dB ω e=true)(h2:O8 x ω=r):O8 (.need e x) ω=r:=by rw[O8.eq_3,if_pos h,h2]
theorem ite_t{ω:Opq}{e:SX}{x y:VT}{r:Option (Nat×List Val)}(h:dB ω e=true)(h2:O8 x ω=r):O8 (.ite e x y) ω=r:=by rw[O8.eq_2,if_pos h,h2]
theorem ite_f{ω:Opq}{e:SX}{x y:VT}{r:Option (Nat×List Val)}(h:dB ω e=false)(h2:O8 y ω=r):O8 (.ite e x y) ω=r:=by rw[O8.eq_2,if_neg (by rw[h];simp),h2]
theorem and2{a b:Bool}(h:a=true)(h2:b=true):(a&&b)=true:=by rw[h,h2];rfl
theorem de8{K k:Nat}(h:K=k+1)(h2:K≤10000000):arI .sub .i64 (K:Int) 1=(k:Int):=by
 rw[bu5 (by omega) (by omega)];omega
theorem P5{hd:LHd}{body:VT}{ks:List VT}{ω:Opq}{r:Nat×List Val}{out:Option (Nat×List Val)}(h1:Q9 (fun vs=>O8 body (ω.upd hd.v0 vs)) (P2 ω hd.s0)=some r)(h2:ω.f hd.id (P2 ω (hd.s0++hd.fv))=T1 r)(h3:a30 ks r.1 ω=out):O8 (.loop hd body ks) ω=out:=by
 rw[O8.eq_5,h1]
 simp only
 rw[if_pos h2,h3]
theorem ah1(r:Val):Val.vl [P3 r 0,P3 r 1,P3 r 2,P3 r 3,P3 r 4,P3 r 5,P3 r 6]=Q8 r:=rfl
theorem S5{step:List Val→Option (Nat×List Val)}{n j:Nat}(st:Nat→List Val){s0 p:List Val}(h0:s0=st 0)(h1: ∀i,i<n→step (st i)=some (0,st (i+1)))(h2:step (st n)=some (j+1,p)):Q9 step s0=some (j,p):=by
 rw[h0];exact au1 h1 h2
end Go.Ev.S7
namespace Go.Ev.S7
open Go Go.Ev
theorem aY0{x y:Nat}(h:x+y≤1000000):arI .add .i64 (x:Int) (y:Int)=((x+y:Nat):Int):=by
 rw[aU2 (by omega) (by omega)];omega
theorem au4{x y:Nat}(h:y≤x)(h2:x≤1000000):arI .sub .i64 (x:Int) (y:Int)=((x-y:Nat):Int):=by
 rw[bu5 (by omega) (by omega)];omega
theorem aU9{x:Nat}(h:1≤x)(h2:x≤1000000):arI .sub .i64 (x:Int) 1=((x-1:Nat):Int):=by
 rw[bu5 (by omega) (by omega)];omega
theorem au5{x:Nat}(h2:x≤1000000):arI .add .i64 (x:Int) 1=((x+1:Nat):Int):=by
 rw[aU2 (by omega) (by omega)];omega
theorem ab8{v:Val}(h:0≤v.toI):v.toI=(nt v:Int):=by unfold nt;omega
theorem d36(n:Nat):nt (.vi n)=n:=rfl
theorem okN{l:List Val}(h:l.all okK=true){k:Nat}(hk:k<l.length):Q8 (atV l k)=atV l k:=okK_at (j6.1 h _ (atV_mem hk))
theorem Y8{l q:List Val}{f:Val→Bool}(h:l.all f=true)(hp:q.Perm l):q.all f=true:=j6.2 fun v hv=>j6.1 h v (hp.mem_iff.1 hv)
theorem ah2{l:List Val}{i j:Nat}(h:l.all okK=true)(hi:i<l.length)(hj:j<l.length):(swp l i j).all okK=true:=by
 rw[j6]at h⊢
 intro v hv
 unfold swp at hv
 rcases G6 hv with hv|rfl
 ·rcases G6 hv with hv|rfl
  ·exact h v hv
  ·exact h _ (atV_mem hj)
 ·exact h _ (atV_mem hi)
theorem a87{l:List Val}(h:l.all okK=true){i j:Nat}(hi:i<l.length)(hj:j<l.length):(l.set i (Q8 (atV l j))).set j (Q8 (atV l i))=swp l i j:=by
 rw[okN h hi,okN h hj];rfl
theorem a42{l:List Val}{a b:Nat}(h:l.all okK=true): ∀n,a+n≤l.length→b+n≤l.length→(swN l a b n).all okK=true
 |0,_,_=>h
 |n+1,h1,h2=>ah2 (a42 h n (by omega) (by omega)) (by rw[a05];omega) (by rw[a05];omega)
theorem cL1{ω:Opq}{a b n N i:Nat}(h7:(ω.w 2).toI=a)(h8:(ω.w 3).toI=b)(h9:(ω.w 4).toI=n)(h6:(ω.w 1).toI=N)(hi:i<n)(h1:a+n≤b)(h2:b+n≤N)(hN:N≤400){M:List Val}(hM:M.length=N)(ho:M.all okK=true):
 O8 d92 (ω.upd 2000 [.vi i,.vl M])=some (0,[.vi (i+1:Nat),.vl (swp M (a+i) (b+i))]):=by
 have e1:=aY0 (x:=a) (y:=i) (by omega)
 have e2:=aY0 (x:=b) (y:=i) (by omega)
 have e3:=au5 (x:=i) (by omega)
 have p1:(i:Int)<n:=by omega
 have p2:(0:Int)≤((b+i:Nat):Int):=by omega
 have p3:((b+i:Nat):Int)<N:=by omega
 have p4:(0:Int)≤((a+i:Nat):Int):=by omega
 have p5:((a+i:Nat):Int)<N:=by omega
 rw[←a87 ho (by omega) (by omega)]
 unfold d92
 simp only[O8,P2,den,dB,W0,R9,Nat.reduceLeDiff,Nat.reduceSub,if_true,if_false,m6,o7,O9,Q4,S0,h7,h8,h9,h6,e1,e2,e3,Q0,R1,p1,p2,p3,p4,p5,decide_true,s8,hM,w6,W2,W3,W4,Z6,Z7,Z8,Z9,ah1,Int.toNat_natCast]
theorem t_swapR{ω:Opq}(hf: ∀i a,ω.f i a=F i a)(hn:(F 420 [ω.w 0,ω.w 1,ω.w 2,ω.w 3,ω.w 4]).toB=true):O8 T_swapR ω=some (0,[F 421 [ω.w 0,ω.w 2,ω.w 3,ω.w 4]]):=by
 obtain⟨ho,hd⟩:=O4 (show(aq5 (ω.w 0) (ω.w 1)&&decide (0≤(ω.w 2).toI∧0≤(ω.w 4).toI∧(ω.w 2).toI+(ω.w 4).toI≤(ω.w 3).toI∧(ω.w 3).toI+(ω.w 4).toI≤(ω.w 1).toI))=true from hn)
 obtain⟨e5,oa,h6,hl⟩:=ab6 ho
 obtain⟨q1,q2,q3,q4⟩:=of_decide_eq_true hd
 have h7:=ab8 q1
 have h9:=ab8 q2
 have h8:=ab8 (show 0≤(ω.w 3).toI by omega)
 have hF:F 421 [ω.w 0,ω.w 2,ω.w 3,ω.w 4]= .vl (swN (ω.w 0).toL (nt (ω.w 2)) (nt (ω.w 3)) (nt (ω.w 4))):=rfl
 have hF2: ∀a c d:Val,F 452 [a,ω.w 0,c,d,ω.w 2,ω.w 3,ω.w 4]=T1 (0,[.vi (nt (ω.w 4)),.vl (swN (ω.w 0).toL (nt (ω.w 2)) (nt (ω.w 3)) (nt (ω.w 4)))]):=fun _ _ _=>rfl
 rw[hF]
 unfold T_swapR
 refine P5 (r:=(0,[.vi (nt (ω.w 4)),.vl (swN (ω.w 0).toL (nt (ω.w 2)) (nt (ω.w 3)) (nt (ω.w 4)))])) ?_ ?_ ?_
 ·refine S5 (fun i=>[.vi i,.vl (swN (ω.w 0).toL (nt (ω.w 2)) (nt (ω.w 3)) i)]) (n:=nt (ω.w 4)) (by rw[show P2 ω [.ci 0,.va 0]=[.vi 0,ω.w 0]from rfl,e5];rfl) (fun i hi=> ?_) ?_
  ·exact cL1 h7 h8 h9 h6 hi (by omega) (by omega) hl (a05 ..) (a42 oa i (by omega) (by omega))
  ·unfold d92
   have p1: ¬((nt (ω.w 4):Nat):Int)<(ω.w 4).toI:=by omega
   simp only[O8,P2,den,dB,W0,R9,Nat.reduceLeDiff,Nat.reduceSub,if_true,if_false,m6,o7,O9,Q4,S0,Q0,p1,decide_false,j9]
 ·show ω.f 452 [.vi 0,ω.w 0,ω.w 1,ω.w 0,ω.w 2,ω.w 3,ω.w 4]=_
  rw[hf,hF2]
 ·show some (0,[S4 (ω.f 452 [.vi 0,ω.w 0,ω.w 1,ω.w 0,ω.w 2,ω.w 3,ω.w 4]).toL 1 1])=_
  rw[hf,hF2];rfl
theorem ah3(m N:Nat): ∀(n i j:Nat) (M:List Val),0<i→0<j→i≤m→m+j≤N→M.length=N→M.all okK=true→(ar4 m n i j M).2.all okK=true∧(ar4 m n i j M).2.length=N
 |0,i,j,M,_,_,_,_,hM,ho=>⟨ho,hM⟩
 |n+1,i,j,M,hi,hj,him,hjN,hM,ho=>by
  unfold ar4
  by_cases h1:i=j
  ·rw[if_pos h1];exact⟨ho,hM⟩
  ·rw[if_neg h1]
   by_cases h2:j<i
   ·rw[if_pos h2]
    exact ah3 m N n (i-j) j _ (by omega) hj (by omega) hjN (by rw[a05];exact hM) (a42 ho j (by omega) (by omega))
   ·rw[if_neg h2]
    exact ah3 m N n i (j-i) _ hi (by omega) him (by omega) (by rw[a05];exact hM) (a42 ho i (by omega) (by omega))
theorem ab9{l:List Val}{n:Val}{N:Nat}(ho:l.all okK=true)(hl:l.length=N)(hn:n.toI=(N:Int))(hN:N≤400):aq5 (.vl l) n=true:=
 and2 rfl (and2 ho (and2 (decide_eq_true (by rw[hn];show(N:Int)=(l.length:Int);omega)) (decide_eq_true (by show l.length≤400;omega))))
theorem ah4{v:Val}{n:Nat}(h:v.toI=(n:Int)):nt v=n:=by unfold nt;omega
theorem bv6{M:List Val}{n va vb vk:Val}{N a b k:Nat}(ho:M.all okK=true)(hM:M.length=N)(hn:n.toI=(N:Int))(hN:N≤400)(ha:va.toI=(a:Int))(hb:vb.toI=(b:Int))(hk:vk.toI=(k:Int))(h1:a+k≤b)(h2:b+k≤N):(F 420 [.vl M,n,va,vb,vk]).toB=true:=by
 show(aq5 (.vl M) n&&decide (0≤va.toI∧0≤vk.toI∧va.toI+vk.toI≤vb.toI∧vb.toI+vk.toI≤n.toI))=true
 exact and2 (ab9 ho hM hn hN) (decide_eq_true (by rw[hn,ha,hb,hk];omega))
theorem de9{M:List Val}{va vb vk:Val}{a b k:Nat}(ha:va.toI=(a:Int))(hb:vb.toI=(b:Int))(hk:vk.toI=(k:Int)):F 421 [.vl M,va,vb,vk]= .vl (swN M a b k):=by
 show Val.vl (swN M (nt va) (nt vb) (nt vk))=_
 rw[ah4 ha,ah4 hb,ah4 hk]
def b99:SX:= zm (.va 3) (.va 2000)
def cc2:SX:= zm (za (.va 3) (.va 2001)) (.va 2000)
theorem bv7:cQ6= .ite (.op (.cmp .neq) [.va 2000,.va 2001]) (.ite (.op (.cmp .gtr) [.va 2000,.va 2001]) (.need (.app 420 [.va 2002,.va 1,b99,.va 3,.va 2001]) (.ret 0 [zm (.va 2000) (.va 2001),.va 2001,.app 421 [.va 2002,b99,.va 3,.va 2001]])) (.need (.app 420 [.va 2002,.va 1,b99,cc2,.va 2000]) (.ret 0 [.va 2000,zm (.va 2001) (.va 2000),.app 421 [.va 2002,b99,cc2,.va 2000]]))) (.ret 1 [.va 2000,.va 2001,.va 2002]):=rfl
theorem cL2{ω:Opq}(hf: ∀i a,ω.f i a=F i a){m N:Nat}(h8:(ω.w 3).toI=m)(h6:(ω.w 1).toI=N)(hN:N≤400): ∀(n i j:Nat) (M:List Val),i+j≤n+1→0<i→0<j→i≤m→m+j≤N→M.length=N→M.all okK=true→
 Iter (fun vs=>O8 cQ6 (ω.upd 2000 vs)) [.vi i,.vi j,.vl M] 0 [.vi (ar4 m n i j M).1,.vi (ar4 m n i j M).1,.vl (ar4 m n i j M).2]
 |0,i,j,M,hn,hi,hj,him,hjN,hM,ho=>by omega
 |n+1,i,j,M,hn,hi,hj,him,hjN,hM,ho=>by
  obtain⟨ω',hω⟩: ∃ω',ω'=ω.upd 2000 [.vi i,.vi j,.vl M]:=⟨_,rfl⟩
  have v0:ω'.w 2000= .vi i:=by rw[hω];rfl
  have v1:ω'.w 2001= .vi j:=by rw[hω];rfl
  have v2:ω'.w 2002= .vl M:=by rw[hω];rfl
  have u8:(ω'.w 3).toI=m:=by rw[hω];exact h8
  have u6:(ω'.w 1).toI=N:=by rw[hω];exact h6
  have hf': ∀i a,ω'.f i a=F i a:=by rw[hω];exact hf
  have a1:den ω' b99= .vi (m-i:Nat):=by
   show Val.vi (arI .sub .i64 (ω'.w 3).toI (ω'.w 2000).toI)=_
   rw[u8,v0,O9,au4 him (by omega)]
  have a2:den ω' cc2= .vi (m+j-i:Nat):=by
   show Val.vi (arI .sub .i64 (arI .add .i64 (ω'.w 3).toI (ω'.w 2001).toI) (ω'.w 2000).toI)=_
   rw[u8,v0,v1,O9,O9,aY0 (by omega),au4 (by omega) (by omega)]
  unfold ar4
  by_cases h1:i=j
  ·rw[if_pos h1]
   refine .out ?_
   show O8 cQ6 (ω.upd 2000 [.vi i,.vi j,.vl M])=_
   rw[←hω,bv7]
   refine ite_f (by show(!decide ((ω'.w 2000).toI=(ω'.w 2001).toI))=false;rw[v0,v1,O9,O9,h1,decide_eq_true rfl];rfl) ?_
   show some (1,[ω'.w 2000,ω'.w 2001,ω'.w 2002])=_
   rw[v0,v1,v2,h1]
  ·rw[if_neg h1]
   have c1:dB ω' (.op (.cmp .neq) [.va 2000,.va 2001])=true:=by
    show(!decide ((ω'.w 2000).toI=(ω'.w 2001).toI))=true
    rw[v0,v1,O9,O9,decide_eq_false (by omega)];rfl
   by_cases h2:j<i
   ·rw[if_pos h2]
    refine .more (vs':=[.vi (i-j:Nat),.vi j,.vl (swN M (m-i) m j)]) ?_ (cL2 hf h8 h6 hN n (i-j) j _ (by omega) (by omega) hj (by omega) hjN (by rw[a05];exact hM) (a42 ho j (by omega) (by omega)))
    show O8 cQ6 (ω.upd 2000 [.vi i,.vi j,.vl M])=_
    rw[←hω,bv7]
    refine ite_t c1 (ite_t (by show decide ((ω'.w 2001).toI<(ω'.w 2000).toI)=true;rw[v0,v1];exact decide_eq_true (by show(j:Int)<(i:Int);omega)) (need_ok ?_ ?_))
    ·show(ω'.f 420 [ω'.w 2002,ω'.w 1,den ω' b99,ω'.w 3,ω'.w 2001]).toB=true
     rw[hf',v2,a1,v1]
     exact bv6 ho hM u6 hN rfl u8 rfl (by omega) (by omega)
    ·show some (0,[Val.vi (arI .sub .i64 (ω'.w 2000).toI (ω'.w 2001).toI),ω'.w 2001,ω'.f 421 [ω'.w 2002,den ω' b99,ω'.w 3,ω'.w 2001]])=_
     rw[hf',v0,v1,v2,a1,O9,O9,au4 (by omega) (by omega),de9 rfl u8 rfl]
   ·rw[if_neg h2]
    refine .more (vs':=[.vi i,.vi (j-i:Nat),.vl (swN M (m-i) (m+j-i) i)]) ?_ (cL2 hf h8 h6 hN n i (j-i) _ (by omega) hi (by omega) him (by omega) (by rw[a05];exact hM) (a42 ho i (by omega) (by omega)))
    show O8 cQ6 (ω.upd 2000 [.vi i,.vi j,.vl M])=_
    rw[←hω,bv7]
    refine ite_t c1 (ite_f (by show decide ((ω'.w 2001).toI<(ω'.w 2000).toI)=false;rw[v0,v1];exact decide_eq_false (by show¬(j:Int)<(i:Int);omega)) (need_ok ?_ ?_))
    ·show(ω'.f 420 [ω'.w 2002,ω'.w 1,den ω' b99,den ω' cc2,ω'.w 2000]).toB=true
     rw[hf',v2,a1,a2,v0]
     exact bv6 ho hM u6 hN rfl rfl rfl (by omega) (by omega)
    ·show some (0,[ω'.w 2000,Val.vi (arI .sub .i64 (ω'.w 2001).toI (ω'.w 2000).toI),ω'.f 421 [ω'.w 2002,den ω' b99,den ω' cc2,ω'.w 2000]])=_
     rw[hf',v0,v1,v2,a1,a2,O9,O9,au4 (by omega) (by omega),de9 rfl rfl rfl]
theorem t_rotC{ω:Opq}(hf: ∀i a,ω.f i a=F i a)(hn:(F 422 [ω.w 0,ω.w 1,ω.w 2,ω.w 3,ω.w 4]).toB=true):O8 T_rotC ω=some (0,[F 423 [ω.w 0,ω.w 2,ω.w 3,ω.w 4]]):=by
 obtain⟨ho,hd⟩:=O4 (show(aq5 (ω.w 0) (ω.w 1)&&decide (0≤(ω.w 2).toI∧(ω.w 2).toI<(ω.w 3).toI∧(ω.w 3).toI<(ω.w 4).toI∧(ω.w 4).toI≤(ω.w 1).toI))=true from hn)
 obtain⟨e5,oa,h6,hl⟩:=ab6 ho
 obtain⟨q1,q2,q3,q4⟩:=of_decide_eq_true hd
 have h7:=ab8 q1
 have h8:=ab8 (show 0≤(ω.w 3).toI by omega)
 have h9:=ab8 (show 0≤(ω.w 4).toI by omega)
 have hF:F 423 [ω.w 0,ω.w 2,ω.w 3,ω.w 4]= .vl (cb4 (ω.w 0).toL (nt (ω.w 2)) (nt (ω.w 3)) (nt (ω.w 4))):=rfl
 rw[hF]
 generalize nt (ω.w 2)=a at h7⊢
 generalize hm:nt (ω.w 3)=m at h8⊢
 generalize nt (ω.w 4)=b at h9⊢
 generalize hL:(ω.w 0).toL=l at e5 oa h6 hl⊢
 have r0:den ω al0= .vi (m-a:Nat):=by
  show Val.vi (arI .sub .i64 (ω.w 3).toI (ω.w 2).toI)=_
  rw[h8,h7,au4 (by omega) (by omega)]
 have r1:den ω al3= .vi (b-m:Nat):=by
  show Val.vi (arI .sub .i64 (ω.w 4).toI (ω.w 3).toI)=_
  rw[h8,h9,au4 (by omega) (by omega)]
 have hF2: ∀x y:Val,F 458 [.vi (m-a:Nat),.vi (b-m:Nat),.vl l,x,y,ω.w 3]=T1 (0,[.vi (ar4 (nt (ω.w 3)) (m-a+(b-m)) (m-a) (b-m) l).1,.vi (ar4 (nt (ω.w 3)) (m-a+(b-m)) (m-a) (b-m) l).1,.vl (ar4 (nt (ω.w 3)) (m-a+(b-m)) (m-a) (b-m) l).2]):=fun _ _=>rfl
 rw[hm]at hF2
 have sp:=aA1 m (m-a+(b-m)) (m-a) (b-m) (l.take a) (seg l a m) (seg l m b) (l.drop b) (by omega) (by omega) (by omega) (X5 (by omega)) (X5 (by omega)) (by rw[j0];omega)
 rw[←dj5 (l:=l) (by omega) (by omega)]at sp
 have al:=ah3 m l.length (m-a+(b-m)) (m-a) (b-m) l (by omega) (by omega) (by omega) (by omega) rfl oa
 have it:=cL2 hf h8 h6 hl (m-a+(b-m)) (m-a) (b-m) l (by omega) (by omega) (by omega) (by omega) (by omega) rfl oa
 generalize ar4 m (m-a+(b-m)) (m-a) (b-m) l=R at sp al it hF2
 obtain⟨r,M⟩:=R
 simp only at sp al it hF2
 obtain⟨s1,s2,s3,s4,s5⟩:=sp
 obtain⟨al1,al2⟩:=al
 have d2:den ω al4=T1 (0,[.vi r,.vi r,.vl M]):=by
  show ω.f 458 [den ω al0,den ω al3,ω.w 0,ω.w 1,ω.w 0,ω.w 3]=_
  rw[r0,r1,e5,hf,hF2]
 have d3:den ω al5= .vl M:=by show S4 (den ω al4).toL 1 2=_;rw[d2];rfl
 have d4:den ω aa9= .vi r:=by show S4 (den ω al4).toL 1 0=_;rw[d2];rfl
 have d5:den ω al6= .vi (m-r:Nat):=by
  show Val.vi (arI .sub .i64 (ω.w 3).toI (den ω aa9).toI)=_
  rw[h8,d4,O9,au4 (by omega) (by omega)]
 unfold T_rotC
 refine P5 (r:=(0,[.vi r,.vi r,.vl M])) ?_ d2 (need_ok ?_ ?_)
 ·show Q9 _ [den ω al0,den ω al3,ω.w 0]=_
  rw[r0,r1,e5,T4]
  exact it
 ·show(ω.f 420 [den ω al5,ω.w 1,den ω al6,ω.w 3,den ω aa9]).toB=true
  rw[hf,d3,d4,d5]
  exact bv6 al1 al2 h6 hl rfl h8 rfl (by omega) (by omega)
 ·show some (0,[ω.f 421 [den ω al5,den ω al6,ω.w 3,den ω aa9]])=_
  rw[hf,d3,d4,d5,de9 rfl h8 rfl,s5];rfl
end Go.Ev.S7
namespace Go.Ev.S7
open Go Go.Ev
theorem bH3(l:List Val)(i j:Nat):decide ((F 206 [P3 (atV l i) 0,P3 (atV l i) 1,P3 (atV l i) 2,P3 (atV l j) 0,P3 (atV l j) 1,P3 (atV l j) 2]).toI<0)=P8 none (atV l i) (atV l j):=by
 rw[r9,decide_eq_true_iff]
 exact b88 _ _
theorem cL3{ω:Opq}(hf: ∀i a,ω.f i a=F i a){a N k:Nat}(h7:(ω.w 2).toI=a)(h6:(ω.w 1).toI=N)(hN:N≤400){l:List Val}(hl:l.length=N)(ho:l.all okK=true)(hk:a+k+1<N):
 O8 cJ0 (ω.upd 3000 [.vi (a+k+1:Nat),.vl l])=some (if P8 none (atV l (a+k+1)) (atV l (a+k))then(0,[.vi (a+k:Nat),.vl (swp l (a+k+1) (a+k))])else(1,[.vi (a+k+1:Nat),.vl l])):=by
 have e1:=de8 (K:=a+k+1) (k:=a+k) rfl (by omega)
 have p0:(a:Int)<((a+k+1:Nat):Int):=by omega
 have p1:(0:Int)≤((a+k+1:Nat):Int):=by omega
 have p2:((a+k+1:Nat):Int)<N:=by omega
 have p3:(0:Int)≤((a+k:Nat):Int):=by omega
 have p4:((a+k:Nat):Int)<N:=by omega
 have hc:=bH3 l (a+k+1) (a+k)
 rw[←a87 ho (by omega) (by omega)]
 unfold cJ0
 simp only[O8,P2,den,dB,W0,R9,Nat.reduceLeDiff,Nat.reduceSub,if_true,if_false,m6,o7,O9,Q4,S0,h7,h6,e1,Q0,R1,X6,p0,p1,p2,p3,p4,decide_true,s8,hl,w6,W2,W3,W4,Z6,Z7,Z8,Z9,ah1,Int.toNat_natCast,ai5,hf,hc]
 cases P8 none (atV l (a+k+1)) (atV l (a+k))<;>rfl
theorem d37{ω:Opq}(hf: ∀i a,ω.f i a=F i a){a N:Nat}(h7:(ω.w 2).toI=a)(h6:(ω.w 1).toI=N)(hN:N≤400): ∀(k:Nat) (l:List Val),a+k<N→l.length=N→l.all okK=true→
 Iter (fun vs=>O8 cJ0 (ω.upd 3000 vs)) [.vi (a+k:Nat),.vl l] 0 [.vi (aA9 none a l k).1,.vl (aA9 none a l k).2]
 |0,l,hk,hl,ho=>by
  refine .out ?_
  have p0: ¬(a:Int)<((a:Nat):Int):=by omega
  show O8 cJ0 (ω.upd 3000 [.vi (a:Nat),.vl l])=_
  unfold cJ0
  simp only[O8,P2,den,dB,W0,R9,Nat.reduceLeDiff,Nat.reduceSub,if_true,if_false,m6,o7,O9,Q4,S0,h7,X6,p0,decide_false,j9,aA9]
 |k+1,l,hk,hl,ho=>by
  have hs:=cL3 hf h7 h6 hN (k:=k) hl ho (by omega)
  unfold aA9
  cases hc:P8 none (atV l (a+k+1)) (atV l (a+k))with
  |true=>
   rw[hc,if_pos rfl]at hs
   rw[if_pos rfl]
   exact .more hs (d37 hf h7 h6 hN k _ (by omega) (by rw[aU6,hl]) (ah2 ho (by omega) (by omega)))
  |false=>
   rw[hc,if_neg (by simp)]at hs
   rw[if_neg (by simp)]
   exact .out hs
theorem cc3:d16= .ite (zs (.va 2000) (.va 3)) (.loop ⟨461,[.va 2000,.va 2001],3000,[.va 1,.va 2001,.va 2,.va 3,.va 2000]⟩ cJ0 [.ret 0 [zi (.va 2000),zo (.app 461 [.va 2000,.va 2001,.va 1,.va 2001,.va 2,.va 3,.va 2000]) 1]]) (.ret 1 [.va 2000,.va 2001]):=rfl
theorem cL4{ω:Opq}(hf: ∀i a,ω.f i a=F i a){a N b i:Nat}(h7:(ω.w 2).toI=a)(h8:(ω.w 3).toI=b)(h6:(ω.w 1).toI=N)(hN:N≤400){l:List Val}(hl:l.length=N)(ho:l.all okK=true)(hai:a≤i)(hib:i<b)(hb:b≤N):
 O8 d16 (ω.upd 2000 [.vi i,.vl (V3 none l a i)])=some (0,[.vi (i+1:Nat),.vl (V3 none l a (i+1))]):=by
 have hst:=bG7 (sec:=none) (l:=l) hai (by omega)
 have hpl:=b93 none (l:=l) hai
 have hpo:=Y8 ho (ab5 none (l:=l) hai)
 generalize V3 none l a i=M at hst hpl hpo⊢
 obtain⟨ω',hω⟩: ∃ω',ω'=ω.upd 2000 [.vi i,.vl M]:=⟨_,rfl⟩
 have v0:ω'.w 2000= .vi i:=by rw[hω];rfl
 have v1:ω'.w 2001= .vl M:=by rw[hω];rfl
 have u6:(ω'.w 1).toI=N:=by rw[hω];exact h6
 have u7:(ω'.w 2).toI=a:=by rw[hω];exact h7
 have u8:(ω'.w 3).toI=b:=by rw[hω];exact h8
 have hf': ∀i a,ω'.f i a=F i a:=by rw[hω];exact hf
 have lp:=d37 hf' u7 u6 hN (i-a) M (by omega) (by omega) hpo
 rw[show a+(i-a)=i by omega]at lp
 have hF: ∀x y z:Val,F 461 [.vi i,.vl M,x,y,ω'.w 2,z,.vi i]=T1 (0,[.vi (aA9 none (nt (ω'.w 2)) M (i-nt (ω'.w 2))).1,.vl (aA9 none (nt (ω'.w 2)) M (i-nt (ω'.w 2))).2]):=fun _ _ _=>rfl
 rw[ah4 u7]at hF
 have e1:ω'.f 461 [ω'.w 2000,ω'.w 2001,ω'.w 1,ω'.w 2001,ω'.w 2,ω'.w 3,ω'.w 2000]=T1 (0,[.vi (aA9 none a M (i-a)).1,.vl (aA9 none a M (i-a)).2]):=by
  rw[hf',v0,v1,hF]
 rw[←hω,cc3]
 refine ite_t (by show decide ((ω'.w 2000).toI<(ω'.w 3).toI)=true;rw[v0,u8,O9];exact decide_eq_true (by omega)) (P5 (r:=(0,[.vi (aA9 none a M (i-a)).1,.vl (aA9 none a M (i-a)).2])) ?_ e1 ?_)
 ·show Q9 _ [ω'.w 2000,ω'.w 2001]=_
  rw[v0,v1,T4]
  exact lp
 ·show some (0,[Val.vi (arI .add .i64 (ω'.w 2000).toI 1),S4 (ω'.f 461 [ω'.w 2000,ω'.w 2001,ω'.w 1,ω'.w 2001,ω'.w 2,ω'.w 3,ω'.w 2000]).toL 1 1])=_
  rw[e1,v0,O9,au5 (by omega),←hst];rfl
theorem t_insC{ω:Opq}(hf: ∀i a,ω.f i a=F i a)(hn:(F 424 [ω.w 0,ω.w 1,ω.w 2,ω.w 3]).toB=true):O8 T_insC ω=some (0,[F 425 [ω.w 0,ω.w 2,ω.w 3]]):=by
 obtain⟨ho,hd⟩:=O4 (show(aq5 (ω.w 0) (ω.w 1)&&decide (0≤(ω.w 2).toI∧(ω.w 2).toI≤(ω.w 3).toI∧(ω.w 3).toI≤(ω.w 1).toI))=true from hn)
 obtain⟨e5,oa,h6,hl⟩:=ab6 ho
 obtain⟨q1,q2,q3⟩:=of_decide_eq_true hd
 have h7:=ab8 q1
 have h8:=ab8 (show 0≤(ω.w 3).toI by omega)
 have hF:F 425 [ω.w 0,ω.w 2,ω.w 3]= .vl (V3 none (ω.w 0).toL (nt (ω.w 2)) (nt (ω.w 3))):=rfl
 have hF2: ∀x y z:Val,F 460 [x,ω.w 0,y,z,ω.w 2,ω.w 3]=T1 (0,[.vi (max (nt (ω.w 2)+1) (nt (ω.w 3)):Nat),.vl (V3 none (ω.w 0).toL (nt (ω.w 2)) (nt (ω.w 3)))]):=fun _ _ _=>rfl
 rw[hF]
 generalize nt (ω.w 2)=a at h7 hF2⊢
 generalize nt (ω.w 3)=b at h8 hF2⊢
 have r0:den ω af1= .vi (a+1:Nat):=by
  show Val.vi (arI .add .i64 (ω.w 2).toI 1)=_
  rw[h7,au5 (by omega)]
 have e1:ω.f 460 [den ω af1,ω.w 0,ω.w 1,ω.w 0,ω.w 2,ω.w 3]=T1 (0,[.vi (max (a+1) b:Nat),.vl (V3 none (ω.w 0).toL a b)]):=by
  rw[hf,hF2]
 unfold T_insC
 refine P5 (r:=(0,[.vi (max (a+1) b:Nat),.vl (V3 none (ω.w 0).toL a b)])) ?_ e1 ?_
 ·show Q9 _ [den ω af1,ω.w 0]=_
  rw[r0]
  have hout: ∀(i:Nat) (M:Val),b≤i→O8 d16 (ω.upd 2000 [.vi i,M])=some (1,[.vi i,M]):=fun i M hi=>by
   rw[cc3]
   refine ite_f ?_ rfl
   show decide ((i:Int)<(ω.w 3).toI)=false
   exact decide_eq_false (by omega)
  by_cases hab:a+1<b
  ·rw[G9 (by omega)]
   refine S5 (fun i=>[.vi (a+1+i:Nat),.vl (V3 none (ω.w 0).toL a (a+1+i))]) (n:=b-(a+1)) ?_ (fun i hi=>cL4 hf h7 h8 h6 hl rfl oa (by omega) (by omega) (by omega)) ?_
   ·show _=[Val.vi (a+1:Nat),Val.vl (V3 none (ω.w 0).toL a (a+1))]
    rw[aJ6 (by omega) (by omega) (by omega),←e5]
   ·show O8 d16 (ω.upd 2000 [.vi (a+1+(b-(a+1)):Nat),.vl (V3 none (ω.w 0).toL a (a+1+(b-(a+1))))])=_
    rw[show a+1+(b-(a+1))=b by omega]
    exact hout b _ (b9 _)
  ·rw[K1 (by omega),aJ6 (by omega) (by omega) (by omega),←e5,T4]
   exact .out (hout (a+1) _ (by omega))
 ·show some (0,[S4 (ω.f 460 [den ω af1,ω.w 0,ω.w 1,ω.w 0,ω.w 2,ω.w 3]).toL 1 1])=_
  rw[e1];rfl
end Go.Ev.S7
namespace Go.Ev.S7
open Go Go.Ev
theorem aV0{i j:Nat}(h:i+j≤1000000):IntKind.i64.wrap (arI .shr .u64 (IntKind.u64.wrap (arI .add .i64 (i:Int) (j:Int))) 1)=(((i+j)/2:Nat):Int):=by
 rw[aY0 h]
 have e1:IntKind.u64.wrap ((i+j:Nat):Int)=((i+j:Nat):Int):=by
  have:IntKind.u64.wrap ((i+j:Nat):Int)=((i+j:Nat):Int) % 18446744073709551616:=rfl
  rw[this];omega
 have e2:arI .shr .u64 ((i+j:Nat):Int) 1=(((i+j)/2:Nat):Int):=by
  have:arI .shr .u64 ((i+j:Nat):Int) 1=((i+j:Nat):Int).fdiv 2:=rfl
  rw[this,E6 _ (by omega)];omega
 rw[e1,e2]
 exact cg7 (by omega) (by omega)
theorem cL5{ω:Opq}(hf: ∀i a,ω.f i a=F i a){a N i j:Nat}(h7:(ω.w 2).toI=a)(h6:(ω.w 1).toI=N)(hN:N≤400)(hl:(ω.w 0).toL.length=N)(ho:(ω.w 0).toL.all okK=true)(hij:i<j)(hj:j≤N)(ha:a<N):
 O8 d17 (ω.upd 2000 [.vi i,.vi j])=some (0,if P8 none (atV (ω.w 0).toL ((i+j)/2)) (atV (ω.w 0).toL a)then [.vi ((i+j)/2+1:Nat),.vi j]else [.vi i,.vi ((i+j)/2:Nat)]):=by
 have e0:=aV0 (i:=i) (j:=j) (by omega)
 have hlt:(i+j)/2<j:=by omega
 generalize (i+j)/2=h at e0 hlt⊢
 have e1:=au5 (x:=h) (by omega)
 have p0:(i:Int)<(j:Int):=by omega
 have p1:(0:Int)≤(h:Int):=by omega
 have p2:(h:Int)<N:=by omega
 have p3:(0:Int)≤(a:Int):=by omega
 have p4:(a:Int)<N:=by omega
 have hc:=bH3 (ω.w 0).toL (h) (a)
 unfold d17
 simp only[O8,P2,den,dB,W0,R9,Nat.reduceLeDiff,Nat.reduceSub,if_true,if_false,m6,o7,O9,Q4,S0,h7,h6,e0,e1,Q0,R1,p0,p1,p2,p3,p4,decide_true,s8,hl,W2,W3,W4,ai5,hf,hc]
 cases P8 none (atV (ω.w 0).toL h) (atV (ω.w 0).toL a)<;>rfl
theorem cL6{ω:Opq}(hf: ∀i a,ω.f i a=F i a){m N i j:Nat}(h8:(ω.w 3).toI=m)(h6:(ω.w 1).toI=N)(hN:N≤400)(hl:(ω.w 0).toL.length=N)(ho:(ω.w 0).toL.all okK=true)(hij:i<j)(hj:j≤N)(ha:m<N):
 O8 d18 (ω.upd 2000 [.vi i,.vi j])=some (0,if(!P8 none (atV (ω.w 0).toL m) (atV (ω.w 0).toL ((i+j)/2)))=true then [.vi ((i+j)/2+1:Nat),.vi j]else [.vi i,.vi ((i+j)/2:Nat)]):=by
 have e0:=aV0 (i:=i) (j:=j) (by omega)
 have hlt:(i+j)/2<j:=by omega
 generalize (i+j)/2=h at e0 hlt⊢
 have e1:=au5 (x:=h) (by omega)
 have p0:(i:Int)<(j:Int):=by omega
 have p1:(0:Int)≤(h:Int):=by omega
 have p2:(h:Int)<N:=by omega
 have p3:(0:Int)≤(m:Int):=by omega
 have p4:(m:Int)<N:=by omega
 have hc:=bH3 (ω.w 0).toL (m) (h)
 unfold d18
 simp only[O8,P2,den,dB,W0,R9,Nat.reduceLeDiff,Nat.reduceSub,if_true,if_false,m6,o7,O9,Q4,S0,h8,h6,e0,e1,Q0,R1,p0,p1,p2,p3,p4,decide_true,s8,hl,W2,W3,W4,ai5,hf,hc]
 cases P8 none (atV (ω.w 0).toL m) (atV (ω.w 0).toL h)<;>rfl
theorem cL7{ω:Opq}(hf: ∀i a,ω.f i a=F i a){a m b N i j mid:Nat}(h7:(ω.w 2).toI=a)(h8:(ω.w 3).toI=m)(h9:(ω.w 4).toI=b)(h6:(ω.w 1).toI=N)(hN:N≤400)(hl:(ω.w 0).toL.length=N)(ho:(ω.w 0).toL.all okK=true)(hmid:mid=(a+b)/2)(hb:b≤N)(ham:a<m)(hmb:m<b)
 (hij:i<j) (hj:j≤m) (hj2:j≤mid) (hi:mid+m≤b+i):
 O8 cJ1 (ω.upd 2000 [.vi i,.vi j])=some (0,if(!P8 none (atV (ω.w 0).toL (mid+m-1-(i+j)/2)) (atV (ω.w 0).toL ((i+j)/2)))=true then [.vi ((i+j)/2+1:Nat),.vi j]else [.vi i,.vi ((i+j)/2:Nat)]):=by
 have e0:=aV0 (i:=i) (j:=j) (by omega)
 have g0:=aV0 (i:=a) (j:=b) (by omega)
 rw[←hmid]at g0
 have g1:=aY0 (x:=mid) (y:=m) (by omega)
 have g2:=aU9 (x:=mid+m) (by omega) (by omega)
 have hlt:(i+j)/2<j:=by omega
 have hge:i≤(i+j)/2:=by omega
 generalize (i+j)/2=h at e0 hlt hge⊢
 have g3:=au4 (x:=mid+m-1) (y:=h) (by omega) (by omega)
 have e1:=au5 (x:=h) (by omega)
 have hq:mid+m-1-h<N:=by omega
 generalize mid+m-1-h=q at g3 hq⊢
 have p0:(i:Int)<(j:Int):=by omega
 have p1:(0:Int)≤(h:Int):=by omega
 have p2:(h:Int)<N:=by omega
 have p3:(0:Int)≤(q:Int):=by omega
 have p4:(q:Int)<N:=by omega
 have hc:=bH3 (ω.w 0).toL (q) (h)
 unfold cJ1
 simp only[O8,P2,den,dB,W0,R9,Nat.reduceLeDiff,Nat.reduceSub,if_true,if_false,m6,o7,O9,Q4,S0,h7,h8,h9,h6,e0,e1,g0,g1,g2,g3,Q0,R1,p0,p1,p2,p3,p4,decide_true,s8,hl,W2,W3,W4,ai5,hf,hc]
 cases P8 none (atV (ω.w 0).toL q) (atV (ω.w 0).toL h)<;>rfl
theorem au6{ω:Opq}{x:VT}(i:Nat):O8 (.ite (zs (.va 2000) (.va 2001)) x (.ret 1 [.va 2000,.va 2001])) (ω.upd 2000 [.vi i,.vi i])=some (1,[.vi i,.vi i]):=by
 refine ite_f ?_ rfl
 show decide ((i:Int)<(i:Int))=false
 exact decide_eq_false (by omega)
theorem cL8{ω:Opq}{N r i:Nat}(h6:(ω.w 1).toI=N)(hN:N≤400)(hr:S4 (ω.f 462 [ω.w 3,ω.w 4,ω.w 1,ω.w 0,ω.w 2]).toL 1 0= .vi r){M:List Val}(hM:M.length=N)(ho:M.all okK=true)(hi:i+1<r)(hrN:r≤N):
 O8 cQ7 (ω.upd 3000 [.vi i,.vl M])=some (0,[.vi (i+1:Nat),.vl (swp M i (i+1))]):=by
 have e0:=aU9 (x:=r) (by omega) (by omega)
 have e1:=au5 (x:=i) (by omega)
 have p0:(i:Int)<((r-1:Nat):Int):=by omega
 have p1:(0:Int)≤((i+1:Nat):Int):=by omega
 have p2:((i+1:Nat):Int)<N:=by omega
 have p3:(0:Int)≤(i:Int):=by omega
 have p4:(i:Int)<N:=by omega
 rw[←a87 ho (by omega) (by omega)]
 unfold cQ7
 simp only[O8,P2,den,dB,W0,R9,Nat.reduceLeDiff,Nat.reduceSub,if_true,if_false,m6,o7,ai5,hr,O9,Q4,S0,h6,e0,e1,Q0,R1,p0,p1,p2,p3,p4,decide_true,s8,hM,w6,W2,W3,W4,Z6,Z7,Z8,Z9,ah1,Int.toNat_natCast]
theorem cL9{ω:Opq}{N r i:Nat}(h6:(ω.w 1).toI=N)(hN:N≤400)(hr:S4 (ω.f 464 [ω.w 2,ω.w 3,ω.w 1,ω.w 0,ω.w 3]).toL 1 0= .vi r){M:List Val}(hM:M.length=N)(ho:M.all okK=true)(hi:r<i)(hiN:i<N):
 O8 cQ8 (ω.upd 3000 [.vi i,.vl M])=some (0,[.vi (i-1:Nat),.vl (swp M (i-1) i)]):=by
 have e1:=aU9 (x:=i) (by omega) (by omega)
 have p0:(r:Int)<(i:Int):=by omega
 have p1:(0:Int)≤((i-1:Nat):Int):=by omega
 have p2:((i-1:Nat):Int)<N:=by omega
 have p3:(0:Int)≤(i:Int):=by omega
 have p4:(i:Int)<N:=by omega
 rw[b91 (by omega),←a87 ho (by omega) (by omega)]
 unfold cQ8
 simp only[O8,P2,den,dB,W0,R9,Nat.reduceLeDiff,Nat.reduceSub,if_true,if_false,m6,o7,ai5,hr,O9,Q4,S0,h6,e1,Q0,R1,X6,p0,p1,p2,p3,p4,decide_true,s8,hM,w6,W2,W3,W4,Z6,Z7,Z8,Z9,ah1,Int.toNat_natCast]
theorem aV1{l:List Val}{a:Nat}(h:l.all okK=true): ∀n,a+n<l.length→(mvU l a n).all okK=true
 |0,_=>h
 |n+1,h1=>ah2 (aV1 h n (by omega)) (by rw[au2];omega) (by rw[au2];omega)
theorem aV2{l:List Val}{m:Nat}(h:l.all okK=true)(hm:m<l.length): ∀n,(mvD l m n).all okK=true
 |0=>h
 |n+1=>ah2 (aV2 h hm n) (by rw[au3];omega) (by rw[au3];omega)
def bO7(B:Int)(e mid L:SX):VT:= .ite (zs mid e) (.ite (zs e (.va 4)) (.need (.app 426 [L,.va 1,mid,e,.va 4,.ci B]) (.ret 0 [.app 425 [L,mid,.va 4]])) (.ret 0 [L])) (.ret 0 [L])
def bO8(B:Int)(r e mid L:SX):VT:= .ite (zs (.va 2) r) (.ite (zs r mid) (.need (.app 426 [L,.va 1,.va 2,r,mid,.ci B]) (bO7 B e mid (.app 425 [L,.va 2,mid]))) (bO7 B e mid L)) (bO7 B e mid L)
def cc4(B:Int)(r e mid:SX):VT:= .ite (zs r (.va 3)) (.ite (zs (.va 3) e) (.need (.app 422 [.va 0,.va 1,r,.va 3,e]) (bO8 B r e mid (.app 423 [.va 0,r,.va 3,e]))) (bO8 B r e mid (.va 0))) (bO8 B r e mid (.va 0))
theorem ba0(B:Int):T_sym B= .ite (ze (zm (.va 3) (.va 2)) 1) (.loop ⟨462,[.va 3,.va 4],2000,[.va 1,.va 0,.va 2]⟩ d17 [.loop ⟨463,[.va 2,.va 0],3000,[.va 1,.va 0,at8]⟩ cQ7 [.ret 0 [zo (.app 463 [.va 2,.va 0,.va 1,.va 0,at8]) 1]]])
 (.ite (ze (zm (.va 4) (.va 3)) 1) (.loop ⟨464,[.va 2,.va 3],2000,[.va 1,.va 0,.va 3]⟩ d18 [.loop ⟨465,[.va 3,.va 0],3000,[.va 1,.va 0,at9]⟩ cQ8 [.ret 0 [zo (.app 465 [.va 3,.va 0,.va 1,.va 0,at9]) 1]]])
 (.ite (.op (.cmp .gtr) [.va 3,Q2]) (.loop ⟨466,[au0,Q2],2000,[.va 1,.va 0,.va 2,.va 3,.va 4,Q2,W7,ab0]⟩ cJ1 [cc4 B ab1 ab2 Q2]) (.loop ⟨466,[.va 2,.va 3],2000,[.va 1,.va 0,.va 2,.va 3,.va 4,Q2,W7,ab0]⟩ cJ1 [cc4 B Y2 Y3 Q2]))):=rfl
theorem ba1{M:List Val}{n:Val}{N a m b:Nat}{B:Int}(ho:M.all okK=true)(hM:M.length=N)(hn:n.toI=(N:Int))(hN:N≤400)(h1:a<m)(h2:m<b)(h3:b≤N)(h4:(b:Int)-a≤B)
 (s1:Sd none (seg M a m)) (s2:Sd none (seg M m b)):(F 426 [.vl M,n,.vi a,.vi m,.vi b,.vi B]).toB=true:=by
 show aE1 [.vl M,n,.vi a,.vi m,.vi b,.vi B]=true
 refine ab7.2 ⟨ab9 ho hM hn hN,?_,?_,?_,?_,h4,rfl,rfl,rfl,s1,s2⟩
 ·show(0:Int)≤(a:Int);omega
 ·show(a:Int)<(m:Int);omega
 ·show(m:Int)<(b:Int);omega
 ·show(b:Int)≤n.toI;omega
theorem cM0{M:List Val}{va vb:Val}{a b:Nat}(ha:va.toI=(a:Int))(hb:vb.toI=(b:Int)):F 425 [.vl M,va,vb]= .vl (V3 none M a b):=by
 show Val.vl (V3 none M (nt va) (nt vb))=_
 rw[ah4 ha,ah4 hb]
section
variable{ω:Opq}{N a m b R E MID:Nat}{B:Int}{r e mid:SX}
theorem aV3(hf: ∀i a,ω.f i a=F i a)(h6:(ω.w 1).toI=N)(hN:N≤400)(h9:ω.w 4= .vi b)(he:den ω e= .vi E)(hmid:den ω mid= .vi MID)(hb:b≤N)(hB:(b:Int)-MID≤B){L:SX}{M Y:List Val}(hL:den ω L= .vl M)(ho:M.all okK=true)(hM:M.length=N)
 (s1:Sd none (seg M MID E)) (s2:Sd none (seg M E b)) (c1:MID<E→E<b→V3 none M MID b=Y) (c2: ¬(MID<E∧E<b)→M=Y):O8 (bO7 B e mid L) ω=some (0,[.vl Y]):=by
 unfold bO7
 have hret: ¬(MID<E∧E<b)→O8 (.ret 0 [L]) ω=some (0,[.vl Y]):=fun h=>by
  show some (0,[den ω L])=_
  rw[hL,c2 h]
 by_cases h1:MID<E
 ·refine ite_t (by show decide ((den ω mid).toI<(den ω e).toI)=true;rw[he,hmid];exact decide_eq_true (by show(MID:Int)<(E:Int);omega)) ?_
  by_cases h2:E<b
  ·refine ite_t (by show decide ((den ω e).toI<(ω.w 4).toI)=true;rw[he,h9];exact decide_eq_true (by show(E:Int)<(b:Int);omega)) (need_ok ?_ ?_)
   ·show(ω.f 426 [den ω L,ω.w 1,den ω mid,den ω e,ω.w 4,.vi B]).toB=true
    rw[hf,hL,hmid,he,h9]
    exact ba1 ho hM h6 hN h1 h2 hb hB s1 s2
   ·show some (0,[ω.f 425 [den ω L,den ω mid,ω.w 4]])=_
    rw[hf,hL,hmid,h9,cM0 rfl rfl,c1 h1 h2]
  ·exact ite_f (by show decide ((den ω e).toI<(ω.w 4).toI)=false;rw[he,h9];exact decide_eq_false (by show¬(E:Int)<(b:Int);omega)) (hret (by omega))
 ·exact ite_f (by show decide ((den ω mid).toI<(den ω e).toI)=false;rw[he,hmid];exact decide_eq_false (by show¬(MID:Int)<(E:Int);omega)) (hret (by omega))
theorem aV4(hf: ∀i a,ω.f i a=F i a)(h6:(ω.w 1).toI=N)(hN:N≤400)(h7:ω.w 2= .vi a)(h9:ω.w 4= .vi b)(hr:den ω r= .vi R)(he:den ω e= .vi E)(hmid:den ω mid= .vi MID)(hb:b≤N)(hmb:MID<b)(hB:(b:Int)-MID≤B)(hB2:(MID:Int)-a≤B){L:SX}{M M2 Y:List Val}(hL:den ω L= .vl M)(ho:M.all okK=true)(hM:M.length=N)(ho2:M2.all okK=true)(hM2:M2.length=N)
 (t1:Sd none (seg M a R)) (t2:Sd none (seg M R MID)) (d1:a<R→R<MID→V3 none M a MID=M2) (d2: ¬(a<R∧R<MID)→M=M2)
 (s1:Sd none (seg M2 MID E)) (s2:Sd none (seg M2 E b)) (c1:MID<E→E<b→V3 none M2 MID b=Y) (c2: ¬(MID<E∧E<b)→M2=Y):O8 (bO8 B r e mid L) ω=some (0,[.vl Y]):=by
 unfold bO8
 have hid: ¬(a<R∧R<MID)→O8 (bO7 B e mid L) ω=some (0,[.vl Y]):=fun h=>by
  have:=d2 h
  subst this
  exact aV3 hf h6 hN h9 he hmid hb hB hL ho hM s1 s2 c1 c2
 by_cases h1:a<R
 ·refine ite_t (by show decide ((ω.w 2).toI<(den ω r).toI)=true;rw[hr,h7];exact decide_eq_true (by show(a:Int)<(R:Int);omega)) ?_
  by_cases h2:R<MID
  ·refine ite_t (by show decide ((den ω r).toI<(den ω mid).toI)=true;rw[hr,hmid];exact decide_eq_true (by show(R:Int)<(MID:Int);omega)) (need_ok ?_ ?_)
   ·show(ω.f 426 [den ω L,ω.w 1,ω.w 2,den ω r,den ω mid,.vi B]).toB=true
    rw[hf,hL,hmid,hr,h7]
    exact ba1 ho hM h6 hN h1 h2 (by omega) hB2 t1 t2
   ·refine aV3 hf h6 hN h9 he hmid hb hB ?_ ho2 hM2 s1 s2 c1 c2
    show ω.f 425 [den ω L,ω.w 2,den ω mid]=_
    rw[hf,hL,hmid,h7,cM0 rfl rfl,d1 h1 h2]
  ·exact ite_f (by show decide ((den ω r).toI<(den ω mid).toI)=false;rw[hr,hmid];exact decide_eq_false (by show¬(R:Int)<(MID:Int);omega)) (hid (by omega))
 ·exact ite_f (by show decide ((ω.w 2).toI<(den ω r).toI)=false;rw[hr,h7];exact decide_eq_false (by show¬(a:Int)<(R:Int);omega)) (hid (by omega))
theorem cM1{M:List Val}{n va vm vb:Val}{a m b:Nat}(ho:M.all okK=true)(hM:M.length=N)(hn:n.toI=(N:Int))(hN:N≤400)(ha:va.toI=(a:Int))(hm:vm.toI=(m:Int))(hb:vb.toI=(b:Int))(h1:a<m)(h2:m<b)(h3:b≤N):(F 422 [.vl M,n,va,vm,vb]).toB=true:=by
 show(aq5 (.vl M) n&&decide (0≤va.toI∧va.toI<vm.toI∧vm.toI<vb.toI∧vb.toI≤n.toI))=true
 exact and2 (ab9 ho hM hn hN) (decide_eq_true (by omega))
theorem bv8(hf: ∀i a,ω.f i a=F i a)(h6:(ω.w 1).toI=N)(hN:N≤400)(h7:ω.w 2= .vi a)(h8:(ω.w 3).toI=m)(h9:ω.w 4= .vi b)(hr:den ω r= .vi R)(he:den ω e= .vi E)(hmid:den ω mid= .vi MID)(hb:b≤N)(hEb:E≤b)(hmb:MID<b)(hB:(b:Int)-MID≤B)(hB2:(MID:Int)-a≤B){l M M2 Y:List Val}(h5:ω.w 0= .vl l)(hl:l.length=N)(hlo:l.all okK=true)
 (b1:R<m→m<E→cb4 l R m E=M) (b2: ¬(R<m∧m<E)→l=M) (p1:M.Perm l)
 (t1:Sd none (seg M a R)) (t2:Sd none (seg M R MID)) (d1:a<R→R<MID→V3 none M a MID=M2) (d2: ¬(a<R∧R<MID)→M=M2) (p2:M2.Perm l)
 (s1:Sd none (seg M2 MID E)) (s2:Sd none (seg M2 E b)) (c1:MID<E→E<b→V3 none M2 MID b=Y) (c2: ¬(MID<E∧E<b)→M2=Y):O8 (cc4 B r e mid) ω=some (0,[.vl Y]):=by
 unfold cc4
 have oM:=Y8 hlo p1
 have lM:M.length=N:=p1.length_eq.trans hl
 have oM2:=Y8 hlo p2
 have lM2:M2.length=N:=p2.length_eq.trans hl
 have hid: ¬(R<m∧m<E)→O8 (bO8 B r e mid (.va 0)) ω=some (0,[.vl Y]):=fun h=>
  aV4 hf h6 hN h7 h9 hr he hmid hb hmb hB hB2 (L:= .va 0) (by show ω.w 0=_;rw[h5,b2 h]) oM lM oM2 lM2 t1 t2 d1 d2 s1 s2 c1 c2
 by_cases h1:R<m
 ·refine ite_t (by show decide ((den ω r).toI<(ω.w 3).toI)=true;rw[hr,h8];exact decide_eq_true (by show(R:Int)<(m:Int);omega)) ?_
  by_cases h2:m<E
  ·refine ite_t (by show decide ((ω.w 3).toI<(den ω e).toI)=true;rw[he,h8];exact decide_eq_true (by show(m:Int)<(E:Int);omega)) (need_ok ?_ ?_)
   ·show(ω.f 422 [ω.w 0,ω.w 1,den ω r,ω.w 3,den ω e]).toB=true
    rw[hf,h5,hr,he]
    exact cM1 hlo hl h6 hN rfl h8 rfl h1 h2 (by omega)
   ·refine aV4 hf h6 hN h7 h9 hr he hmid hb hmb hB hB2 ?_ oM lM oM2 lM2 t1 t2 d1 d2 s1 s2 c1 c2
    show ω.f 423 [ω.w 0,den ω r,ω.w 3,den ω e]=_
    rw[hf,h5,hr,he,←b1 h1 h2]
    show Val.vl (cb4 l R (nt (ω.w 3)) E)=_
    rw[ah4 h8]
  ·exact ite_f (by show decide ((ω.w 3).toI<(den ω e).toI)=false;rw[he,h8];exact decide_eq_false (by show¬(m:Int)<(E:Int);omega)) (hid (by omega))
 ·exact ite_f (by show decide ((den ω r).toI<(ω.w 3).toI)=false;rw[hr,h8];exact decide_eq_false (by show¬(R:Int)<(m:Int);omega)) (hid (by omega))
end
end Go.Ev.S7
namespace Go.Ev.S7
open Go Go.Ev
theorem au7{T:Nat→Bool}{lo hi:Nat}{step:List Val→Option (Nat×List Val)}{va vb:Val}(hle:lo≤hi)(h1: ∀i j:Nat,lo≤i→i<j→j≤hi→step [.vi i,.vi j]=some (0,if T ((i+j)/2)=true then [.vi ((i+j)/2+1:Nat),.vi j]else [.vi i,.vi ((i+j)/2:Nat)]))(h2: ∀i:Nat,step [.vi i,.vi i]=some (1,[.vi i,.vi i])):
 Q9 step [.vi lo,.vi hi]=some (0,[.vi (bs T (hi-lo) lo hi),.vi (bs T (hi-lo) lo hi)]):=by
 rw[T4]
 exact b92 h1 h2 (hi-lo) lo hi (b9 _) hle (b9 _) (b9 _)
theorem t_sym{ω:Opq}{B:Int}(hf: ∀i a,ω.f i a=F i a)(hn:(F 426 [ω.w 0,ω.w 1,ω.w 2,ω.w 3,ω.w 4,.vi (2*B)]).toB=true):O8 (T_sym B) ω=some (0,[F 425 [ω.w 0,ω.w 2,ω.w 4]]):=by
 have hn':aE1 [ω.w 0,ω.w 1,ω.w 2,ω.w 3,ω.w 4,.vi (2*B)]=true:=hn
 obtain⟨ho,q1,q2,q3,q4,q5,i7,i8,i9,s1,s2⟩:=ab7.1 hn'
 have ho:aq5 (ω.w 0) (ω.w 1)=true:=ho
 have q1:0≤(ω.w 2).toI:=q1
 have q2:(ω.w 2).toI<(ω.w 3).toI:=q2
 have q3:(ω.w 3).toI<(ω.w 4).toI:=q3
 have q4:(ω.w 4).toI≤(ω.w 1).toI:=q4
 have q5:(ω.w 4).toI-(ω.w 2).toI≤2*B:=q5
 have s1:Sd none (seg (ω.w 0).toL (nt (ω.w 2)) (nt (ω.w 3))):=s1
 have s2:Sd none (seg (ω.w 0).toL (nt (ω.w 3)) (nt (ω.w 4))):=s2
 obtain⟨e5,oa,h6,hl⟩:=ab6 ho
 have h7:=ab8 q1
 have h8:=ab8 (show 0≤(ω.w 3).toI by omega)
 have h9:=ab8 (show 0≤(ω.w 4).toI by omega)
 have w7:ω.w 2= .vi (nt (ω.w 2)):=(aA3 (show isI (ω.w 2)=true from i7)).trans (congrArg Val.vi h7)
 have w8:ω.w 3= .vi (nt (ω.w 3)):=(aA3 (show isI (ω.w 3)=true from i8)).trans (congrArg Val.vi h8)
 have w9:ω.w 4= .vi (nt (ω.w 4)):=(aA3 (show isI (ω.w 4)=true from i9)).trans (congrArg Val.vi h9)
 have hF:F 425 [ω.w 0,ω.w 2,ω.w 4]= .vl (V3 none (ω.w 0).toL (nt (ω.w 2)) (nt (ω.w 4))):=rfl
 rw[hF]
 generalize nt (ω.w 2)=a at h7 w7 s1⊢
 generalize nt (ω.w 3)=m at h8 w8 s1 s2⊢
 generalize nt (ω.w 4)=b at h9 w9 s2⊢
 obtain⟨l,hL⟩: ∃l,(ω.w 0).toL=l:=⟨_,rfl⟩
 obtain⟨N,hNN⟩: ∃N,l.length=N:=⟨_,rfl⟩
 have hlN:(ω.w 0).toL.length=N:=by rw[hL];exact hNN
 rw[hlN]at h6 hl
 have ham:a<m:=by omega
 have hmb:m<b:=by omega
 have hbN:b≤N:=by omega
 rw[ba0]
 by_cases c1:m=a+1
 ·
  refine ite_t (by show decide (arI .sub .i64 (ω.w 3).toI (ω.w 2).toI=1)=true;rw[h8,h7,au4 (by omega) (by omega)];exact decide_eq_true (by omega)) ?_
  subst c1
  have so:=cb6 (sec:=none) (l:=(ω.w 0).toL) (a:=a) (b:=b) hmb (by omega) s2
  have hlp:Q9 (fun vs=>O8 d17 (ω.upd 2000 vs)) [.vi (a+1:Nat),.vi b]=_:=au7 (T:=fun h=>P8 none (atV (ω.w 0).toL h) (atV (ω.w 0).toL a)) (va:= .vi 0) (vb:= .vi 0) (by omega) (fun i j h1 h2 h3=>cL5 hf h7 h6 hl hlN oa h2 (by omega) (by omega)) (fun i=>au6 i)
  have hF2:F 462 [.vi (a+1:Nat),.vi b,ω.w 1,ω.w 0,.vi a]=T1 (0,[.vi (bs (fun h=>P8 none (atV (ω.w 0).toL h) (atV (ω.w 0).toL a)) (b-(a+1)) (a+1) b),.vi (bs (fun h=>P8 none (atV (ω.w 0).toL h) (atV (ω.w 0).toL a)) (b-(a+1)) (a+1) b)]):=rfl
  generalize bs (fun h=>P8 none (atV (ω.w 0).toL h) (atV (ω.w 0).toL a)) (b-(a+1)) (a+1) b=r at so hlp hF2
  obtain⟨r1,r2,r3⟩:=so
  have e462:ω.f 462 [ω.w 3,ω.w 4,ω.w 1,ω.w 0,ω.w 2]=T1 (0,[.vi r,.vi r]):=by
   rw[hf,w7,w8,w9,hF2]
  have er:S4 (ω.f 462 [ω.w 3,ω.w 4,ω.w 1,ω.w 0,ω.w 2]).toL 1 0= .vi r:=by rw[e462];rfl
  have hF3: ∀x y:Val,F 463 [.vi a,ω.w 0,x,y,.vi r]=T1 (0,[.vi (r-1:Nat),.vl (mvU (ω.w 0).toL a (r-1-a))]):=fun _ _=>rfl
  have e463:ω.f 463 [ω.w 2,ω.w 0,ω.w 1,ω.w 0,den ω at8]=T1 (0,[.vi (r-1:Nat),.vl (mvU (ω.w 0).toL a (r-1-a))]):=by
   rw[show den ω at8= .vi r from er,hf,w7,hF3]
  refine P5 (r:=(0,[.vi r,.vi r])) ?_ e462 (P5 (r:=(0,[.vi (r-1:Nat),.vl (mvU (ω.w 0).toL a (r-1-a))])) ?_ e463 ?_)
  ·show Q9 _ [ω.w 3,ω.w 4]=_
   rw[w8,w9];exact hlp
  ·show Q9 _ [ω.w 2,ω.w 0]=_
   rw[w7]
   refine S5 (fun i=>[.vi (a+i:Nat),.vl (mvU (ω.w 0).toL a i)]) (n:=r-1-a) (by rw[show mvU (ω.w 0).toL a 0=(ω.w 0).toL from rfl,←e5];rfl) (fun i hi=> ?_) ?_
   ·exact cL8 h6 hl er (by rw[au2];exact hlN) (aV1 oa i (by omega)) (by omega) (by omega)
   ·show O8 cQ7 (ω.upd 3000 [.vi (a+(r-1-a):Nat),.vl (mvU (ω.w 0).toL a (r-1-a))])=_
    rw[show a+(r-1-a)=r-1 by omega]
    unfold cQ7
    refine ite_f ?_ rfl
    show decide (((r-1:Nat):Int)<arI .sub .i64 (S4 (ω.f 462 [ω.w 3,ω.w 4,ω.w 1,ω.w 0,ω.w 2]).toL 1 0).toI 1)=false
    rw[er,O9,aU9 (by omega) (by omega)]
    exact decide_eq_false (by omega)
  ·show some (0,[S4 (ω.f 463 [ω.w 2,ω.w 0,ω.w 1,ω.w 0,den ω at8]).toL 1 1])=_
   rw[e463,←r3];rfl
 ·refine ite_f (by show decide (arI .sub .i64 (ω.w 3).toI (ω.w 2).toI=1)=false;rw[h8,h7,au4 (by omega) (by omega)];exact decide_eq_false (by omega)) ?_
  by_cases c2:b=m+1
  ·
   refine ite_t (by show decide (arI .sub .i64 (ω.w 4).toI (ω.w 3).toI=1)=true;rw[h8,h9,au4 (by omega) (by omega)];exact decide_eq_true (by omega)) ?_
   subst c2
   have so:=cb7 (sec:=none) (l:=(ω.w 0).toL) (a:=a) (m:=m) ham (by omega) s1
   have hlp:Q9 (fun vs=>O8 d18 (ω.upd 2000 vs)) [.vi a,.vi m]=_:=au7 (T:=fun h=> !P8 none (atV (ω.w 0).toL m) (atV (ω.w 0).toL h)) (va:= .vi 0) (vb:= .vi 0) (by omega) (fun i j h1 h2 h3=>cL6 hf h8 h6 hl hlN oa h2 (by omega) (by omega)) (fun i=>au6 i)
   have hF2:F 464 [.vi a,.vi m,ω.w 1,ω.w 0,.vi m]=T1 (0,[.vi (bs (fun h=> !P8 none (atV (ω.w 0).toL m) (atV (ω.w 0).toL h)) (m-a) a m),.vi (bs (fun h=> !P8 none (atV (ω.w 0).toL m) (atV (ω.w 0).toL h)) (m-a) a m)]):=rfl
   generalize bs (fun h=> !P8 none (atV (ω.w 0).toL m) (atV (ω.w 0).toL h)) (m-a) a m=r at so hlp hF2
   obtain⟨r1,r2,r3⟩:=so
   have e464:ω.f 464 [ω.w 2,ω.w 3,ω.w 1,ω.w 0,ω.w 3]=T1 (0,[.vi r,.vi r]):=by
    rw[hf,w7,w8,hF2]
   have er:S4 (ω.f 464 [ω.w 2,ω.w 3,ω.w 1,ω.w 0,ω.w 3]).toL 1 0= .vi r:=by rw[e464];rfl
   have hF3: ∀x y:Val,F 465 [.vi m,ω.w 0,x,y,.vi r]=T1 (0,[.vi r,.vl (mvD (ω.w 0).toL m (m-r))]):=fun _ _=>rfl
   have e465:ω.f 465 [ω.w 3,ω.w 0,ω.w 1,ω.w 0,den ω at9]=T1 (0,[.vi r,.vl (mvD (ω.w 0).toL m (m-r))]):=by
    rw[show den ω at9= .vi r from er,hf,w8,hF3]
   refine P5 (r:=(0,[.vi r,.vi r])) ?_ e464 (P5 (r:=(0,[.vi r,.vl (mvD (ω.w 0).toL m (m-r))])) ?_ e465 ?_)
   ·show Q9 _ [ω.w 2,ω.w 3]=_
    rw[w7,w8];exact hlp
   ·show Q9 _ [ω.w 3,ω.w 0]=_
    rw[w8]
    refine S5 (fun i=>[.vi (m-i:Nat),.vl (mvD (ω.w 0).toL m i)]) (n:=m-r) (by rw[show mvD (ω.w 0).toL m 0=(ω.w 0).toL from rfl,←e5];rfl) (fun i hi=> ?_) ?_
    ·have:=cL9 (i:=m-i) h6 hl er (M:=mvD (ω.w 0).toL m i) (by rw[au3];exact hlN) (aV2 oa (by omega) i) (by omega) (by omega)
     rw[show m-i-1=m-(i+1) by omega]at this
     refine this.trans ?_
     show _=some (0,[Val.vi (m-(i+1):Nat),Val.vl (swp (mvD (ω.w 0).toL m i) (m-i-1) (m-i))])
     rw[show m-i-1=m-(i+1) by omega]
    ·show O8 cQ8 (ω.upd 3000 [.vi (m-(m-r):Nat),.vl (mvD (ω.w 0).toL m (m-r))])=_
     rw[show m-(m-r)=r by omega]
     unfold cQ8
     refine ite_f ?_ rfl
     show decide ((S4 (ω.f 464 [ω.w 2,ω.w 3,ω.w 1,ω.w 0,ω.w 3]).toL 1 0).toI<(r:Int))=false
     rw[er,O9]
     exact decide_eq_false (by omega)
   ·show some (0,[S4 (ω.f 465 [ω.w 3,ω.w 0,ω.w 1,ω.w 0,den ω at9]).toL 1 1])=_
    rw[e465,←r3];rfl
  ·refine ite_f (by show decide (arI .sub .i64 (ω.w 4).toI (ω.w 3).toI=1)=false;rw[h8,h9,au4 (by omega) (by omega)];exact decide_eq_false (by omega)) ?_
   obtain⟨mid,hmid⟩: ∃mid,mid=(a+b)/2:=⟨_,rfl⟩
   have d2:den ω Q2= .vi mid:=by
    show Val.vi (IntKind.i64.wrap (arI .shr .u64 (IntKind.u64.wrap (arI .add .i64 (ω.w 2).toI (ω.w 4).toI)) 1))=_
    rw[h7,h9,aV0 (by omega),←hmid]
   have d3:den ω W7= .vi (mid+m:Nat):=by
    show Val.vi (arI .add .i64 (den ω Q2).toI (ω.w 3).toI)=_
    rw[d2,h8,O9,aY0 (by omega)]
   have d5:den ω ab0= .vi (mid+m-1:Nat):=by
    show Val.vi (arI .sub .i64 (den ω W7).toI 1)=_
    rw[d3,O9,aU9 (by omega) (by omega)]
   have key: ∀(lo hi r:Nat) (va vb:Val) (er ee:SX),(mid<m∧lo=mid+m-b∧hi=mid∨m≤mid∧lo=a∧hi=m)→r=bs (fun c=> !P8 none (atV (ω.w 0).toL (mid+m-1-c)) (atV (ω.w 0).toL c)) (hi-lo) lo hi→den ω er= .vi r→(∀n:Nat,den ω er= .vi n→n≤mid+m→den ω ee= .vi (mid+m-n:Nat))→O8 (cc4 B er ee Q2) ω=some (0,[.vl (V3 none (ω.w 0).toL a b)]):=fun lo hi r va vb er ee hlh hr h1 h2=>by
    obtain⟨g1,g2,g3,g4,M,M2,b1,b2,p1,t1,t2,k1,k2,p2,u1,u2,x1,x2⟩:=cb8 (sec:=none) (l:=(ω.w 0).toL) ham hmb (by omega) s1 s2 hmid hlh hr
    exact bv8 hf h6 hl w7 h8 w9 h1 (h2 r h1 (by omega)) d2 hbN g4 (by omega) (by omega) (by omega) e5 hlN oa b1 b2 p1 t1 t2 k1 k2 p2 u1 u2 x1 x2
   have hlp: ∀lo hi:Nat,(mid<m∧lo=mid+m-b∧hi=mid∨m≤mid∧lo=a∧hi=m)→Q9 (fun vs=>O8 cJ1 (ω.upd 2000 vs)) [.vi lo,.vi hi]=some (0,[.vi (bs (fun c=> !P8 none (atV (ω.w 0).toL (mid+m-1-c)) (atV (ω.w 0).toL c)) (hi-lo) lo hi),.vi (bs (fun c=> !P8 none (atV (ω.w 0).toL (mid+m-1-c)) (atV (ω.w 0).toL c)) (hi-lo) lo hi)]):=fun lo hi hlh=>au7 (T:=fun c=> !P8 none (atV (ω.w 0).toL (mid+m-1-c)) (atV (ω.w 0).toL c)) (va:= .vi 0) (vb:= .vi 0) (by omega) (fun i j h1 h2 h3=>cL7 hf h7 h8 h9 h6 hl hlN oa hmid hbN ham hmb h2 (by omega) (by omega) (by omega)) (fun i=>au6 i)
   have hF2: ∀(lo hi:Nat) (va vb x y:Val),nt va=lo→nt vb=hi→F 466 [va,vb,ω.w 1,ω.w 0,ω.w 2,ω.w 3,ω.w 4,x,y,.vi (mid+m-1:Nat)]=T1 (0,[.vi (bs (fun c=> !P8 none (atV (ω.w 0).toL (mid+m-1-c)) (atV (ω.w 0).toL c)) (hi-lo) lo hi),.vi (bs (fun c=> !P8 none (atV (ω.w 0).toL (mid+m-1-c)) (atV (ω.w 0).toL c)) (hi-lo) lo hi)]):=fun lo hi va vb x y h1 h2=>by subst h1;subst h2;rfl
   by_cases c3:mid<m
   ·refine ite_t (by show decide ((den ω Q2).toI<(ω.w 3).toI)=true;rw[d2,h8,O9];exact decide_eq_true (by omega)) ?_
    have hlh:mid<m∧mid+m-b=mid+m-b∧mid=mid∨m≤mid∧mid+m-b=a∧mid=m:= .inl ⟨c3,rfl,rfl⟩
    have d4:den ω au0= .vi (mid+m-b:Nat):=by
     show Val.vi (arI .sub .i64 (den ω W7).toI (ω.w 4).toI)=_
     rw[d3,h9,O9,au4 (by omega) (by omega)]
    have e466:ω.f 466 [den ω au0,den ω Q2,ω.w 1,ω.w 0,ω.w 2,ω.w 3,ω.w 4,den ω Q2,den ω W7,den ω ab0]=T1 (0,[.vi (bs (fun c=> !P8 none (atV (ω.w 0).toL (mid+m-1-c)) (atV (ω.w 0).toL c)) (mid-(mid+m-b)) (mid+m-b) mid),.vi (bs (fun c=> !P8 none (atV (ω.w 0).toL (mid+m-1-c)) (atV (ω.w 0).toL c)) (mid-(mid+m-b)) (mid+m-b) mid)]):=by
     rw[hf,d5]
     exact hF2 (mid+m-b) mid _ _ _ _ (by rw[d4];rfl) (by rw[d2];rfl)
    refine P5 (r:=(0,_)) ?_ e466 ?_
    ·show Q9 _ [den ω au0,den ω Q2]=_
     rw[d4,d2];exact hlp _ _ hlh
    ·refine key _ _ _ (.vi 0) (.vi 0) ab1 ab2 hlh rfl ?_ (fun n h1 h2=> ?_)
     ·show S4 (ω.f 466 [den ω au0,den ω Q2,ω.w 1,ω.w 0,ω.w 2,ω.w 3,ω.w 4,den ω Q2,den ω W7,den ω ab0]).toL 1 0=_
      rw[e466];rfl
     ·show Val.vi (arI .sub .i64 (den ω W7).toI (den ω ab1).toI)=_
      rw[d3,h1,O9,O9,au4 h2 (by omega)]
   ·refine ite_f (by show decide ((den ω Q2).toI<(ω.w 3).toI)=false;rw[d2,h8,O9];exact decide_eq_false (by omega)) ?_
    have hlh:mid<m∧a=mid+m-b∧m=mid∨m≤mid∧a=a∧m=m:= .inr ⟨by omega,rfl,rfl⟩
    have e466:ω.f 466 [ω.w 2,ω.w 3,ω.w 1,ω.w 0,ω.w 2,ω.w 3,ω.w 4,den ω Q2,den ω W7,den ω ab0]=T1 (0,[.vi (bs (fun c=> !P8 none (atV (ω.w 0).toL (mid+m-1-c)) (atV (ω.w 0).toL c)) (m-a) a m),.vi (bs (fun c=> !P8 none (atV (ω.w 0).toL (mid+m-1-c)) (atV (ω.w 0).toL c)) (m-a) a m)]):=by
     rw[hf,d5]
     exact hF2 a m _ _ _ _ (ah4 h7) (ah4 h8)
    refine P5 (r:=(0,_)) ?_ e466 ?_
    ·show Q9 _ [ω.w 2,ω.w 3]=_
     rw[w7,w8];exact hlp _ _ hlh
    ·refine key _ _ _ (.vi 0) (.vi 0) Y2 Y3 hlh rfl ?_ (fun n h1 h2=> ?_)
     ·show S4 (ω.f 466 [ω.w 2,ω.w 3,ω.w 1,ω.w 0,ω.w 2,ω.w 3,ω.w 4,den ω Q2,den ω W7,den ω ab0]).toL 1 0=_
      rw[e466];rfl
     ·show Val.vi (arI .sub .i64 (den ω W7).toI (den ω Y2).toI)=_
      rw[d3,h1,O9,O9,au4 h2 (by omega)]
theorem sym_vac{a b c d e:Val}(hn:(F 426 [a,b,c,d,e,.vi 1]).toB=true):False:=by
 obtain⟨_,_,q2,q3,_,q5,_⟩:=ab7.1 (show aE1 [a,b,c,d,e,.vi 1]=true from hn)
 have q2:c.toI<d.toI:=q2
 have q3:d.toI<e.toI:=q3
 have q5:e.toI-c.toI≤1:=q5
 omega
end Go.Ev.S7
namespace Go.Ev.S7
open Go Go.Ev
variable{sec:Option Bool}
theorem cc5{l:List Val}{a b c d:Nat}(ha:a≤l.length)(hd:d≤a):seg (V3 sec l a b) c d=seg l c d:=by
 unfold seg V3
 rw[N3 (by rw[j0];omega),I5,x8 hd]
theorem cM2{l:List Val}{a b c:Nat}(h:a≤b)(hb:b≤l.length)(hc:b≤c):(V3 sec l a b).drop c=l.drop c:=by
 unfold V3
 rw[←u5,I4,G3 (by rw[j5,j0,am5,X5 hb];omega),List.nil_append,j5,j0,am5,X5 hb,I7]
 congr 1;omega
theorem d38{l:List Val}{a b c d:Nat}(h:a≤b)(hb:b≤l.length)(hc:b≤c):seg (V3 sec l a b) c d=seg l c d:=by
 unfold seg
 rw[I6,I6,cM2 h hb hc]
theorem V8(B:Nat)(l:List Val): ∀k,(W9 sec B l k).length=l.length
 |0=>rfl
 |k+1=>by rw[W9,b93 sec (by omega),V8 B l k]
theorem ac0(B:Nat)(l:List Val): ∀k,(W9 sec B l k).Perm l
 |0=> .refl _
 |k+1=>(ab5 sec (by omega)).trans (ac0 B l k)
theorem aV5(B:Nat)(l:List Val): ∀k,Cl sec (W9 sec B l k) l
 |0=>Cl.refl _ _
 |k+1=>(b94 sec (by omega)).trans (aV5 B l k)
theorem ac1{B:Nat}{l:List Val}: ∀{k c d:Nat},B*k≤l.length→B*k≤c→seg (W9 sec B l k) c d=seg l c d
 |0,c,d,_,_=>rfl
 |k+1,c,d,hl,hc=>by
  rw[Nat.mul_succ]at hl hc
  rw[W9,d38 (by omega) (by rw[V8];exact hl) hc,ac1 (by omega) (by omega)]
theorem bv9{B:Nat}{l:List Val}: ∀{k j:Nat},j<k→B*k≤l.length→seg (W9 sec B l k) (B*j) (B*j+B)=srt sec (seg l (B*j) (B*j+B))
 |k+1,j,hj,hl=>by
  rw[Nat.mul_succ]at hl
  rw[W9]
  by_cases h:j=k
  ·subst h
   rw[bv2 (by omega) (by rw[V8];exact hl),ac1 (by omega) (b9 _)]
  ·have hjk:j<k:=by omega
   have:B*j+B≤B*k:=by rw[←Nat.mul_succ];exact E4 _ hjk
   rw[cc5 (by rw[V8];omega) this,bv9 hjk (by omega)]
def Bk(sec:Option Bool)(B n:Nat)(l:List Val):Prop:= ∀k,Sd sec (seg l (B*k) (min (B*k+B) n))
theorem cc6:Sd sec []:=List.Pairwise.nil
theorem bl3{l:List Val}{n:Nat}(hl:l.length=n):Bk sec 20 n (V3 sec (W9 sec 20 l (n/20)) (20*(n/20)) n):=by
 have hq:20*(n/20)≤n:=B2 n 20
 have hq2:n<20*(n/20)+20:=by omega
 intro k
 rcases E7 k (n/20)with h|h|h
 ·have h1:20*k+20≤20*(n/20):=by omega
  rw[x8 (by omega),cc5 (by rw[V8];omega) h1,bv9 h (by omega)]
  exact a08 _ _
 ·subst h
  rw[C8 (by omega),bv2 hq (by rw[V8];omega)]
  exact a08 _ _
 ·rw[bv1 (by omega)];exact cc6
theorem bw0{bs n:Nat}{l:List Val}(h0:0<bs)(hl:l.length=n)(hb:Bk sec bs n l):Bk sec (2*bs) n (pass sec bs n l)∧Cl sec (pass sec bs n l) l∧(pass sec bs n l).Perm l:=by
 have hq:2*bs*(n/(2*bs))≤n:=B2 n (2*bs)
 have hq2:n<2*bs*(n/(2*bs))+2*bs:=by
  have:=I1 n (show 0<2*bs by omega)
  rw[Nat.mul_succ]at this;exact this
 have ev: ∀k,bs*(2*k)=2*bs*k:=fun k=>by rw[←B3,u9 bs 2]
 have hp:pass sec bs n l=if 2*bs*(n/(2*bs))+bs<n then V3 sec (W9 sec (2*bs) l (n/(2*bs))) (2*bs*(n/(2*bs))) n else W9 sec (2*bs) l (n/(2*bs)):=rfl
 generalize n/(2*bs)=q at hq hq2 hp
 have hM: ∀k,k<q→Sd sec (seg (W9 sec (2*bs) l q) (2*bs*k) (min (2*bs*k+2*bs) n)):=fun k hk=>by
  have:2*bs*k+2*bs≤2*bs*q:=by rw[←Nat.mul_succ];exact E4 _ hk
  rw[x8 (by omega),bv9 hk (by omega)]
  exact a08 _ _
 have hgt: ∀k,q<k→n≤2*bs*k:=fun k hk=>by
  have:2*bs*(q+1)≤2*bs*k:=E4 _ hk
  rw[Nat.mul_succ]at this;omega
 by_cases hc:2*bs*q+bs<n
 ·have e:(if 2*bs*q+bs<n then V3 sec (W9 sec (2*bs) l q) (2*bs*q) n else W9 sec (2*bs) l q)=V3 sec (W9 sec (2*bs) l q) (2*bs*q) n:=if_pos hc
  refine⟨fun k=> ?_,?_,?_⟩
  ·rw[hp,e]
   rcases E7 k q with h|h|h
   ·have:2*bs*k+2*bs≤2*bs*q:=by rw[←Nat.mul_succ];exact E4 _ h
    rw[cc5 (by rw[V8];omega) (by rw[x8 (by omega)];exact this)]
    exact hM k h
   ·subst h
    rw[C8 (by omega),bv2 hq (by rw[V8];omega)]
    exact a08 _ _
   ·rw[bv1 (by have:=hgt k h;omega)];exact cc6
  ·rw[hp,e]
   exact(b94 sec hq).trans (aV5 _ _ _)
  ·rw[hp,e]
   exact(ab5 sec hq).trans (ac0 _ _ _)
 ·have e:(if 2*bs*q+bs<n then V3 sec (W9 sec (2*bs) l q) (2*bs*q) n else W9 sec (2*bs) l q)=W9 sec (2*bs) l q:=if_neg hc
  refine⟨fun k=> ?_,?_,?_⟩
  ·rw[hp,e]
   rcases E7 k q with h|h|h
   ·exact hM k h
   ·subst h
    rw[C8 (by omega),ac1 (by omega) (b9 _)]
    have:=hb (2*k)
    rw[ev,C8 (by omega)]at this
    exact this
   ·rw[bv1 (by have:=hgt k h;omega)];exact cc6
  ·rw[hp,e];exact aV5 _ _ _
  ·rw[hp,e];exact ac0 _ _ _
theorem ba2{n:Nat}: ∀(f bs:Nat) (l:List Val),0<bs→n≤bs*2^f→l.length=n→Bk sec bs n l→(ac6 sec n f bs l).2=srt sec l
 |0,bs,l,h0,hn,hl,hb=>by
  rw[ac6,aU5]
  have:=hb 0
  rw[Nat.mul_zero,j8,C8 (by simpa using hn),←hl]at this
  unfold seg at this
  simpa using this
 |f+1,bs,l,h0,hn,hl,hb=>by
  rw[ac6]
  by_cases h:bs<n
  ·rw[if_pos h]
   obtain⟨p1,p2,p3⟩:=bw0 h0 hl hb
   rw[ba2 f (2*bs) _ (by omega) (by rw[Nat.pow_succ,u9 (2^f) 2,←B3,u9 bs 2]at hn;exact hn) (by rw[p3.length_eq];exact hl) p1]
   exact srt_cl p2
  ·rw[if_neg h,aU5]
   have:=hb 0
   rw[Nat.mul_zero,j8,C8 (by omega),←hl]at this
   unfold seg at this
   simpa using this
end Go.Ev.S7
namespace Go.Ev.S7
open Go Go.Ev
theorem cM3{x y:Nat}(h:x*y≤1000000):arI .mul .i64 (x:Int) (y:Int)=((x*y:Nat):Int):=by
 have:arI .mul .i64 (x:Int) (y:Int)=IntKind.i64.wrap ((x:Int)*(y:Int)):=rfl
 rw[this,←Int.natCast_mul]
 exact cg7 (by omega) (by omega)
theorem cc7{M:List Val}{n va vb:Val}{N a b:Nat}(ho:M.all okK=true)(hM:M.length=N)(hn:n.toI=(N:Int))(hN:N≤400)(ha:va.toI=(a:Int))(hb:vb.toI=(b:Int))(h1:a≤b)(h2:b≤N):(F 424 [.vl M,n,va,vb]).toB=true:=by
 show(aq5 (.vl M) n&&decide (0≤va.toI∧va.toI≤vb.toI∧vb.toI≤n.toI))=true
 exact and2 (ab9 ho hM hn hN) (decide_eq_true (by rw[hn,ha,hb];omega))
theorem a88{B:Nat}{l:List Val}(h:l.all okK=true)(k:Nat):(W9 none B l k).all okK=true:=Y8 h (ac0 B l k)
theorem df0{ω:Opq}(hf: ∀i a,ω.f i a=F i a){n:Nat}{l:List Val}(h1:(ω.w 1).toI=n)(h2:(ω.w 2).toI=n)(hl:l.length=n)(ho:l.all okK=true)(hn:n≤400):
 Q9 (fun vs=>O8 cQ9 (ω.upd 2000 vs)) [.vi 0,.vi 20,.vl l]=some (0,[.vi (20*(n/20):Nat),.vi (20*(n/20)+20:Nat),.vl (W9 none 20 l (n/20))]):=by
 have hq:=B2 n 20
 refine S5 (fun k=>[.vi (20*k:Nat),.vi (20*k+20:Nat),.vl (W9 none 20 l k)]) (n:=n/20) rfl (fun k hk=> ?_) ?_
 ·have hk2:20*k+20≤n:=by omega
  show O8 cQ9 (ω.upd 2000 [.vi (20*k:Nat),.vi (20*k+20:Nat),.vl (W9 none 20 l k)])=_
  obtain⟨ω',hω⟩: ∃ω',ω'=ω.upd 2000 [.vi (20*k:Nat),.vi (20*k+20:Nat),.vl (W9 none 20 l k)]:=⟨_,rfl⟩
  have v0:ω'.w 2000= .vi (20*k:Nat):=by rw[hω];rfl
  have v1:ω'.w 2001= .vi (20*k+20:Nat):=by rw[hω];rfl
  have v2:ω'.w 2002= .vl (W9 none 20 l k):=by rw[hω];rfl
  have u1:(ω'.w 1).toI=n:=by rw[hω];exact h1
  have u2:(ω'.w 2).toI=n:=by rw[hω];exact h2
  have hf': ∀i a,ω'.f i a=F i a:=by rw[hω];exact hf
  rw[←hω]
  unfold cQ9
  refine ite_t (by show decide ((ω'.w 2001).toI≤(ω'.w 2).toI)=true;rw[v1,u2];exact decide_eq_true (by show((20*k+20:Nat):Int)≤(n:Int);omega)) (need_ok ?_ ?_)
  ·show(ω'.f 424 [ω'.w 2002,ω'.w 1,ω'.w 2000,ω'.w 2001]).toB=true
   rw[hf',v0,v1,v2]
   exact cc7 (a88 ho k) (by rw[V8];exact hl) u1 hn rfl rfl (by omega) hk2
  ·show some (0,[ω'.w 2001,Val.vi (arI .add .i64 (ω'.w 2001).toI 20),ω'.f 425 [ω'.w 2002,ω'.w 2000,ω'.w 2001]])=_
   rw[hf',v0,v1,v2,cM0 rfl rfl,O9,show(20:Int)=((20:Nat):Int)from rfl,aY0 (by omega)]
   rfl
 ·show O8 cQ9 (ω.upd 2000 [.vi (20*(n/20):Nat),.vi (20*(n/20)+20:Nat),.vl (W9 none 20 l (n/20))])=_
  unfold cQ9
  refine ite_f ?_ rfl
  show decide (((20*(n/20)+20:Nat):Int)≤(ω.w 2).toI)=false
  rw[h2];exact decide_eq_false (by omega)
theorem df1{ω:Opq}(hf: ∀i a,ω.f i a=F i a){n bs:Nat}{l:List Val}(h1:(ω.w 1).toI=n)(h2:ω.w 2= .vi n)(h3:ω.w 3000= .vi bs)(h0:0<bs)(hl:l.length=n)(ho:l.all okK=true)(hn:n≤400)(hbs:bs≤1000)(hb:Bk none bs n l):
 Q9 (fun vs=>O8 cJ2 (ω.upd 4000 vs)) [.vi 0,.vi (2*bs:Nat),.vl l]=some (0,[.vi (2*bs*(n/(2*bs)):Nat),.vi (2*bs*(n/(2*bs))+2*bs:Nat),.vl (W9 none (2*bs) l (n/(2*bs)))]):=by
 have hq:2*bs*(n/(2*bs))≤n:=B2 n (2*bs)
 have hq2:n<2*bs*(n/(2*bs))+2*bs:=by
  have:=I1 n (show 0<2*bs by omega)
  rw[Nat.mul_succ]at this;exact this
 have ev: ∀k,bs*(2*k)=2*bs*k:=fun k=>by rw[←B3,u9 bs 2]
 have od: ∀k,bs*(2*k+1)=2*bs*k+bs:=fun k=>by rw[Nat.mul_succ,ev]
 generalize n/(2*bs)=q at hq hq2⊢
 refine S5 (fun k=>[.vi (2*bs*k:Nat),.vi (2*bs*k+2*bs:Nat),.vl (W9 none (2*bs) l k)]) (n:=q) (by rw[Nat.mul_zero,j8];rfl) (fun k hk=> ?_) ?_
 ·have hk2:2*bs*k+2*bs≤n:=by
   have:2*bs*(k+1)≤2*bs*q:=E4 _ hk
   rw[Nat.mul_succ]at this;omega
  show O8 cJ2 (ω.upd 4000 [.vi (2*bs*k:Nat),.vi (2*bs*k+2*bs:Nat),.vl (W9 none (2*bs) l k)])=some (0,[.vi (2*bs*(k+1):Nat),.vi (2*bs*(k+1)+2*bs:Nat),.vl (W9 none (2*bs) l (k+1))])
  obtain⟨ω',hω⟩: ∃ω',ω'=ω.upd 4000 [.vi (2*bs*k:Nat),.vi (2*bs*k+2*bs:Nat),.vl (W9 none (2*bs) l k)]:=⟨_,rfl⟩
  have v0:ω'.w 4000= .vi (2*bs*k:Nat):=by rw[hω];rfl
  have v1:ω'.w 4001= .vi (2*bs*k+2*bs:Nat):=by rw[hω];rfl
  have v2:ω'.w 4002= .vl (W9 none (2*bs) l k):=by rw[hω];rfl
  have u1:(ω'.w 1).toI=n:=by rw[hω];exact h1
  have u2:ω'.w 2= .vi n:=by rw[hω];exact h2
  have u3:ω'.w 3000= .vi bs:=by rw[hω];exact h3
  have hf': ∀i a,ω'.f i a=F i a:=by rw[hω];exact hf
  have a1:arI .add .i64 ((2*bs*k:Nat):Int) (bs:Int)=((2*bs*k+bs:Nat):Int):=aY0 (by omega)
  have a2:arI .mul .i64 2 (bs:Int)=((2*bs:Nat):Int):=cM3 (x:=2) (by omega)
  have a3:arI .add .i64 ((2*bs*k+2*bs:Nat):Int) ((2*bs:Nat):Int)=((2*bs*k+2*bs+2*bs:Nat):Int):=aY0 (by omega)
  have s1:=hb (2*k)
  rw[ev,x8 (by omega)]at s1
  have s2:=hb (2*k+1)
  rw[od,show 2*bs*k+bs+bs=2*bs*k+2*bs by omega,x8 (by omega)]at s2
  rw[←hω]
  unfold cJ2
  refine ite_t (by show decide ((ω'.w 4001).toI≤(ω'.w 2).toI)=true;rw[v1,u2];exact decide_eq_true (by show((2*bs*k+2*bs:Nat):Int)≤(n:Int);omega)) (need_ok ?_ ?_)
  ·show(ω'.f 426 [ω'.w 4002,ω'.w 1,ω'.w 4000,Val.vi (arI .add .i64 (ω'.w 4000).toI (ω'.w 3000).toI),ω'.w 4001,.vi 512]).toB=true
   rw[hf',v0,v1,v2,u3,O9,O9,a1]
   exact ba1 (a88 ho k) (by rw[V8];exact hl) u1 hn (by omega) (by omega) hk2 (by omega) (by rw[ac1 (by omega) (b9 _)];exact s1) (by rw[ac1 (by omega) (by omega)];exact s2)
  ·show some (0,[ω'.w 4001,Val.vi (arI .add .i64 (ω'.w 4001).toI (arI .mul .i64 2 (ω'.w 3000).toI)),ω'.f 425 [ω'.w 4002,ω'.w 4000,ω'.w 4001]])=_
   rw[hf',v0,v1,v2,u3,cM0 rfl rfl,O9,O9,a2,a3,Nat.mul_succ]
   rfl
 ·show O8 cJ2 (ω.upd 4000 [.vi (2*bs*q:Nat),.vi (2*bs*q+2*bs:Nat),.vl (W9 none (2*bs) l q)])=_
  unfold cJ2
  refine ite_f ?_ rfl
  show decide (((2*bs*q+2*bs:Nat):Int)≤(ω.w 2).toI)=false
  rw[h2];exact decide_eq_false (by show¬((2*bs*q+2*bs:Nat):Int)≤(n:Int);omega)
def d39:SX:= .app 469 [.ci 0,.op (.ar .mul .i64) [.ci 2,.va 3000],.va 3001,.va 1,.va 3001,.va 2,.va 3000]
def aH2:SX:= zo d39 0
def bw1:SX:= zo d39 2
theorem cc8:d19= .ite (zs (.va 3000) (.va 2)) (.loop ⟨469,[.ci 0,.op (.ar .mul .i64) [.ci 2,.va 3000],.va 3001],4000,[.va 1,.va 3001,.va 2,.va 3000]⟩ cJ2 [.ite (zs (za aH2 (.va 3000)) (.va 2)) (.need (.app 426 [bw1,.va 1,aH2,za aH2 (.va 3000),.va 2,.ci 512]) (.ret 0 [.op (.ar .mul .i64) [.va 3000,.ci 2],.app 425 [bw1,aH2,.va 2]])) (.ret 0 [.op (.ar .mul .i64) [.va 3000,.ci 2],bw1])]) (.ret 1 [.va 3000,.va 3001]):=rfl
theorem cM4{ω:Opq}(hf: ∀i a,ω.f i a=F i a){n bs:Nat}{l:List Val}(h1:(ω.w 1).toI=n)(h2:ω.w 2= .vi n)(h0:0<bs)(hlt:bs<n)(hl:l.length=n)(ho:l.all okK=true)(hn:n≤400)(hb:Bk none bs n l):
 O8 d19 (ω.upd 3000 [.vi bs,.vl l])=some (0,[.vi (2*bs:Nat),.vl (pass none bs n l)]):=by
 obtain⟨ω',hω⟩: ∃ω',ω'=ω.upd 3000 [.vi bs,.vl l]:=⟨_,rfl⟩
 have v0:ω'.w 3000= .vi bs:=by rw[hω];rfl
 have v1:ω'.w 3001= .vl l:=by rw[hω];rfl
 have u1:(ω'.w 1).toI=n:=by rw[hω];exact h1
 have u2:ω'.w 2= .vi n:=by rw[hω];exact h2
 have hf': ∀i a,ω'.f i a=F i a:=by rw[hω];exact hf
 have a2:arI .mul .i64 2 (bs:Int)=((2*bs:Nat):Int):=cM3 (x:=2) (by omega)
 have a2':arI .mul .i64 (bs:Int) 2=((2*bs:Nat):Int):=by rw[u9];exact cM3 (y:=2) (by omega)
 have it:=df1 hf' (l:=l) u1 u2 v0 h0 hl ho hn (by omega) hb
 have hp:pass none bs n l=if 2*bs*(n/(2*bs))+bs<n then V3 none (W9 none (2*bs) l (n/(2*bs))) (2*bs*(n/(2*bs))) n else W9 none (2*bs) l (n/(2*bs)):=rfl
 have hF: ∀x y:Val,F 469 [.vi 0,.vi (2*bs:Nat),.vl l,x,y,.vi n,.vi bs]=T1 (0,[.vi (2*bs*(n/(2*bs)):Nat),.vi (2*bs*(n/(2*bs))+2*bs:Nat),.vl (W9 none (2*bs) l (n/(2*bs)))]):=fun _ _=>rfl
 have hq:2*bs*(n/(2*bs))≤n:=B2 n (2*bs)
 have hq2:n<2*bs*(n/(2*bs))+2*bs:=by
  have:=I1 n (show 0<2*bs by omega)
  rw[Nat.mul_succ]at this;exact this
 generalize n/(2*bs)=q at it hp hF hq hq2
 have e469:den ω' d39=T1 (0,[.vi (2*bs*q:Nat),.vi (2*bs*q+2*bs:Nat),.vl (W9 none (2*bs) l q)]):=by
  show ω'.f 469 [.vi 0,.vi (arI .mul .i64 2 (ω'.w 3000).toI),ω'.w 3001,ω'.w 1,ω'.w 3001,ω'.w 2,ω'.w 3000]=_
  rw[hf',v0,v1,u2,O9,a2,hF]
 have ea:den ω' aH2= .vi (2*bs*q:Nat):=by show S4 (den ω' d39).toL 1 0=_;rw[e469];rfl
 have el:den ω' bw1= .vl (W9 none (2*bs) l q):=by show S4 (den ω' d39).toL 1 2=_;rw[e469];rfl
 have eb:den ω' (za aH2 (.va 3000))= .vi (2*bs*q+bs:Nat):=by
  show Val.vi (arI .add .i64 (den ω' aH2).toI (ω'.w 3000).toI)=_
  rw[ea,v0,O9,O9,aY0 (by omega)]
 rw[←hω,cc8]
 refine ite_t (by show decide ((ω'.w 3000).toI<(ω'.w 2).toI)=true;rw[v0,u2];exact decide_eq_true (by show((bs:Nat):Int)<(n:Int);omega)) (P5 (r:=(0,[.vi (2*bs*q:Nat),.vi (2*bs*q+2*bs:Nat),.vl (W9 none (2*bs) l q)])) ?_ e469 ?_)
 ·show Q9 _ [.vi 0,.vi (arI .mul .i64 2 (ω'.w 3000).toI),ω'.w 3001]=_
  rw[v0,v1,O9,a2];exact it
 ·by_cases hc:2*bs*q+bs<n
  ·rw[hp,if_pos hc]
   refine ite_t (by show decide ((den ω' (za aH2 (.va 3000))).toI<(ω'.w 2).toI)=true;rw[eb,u2];exact decide_eq_true (by show((2*bs*q+bs:Nat):Int)<(n:Int);omega)) (need_ok ?_ ?_)
   ·show(ω'.f 426 [den ω' bw1,ω'.w 1,den ω' aH2,den ω' (za aH2 (.va 3000)),ω'.w 2,.vi 512]).toB=true
    rw[hf',el,ea,eb,u2]
    have s1:=hb (2*q)
    rw[←B3,u9 bs 2,x8 (by omega)]at s1
    have s2:=hb (2*q+1)
    rw[Nat.mul_succ,←B3,u9 bs 2,C8 (by omega)]at s2
    exact ba1 (a88 ho q) (by rw[V8];exact hl) u1 hn (by omega) hc (b9 _) (by omega) (by rw[ac1 (by omega) (b9 _)];exact s1) (by rw[ac1 (by omega) (by omega)];exact s2)
   ·show some (0,[Val.vi (arI .mul .i64 (ω'.w 3000).toI 2),ω'.f 425 [den ω' bw1,den ω' aH2,ω'.w 2]])=_
    rw[hf',el,ea,u2,v0,O9,a2',cM0 rfl rfl]
  ·rw[hp,if_neg hc]
   refine ite_f (by show decide ((den ω' (za aH2 (.va 3000))).toI<(ω'.w 2).toI)=false;rw[eb,u2];exact decide_eq_false (by show¬((2*bs*q+bs:Nat):Int)<(n:Int);omega)) ?_
   show some (0,[Val.vi (arI .mul .i64 (ω'.w 3000).toI 2),den ω' bw1])=_
   rw[el,v0,O9,a2']
theorem df2{ω:Opq}(hf: ∀i a,ω.f i a=F i a){n:Nat}(h1:(ω.w 1).toI=n)(h2:ω.w 2= .vi n)(hn:n≤400): ∀(f bs:Nat) (l:List Val),0<bs→n≤bs*2^f→l.length=n→l.all okK=true→Bk none bs n l→
 Iter (fun vs=>O8 d19 (ω.upd 3000 vs)) [.vi bs,.vl l] 0 [.vi (ac6 none n f bs l).1,.vl (ac6 none n f bs l).2]:=by
 have out: ∀(bs:Nat) (l:List Val),n≤bs→O8 d19 (ω.upd 3000 [.vi bs,.vl l])=some (1,[.vi bs,.vl l]):=fun bs l h=>by
  rw[cc8]
  refine ite_f ?_ rfl
  show decide ((bs:Int)<(ω.w 2).toI)=false
  rw[h2];exact decide_eq_false (by show¬((bs:Nat):Int)<(n:Int);omega)
 intro f
 induction f with
 |zero=>
  intro bs l h0 hb hl ho hbk
  exact .out (out bs l (by simpa using hb))
 |succ f ih=>
  intro bs l h0 hb hl ho hbk
  rw[ac6]
  by_cases h:bs<n
  ·rw[if_pos h]
   obtain⟨p1,p2,p3⟩:=bw0 h0 hl hbk
   exact .more (cM4 hf h1 h2 h0 h hl ho hn hbk) (ih (2*bs) _ (by omega) (by rw[Nat.pow_succ,u9 (2^f) 2,←B3,u9 bs 2]at hb;exact hb) (by rw[p3.length_eq];exact hl) (Y8 ho p3) p1)
  ·rw[if_neg h]
   exact .out (out bs l (by omega))
theorem t_stab{ω:Opq}(hf: ∀i a,ω.f i a=F i a)(hn:(F 428 [ω.w 0,ω.w 1,ω.w 2]).toB=true):O8 T_stab ω=some (0,[F 425 [ω.w 0,.vi 0,ω.w 2]]):=by
 obtain⟨ho,hd⟩:=O4 (show(aq5 (ω.w 0) (ω.w 1)&&(isI (ω.w 2)&&decide ((ω.w 2).toI=(ω.w 1).toI)))=true from hn)
 obtain⟨i2,hd⟩:=O4 hd
 obtain⟨e0,oa,h1,hl⟩:=ab6 ho
 have q1:=of_decide_eq_true hd
 generalize hL:(ω.w 0).toL=l at e0 oa h1 hl
 obtain⟨n,hnn⟩: ∃n,l.length=n:=⟨_,rfl⟩
 rw[hnn]at h1 hl
 have w2:ω.w 2= .vi n:=(aA3 i2).trans (congrArg Val.vi (q1.trans h1))
 have h2:(ω.w 2).toI=n:=q1.trans h1
 have hq:=B2 n 20
 have e467:den ω al7=T1 (0,[.vi (20*(n/20):Nat),.vi (20*(n/20)+20:Nat),.vl (W9 none 20 l (n/20))]):=by
  show ω.f 467 [.vi 0,.vi 20,ω.w 0,ω.w 1,ω.w 0,ω.w 2]=_
  rw[hf,e0,w2];rfl
 have d1:den ω al8= .vl (W9 none 20 l (n/20)):=by show S4 (den ω al7).toL 1 2=_;rw[e467];rfl
 have d2:den ω al9= .vi (20*(n/20):Nat):=by show S4 (den ω al7).toL 1 0=_;rw[e467];rfl
 have d3:den ω Z4= .vl (V3 none (W9 none 20 l (n/20)) (20*(n/20)) n):=by
  show ω.f 425 [den ω al8,den ω al9,ω.w 2]=_
  rw[hf,d1,d2,w2,cM0 rfl rfl]
 have bk:=bl3 (sec:=none) hnn
 have pm:(V3 none (W9 none 20 l (n/20)) (20*(n/20)) n).Perm l:=(ab5 none hq).trans (ac0 _ _ _)
 have cl:Cl none (V3 none (W9 none 20 l (n/20)) (20*(n/20)) n) l:=(b94 none hq).trans (aV5 _ _ _)
 have bl:=V8 (sec:=none) 20 l (n/20)
 have ba:=a88 (B:=20) oa (n/20)
 generalize V3 none (W9 none 20 l (n/20)) (20*(n/20)) n=L at d3 bk pm cl
 have hres:=ba2 9 20 L (by omega) (by omega) (by rw[pm.length_eq];exact hnn) bk
 rw[srt_cl cl]at hres
 have e468:ω.f 468 [.vi 20,den ω Z4,ω.w 1,den ω Z4,ω.w 2]=T1 (0,[.vi (ac6 none n 9 20 L).1,.vl (ac6 none n 9 20 L).2]):=by
  rw[hf,d3,w2];rfl
 have hF:F 425 [ω.w 0,.vi 0,ω.w 2]= .vl (srt none l):=by
  rw[e0,w2,show Val.vi 0= .vi ((0:Nat):Int)from rfl,cM0 rfl rfl,←hnn,aJ7]
 rw[hF]
 unfold T_stab
 refine P5 (r:=(0,[.vi (20*(n/20):Nat),.vi (20*(n/20)+20:Nat),.vl (W9 none 20 l (n/20))])) ?_ e467 (need_ok ?_ ?_)
 ·show Q9 _ [.vi 0,.vi 20,ω.w 0]=_
  rw[e0];exact df0 hf h1 h2 hnn oa hl
 ·show(ω.f 424 [den ω al8,ω.w 1,den ω al9,ω.w 2]).toB=true
  rw[hf,d1,d2]
  exact cc7 ba (bl.trans hnn) h1 hl rfl h2 hq (b9 _)
 ·refine P5 (r:=(0,[.vi (ac6 none n 9 20 L).1,.vl (ac6 none n 9 20 L).2])) ?_ e468 ?_
  ·show Q9 _ [.vi 20,den ω Z4]=_
   rw[d3,T4]
   exact df2 hf h1 w2 hl 9 20 L (by omega) (by omega) (by rw[pm.length_eq];exact hnn) (Y8 oa pm) bk
  ·show some (0,[S4 (ω.f 468 [.vi 20,den ω Z4,ω.w 1,den ω Z4,ω.w 2]).toL 1 1])=_
   rw[e468,hres];rfl
end Go.Ev.S7
namespace Go.Ev.S7
open Go Go.Ev
theorem t_cmpR{ω:Opq}:O8 bE8 ω=some (0,[F 206 [ω.w 0,ω.w 1,ω.w 2,ω.w 7,ω.w 8,ω.w 9]]):=by
 simp only[bE8,bE6,ar2,ar3,bE7,O8,P2,den,dB,W0,F,aA5,aA6,cK9,S0,Q0,X6,show∀a b,bb7 .lss a b=X4 a b from fun _ _=>rfl,show∀a b,bb7 .gtr a b=X4 b a from fun _ _=>rfl,cR7,decide_eq_true_eq,O9]
 by_cases h1:X4 (ω.w 0).toS (ω.w 7).toS=true<;>by_cases h2:X4 (ω.w 7).toS (ω.w 0).toS=true<;>by_cases c1:(ω.w 2).toI<(ω.w 9).toI<;>by_cases c2:(ω.w 9).toI<(ω.w 2).toI<;>by_cases c3:(ω.w 1).toI<(ω.w 8).toI<;>by_cases c4:(ω.w 8).toI<(ω.w 1).toI<;>simp[h1,h2,c1,c2,c3,c4]
theorem f431{v:Val}(h:(F 431 [v]).toB=true):v= .vl v.toL∧v.toL.all okK=true:=by
 obtain⟨h1,h2⟩:=O4 (show(isL v&&v.toL.all okK)=true from h)
 exact⟨isL_at h1,h2⟩
theorem t_sstab{ω:Opq}(hf: ∀i a,ω.f i a=F i a)(hn:(ω.w 0).toL.length≤400)(h:(F 431 [ω.w 0]).toB=true):O8 T_sstab ω=some (0,[F 425 [ω.w 0,.vi 0,.vi (ω.w 0).toL.length]]):=by
 obtain⟨e,ho⟩:=f431 h
 unfold T_sstab
 refine need_ok ?_ ?_
 ·show(ω.f 428 [ω.w 0,.vi (ω.w 0).toL.length,.vi (ω.w 0).toL.length]).toB=true
  rw[hf]
  show(aq5 (ω.w 0) (.vi (ω.w 0).toL.length)&&(isI (.vi (ω.w 0).toL.length)&&decide (((ω.w 0).toL.length:Int)=((ω.w 0).toL.length:Int))))=true
  refine and2 ?_ (and2 rfl (decide_eq_true rfl))
  rw[e];exact ab9 ho rfl rfl hn
 ·show some (0,[ω.f 425 [ω.w 0,.vi 0,.vi (ω.w 0).toL.length]])=_
  rw[hf]
theorem cs3(v:Val):F 425 [v,.vi 0,.vi v.toL.length]= .vl (srt none v.toL):=by
 show Val.vl (V3 none v.toL 0 (nt (.vi v.toL.length)))=_
 rw[show nt (.vi (v.toL.length:Int))=v.toL.length from d36 _,aJ7]
theorem t_aggSort{ω:Opq}(hf: ∀i a,ω.f i a=F i a)(hn:(ω.w 0).toL.length≤400)(h:(F 431 [ω.w 0]).toB=true):O8 az2 ω=some (0,[F 490 [ω.w 0]]):=by
 have e1:den ω (.app 425 [.va 0,.ci 0,zl 0])= .vl (srt none (ω.w 0).toL):=by
  show ω.f 425 [ω.w 0,.vi 0,.vi (ω.w 0).toL.length]=_
  rw[hf,cs3]
 unfold az2 aT1
 refine need_ok ?_ (need_ok ?_ ?_)
 ·show(decide (((ω.w 0).toL.length:Int)≤400)&&(ω.f 431 [ω.w 0]).toB)=true
  rw[hf];exact and2 (decide_eq_true (by omega)) h
 ·show decide (((ω.w 0).toL.length:Int)=((den ω (.app 425 [.va 0,.ci 0,zl 0])).toL.length:Int))=true
  rw[e1]
  exact decide_eq_true (by show((ω.w 0).toL.length:Int)=((srt none (ω.w 0).toL).length:Int);rw[am5])
 ·show some (0,[den ω (.app 425 [.va 0,.ci 0,zl 0])])=_
  rw[e1];rfl
theorem t_cloneR{ω:Opq}(hf: ∀i a,ω.f i a=F i a)(hn:(ω.w 0).toL.length≤400)(h:(F 431 [ω.w 0]).toB=true):O8 ay6 ω=some (0,[ω.w 0]):=by
 obtain⟨e,ho⟩:=f431 h
 have hb:decide (((ω.w 0).toL.length:Int)≤1000000)=true:=decide_eq_true (by omega)
 by_cases h0:0<(ω.w 0).toL.length
 ·have h1:decide ((0:Int)<((ω.w 0).toL.length:Int))=true:=decide_eq_true (by omega)
  simp[ay6,aJ1,O8,P2,den,dB,W0,h1,hb,h0,S0,Q0,R1,show(ω.w 0).toL.length≤1000000 by omega]
 ·have h2:(ω.w 0).toL=[]:=x6.1 (by omega)
  have h3:ω.w 0= .vl []:=by rw[e,h2]
  simp[ay6,aJ1,O8,P2,den,dB,W0,h3,S0,Q0,R1]
end Go.Ev.S7
namespace Go.Ev.S7
open Go Go.Ev
theorem map_norm{l:List Val}(h:l.all okK=true):l.map Q8=l:=by
 have: ∀x∈l,Q8 x=id x:=fun x hx=>okK_at (j6.1 h x hx)
 rw[C1 this,List.map_id]
end Go.Ev.S7
namespace Go.Ev
open Go
theorem cc9{ω:Opq}(hf: ∀i a,ω.f i a=F i a)(hn:(ω.w 0).toL.length≤1000):O8 ay2 ω=some (0,[F 1 [ω.w 0]]):=by
 unfold ay2 dj1
 simp only[O8,a30,P2,den,dB,W0,List.cons_append,List.nil_append]
 rw[am1 (bad:=fun i=>cJ8 (atV (ω.w 0).toL i)) (px:=fun k=>[.vb false,.vi k]) (n:=(ω.w 0).toL.length)]
 ·simp only[hf,F,aA5,aA6,bH1,bH2]
  cases h:(ω.w 0).toL.any cJ8<;>simp[a30,O8,h,den,P2,W0,T1,S4,hf,F,bH1,aA5,aA6]
 ·intro i hi hb
  simp[hi,R9,a26 (show i≤10000000 by omega),cJ8,bF0,atV,P3]at hb⊢
  omega
 ·intro i hi hb
  simp[hi,R9,cJ8,bF0,atV,P3]at hb⊢
  omega
 ·simp[R9]
theorem wrap_i64{x:Int}(h:0≤x)(h2:x≤10000000):IntKind.i64.wrap x=x:=by
 simp only[IntKind.wrap,IntKind.bits,IntKind.signed]
 simp
 omega
theorem aA8{step:List Val→Option (Nat×List Val)}{n:Nat}{a0:List Val}{g:Nat→List Val}(mk:Nat→List Val→List Val){s0 p:List Val}(h0:s0=mk 0 a0)
 (h1: ∀i,i<n→step (mk i (a0++a10 g i))=some (0,mk (i+1) (a0++a10 g i++g i))) (h2:step (mk n (a0++a10 g n))=some (1,p)):Q9 step s0=some (0,p):=by
 have:=au1 (step:=step) (st:=fun i=>mk i (a0++a10 g i)) (n:=n) (j:=0) (p:=p) (fun i hi=>by
   show step (mk i (a0++a10 g i))=some (0,mk (i+1) (a0++(a10 g i++g i)))
   rw[h1 i hi,u5]) h2
 rw[h0]
 simpa only[a10,v8]using this
theorem aJ9{α β:Type}(f:α→β): ∀l:List α,l.flatMap (fun r=>[f r])=l.map f
 | []=>rfl
 |a::l=>by rw[A4,aJ9 f l];rfl
theorem ah1(r:Val):Val.vl [P3 r 0,P3 r 1,P3 r 2,P3 r 3,P3 r 4,P3 r 5,P3 r 6]=Q8 r:=rfl
theorem S5{step:List Val→Option (Nat×List Val)}{n j:Nat}(st:Nat→List Val){s0 p:List Val}(h0:s0=st 0)(h1: ∀i,i<n→step (st i)=some (0,st (i+1)))(h2:step (st n)=some (j+1,p)):Q9 step s0=some (j,p):=by
 rw[h0];exact au1 h1 h2
theorem ai1(l:List Val)(i:Nat):S4 l (i:Int) 7=P3 (atV l i) 7:=rfl
theorem t_sameC{ω:Opq}(hf: ∀i a,ω.f i a=F i a)(hn:(ω.w 0).toL.length≤1000000):O8 T_sameC ω=some (0,[F 201 [ω.w 0,ω.w 1]]):=by
 unfold T_sameC dj3
 simp only[O8,a30,P2,den,dB,W0,List.cons_append,List.nil_append]
 by_cases hl:(ω.w 0).toL.length=(ω.w 1).toL.length
 ·have hl':((ω.w 0).toL.length:Int)=(ω.w 1).toL.length:=by rw[hl]
  rw[am1 (bad:=fun i=> !decide (b17 (atV (ω.w 0).toL i)=b17 (atV (ω.w 1).toL i))) (px:=fun k=>[.vb false,.vi k]) (n:=(ω.w 0).toL.length)]
  ·simp only[hf,F,aA5,aA6,ap6 b17 _ _ hl,aA7 b17 _ _ hl,hl']
   by_cases h:(ω.w 0).toL.map b17=(ω.w 1).toL.map b17<;>simp[a30,O8,h,den,P2,W0,T1,S4,hf,F,aA5,aA6,hl',eqB,ap6 b17 _ _ hl,bv3]
  ·intro i hi hb
   have hi':i<(ω.w 1).toL.length:=by omega
   simp only[K4,decide_eq_true_eq,aJ8]at hb
   simp[hi,hi',R9,a26 (show i≤10000000 by omega),W2,W3,W4,Z6,Z7,Z8,Z9,ai1,hb]
  ·intro i hi hb
   have hi':i<(ω.w 1).toL.length:=by omega
   simp only[n9,decide_eq_false_iff_not,aJ8]at hb
   simp[hi,hi',R9,W2,W3,W4,Z6,Z7,Z8,Z9,ai1]
   simpa using hb
  ·simp[R9]
 ·have hl': ¬((ω.w 0).toL.length:Int)=(ω.w 1).toL.length:=by omega
  simp[hl',F,aA5,aA6,bv3,eqB,cc0 _ hl,P2,den]
theorem t_prim{ω:Opq}:O8 T_prim ω=some (0,[F 206 [ω.w 0,ω.w 1,ω.w 2,ω.w 8,ω.w 9,ω.w 10]]):=by
 simp only[T_prim,ay3,aa8,Y0,bE4,O8,P2,den,dB,W0,F,aA5,aA6,cK9,S0,Q0,X6,show∀a b,bb7 .lss a b=X4 a b from fun _ _=>rfl,show∀a b,bb7 .gtr a b=X4 b a from fun _ _=>rfl,cR7]
 by_cases h1:X4 (ω.w 0).toS (ω.w 8).toS=true<;>by_cases h2:X4 (ω.w 8).toS (ω.w 0).toS=true<;>by_cases c1:(ω.w 2).toI<(ω.w 10).toI<;>by_cases c2:(ω.w 10).toI<(ω.w 2).toI<;>by_cases c3:(ω.w 1).toI<(ω.w 9).toI<;>by_cases c4:(ω.w 9).toI<(ω.w 1).toI<;>simp[h1,h2,c1,c2,c3,c4]
theorem ap7(m:List Val)(k:List Val):(m.findIdx fun r=>keq [.str,.int .i64,.int .i64] r (.vl k))=Y7 m (cK9 k 0):=by
  unfold Y7
  congr 1
  funext r
  rw[r9,decide_eq_true_iff]
  show(decide ((k.getD 0 default).toS=(r.toL.getD 0 default).toS)&&(decide ((k.getD 1 default).toI=(r.toL.getD 1 default).toI)&&(decide ((k.getD 2 default).toI=(r.toL.getD 2 default).toI)&&true)))=true↔_
  simp only[e8,decide_eq_true_eq,and_true,P1,PaneM.mk.injEq,cK9,arg,P3]
  constructor<;>rintro⟨h1,h2,h3⟩<;>exact⟨h1.symm,h2.symm,h3.symm⟩
theorem bO9{l:List Val}{p:PaneM}{k:Nat}(hk:k<Y7 l p): ¬P1 (atV l k)=p:=by
 have h:=List.not_of_lt_findIdx hk
 have hl:k<l.length:=t7 hk List.findIdx_le_length
 simp only[decide_eq_false_iff_not]at h
 have e:atV l k=l[k]:=by simp[atV,i3,hl]
 rw[e];simpa using h
theorem d40{l:List Val}{p:PaneM}(h:Y7 l p<l.length):P1 (atV l (Y7 l p))=p:=by
 have:=List.findIdx_getElem (xs:=l) (p:=fun r=>decide (P1 r=p)) (w:=h)
 have e:atV l (Y7 l p)=l[Y7 l p]:=by simp[atV,i3,h]
 rw[e];exact of_decide_eq_true this
end Go.Ev
namespace Go.Ev
open Go
theorem P5{hd:LHd}{body:VT}{ks:List VT}{ω:Opq}{r:Nat×List Val}{out:Option (Nat×List Val)}(h1:Q9 (fun vs=>O8 body (ω.upd hd.v0 vs)) (P2 ω hd.s0)=some r)(h2:ω.f hd.id (P2 ω (hd.s0++hd.fv))=T1 r)(h3:a30 ks r.1 ω=out):O8 (.loop hd body ks) ω=out:=by
 rw[O8.eq_5,h1]
 simp only
 rw[if_pos h2,h3]
end Go.Ev
namespace Go.Ev
open Go
theorem ba3(l:List Val)(p:PaneM):hasV l p=l.any fun r=>decide (P1 r=p):=by
  unfold hasV Y7
  rw[r9,decide_eq_true_iff,List.findIdx_lt_length,y5]
def g7(l:List Val)(i:Nat):List Val:=[Q8 (atV l i)]
theorem cd0(l:List Val)(i:Nat)(p:PaneM):hasV (a10 (g7 l) i) p=(List.range i).any fun k=>decide (P1 (atV l k)=p):=by
  rw[ba3,af2,List.any_flatMap]
  congr 1
  funext k
  simp[g7];rfl
theorem bH4(l:List Val)(i:Nat):hasV (a10 (g7 l) i) (P1 (atV l i))=aX8 l i:=by
 rw[cd0];rfl
theorem bl4(l:List Val):a10 (g7 l) l.length=l.map Q8:=by
 rw[af2]
 show(List.range l.length).flatMap (fun i=>[Q8 (atV l i)])=_
 rw[show(fun i=>[Q8 (atV l i)])=fun i=>(fun r=>[Q8 r]) (l.getD i (.vl []))from rfl,ap2 (fun r=>[Q8 r]) (.vl []) l]
 exact aJ9 _ _
theorem af6(r:Val):cK9 [P3 r 0,P3 r 1,P3 r 2] 0=P1 r:=rfl
theorem cy8{ω:Opq}(hf: ∀i a,ω.f i a=F i a){i:Nat}(hi:i<(ω.w 0).toL.length)(hn:(ω.w 0).toL.length≤1000000):
 O8 cg5 (ω.upd 2000 [.vi i,.vl (a10 (g7 (ω.w 0).toL) i)])=some (if bm5 (ω.w 0).toL i then(2,[.vi i,.vl (a10 (g7 (ω.w 0).toL) i)])else(0,[.vi (i+1:Nat),.vl (a10 (g7 (ω.w 0).toL) (i+1))])):=by
 have hi1:(i:Int)<((ω.w 0).toL.length:Int):=by omega
 have hi0:(0:Int)≤(i:Int):=by omega
 have hd:=bH4 (ω.w 0).toL i
 unfold hasV at hd
 unfold cg5
 simp only[O8,P2,den,dB,W0,R9,show(2000≤2000)=True by simp,show(2000≤2001)=True by simp,if_true,show 2000-2000=0 from rfl,show 2001-2000=1 from rfl,m6,o7,show(2000≤0)=False by simp,if_false,O9,Q4,S0,Q0,R1,U7,X6,hi1,hi0,decide_true,ap7,W2,W3,W4,Z6,Z7,Z8,Z9,af6,bv5,hd,ah1,a26 (show i≤10000000 by omega),bm5]
 rcases B4 (aX8 (ω.w 0).toL i)with hdup|hdup
 ·simp[hdup]
 ·rcases B4 (okV (atV (ω.w 0).toL i))with hok|hok
  ·obtain⟨h1,h2⟩:=(cs0 _).1 hok
   simp only[hdup,hok,a10,g7,j9,if_false,cond_false,y8,G5,decide_eq_true_eq,e8,n9,E2,decide_eq_false_iff_not,K5,false_or]
   (repeat' split)<;>first|rfl|(exfalso;omega)
  ·have h1:=(d35 _).1 hok
   simp only[hdup,hok,a10,g7,j9,if_false,cond_false,E8,G5,if_true,decide_eq_true_eq,e8,n9,E2,decide_eq_false_iff_not,K5,false_or]
   (repeat' split)<;>first|rfl|(exfalso;omega)
theorem d96{ω:Opq}(hf: ∀i a,ω.f i a=F i a)(hn:(ω.w 0).toL.length≤1000000):Q9 (fun vs=>O8 cg5 (ω.upd 2000 vs)) [.vi 0,.vl []]=some (bl2 (ω.w 0).toL):=by
 have st: ∀i,i<(ω.w 0).toL.length→bm5 (ω.w 0).toL i=false→O8 cg5 (ω.upd 2000 [.vi i,.vl (a10 (g7 (ω.w 0).toL) i)])=some (0,[.vi (i+1:Nat),.vl (a10 (g7 (ω.w 0).toL) (i+1))]):=fun i hi hb=>by rw[cy8 hf hi hn,hb];rfl
 unfold bl2
 split
 ·rename_i k hk
  obtain⟨a,b,c⟩:=a93 hk
  exact S5 (fun i=>[.vi i,.vl (a10 (g7 (ω.w 0).toL) i)]) (n:=k) (by simp[a10]) (fun i hi=>st i (by omega) (c i hi)) (by
    show O8 cg5 (ω.upd 2000 [.vi k,.vl (a10 (g7 (ω.w 0).toL) k)])=_
    rw[cy8 hf a hn,b];rfl)
 ·rename_i hk
  rw[C7]at hk
  exact S5 (fun i=>[.vi i,.vl (a10 (g7 (ω.w 0).toL) i)]) (n:=(ω.w 0).toL.length) (by simp[a10]) (fun i hi=>st i hi (by simpa using hk i hi)) (by
    show O8 cg5 (ω.upd 2000 [.vi (ω.w 0).toL.length,.vl (a10 (g7 (ω.w 0).toL) (ω.w 0).toL.length)])=_
    simp[cg5,O8.eq_2,O8.eq_4,dB,P2,den,W0,R9];rfl)
theorem cy9{ω:Opq}(hf: ∀i a,ω.f i a=F i a){i:Nat}(hi:i<(ω.w 1).toL.length)(hn:(ω.w 1).toL.length≤1000000):
 O8 ak8 (ω.upd 2000 [.vi i,.vl (a10 (g7 (ω.w 1).toL) i)])=some (if bm5 (ω.w 1).toL i then(2,[.vi i,.vl (a10 (g7 (ω.w 1).toL) i)])else(0,[.vi (i+1:Nat),.vl (a10 (g7 (ω.w 1).toL) (i+1))])):=by
 have hi1:(i:Int)<((ω.w 1).toL.length:Int):=by omega
 have hi0:(0:Int)≤(i:Int):=by omega
 have hd:=bH4 (ω.w 1).toL i
 unfold hasV at hd
 unfold ak8
 simp only[O8,P2,den,dB,W0,R9,show(2000≤2000)=True by simp,show(2000≤2001)=True by simp,if_true,show 2000-2000=0 from rfl,show 2001-2000=1 from rfl,m6,o7,show(2000≤1)=False by simp,if_false,O9,Q4,S0,Q0,R1,U7,X6,hi1,hi0,decide_true,ap7,W2,W3,W4,Z6,Z7,Z8,Z9,af6,bv5,hd,ah1,a26 (show i≤10000000 by omega),bm5]
 rcases B4 (aX8 (ω.w 1).toL i)with hdup|hdup
 ·simp[hdup]
 ·rcases B4 (okV (atV (ω.w 1).toL i))with hok|hok
  ·obtain⟨h1,h2⟩:=(cs0 _).1 hok
   simp only[hdup,hok,a10,g7,j9,if_false,cond_false,y8,G5,decide_eq_true_eq,e8,n9,E2,decide_eq_false_iff_not,K5,false_or]
   (repeat' split)<;>first|rfl|(exfalso;omega)
  ·have h1:=(d35 _).1 hok
   simp only[hdup,hok,a10,g7,j9,if_false,cond_false,E8,G5,if_true,decide_eq_true_eq,e8,n9,E2,decide_eq_false_iff_not,K5,false_or]
   (repeat' split)<;>first|rfl|(exfalso;omega)
theorem dj6{ω:Opq}(hf: ∀i a,ω.f i a=F i a)(hn:(ω.w 1).toL.length≤1000000):Q9 (fun vs=>O8 ak8 (ω.upd 2000 vs)) [.vi 0,.vl []]=some (bl2 (ω.w 1).toL):=by
 have st: ∀i,i<(ω.w 1).toL.length→bm5 (ω.w 1).toL i=false→O8 ak8 (ω.upd 2000 [.vi i,.vl (a10 (g7 (ω.w 1).toL) i)])=some (0,[.vi (i+1:Nat),.vl (a10 (g7 (ω.w 1).toL) (i+1))]):=fun i hi hb=>by rw[cy9 hf hi hn,hb];rfl
 unfold bl2
 split
 ·rename_i k hk
  obtain⟨a,b,c⟩:=a93 hk
  exact S5 (fun i=>[.vi i,.vl (a10 (g7 (ω.w 1).toL) i)]) (n:=k) (by simp[a10]) (fun i hi=>st i (by omega) (c i hi)) (by
    show O8 ak8 (ω.upd 2000 [.vi k,.vl (a10 (g7 (ω.w 1).toL) k)])=_
    rw[cy9 hf a hn,b];rfl)
 ·rename_i hk
  rw[C7]at hk
  exact S5 (fun i=>[.vi i,.vl (a10 (g7 (ω.w 1).toL) i)]) (n:=(ω.w 1).toL.length) (by simp[a10]) (fun i hi=>st i hi (by simpa using hk i hi)) (by
    show O8 ak8 (ω.upd 2000 [.vi (ω.w 1).toL.length,.vl (a10 (g7 (ω.w 1).toL) (ω.w 1).toL.length)])=_
    simp[ak8,O8.eq_2,O8.eq_4,dB,P2,den,W0,R9];rfl)
theorem bH5(l:List Val)(p:PaneM):Y7 (l.map Q8) p=Y7 l p:=by
 unfold Y7
 rw[List.findIdx_map];rfl
theorem ba4(l:List Val)(p:PaneM):hasV (l.map Q8) p=hasV l p:=by
 unfold hasV
 rw[bH5,r5]
theorem cd1(l:List Val):ac7 (l.map Q8)=ac7 l:=by
 funext r;unfold ac7;rw[ba4]
theorem cs4{l:List Val}{i:Nat}(h:i<l.length):atV (l.map Q8) i=Q8 (atV l i):=by
 simp[atV,i3,h]
theorem cs5(l:List Val):aX9 (l.map Q8)=aX9 l:=by
 funext r
 unfold aX9
 rw[ba4,bH5]
 cases h:hasV l (P1 r)with
 |false=>rfl
 |true=>
  rw[cs4 (of_decide_eq_true h)];rfl
theorem aV6(m:List Val)(r:Val):(ac7 m r).length≤1:=by
 unfold ac7;cases hasV m (P1 r)<;>simp
theorem bH6(m:List Val)(r:Val):(aX9 m r).length≤1:=by
 unfold aX9;cases (hasV m (P1 r)&&b96 (atV m (Y7 m (P1 r))) r)<;>simp
end Go.Ev
namespace Go.Ev
open Go
theorem dj7(a b c d e x g:Val):F 140 [a,b,c,d,e,x,g]=T1 (bl2 x.toL):=rfl
theorem ba5{l:List Val}(h:P4 l=true):bl2 l=(0,[.vi l.length,.vl (l.map Q8)]):=by
 unfold bl2
 have:(List.range l.length).find? (bm5 l)=none:=by
  rw[C7]
  intro i hi
  unfold P4 at h
  rw[n9,A8]at h
  have:=h i (r7.2 hi)
  simpa using this
 rw[this]
 show(0,[Val.vi l.length,Val.vl (a10 (g7 l) l.length)])=_
 rw[bl4]
theorem ba6{l:List Val}(h:P4 l=false):(bl2 l).1=1:=by
 unfold bl2
 split
 ·rfl
 ·rename_i hk
  rw[C7]at hk
  have h2:(List.range l.length).any (bm5 l)=true:=by
   unfold P4 at h
   simpa using h
  rw[y5]at h2
  obtain⟨i,h3,h4⟩:=h2
  have:=hk i (r7.1 h3)
  rw[h4]at this
  cases this
theorem cM5(r:Val):Val.vl [P3 r 0,P3 r 1,P3 r 2,.vb true,.vi 0,.vi 0,.vi 0,.vi 0]=aU8 r:=rfl
theorem d41(r:Val):Val.vl [P3 r 0,P3 r 1,P3 r 2,.vb false,P3 r 3,P3 r 4,P3 r 5,P3 r 6]=bG8 r:=rfl
theorem ba7{l:List Val}(h:P4 l=true):S4 (T1 (bl2 l)).toL 1 1= .vl (l.map Q8):=by
 rw[ba5 h];rfl
theorem cM6{ω:Opq}(hf: ∀i a,ω.f i a=F i a)(ok:P4 (ω.w 1).toL=true){i:Nat}(hi:i<(ω.w 0).toL.length)(hn:(ω.w 0).toL.length≤400){acc:List Val}(ha:acc.length≤1000):
 O8 cI9 (ω.upd 2000 [.vi acc.length,.vi i,.vl acc])=some (0,[.vi (acc++ac7 ((ω.w 1).toL.map Q8) (atV (ω.w 0).toL i)).length,.vi (i+1:Nat),.vl (acc++ac7 ((ω.w 1).toL.map Q8) (atV (ω.w 0).toL i))]):=by
 have hi1:(i:Int)<((ω.w 0).toL.length:Int):=by omega
 have hi0:(0:Int)≤(i:Int):=by omega
 have hb:((acc.length+1:Nat):Int)≤1000000:=by omega
 unfold cI9
 simp only[O8,P2,den,dB,W0,R9,show(2000≤2000)=True by simp,show(2000≤2001)=True by simp,show(2000≤2002)=True by simp,if_true,show 2000-2000=0 from rfl,show 2001-2000=1 from rfl,show 2002-2000=2 from rfl,m6,o7,show(2000≤0)=False by simp,show(2000≤1)=False by simp,if_false,O9,Q4,S0,Q0,R1,U7,X6,hi1,hi0,decide_true,ai5,hf,dj7,ba7 ok,ap7,W2,W3,W4,Z6,Z7,Z8,Z9,af6,bv5,cM5,a26 (show i≤10000000 by omega),j5,List.length_cons,List.length_nil,j8,hb,s8,ac7]
 rcases B4 (hasV ((ω.w 1).toL.map Q8) (P1 (atV (ω.w 0).toL i)))with hh|hh
 ·have h2:=of_decide_eq_true hh
  rw[r5]at h2
  simp[hh,h2]
 ·have h2:=of_decide_eq_false hh
  rw[r5]at h2
  simp[hh,h2]
  try omega
theorem cM7{ω:Opq}(hf: ∀i a,ω.f i a=F i a)(ok:P4 (ω.w 0).toL=true){i:Nat}(hi:i<(ω.w 1).toL.length)(hn:(ω.w 1).toL.length≤400){acc:List Val}(ha:acc.length≤1000):
 O8 cQ5 (ω.upd 2000 [.vi acc.length,.vi i,.vl acc])=some (0,[.vi (acc++aX9 ((ω.w 0).toL.map Q8) (atV (ω.w 1).toL i)).length,.vi (i+1:Nat),.vl (acc++aX9 ((ω.w 0).toL.map Q8) (atV (ω.w 1).toL i))]):=by
 have hi1:(i:Int)<((ω.w 1).toL.length:Int):=by omega
 have hi0:(0:Int)≤(i:Int):=by omega
 have hb:((acc.length+1:Nat):Int)≤1000000:=by omega
 unfold cQ5
 simp only[O8,P2,den,dB,W0,R9,show(2000≤2000)=True by simp,show(2000≤2001)=True by simp,show(2000≤2002)=True by simp,if_true,show 2000-2000=0 from rfl,show 2001-2000=1 from rfl,show 2002-2000=2 from rfl,m6,o7,show(2000≤0)=False by simp,show(2000≤1)=False by simp,if_false,O9,Q4,S0,Q0,R1,U7,X6,hi1,hi0,decide_true,ai5,hf,dj7,ba7 ok,ap7,W2,W3,W4,Z6,Z7,Z8,Z9,af6,bv5,d41,a26 (show i≤10000000 by omega),j5,List.length_cons,List.length_nil,j8,hb,s8,aX9]
 rcases B4 (hasV ((ω.w 0).toL.map Q8) (P1 (atV (ω.w 1).toL i)))with hh|hh
 ·have h2:=of_decide_eq_true hh
  rcases B4 (b96 (atV ((ω.w 0).toL.map Q8) (Y7 ((ω.w 0).toL.map Q8) (P1 (atV (ω.w 1).toL i)))) (atV (ω.w 1).toL i))with ha'|ha'
  ·have h3:=of_decide_eq_true ha'
   simp only[hh,h2,ha',h3,decide_true,y8,j9,if_false,cond_true,s8,G4,v8]
   rfl
  ·have h3:=of_decide_eq_false ha'
   simp only[hh,h2,ha',decide_true,y8,j9,if_false,cond_true,cond_false,Bool.and_false]
   rw[if_pos (by rw[n9,←m8];intro hcc;exact h3 (by simpa using hcc))]
   simp
 ·have h2:=of_decide_eq_false hh
  rw[r5]at h2
  simp[hh,h2]
  try omega
theorem bH7{g:Nat→List Val}(hg: ∀i,(g i).length≤1)(a0:List Val){i n:Nat}(hi:i≤n):(a0++a10 g i).length≤a0.length+n:=by
 have:=b86 (m:=1) hg i
 rw[j5];omega
theorem cM8{ω:Opq}(hf: ∀i a,ω.f i a=F i a)(ok:P4 (ω.w 1).toL=true)(hn:(ω.w 0).toL.length≤400){d:List Val}(hd:d=az5 [] (ac7 ((ω.w 1).toL.map Q8)) (ω.w 0).toL):
 Q9 (fun vs=>O8 cI9 (ω.upd 2000 vs)) [.vi 0,.vi 0,.vl []]=some (0,[.vi d.length,.vi (ω.w 0).toL.length,.vl d]):=by
 subst hd
 refine aA8 (fun i acc=>[.vi acc.length,.vi i,.vl acc]) (a0:=[]) (g:=fun i=>ac7 ((ω.w 1).toL.map Q8) (atV (ω.w 0).toL i)) (n:=(ω.w 0).toL.length) rfl (fun i hi=> ?_) ?_
 ·exact cM6 hf ok hi hn (r8 (bH7 (fun _=>aV6 _ _) [] (Nat.le_of_lt hi)) (by simp;omega))
 ·show O8 cI9 (ω.upd 2000 [_,_,_])=_
  simp[cI9,O8.eq_2,O8.eq_4,dB,P2,den,W0,R9,az5]
theorem cM9{ω:Opq}(hf: ∀i a,ω.f i a=F i a)(ok:P4 (ω.w 0).toL=true)(hn:(ω.w 1).toL.length≤400){d0 d:List Val}(h0:d0.length≤400)(hd:d=az5 d0 (aX9 ((ω.w 0).toL.map Q8)) (ω.w 1).toL):
 Q9 (fun vs=>O8 cQ5 (ω.upd 2000 vs)) [.vi d0.length,.vi 0,.vl d0]=some (0,[.vi d.length,.vi (ω.w 1).toL.length,.vl d]):=by
 subst hd
 refine aA8 (fun i acc=>[.vi acc.length,.vi i,.vl acc]) (a0:=d0) (g:=fun i=>aX9 ((ω.w 0).toL.map Q8) (atV (ω.w 1).toL i)) (n:=(ω.w 1).toL.length) rfl (fun i hi=> ?_) ?_
 ·exact cM7 hf ok hi hn (r8 (bH7 (fun _=>bH6 _ _) d0 (Nat.le_of_lt hi)) (by omega))
 ·show O8 cQ5 (ω.upd 2000 [_,_,_])=_
  simp[cQ5,O8.eq_2,O8.eq_4,dB,P2,den,W0,R9,az5]
theorem ba8(a0:List Val)(g:Val→List Val)(l:List Val):az5 a0 g l=a0++l.flatMap g:=by
 unfold az5
 rw[af2]
 congr 1
 exact ap2 g (.vl []) l
theorem a94{g:Val→List Val}(hg: ∀r,(g r).length≤1): ∀l:List Val,(l.flatMap g).length≤l.length
 | []=>b9 _
 |a::l=>by
  have:=a94 hg l
  have:=hg a
  rw[A4,j5,List.length_cons];omega
theorem bl5(a b:List Val):(Y4 a b).length≤a.length+b.length:=by
 have h1:=a94 (aV6 b) a
 have h2:=a94 (bH6 a) b
 unfold Y4
 rw[j5];omega
theorem am9{l:List Val}(h:P4 l=true):(l.map P1).Nodup:=by
 unfold P4 at h
 rw[n9,A8]at h
 rw[List.Nodup,I0]
 intro i j hi hj hij
 simp only[r5]at hi hj
 have:=h j (r7.2 hj)
 rw[m8,bm5,N5]at this
 have hd:=this.2
 unfold aX8 at hd
 rw[A8]at hd
 have:=hd i (r7.2 hij)
 have e1:atV l i=l[i]:=by simp[atV,i3,hi]
 have e2:atV l j=l[j]:=by simp[atV,i3,hj]
 rw[m8,de7,decide_eq_false_iff_not,e1,e2]at this
 simpa using this
theorem an0{g:Val→List Val}(hg: ∀r,g r=[]∨ ∃x,g r=[x]∧P1 x=P1 r): ∀l:List Val,((l.flatMap g).map P1).Sublist (l.map P1)
 | []=> .refl _
 |a::l=>by
  rw[A4,x5,m5]
  rcases hg a with h|⟨x,h,hp⟩
  ·rw[h];exact(an0 hg l).cons _
  ·rw[h,m5,hp];exact(an0 hg l).cons_cons _
theorem bw2(b:List Val)(r:Val):ac7 b r=[]∨ ∃x,ac7 b r=[x]∧P1 x=P1 r:=by
 unfold ac7
 cases hasV b (P1 r)with
 |true=>exact .inl rfl
 |false=>exact .inr ⟨_,rfl,rfl⟩
theorem b18(a:List Val)(r:Val):aX9 a r=[]∨ ∃x,aX9 a r=[x]∧P1 x=P1 r:=by
 unfold aX9
 cases (hasV a (P1 r)&&b96 (atV a (Y7 a (P1 r))) r)with
 |true=>exact .inl rfl
 |false=>exact .inr ⟨_,rfl,rfl⟩
theorem ac2{a b:List Val}(ha:P4 a=true)(hb:P4 b=true):((Y4 a b).map P1).Nodup:=by
 unfold Y4
 rw[x5,G7]
 refine⟨(an0 (bw2 b) a).nodup (am9 ha),(an0 (b18 a) b).nodup (am9 hb),?_⟩
 intro p hp q hq
 rw[o8]at hp
 obtain⟨x,hx,rfl⟩:=hp
 rw[y6]at hx
 obtain⟨r,hr,hx⟩:=hx
 have hq2:=(an0 (b18 a) b).subset hq
 rw[o8]at hq2
 obtain⟨y,hy,rfl⟩:=hq2
 unfold ac7 at hx
 cases hh:hasV b (P1 r)with
 |true=>rw[hh]at hx;cases hx
 |false=>
  rw[hh]at hx
  have hx:x=aU8 r:=by simpa using hx
  intro e
  rw[ba3,A8]at hh
  have:=hh y hy
  rw[m8,decide_eq_false_iff_not]at this
  exact this (e.symm.trans (by rw[hx];rfl))
theorem a43(a b:List Val): ∀x∈Y4 a b,Z5 x=x:=by
 intro x hx
 unfold Y4 at hx
 rw[A0,y6,y6]at hx
 rcases hx with⟨r,_,hx⟩|⟨r,_,hx⟩
 ·unfold ac7 at hx
  cases h:hasV b (P1 r)with
  |true=>rw[h]at hx;cases hx
  |false=>
   rw[h]at hx
   have hx:x=aU8 r:=by simpa using hx
   rw[hx];rfl
 ·unfold aX9 at hx
  cases h:(hasV a (P1 r)&&b96 (atV a (Y7 a (P1 r))) r)with
  |true=>rw[h]at hx;cases hx
  |false=>
   rw[h]at hx
   have hx:x=bG8 r:=by simpa using hx
   rw[hx];rfl
theorem bP0{a b:List Val}(ha:P4 a=true)(hb:P4 b=true):ay1 cfV (Y4 a b)=a09 (Y4 a b):=bu4 (a43 a b) (ac2 ha hb)
theorem dj8(a b c d e x m m1 y z v w:Val):F 141 [a,b,c,d,e,x,m,m1,y,z,v,w]=b97 [] (ac7 m1.toL) v.toL:=rfl
theorem dj9(a b c m d e x y:Val):F 142 [a,b,c,m,d,e,x,y]=b97 c.toL (aX9 m.toL) x.toL:=rfl
theorem cd2(a0:List Val)(g:Val→List Val)(l:List Val):S4 (b97 a0 g l).toL 1 2= .vl (az5 a0 g l):=rfl
theorem cd3(a0:List Val)(g:Val→List Val)(l:List Val):S4 (b97 a0 g l).toL 1 0= .vi (az5 a0 g l).length:=rfl
theorem bP1(a b:List Val):az5 (az5 [] (ac7 b) a) (aX9 a) b=Y4 a b:=by
 rw[ba8,ba8,List.nil_append];rfl
theorem d42{ω:Opq}(hf: ∀i a,ω.f i a=F i a)(hn0:(ω.w 0).toL.length≤400)(hn1:(ω.w 1).toL.length≤400):O8 bE5 ω=some (0,[F 209 [ω.w 0,ω.w 1],F 208 [ω.w 0,ω.w 1]]):=by
 have h209:F 209 [ω.w 0,ω.w 1]= .vi (bif P4 (ω.w 0).toL&&P4 (ω.w 1).toL then 0 else 2):=rfl
 have h208:F 208 [ω.w 0,ω.w 1]= .vl (bif P4 (ω.w 0).toL&&P4 (ω.w 1).toL then a09 (Y4 (ω.w 0).toL (ω.w 1).toL)else []):=rfl
 rw[h209,h208]
 unfold bE5
 refine P5 (d96 hf (by omega)) (by rw[hf];rfl) ?_
 rcases B4 (P4 (ω.w 0).toL)with k0|k0
 ·rw[ba5 k0,k0,F7]
  show O8 (.loop _ ak8 _) ω=_
  refine P5 (dj6 hf (by omega)) (by rw[hf];rfl) ?_
  rcases B4 (P4 (ω.w 1).toL)with k1|k1
  ·rw[ba5 k1,k1]
   show O8 (.loop _ cI9 _) ω=_
   have e0:den ω ay4= .vl ((ω.w 0).toL.map Q8):=by
    show S4 (ω.f 140 _).toL 1 1=_
    rw[hf];exact ba7 k0
   have e1:den ω bj2= .vl ((ω.w 1).toL.map Q8):=by
    show S4 (ω.f 140 _).toL 1 1=_
    rw[hf];exact ba7 k1
   obtain⟨d,hd⟩: ∃d,d=az5 [] (ac7 ((ω.w 1).toL.map Q8)) (ω.w 0).toL:=⟨_,rfl⟩
   have e2:den ω bj3=b97 [] (ac7 ((ω.w 1).toL.map Q8)) (ω.w 0).toL:=by
    show ω.f 141 [_,_,_,_,_,_,den ω ay4,den ω bj2,_,_,_,_]=_
    rw[hf,dj8,e1];rfl
   have e3:den ω ak9= .vl d:=by
    show S4 (den ω bj3).toL 1 2=_
    rw[e2,cd2,hd]
   have dl:d.length≤400:=by
    rw[hd,ba8,List.nil_append]
    have:=a94 (aV6 ((ω.w 1).toL.map Q8)) (ω.w 0).toL
    omega
   refine P5 (cM8 hf k1 hn0 hd) (by
    show ω.f 141 [_,_,_,_,_,_,den ω ay4,den ω bj2,_,_,_,_]=_
    rw[hf,dj8,e1,hd];rfl) ?_
   show O8 (.need _ _) ω=_
   rw[O8.eq_3,if_pos (by
    show decide ((S4 (den ω bj3).toL 1 0).toI=((den ω ak9).toL.length:Int))=true
    rw[e2,e3,cd3,hd];simp)]
   obtain⟨q,hq⟩: ∃q,q=az5 d (aX9 ((ω.w 0).toL.map Q8)) (ω.w 1).toL:=⟨_,rfl⟩
   have hqd:q=Y4 (ω.w 0).toL (ω.w 1).toL:=by
    rw[hq,hd,cs5,cd1,bP1]
   have e4:den ω bj4=b97 d (aX9 ((ω.w 0).toL.map Q8)) (ω.w 1).toL:=by
    show ω.f 142 [_,_,den ω ak9,den ω ay4,_,_,_,_]=_
    rw[hf,dj9,e3,e0];rfl
   have e5:den ω bj5= .vi q.length:=by
    show S4 (den ω bj4).toL 1 0=_
    rw[e4,cd3,hq]
   have e6:den ω ay5= .vl q:=by
    show S4 (den ω bj4).toL 1 2=_
    rw[e4,cd2,hq]
   have ql:q.length≤800:=by
    have:=bl5 (ω.w 0).toL (ω.w 1).toL
    rw[hqd];omega
   have hs:ω.f 211 [.vl q]= .vl (a09 q):=by
    rw[hf]
    show Val.vl (ay1 cfV q)=_
    rw[hqd,bP0 k0 k1]
   refine P5 (r:=(0,[.vi q.length,.vi (ω.w 1).toL.length,.vl q])) (by
    show Q9 _ [.vi (den ω ak9).toL.length,.vi 0,den ω ak9]=_
    rw[e3];exact cM9 hf k0 hn1 dl hq) (by
    show ω.f 142 [_,_,den ω ak9,den ω ay4,_,_,_,_]=_
    rw[hf,dj9,e3,e0,hq];rfl) ?_
   show O8 (.need _ _) ω=_
   rw[O8.eq_3,if_pos (by
    show(decide ((den ω bj5).toI=((den ω ay5).toL.length:Int))&&decide (((den ω ay5).toL.length:Int)≤1000000))=true
    rw[e5,e6,e8]
    exact⟨decide_eq_true rfl,decide_eq_true (by show(q.length:Int)≤1000000;omega)⟩),O8.eq_3,if_pos (by
    show decide ((den ω bj5).toI=((ω.f 211 [den ω ay5]).toL.length:Int))=true
    rw[e5,e6,hs]
    have:=(aD9 q).length_eq
    rw[r5]at this
    simp[this])]
   show some (0,[Val.vi 0,ω.f 211 [den ω ay5]])=_
   rw[e6,hs,hqd];rfl
  ·have:=ba6 k1
   rw[this,k1];rfl
 ·have:=ba6 k0
  rw[this,k0]
  show O8 (.loop _ ak8 _) ω=_
  refine P5 (dj6 hf (by omega)) (by rw[hf];rfl) ?_
  rcases B4 (P4 (ω.w 1).toL)with k1|k1
  ·rw[ba5 k1];rfl
  ·rw[ba6 k1];rfl
end Go.Ev
namespace Go.Ev
open Go
end Go.Ev
namespace Go.Ev
open Go
theorem need_ok{ω:Opq}{e:SX}{x:VT}{r:Option (Nat×List Val)}(h:dB ω e=true)(h2:O8 x ω=r):O8 (.need e x) ω=r:=by rw[O8.eq_3,if_pos h,h2]
theorem ite_t{ω:Opq}{e:SX}{x y:VT}{r:Option (Nat×List Val)}(h:dB ω e=true)(h2:O8 x ω=r):O8 (.ite e x y) ω=r:=by rw[O8.eq_2,if_pos h,h2]
theorem ite_f{ω:Opq}{e:SX}{x y:VT}{r:Option (Nat×List Val)}(h:dB ω e=false)(h2:O8 y ω=r):O8 (.ite e x y) ω=r:=by rw[O8.eq_2,if_neg (by rw[h];simp),h2]
theorem and2{a b:Bool}(h:a=true)(h2:b=true):(a&&b)=true:=by rw[h,h2];rfl
theorem d43(r:Val):P3 (aG2 r) 0=P3 r 0∧P3 (aG2 r) 1=P3 r 1∧P3 (aG2 r) 2=P3 r 2∧P3 (aG2 r) 3=P3 r 4∧P3 (aG2 r) 4=P3 r 5∧P3 (aG2 r) 5=P3 r 6∧P3 (aG2 r) 6=P3 r 7:=⟨rfl,rfl,rfl,rfl,rfl,rfl,rfl⟩
theorem df3(r:Val):okV (aG2 r)=true↔ ¬((P3 r 4).toI=0∧(P3 r 5).toI=0∧(P3 r 6).toI=0∧(P3 r 7).toI=0)∧((P3 r 4).toI=1∧(P3 r 5).toI=(P3 r 6).toI∧(P3 r 6).toI=(P3 r 7).toI∨1<(P3 r 4).toI∧(P3 r 6).toI≤(P3 r 7).toI):=by
 have:=cs0 (aG2 r)
 obtain⟨e0,e1,e2,e3,e4,e5,e6⟩:=d43 r
 rw[e3,e4,e5,e6]at this
 rw[this]
end Go.Ev
namespace Go.Ev
open Go
theorem cd4(l:List Val)(r:Val):(bv4 l r).length≤1:=by unfold bv4;cases a71 l r<;>simp
theorem cs6(r:Val):(bG9 r).length≤1:=by unfold bG9;cases a24 r<;>simp
theorem cs7{r:Val}(h:S7.okK r=true):S7.okK (Q8 r)=true:=by rw[S7.okK_at h];exact h
theorem cN0{r:Val}(h:S7.okK8 r=true):S7.okK (aG2 r)=true:=by
 unfold S7.okK8 at h
 split at h
 ·rfl
 ·cases h
theorem cd5{rows l:List Val}(h0:rows.all S7.okK=true)(h1:l.all S7.okK8=true):(af5 rows l).all S7.okK=true:=by
 rw[j6]at*
 intro x hx
 rcases A0.1 hx with hx|hx
 ·obtain⟨r,hr,hx⟩:=y6.1 hx
  unfold bv4 at hx
  cases ht:a71 l r with
  |true=>rw[ht]at hx;cases hx
  |false=>
   rw[ht]at hx
   obtain rfl:=x7.1 hx
   exact cs7 (h0 r hr)
 ·obtain⟨r,hr,hx⟩:=y6.1 hx
  unfold bG9 at hx
  cases ht:a24 r with
  |true=>rw[ht]at hx;cases hx
  |false=>
   rw[ht]at hx
   obtain rfl:=x7.1 hx
   exact cN0 (h1 r hr)
theorem dm4{v:Val}(h:(F 433 [v]).toB=true):v= .vl v.toL∧v.toL.all S7.okK8=true:=by
 obtain⟨h1,h2⟩:=O4 (show(S7.isL v&&v.toL.all S7.okK8)=true from h)
 exact⟨S7.isL_at h1,h2⟩
end Go.Ev
namespace Go.Ev
open Go
theorem cd6:cJ3= .ite (zs (.va 2001) (zl 1)) (.need (zp (.va 2001)) (.need (zn (zp kX) (zs kX (zL bX))) (.ite blX TB (.ite (zt (zg 1 2001 4) 0) (.ite (.op (.cmp .leq) [zg 1 2001 6,zg 1 2001 7]) (.ite (zt (zg 1 2001 4) 1) TB (.ite (zn (ze (zg 1 2001 4) 1) (zn (.op (.cmp .eql) [zg 1 2001 5,zg 1 2001 5]) (zn (.op (.cmp .eql) [zg 1 2001 6,zg 1 2001 5]) (.op (.cmp .eql) [zg 1 2001 7,zg 1 2001 5])))) TB RB)) RB) RB)))) (.ret 1 [.va 2000,.va 2001,.va 2002,.va 2003]):=rfl
theorem cd7{m:List Val}{p:PaneM}{k:Nat}(h1:k<m.length)(h2:P1 (atV m k)=p)(h3: ∀j,j<k→ ¬P1 (atV m j)=p):Y7 m p=k:=by
 unfold Y7
 rw[List.findIdx_eq h1]
 have e: ∀j (hj:j<m.length),atV m j=m[j]:=fun j hj=>by simp[atV,i3,hj]
 refine⟨by rw[←e k h1];exact decide_eq_true h2,fun j hj=> ?_⟩
 rw[←e j (by omega)]
 exact decide_eq_false (h3 j hj)
theorem bH8{m:List Val}{p:PaneM}(h: ∀j,j<m.length→ ¬P1 (atV m j)=p):Y7 m p=m.length:=by
 unfold Y7
 rw[N2]
 intro x hx
 obtain⟨j,hj,rfl⟩:=G8 hx
 have:=h j hj
 rw[show atV m j=m[j] by simp[atV,i3,hj]]at this
 exact decide_eq_false this
theorem a27(l:List Val): ∀i,(sN l i).length=i
 |0=>rfl
 |i+1=>by show(sN l i++[cs2 (atV l i)]).length=_;rw[j5,a27 l i];rfl
theorem cz0{a b:List Val}{k:Nat}(h:k<a.length):atV (a++b) k=atV a k:=by
 unfold atV
 rw[i3,i3,k6 h]
theorem cd8{a:List Val}{x:Val}{k:Nat}(h:k=a.length):atV (a++[x]) k=x:=by
 subst h
 unfold atV
 rw[i3,k5 (b9 _),B0];rfl
theorem bw3(l:List Val): ∀{i k:Nat},k<i→atV (sN l i) k=cs2 (atV l k)
 |i+1,k,h=>by
  show atV (sN l i++[cs2 (atV l i)]) k=_
  by_cases hk:k=i
  ·subst hk;exact cd8 (a27 l k).symm
  ·rw[cz0 (by rw[a27];omega),bw3 l (by omega)]
theorem ba9{l:List Val}{i:Nat}:aX8 l i=true↔ ∃k,k<i∧P1 (atV l k)=P1 (atV l i):=by
 unfold aX8 de7
 rw[y5]
 constructor
 ·rintro⟨k,hk,h⟩;exact⟨k,r7.1 hk,of_decide_eq_true h⟩
 ·rintro⟨k,hk,h⟩;exact⟨k,r7.2 hk,decide_eq_true h⟩
theorem b19{m:List Val}{k:Nat}{x:Val}(h:k<m.length):atV (m.set k x) k=x:=by
 unfold atV
 rw[i3,J4,if_pos rfl,if_pos h];rfl
theorem bP2{m:List Val}{k j:Nat}{x:Val}(h:k≠j):atV (m.set k x) j=atV m j:=by
 unfold atV
 rw[i3,i3,J4,if_neg h]
theorem cz1{l:List Val}{i:Nat}(h:aX8 l i=false):Y7 (sN l i) (P1 (atV l i))=i∧sUp (sN l i) (atV l i)=sN l (i+1)∧Y7 (sN l (i+1)) (P1 (atV l i))=i:=by
 have hno: ∀j,j<i→ ¬P1 (atV l j)=P1 (atV l i):=fun j hj e=>by
  rw[←m8]at h
  exact h (ba9.2 ⟨j,hj,e⟩)
 have e1:Y7 (sN l i) (P1 (atV l i))=i:=by
  have:=bH8 (m:=sN l i) (p:=P1 (atV l i)) (fun j hj=>by rw[a27]at hj;rw[bw3 l hj];exact hno j hj)
  rw[this,a27]
 have e2:bUp (sN l i) (atV l i)=sN l i++[.vl [P3 (atV l i) 0,P3 (atV l i) 1,P3 (atV l i) 2,.vi 0]]:=by
  unfold bUp;rw[e1,a27,if_neg (Nat.lt_irrefl _)]
 have e3:cUp (sN l i) (atV l i)=0:=by unfold cUp;rw[e1,a27,if_neg (Nat.lt_irrefl _)]
 refine⟨e1,?_,?_⟩
 ·unfold sUp
  rw[e1,e2,e3,cd8 (a27 l i).symm,K2,if_neg (by rw[a27];omega),a27,B0]
  rfl
 ·refine cd7 (by rw[a27];omega) (by rw[bw3 l (by omega)];rfl) (fun j hj=> ?_)
  rw[bw3 l (by omega)];exact hno j hj
theorem cz2{l:List Val}{i:Nat}(h:aX8 l i=true): ∃k,k<i∧Y7 (sN l i) (P1 (atV l i))=k∧bUp (sN l i) (atV l i)=sN l i∧(sUp (sN l i) (atV l i)).length=i∧Y7 (sUp (sN l i) (atV l i)) (P1 (atV l i))=k∧P3 (atV (sUp (sN l i) (atV l i)) k) 3= .vi 2:=by
 obtain⟨j,hj,hp⟩:=ba9.1 h
 have hex:Y7 (sN l i) (P1 (atV l i))<(sN l i).length:=by
  unfold Y7
  rw[List.findIdx_lt_length]
  refine⟨atV (sN l i) j,?_,?_⟩
  ·rw[show atV (sN l i) j=(sN l i)[j]'(by rw[a27];exact hj) by simp[atV,i3,a27,hj]]
   exact List.getElem_mem _
  ·rw[bw3 l hj];exact decide_eq_true hp
 have hat:=d40 hex
 have hbf: ∀j',j'<Y7 (sN l i) (P1 (atV l i))→ ¬P1 (atV (sN l i) j')=P1 (atV l i):=fun j' hj'=>bO9 hj'
 have e2:bUp (sN l i) (atV l i)=sN l i:=by unfold bUp;rw[if_pos hex]
 have e3:cUp (sN l i) (atV l i)=(P3 (atV (sN l i) (Y7 (sN l i) (P1 (atV l i)))) 3).toI:=by unfold cUp;rw[if_pos hex]
 have e4:sUp (sN l i) (atV l i)=(sN l i).set (Y7 (sN l i) (P1 (atV l i))) (.vl [P3 (atV (sN l i) (Y7 (sN l i) (P1 (atV l i)))) 0,P3 (atV (sN l i) (Y7 (sN l i) (P1 (atV l i)))) 1,P3 (atV (sN l i) (Y7 (sN l i) (P1 (atV l i)))) 2,.vi (arI .add .i64 (P3 (atV (sN l i) (Y7 (sN l i) (P1 (atV l i)))) 3).toI 1)]):=by unfold sUp;rw[e2,e3]
 generalize Y7 (sN l i) (P1 (atV l i))=k at hex hat hbf e4
 have hk:k<i:=by rw[a27]at hex;exact hex
 refine⟨k,hk,rfl,e2,?_,?_,?_⟩
 ·rw[e4,w6,a27]
 ·rw[e4]
  refine cd7 (by rw[w6];exact hex) ?_ (fun j' hj'=> ?_)
  ·rw[b19 hex]
   exact hat
  ·rw[bP2 (by omega)]
   exact hbf j' hj'
 ·rw[e4,b19 hex,bw3 l hk]
  rfl
end Go.Ev
namespace Go.Ev
open Go
section
variable{ω:Opq}{l s:List Val}{i:Nat}
theorem d44(h1:(ω.w 1).toL=l)(hi:ω.w 2001= .vi i):den ω kyX= .vl [P3 (atV l i) 0,P3 (atV l i) 1,P3 (atV l i) 2]:=by
 show Val.vl [S4 (ω.w 1).toL (ω.w 2001).toI 0,S4 (ω.w 1).toL (ω.w 2001).toI 1,S4 (ω.w 1).toL (ω.w 2001).toI 2]=_
 rw[h1,hi];rfl
theorem bw4(h1:(ω.w 1).toL=l)(hi:ω.w 2001= .vi i)(m:List Val):(m.findIdx fun x=>keq [.str,.int .i64,.int .i64] x (den ω kyX))=Y7 m (P1 (atV l i)):=by
  rw[d44 h1 hi,ap7,af6]
theorem bH9(h1:(ω.w 1).toL=l)(hi:ω.w 2001= .vi i)(hs:ω.w 2003= .vl s):den ω kX= .vi (Y7 s (P1 (atV l i))):=by
 show Val.vi (((ω.w 2003).toL.findIdx fun x=>keq [.str,.int .i64,.int .i64] x (den ω kyX):Nat):Int)=_
 rw[bw4 h1 hi,hs];rfl
theorem d45(h1:(ω.w 1).toL=l)(hi:ω.w 2001= .vi i)(hs:ω.w 2003= .vl s):dB ω (zs kX (zl 2003))=decide (Y7 s (P1 (atV l i))<s.length):=by
 show decide ((den ω kX).toI<((ω.w 2003).toL.length:Int))=_
 rw[bH9 h1 hi hs,hs];exact bv5 _ _
theorem cz3(h1:(ω.w 1).toL=l)(hi:ω.w 2001= .vi i)(hs:ω.w 2003= .vl s):den ω bX= .vl (bUp s (atV l i)):=by
 unfold bX bUp
 rw[Z1,d45 h1 hi hs]
 by_cases h:Y7 s (P1 (atV l i))<s.length
 ·rw[decide_eq_true h,if_pos h,cond_true];exact hs
 ·rw[decide_eq_false h,if_neg h,cond_false]
  show Val.vl ((ω.w 2003).toL++[.vl [S4 (ω.w 1).toL (ω.w 2001).toI 0,S4 (ω.w 1).toL (ω.w 2001).toI 1,S4 (ω.w 1).toL (ω.w 2001).toI 2,.vi 0]])=_
  rw[hs,h1,hi];rfl
theorem d46(h1:(ω.w 1).toL=l)(hi:ω.w 2001= .vi i)(hs:ω.w 2003= .vl s):(den ω nX).toI=cUp s (atV l i):=by
 unfold nX cUp
 rw[Z1,d45 h1 hi hs]
 by_cases h:Y7 s (P1 (atV l i))<s.length
 ·rw[decide_eq_true h,if_pos h,cond_true]
  show(S4 (ω.w 2003).toL (den ω kX).toI 3).toI=_
  rw[hs,bH9 h1 hi hs];rfl
 ·rw[decide_eq_false h,if_neg h,cond_false];rfl
theorem bI0(h1:(ω.w 1).toL=l)(hi:ω.w 2001= .vi i)(hs:ω.w 2003= .vl s):den ω sX= .vl (sUp s (atV l i)):=by
 show Val.vl ((den ω bX).toL.set (den ω kX).toI.toNat (.vl [S4 (den ω bX).toL (den ω kX).toI 0,S4 (den ω bX).toL (den ω kX).toI 1,S4 (den ω bX).toL (den ω kX).toI 2,.vi (arI .add .i64 (den ω nX).toI 1)]))=_
 rw[cz3 h1 hi hs,bH9 h1 hi hs,d46 h1 hi hs];rfl
theorem cz4(h1:(ω.w 1).toL=l)(hi:ω.w 2001= .vi i)(hs:ω.w 2003= .vl s)(hk:Y7 (sUp s (atV l i)) (P1 (atV l i))<(sUp s (atV l i)).length):(den ω cX).toI=(P3 (atV (sUp s (atV l i)) (Y7 (sUp s (atV l i)) (P1 (atV l i)))) 3).toI:=by
 have hk2:den ω k2X= .vi (Y7 (sUp s (atV l i)) (P1 (atV l i))):=by
  show Val.vi (((den ω sX).toL.findIdx fun x=>keq [.str,.int .i64,.int .i64] x (den ω kyX):Nat):Int)=_
  rw[bw4 h1 hi,bI0 h1 hi hs];rfl
 unfold cX
 rw[Z1]
 rw[show dB ω (zs k2X (zL sX))=true by
  show decide ((den ω k2X).toI<((den ω sX).toL.length:Int))=true
  rw[hk2,bI0 h1 hi hs];exact decide_eq_true (by show((_:Nat):Int)<((_:Nat):Int);exact Int.ofNat_lt.2 hk)]
 rw[cond_true]
 show(S4 (den ω sX).toL (den ω k2X).toI 3).toI=_
 rw[bI0 h1 hi hs,hk2];rfl
theorem df4(h1:(ω.w 1).toL=l)(hi:ω.w 2001= .vi i){had:List Val}(hh:(ω.w 2002).toL=had):dB ω hX=hasV had (P1 (atV l i)):=by
 show decide ((((ω.w 2002).toL.findIdx fun x=>keq [.str,.int .i64,.int .i64] x (den ω kyX):Nat):Int)<((ω.w 2002).toL.length:Int))=_
 rw[bw4 h1 hi,hh];exact bv5 _ _
end
theorem cd9{ω:Opq}{l:List Val}{had:Val}(h1:(ω.w 1).toL=l){i:Nat}(hi:i<l.length)(hl:l.length≤1000):
 O8 cJ3 (ω.upd 2000 [.vi 0,.vi i,had,.vl (sN l i)])=some (if ai0 l had.toL i then(2,[.vi i,.vi i,had,.vl (sUp (sN l i) (atV l i))])else(0,[.vi 0,.vi (i+1:Nat),had,.vl (sN l (i+1))])):=by
 obtain⟨ω',hω⟩: ∃ω',ω'=ω.upd 2000 [.vi 0,.vi i,had,.vl (sN l i)]:=⟨_,rfl⟩
 have v0:ω'.w 2000= .vi 0:=by rw[hω];rfl
 have v1:ω'.w 2001= .vi i:=by rw[hω];rfl
 have v2:ω'.w 2002=had:=by rw[hω];rfl
 have v3:ω'.w 2003= .vl (sN l i):=by rw[hω];rfl
 have u1:(ω'.w 1).toL=l:=by rw[hω];exact h1
 have ds:=bI0 u1 v1 v3
 have dk:=bH9 u1 v1 v3
 have db:=cz3 u1 v1 v3
 have dh:=df4 u1 v1 (had:=had.toL) (by rw[v2])
 have a1:arI .add .i64 (i:Int) 1=((i+1:Nat):Int):=a26 (by omega)
 have hRB:O8 RB ω'=some (2,[.vi i,.vi i,had,.vl (sUp (sN l i) (atV l i))]):=by
  show some (2,[ω'.w 2001,ω'.w 2001,ω'.w 2002,den ω' sX])=_
  rw[v1,v2,ds]
 have hRG:O8 RG ω'=some (0,[.vi 0,.vi (i+1:Nat),had,.vl (sUp (sN l i) (atV l i))]):=by
  show some (0,[ω'.w 2000,Val.vi (arI .add .i64 (ω'.w 2001).toI 1),ω'.w 2002,den ω' sX])=_
  rw[v0,v1,v2,ds,O9,a1]
 have hcol: ∀j:Nat,den ω' (.op .lget [.va 1,.va 2001,.ci j])=P3 (atV l i) j:=fun j=>by
  show S4 (ω'.w 1).toL (ω'.w 2001).toI j=_
  rw[u1,v1];rfl
 have hd3:dB ω' (zg 1 2001 3)=a24 (atV l i):=congrArg Val.toB (hcol 3)
 have hbl:dB ω' blX=am7 (atV l i):=by
  show(decide ((den ω' (zg 1 2001 4)).toI=0)&&(decide ((den ω' (zg 1 2001 5)).toI=0)&&(decide ((den ω' (zg 1 2001 6)).toI=0)&&decide ((den ω' (zg 1 2001 7)).toI=0))))=_
  rw[show den ω' (zg 1 2001 4)=_ from hcol 4,show den ω' (zg 1 2001 5)=_ from hcol 5,show den ω' (zg 1 2001 6)=_ from hcol 6,show den ω' (zg 1 2001 7)=_ from hcol 7];rfl
 have hTB:O8 TB ω'=some (if(a24 (atV l i) !=am7 (atV l i))||(aX8 l i||a24 (atV l i)&& !hasV had.toL (P1 (atV l i)))then(2,[.vi i,.vi i,had,.vl (sUp (sN l i) (atV l i))])else(0,[.vi 0,.vi (i+1:Nat),had,.vl (sN l (i+1))])):=by
  have hne:dB ω' (.op .not [.op .beq [zg 1 2001 3,blX]])=(a24 (atV l i) !=am7 (atV l i)):=by
   show(!(dB ω' (zg 1 2001 3)==dB ω' blX))=_
   rw[hd3,hbl];rfl
  unfold TB
  cases hb:(a24 (atV l i) !=am7 (atV l i))with
  |true=>exact ite_t (by rw[hne,hb]) hRB
  |false=>
   refine ite_f (by rw[hne,hb]) ?_
   unfold TC
   cases hdup:aX8 l i with
   |true=>
    obtain⟨k,q1,q2,q3,q4,q5,q6⟩:=cz2 hdup
    have hc:=cz4 u1 v1 v3 (by rw[q5,q4];exact q1)
    rw[q5,q6]at hc
    exact ite_t (by show decide ((1:Int)<(den ω' cX).toI)=true;rw[hc];rfl) hRB
   |false=>
    obtain⟨q1,q2,q3⟩:=cz1 hdup
    have hc:=cz4 u1 v1 v3 (by rw[q2,q3,a27];omega)
    rw[q2,q3,bw3 l (by omega)]at hc
    refine ite_f (by show decide ((1:Int)<(den ω' cX).toI)=false;rw[hc];rfl) ?_
    rw[q2]at hRG
    unfold TD
    cases hdd:a24 (atV l i)with
    |false=>
     refine ite_f (by rw[hd3,hdd]) ?_
     rw[hRG];rfl
    |true=>
     refine ite_t (by rw[hd3,hdd]) ?_
     cases hhv:hasV had.toL (P1 (atV l i))with
     |true=>
      refine ite_f (by show(!(dB ω' hX))=false;rw[dh,hhv];rfl) ?_
      rw[hRG];rfl
     |false=>
      refine ite_t (by show(!(dB ω' hX))=true;rw[dh,hhv];rfl) ?_
      rw[hRB];rfl
 rw[←hω,cd6]
 refine ite_t (by show decide ((ω'.w 2001).toI<((ω'.w 1).toL.length:Int))=true;rw[v1,u1];exact decide_eq_true (by show(i:Int)<(l.length:Int);omega)) (need_ok (by show decide ((0:Int)≤(ω'.w 2001).toI)=true;rw[v1];exact decide_eq_true (by show(0:Int)≤(i:Int);omega)) (need_ok ?_ ?_))
 ·show(decide ((0:Int)≤(den ω' kX).toI)&&decide ((den ω' kX).toI<((den ω' bX).toL.length:Int)))=true
  rw[dk,db]
  refine and2 (decide_eq_true (by show(0:Int)≤((Y7 (sN l i) (P1 (atV l i)):Nat):Int);omega)) (decide_eq_true ?_)
  show((Y7 (sN l i) (P1 (atV l i)):Nat):Int)<((bUp (sN l i) (atV l i)).length:Int)
  cases hdup:aX8 l i with
  |true=>
   obtain⟨k,q1,q2,q3,_⟩:=cz2 hdup
   rw[q2,q3,a27];omega
  |false=>
   obtain⟨q1,q2,q3⟩:=cz1 hdup
   unfold bUp
   rw[q1,a27,if_neg (E3 _),j5,a27]
   show(i:Int)<((i+1:Nat):Int);omega
 ·
  have hbad:ai0 l had.toL i=(!okC (atV l i)||(aX8 l i||a24 (atV l i)&& !hasV had.toL (P1 (atV l i)))):=by
   unfold ai0 cS0;rw[Bool.or_assoc]
  have e4: ∀(op:BinOp) (a b:SX),True:=fun _ _ _=>trivial
  have g4:dB ω' (zt (zg 1 2001 4) 0)=decide (0<(P3 (atV l i) 4).toI):=by
   show decide ((0:Int)<(den ω' (zg 1 2001 4)).toI)=_
   rw[show den ω' (zg 1 2001 4)=_ from hcol 4]
  have g41:dB ω' (zt (zg 1 2001 4) 1)=decide (1<(P3 (atV l i) 4).toI):=by
   show decide ((1:Int)<(den ω' (zg 1 2001 4)).toI)=_
   rw[show den ω' (zg 1 2001 4)=_ from hcol 4]
  have g67:dB ω' (.op (.cmp .leq) [zg 1 2001 6,zg 1 2001 7])=decide ((P3 (atV l i) 6).toI≤(P3 (atV l i) 7).toI):=by
   show decide ((den ω' (zg 1 2001 6)).toI≤(den ω' (zg 1 2001 7)).toI)=_
   rw[show den ω' (zg 1 2001 6)=_ from hcol 6,show den ω' (zg 1 2001 7)=_ from hcol 7]
  have gone:dB ω' (zn (ze (zg 1 2001 4) 1) (zn (.op (.cmp .eql) [zg 1 2001 5,zg 1 2001 5]) (zn (.op (.cmp .eql) [zg 1 2001 6,zg 1 2001 5]) (.op (.cmp .eql) [zg 1 2001 7,zg 1 2001 5]))))=decide ((P3 (atV l i) 4).toI=1∧(P3 (atV l i) 6).toI=(P3 (atV l i) 5).toI∧(P3 (atV l i) 7).toI=(P3 (atV l i) 5).toI):=by
   show(decide ((den ω' (zg 1 2001 4)).toI=1)&&(decide ((den ω' (zg 1 2001 5)).toI=(den ω' (zg 1 2001 5)).toI)&&(decide ((den ω' (zg 1 2001 6)).toI=(den ω' (zg 1 2001 5)).toI)&&decide ((den ω' (zg 1 2001 7)).toI=(den ω' (zg 1 2001 5)).toI))))=_
   rw[show den ω' (zg 1 2001 4)=_ from hcol 4,show den ω' (zg 1 2001 5)=_ from hcol 5,show den ω' (zg 1 2001 6)=_ from hcol 6,show den ω' (zg 1 2001 7)=_ from hcol 7]
   rw[r9];simp
  rw[hbad]
  have hokt:=df3 (atV l i)
  have hbk:am7 (atV l i)=true↔(P3 (atV l i) 4).toI=0∧(P3 (atV l i) 5).toI=0∧(P3 (atV l i) 6).toI=0∧(P3 (atV l i) 7).toI=0:=by
   unfold am7;simp only[Bool.and_eq_true,decide_eq_true_eq]
  have hok:okC (atV l i)=bif a24 (atV l i)then am7 (atV l i)else okV (aG2 (atV l i)):=rfl
  generalize (aX8 l i||a24 (atV l i)&& !hasV had.toL (P1 (atV l i)))=rest at hTB⊢
  generalize a24 (atV l i)=dd at hTB hok
  have fail:okC (atV l i)=false→O8 RB ω'=some (if !okC (atV l i)||rest then(2,[.vi i,.vi i,had,.vl (sUp (sN l i) (atV l i))])else(0,[.vi 0,.vi (i+1:Nat),had,.vl (sN l (i+1))])):=fun h=>by rw[hRB,h];rfl
  have pass:(!okC (atV l i))=(dd !=am7 (atV l i))→O8 TB ω'=some (if !okC (atV l i)||rest then(2,[.vi i,.vi i,had,.vl (sUp (sN l i) (atV l i))])else(0,[.vi 0,.vi (i+1:Nat),had,.vl (sN l (i+1))])):=fun h=>by rw[hTB,h]
  cases hbv:am7 (atV l i)with
  |true=>
   refine ite_t (by rw[hbl,hbv]) (pass ?_)
   have hz:=hbk.1 hbv
   have hv:okV (aG2 (atV l i))=false:=by rw[←m8];exact fun h=>(hokt.1 h).1 hz
   rw[hok,hbv,hv];cases dd<;>rfl
  |false=>
   refine ite_f (by rw[hbl,hbv]) ?_
   have hz: ¬_:=fun h=>by rw[hbk.2 h]at hbv;cases hbv
   have nok:okV (aG2 (atV l i))=false→okC (atV l i)=false:=fun h=>by rw[hok,hbv,h];cases dd<;>rfl
   have yok:okV (aG2 (atV l i))=true→(!okC (atV l i))=(dd !=am7 (atV l i)):=fun h=>by rw[hok,hbv,h];cases dd<;>rfl
   have nv: ¬((P3 (atV l i) 4).toI=1∧(P3 (atV l i) 5).toI=(P3 (atV l i) 6).toI∧(P3 (atV l i) 6).toI=(P3 (atV l i) 7).toI∨1<(P3 (atV l i) 4).toI∧(P3 (atV l i) 6).toI≤(P3 (atV l i) 7).toI)→okV (aG2 (atV l i))=false:=fun h=>by
    rw[←m8];exact fun h2=>h (hokt.1 h2).2
   by_cases c4:0<(P3 (atV l i) 4).toI
   ·refine ite_t (by rw[g4];exact decide_eq_true c4) ?_
    by_cases c67:(P3 (atV l i) 6).toI≤(P3 (atV l i) 7).toI
    ·refine ite_t (by rw[g67];exact decide_eq_true c67) ?_
     by_cases c41:1<(P3 (atV l i) 4).toI
     ·exact ite_t (by rw[g41];exact decide_eq_true c41) (pass (yok (hokt.2 ⟨hz,.inr ⟨c41,c67⟩⟩)))
     ·refine ite_f (by rw[g41];exact decide_eq_false c41) ?_
      by_cases c5:(P3 (atV l i) 4).toI=1∧(P3 (atV l i) 6).toI=(P3 (atV l i) 5).toI∧(P3 (atV l i) 7).toI=(P3 (atV l i) 5).toI
      ·exact ite_t (by rw[gone];exact decide_eq_true c5) (pass (yok (hokt.2 ⟨hz,.inl ⟨c5.1,by omega,by omega⟩⟩)))
      ·exact ite_f (by rw[gone];exact decide_eq_false c5) (fail (nok (nv (by omega))))
    ·exact ite_f (by rw[g67];exact decide_eq_false c67) (fail (nok (nv (by omega))))
   ·exact ite_f (by rw[g4];exact decide_eq_false c4) (fail (nok (nv (by omega))))
end Go.Ev
namespace Go.Ev
open Go
theorem df5{ω:Opq}{l:List Val}{had:Val}(h1:(ω.w 1).toL=l)(hl:l.length≤1000):Q9 (fun vs=>O8 cJ3 (ω.upd 2000 vs)) [.vi 0,.vi 0,had,.vl []]=some (aA4 l had):=by
 have st: ∀i,i<l.length→ai0 l had.toL i=false→O8 cJ3 (ω.upd 2000 [.vi 0,.vi i,had,.vl (sN l i)])=some (0,[.vi 0,.vi (i+1:Nat),had,.vl (sN l (i+1))]):=fun i hi hb=>by rw[cd9 h1 hi hl,hb];rfl
 unfold aA4
 split
 ·rename_i k hk
  obtain⟨a,b,c⟩:=a93 hk
  exact S5 (fun i=>[.vi 0,.vi i,had,.vl (sN l i)]) (n:=k) rfl (fun i hi=>st i (by omega) (c i hi)) (by
    show O8 cJ3 (ω.upd 2000 [.vi 0,.vi k,had,.vl (sN l k)])=_
    rw[cd9 h1 a hl,b];rfl)
 ·rename_i hk
  rw[C7]at hk
  exact S5 (fun i=>[.vi 0,.vi i,had,.vl (sN l i)]) (n:=l.length) rfl (fun i hi=>st i hi (by simpa using hk i hi)) (by
    show O8 cJ3 (ω.upd 2000 [.vi 0,.vi l.length,had,.vl (sN l l.length)])=_
    rw[cd6]
    refine ite_f ?_ rfl
    show decide ((l.length:Int)<((ω.w 1).toL.length:Int))=false
    rw[h1];exact decide_eq_false (by omega))
theorem d47(f g:Nat→Bool)(n:Nat):((List.range n).any fun i=>f i||g i)=((List.range n).any f||(List.range n).any g):=by
  rw[r9,m9,y5,y5,y5]
  constructor
  ·rintro⟨i,hi,h⟩
   rcases m9 _ _|>.mp h with h|h
   ·exact .inl ⟨i,hi,h⟩
   ·exact .inr ⟨i,hi,h⟩
  ·rintro(⟨i,hi,h⟩|⟨i,hi,h⟩)
   ·exact⟨i,hi,by rw[h];rfl⟩
   ·exact⟨i,hi,by rw[h];simp⟩
theorem bP3(rows l:List Val):((List.range l.length).any (ai0 l (rows.map Q8)))= !(am8 l&& !(List.range l.length).any (bQ3 rows l)):=by
 have:ai0 l (rows.map Q8)=fun i=>cS0 l i||bQ3 rows l i:=by
  funext i;unfold ai0 bQ3;rw[ba4]
 rw[this,d47]
 unfold am8
 cases (List.range l.length).any (cS0 l)<;>cases (List.range l.length).any (bQ3 rows l)<;>rfl
theorem bI1{l:List Val}(h:P4 l=true):bl2 l=(0,[.vi l.length,.vl (l.map Q8)]):=by
 unfold P4 at h
 have h2:(List.range l.length).find? (bm5 l)=none:=by
  rw[K6]
  intro i hi hb
  have:(List.range l.length).any (bm5 l)=true:=y5.2 ⟨i,hi,hb⟩
  rw[this]at h;cases h
 unfold bl2
 rw[h2]
 show(0,[Val.vi l.length,Val.vl (a10 (g7 l) l.length)])=_
 rw[bl4]
theorem ce0{l:List Val}(h:P4 l=false): ∃p,bl2 l=(1,p):=by
 unfold P4 at h
 unfold bl2
 split
 ·exact⟨_,rfl⟩
 ·rename_i hk
  rw[K6]at hk
  have:(List.range l.length).any (bm5 l)=true:=by simpa using h
  obtain⟨i,hi,hb⟩:=y5.1 this
  exact absurd hb (hk i hi)
theorem cN1{ω:Opq}(hf: ∀i a,ω.f i a=F i a)(hn0:(ω.w 0).toL.length≤400)(hn1:(ω.w 1).toL.length≤400):O8 b83 ω=some (0,[F 220 [ω.w 0,ω.w 1]]):=by
 have h220:F 220 [ω.w 0,ω.w 1]= .vb (P4 (ω.w 0).toL&&(am8 (ω.w 1).toL&& !(List.range (ω.w 1).toL.length).any (bQ3 (ω.w 0).toL (ω.w 1).toL))):=rfl
 have e140:ω.f 140 [.vi 0,.vl [],.vl [],.vi 0,.vi (ω.w 0).toL.length,ω.w 0,.vi (ω.w 0).toL.length]=T1 (bl2 (ω.w 0).toL):=by rw[hf];rfl
 rw[h220]
 unfold b83
 cases hr:P4 (ω.w 0).toL with
 |false=>
  obtain⟨p,hp⟩:=ce0 hr
  have lp:=d96 hf (ω:=ω) (by omega)
  rw[hp]at lp e140
  refine P5 lp e140 rfl
 |true=>
  have hp:=bI1 hr
  have lp:=d96 hf (ω:=ω) (by omega)
  rw[hp]at lp e140
  have d0:den ω ae1= .vl ((ω.w 0).toL.map Q8):=by
   show S4 (ω.f 140 [.vi 0,.vl [],.vl [],.vi 0,.vi (ω.w 0).toL.length,ω.w 0,.vi (ω.w 0).toL.length]).toL 1 1=_
   rw[e140];rfl
  have lp2:=df5 (ω:=ω) (l:=(ω.w 1).toL) (had:= .vl ((ω.w 0).toL.map Q8)) rfl (by omega)
  have e221:ω.f 221 [.vi 0,.vi 0,den ω ae1,.vl [],.vi 0,.vi (ω.w 1).toL.length,ω.w 1,den ω ae1,.vl [],.vi (ω.w 1).toL.length]=T1 (aA4 (ω.w 1).toL (.vl ((ω.w 0).toL.map Q8))):=by
   rw[hf,d0];rfl
  have hany:=bP3 (ω.w 0).toL (ω.w 1).toL
  refine P5 lp e140 (P5 (r:=aA4 (ω.w 1).toL (.vl ((ω.w 0).toL.map Q8))) ?_ e221 ?_)
  ·show Q9 _ [.vi 0,.vi 0,den ω ae1,.vl []]=_
   rw[d0];exact lp2
  ·cases hb:(List.range (ω.w 1).toL.length).any (ai0 (ω.w 1).toL ((ω.w 0).toL.map Q8))with
   |false=>
    have hfi:(List.range (ω.w 1).toL.length).find? (ai0 (ω.w 1).toL ((ω.w 0).toL.map Q8))=none:=by
     rw[K6]
     intro i hi hbi
     rw[y5.2 ⟨i,hi,hbi⟩]at hb;cases hb
    rw[hb]at hany
    have hg:(am8 (ω.w 1).toL&& !(List.range (ω.w 1).toL.length).any (bQ3 (ω.w 0).toL (ω.w 1).toL))=true:=by
     cases hq:(am8 (ω.w 1).toL&& !(List.range (ω.w 1).toL.length).any (bQ3 (ω.w 0).toL (ω.w 1).toL))with
     |true=>rfl
     |false=>rw[hq]at hany;cases hany
    rw[hg]
    have:aA4 (ω.w 1).toL (.vl ((ω.w 0).toL.map Q8))=(0,[.vi 0,.vi (ω.w 1).toL.length,.vl ((ω.w 0).toL.map Q8),.vl (sN (ω.w 1).toL (ω.w 1).toL.length)]):=by
     unfold aA4
     rw[show(Val.vl ((ω.w 0).toL.map Q8)).toL=(ω.w 0).toL.map Q8 from rfl,hfi]
    rw[this];rfl
   |true=>
    rw[hb]at hany
    have hg:(am8 (ω.w 1).toL&& !(List.range (ω.w 1).toL.length).any (bQ3 (ω.w 0).toL (ω.w 1).toL))=false:=by
     cases hq:(am8 (ω.w 1).toL&& !(List.range (ω.w 1).toL.length).any (bQ3 (ω.w 0).toL (ω.w 1).toL))with
     |false=>rfl
     |true=>rw[hq]at hany;cases hany
    rw[hg]
    obtain⟨k,hk⟩: ∃k,(List.range (ω.w 1).toL.length).find? (ai0 (ω.w 1).toL ((ω.w 0).toL.map Q8))=some k:=by
     cases hq:(List.range (ω.w 1).toL.length).find? (ai0 (ω.w 1).toL ((ω.w 0).toL.map Q8))with
     |some k=>exact⟨k,rfl⟩
     |none=>
      obtain⟨i,hi,hbi⟩:=y5.1 hb
      exact absurd hbi (K6.1 hq i hi)
    have hres: ∃x y,aA4 (ω.w 1).toL (.vl ((ω.w 0).toL.map Q8))=(1,[.vi k,.vi k,x,y]):=by
     unfold aA4
     rw[show(Val.vl ((ω.w 0).toL.map Q8)).toL=(ω.w 0).toL.map Q8 from rfl,hk]
     exact⟨_,_,rfl⟩
    obtain⟨x,y,hres⟩:=hres
    rw[hres]at e221⊢
    show some (0,[Val.vb (!decide ((0:Int)≤(S4 (ω.f 221 [.vi 0,.vi 0,den ω ae1,.vl [],.vi 0,.vi (ω.w 1).toL.length,ω.w 1,den ω ae1,.vl [],.vi (ω.w 1).toL.length]).toL 1 0).toI))])=_
    rw[e221]
    show some (0,[Val.vb (!decide ((0:Int)≤(k:Int)))])=_
    rw[decide_eq_true (by omega)];rfl
end Go.Ev
namespace Go.Ev
open Go
def ND(l:List Val):Prop:=(l.map P1).Nodup
theorem bI2{l:List Val}{i:Nat}(hi:i<l.length):l.take (i+1)=l.take i++[atV l i]:=by
 rw[O0]
 simp[atV,i3,hi]
theorem d48{l:List Val}(h: ∀i,i<l.length→aX8 l i=false):ND l:=by
 unfold ND
 rw[List.nodup_iff_pairwise_ne,List.pairwise_map,I0]
 intro i j hi hj hij e
 have e1: ∀k (hk:k<l.length),atV l k=l[k]:=fun k hk=>by simp[atV,i3,hk]
 have:=ba9.2 ⟨i,hij,by rw[e1 i hi,e1 j hj];exact e⟩
 rw[h j hj]at this;cases this
theorem cz5{A B:List Val}{x:Val}(h:ND (A++x::B)): ∀y,y∈A++B→ ¬P1 y=P1 x:=by
 unfold ND at h
 rw[x5,m5,G7]at h
 obtain⟨h1,h2,h3⟩:=h
 rw[N9]at h2
 intro y hy e
 rcases A0.1 hy with hy|hy
 ·exact h3 _ (N1 hy) _ C6 e
 ·exact h2.1 (by rw[←e];exact N1 hy)
theorem bw5{A B:List Val}{x:Val}{p:PaneM}(h: ∀y,y∈A→ ¬P1 y=p)(hx:P1 x=p):Y7 (A++x::B) p=A.length:=by
 refine cd7 (by simp) (by rw[S7.atV_mid rfl];exact hx) (fun j hj=> ?_)
 rw[cz0 hj]
 exact h _ (S7.atV_mem hj)
theorem cN2{m:List Val}{p:PaneM}(h: ∀y,y∈m→ ¬P1 y=p):Y7 m p=m.length:=
 bH8 fun j hj=>h _ (S7.atV_mem hj)
theorem bl6{A B:List Val}{x:Val}:(A++x::B).eraseIdx A.length=A++B:=by
 rw[List.eraseIdx_append_of_length_le (b9 _),B0];rfl
theorem aK0{m:List Val}{p:PaneM}(h: ∀y,y∈m→ ¬P1 y=p):m.filter (fun r=> !decide (P1 r=p))=m:=by
 rw[K7]
 intro y hy
 rw[decide_eq_false (h y hy)];rfl
theorem bI3{m:List Val}{c:Val}(h:ND m):(cL0 m c).Perm (m.filter (fun r=> !decide (P1 r=P1 c))++bG9 c):=by
 have hr:P1 (aG2 c)=P1 c:=rfl
 by_cases hex: ∃x,x∈m∧P1 x=P1 c
 ·obtain⟨x,hx,hp⟩:=hex
  obtain⟨A,B,rfl⟩:=List.append_of_mem hx
  have hmid:=cz5 h
  rw[hp]at hmid
  have hA: ∀y,y∈A→ ¬P1 y=P1 c:=fun y hy=>hmid y (N4 _ hy)
  have hB: ∀y,y∈B→ ¬P1 y=P1 c:=fun y hy=>hmid y (List.mem_append_right _ hy)
  have hs:cs1 (A++x::B) c=A++aG2 c::B:=by
   unfold cs1
   rw[bw5 hA hp,if_pos (by simp),S7.set_mid rfl]
  have hf:(A++x::B).filter (fun r=> !decide (P1 r=P1 c))=A++B:=by
   rw[B8,aK0 hA,List.filter_cons_of_neg (by rw[decide_eq_true hp];simp),aK0 hB]
  rw[hf]
  unfold cL0 bG9
  rw[hs]
  cases a24 c with
  |true=>rw[cond_true,cond_true,bw5 hA hr,bl6,v8]
  |false=>
   rw[cond_false,cond_false]
   refine(List.perm_middle).trans ?_
   exact(List.perm_append_singleton _ _).symm
 ·have hA: ∀y,y∈m→ ¬P1 y=P1 c:=fun y hy e=>hex ⟨y,hy,e⟩
  have hs:cs1 m c=m++[aG2 c]:=by
   unfold cs1
   rw[cN2 hA,if_neg (E3 _)]
  rw[aK0 hA]
  unfold cL0 bG9
  rw[hs]
  cases a24 c with
  |true=>rw[cond_true,cond_true,bw5 hA hr,bl6]
  |false=>exact List.Perm.refl _
theorem ah5{a b:List Val}(h:a.Perm b)(hb:ND b):ND a:=((h.map P1).nodup_iff).2 hb
theorem bI4{c x:Val}(h:x∈bG9 c):P1 x=P1 c:=by
 unfold bG9 at h
 cases hd:a24 c with
 |true=>rw[hd]at h;cases h
 |false=>rw[hd]at h;rw[x7.1 h];rfl
theorem d49{m:List Val}{c:Val}(h:ND m):ND (cL0 m c):=by
 refine ah5 (bI3 h) ?_
 unfold ND at h⊢
 rw[x5,G7]
 refine⟨h.sublist (E5.map _),?_,?_⟩
 ·unfold bG9;cases a24 c<;>simp
 ·intro p hp q hq e
  obtain⟨x,hx,rfl⟩:=o8.1 hp
  obtain⟨y,hy,rfl⟩:=o8.1 hq
  have:=(s9.1 hx).2
  rw[decide_eq_true (by rw[e];exact bI4 hy)]at this
  cases this
theorem bb0{m:List Val}(l:List Val)(h:ND m): ∀i,ND (bH0 m l i)
 |0=>h
 |i+1=>d49 (bb0 l h i)
theorem bP4(a:List Val)(c r:Val):a71 (a++[c]) r=(a71 a r||decide (P1 c=P1 r)):=by
 unfold a71;rw[List.any_append];simp
theorem bl7{m l:List Val}(hm:ND m)(hl:ND l): ∀i,i≤l.length→(bH0 m l i).Perm (m.filter (fun r=> !a71 (l.take i) r)++(l.take i).flatMap bG9)
 |0,_=>by
  show m.Perm _
  rw[List.take_zero]
  show m.Perm (m.filter (fun r=> !a71 [] r)++[])
  rw[v8,show m.filter (fun r=> !a71 [] r)=m from K7.2 (fun r _=>rfl)]
 |i+1,hi=>by
  have ih:=bl7 hm hl i (by omega)
  refine(bI3 (bb0 l hm i)).trans ?_
  rw[bI2 (by omega)]
  have hd: ∀y,y∈(l.take i).flatMap bG9→ ¬P1 y=P1 (atV l i):=by
   intro y hy e
   obtain⟨c,hc,hy⟩:=y6.1 hy
   have hs:ND (l.take i++atV l i::l.drop (i+1)):=by
    rw[show l.take i++atV l i::l.drop (i+1)=l by
     rw[show atV l i::l.drop (i+1)=[atV l i]++l.drop (i+1)from rfl,←u5,←bI2 (by omega),s7]]
    exact hl
   exact cz5 hs c (N4 _ hc) (by rw[←bI4 hy];exact e)
  rw[J3]
  have hp:((bH0 m l i).filter (fun r=> !decide (P1 r=P1 (atV l i)))).Perm (m.filter (fun r=> !a71 (l.take i++[atV l i]) r)++(l.take i).flatMap bG9):=by
   refine(ih.filter _).trans ?_
   rw[B8,aK0 hd,List.filter_filter]
   refine List.Perm.append_right _ ?_
   refine List.Perm.of_eq (List.filter_congr fun r _=> ?_)
   rw[bP4,Bool.not_or,Bool.and_comm]
   congr 2
   exact r9.2 ⟨fun h=>decide_eq_true (of_decide_eq_true h).symm,fun h=>decide_eq_true (of_decide_eq_true h).symm⟩
  refine(hp.append_right _).trans ?_
  rw[u5]
  refine List.Perm.of_eq ?_
  simp
theorem bl8(l:List Val): ∀rows:List Val,(rows.map Q8).filter (fun r=> !a71 l r)=rows.flatMap (bv4 l)
 | []=>rfl
 |r::rows=>by
  have ht:a71 l (Q8 r)=a71 l r:=rfl
  rw[m5,A4,←bl8 l rows]
  unfold bv4
  cases hh:a71 l r with
  |true=>rw[List.filter_cons_of_neg (by rw[ht,hh];simp)];rfl
  |false=>rw[List.filter_cons_of_pos (by rw[ht,hh];rfl)];rfl
theorem ce1{rows l:List Val}(hr:ND rows)(hl:ND l):(bH0 (rows.map Q8) l l.length).Perm (af5 rows l):=by
 have hm:ND (rows.map Q8):=by
  unfold ND at hr⊢
  rw[B6];exact hr
 have:=bl7 hm hl l.length (b9 _)
 rw[F8,bl8]at this
 exact this
theorem cN3{L:List Val}(h:ND L)(x:Val):(L.filter (S7.eqv none x)).length≤1:=by
 have h2:((L.filter (S7.eqv none x)).map P1).Nodup:=h.sublist (E5.map _)
 have h3: ∀y,y∈L.filter (S7.eqv none x)→P1 x=P1 y:=fun y hy=>by
  obtain⟨a,b⟩:=S7.eqv_iff.1 (s9.1 hy).2
  exact az8 a b
 match hf:L.filter (S7.eqv none x),h2,h3 with
 | [],_,_=>exact q9 _
 | [a],_,_=>exact b9 _
 |a::b::q,h2,h3=>
  exfalso
  rw[m5,N9]at h2
  exact h2.1 (by rw[←h3 a C6,h3 b (by simp)];exact C6)
theorem bI5{L M:List Val}(h:L.Perm M)(hL:ND L):S7.srt none L=S7.srt none M:=by
 refine S7.srt_cl fun x=> ?_
 have hp:=h.filter (S7.eqv none x)
 have h1:=cN3 hL x
 match hf:L.filter (S7.eqv none x),h1,hp with
 | [],_,hp=>exact(List.nil_perm.1 hp).symm
 | [a],_,hp=>exact List.singleton_perm.1 hp
 |_::_::_,h1,_=>simp at h1
end Go.Ev
namespace Go.Ev
open Go
def ky2:SX:= zu 1 2000
def k3X:SX:= .op (.mfind [.str,.int .i64,.int .i64]) [.va 2001,ky2]
def r3X:SX:= .op .row [zg 1 2000 0,zg 1 2000 1,zg 1 2000 2,zg 1 2000 4,zg 1 2000 5,zg 1 2000 6,zg 1 2000 7]
def s3X:SX:= .op .ite [zs k3X (zl 2001),.op .lset [.va 2001,k3X,r3X],zc (.va 2001) (.op .row [r3X])]
theorem ce2:d20= .ite (zs (.va 2000) (zl 1)) (.need (zp (.va 2000)) (.ite (zg 1 2000 3) (.ret 0 [zi (.va 2000),.op (.mdel [.str,.int .i64,.int .i64]) [s3X,ky2]]) (.ret 0 [zi (.va 2000),s3X]))) (.ret 1 [.va 2000,.va 2001]):=rfl
theorem cN4{ω:Opq}{l m:List Val}(h1:(ω.w 1).toL=l){i:Nat}(hi:i<l.length)(hl:l.length≤1000):
 O8 d20 (ω.upd 2000 [.vi i,.vl m])=some (0,[.vi (i+1:Nat),.vl (cL0 m (atV l i))]):=by
 obtain⟨ω',hω⟩: ∃ω',ω'=ω.upd 2000 [.vi i,.vl m]:=⟨_,rfl⟩
 have v0:ω'.w 2000= .vi i:=by rw[hω];rfl
 have v1:ω'.w 2001= .vl m:=by rw[hω];rfl
 have u1:(ω'.w 1).toL=l:=by rw[hω];exact h1
 have a1:arI .add .i64 (i:Int) 1=((i+1:Nat):Int):=a26 (by omega)
 have dky:den ω' ky2= .vl [P3 (atV l i) 0,P3 (atV l i) 1,P3 (atV l i) 2]:=by
  show Val.vl [S4 (ω'.w 1).toL (ω'.w 2000).toI 0,S4 (ω'.w 1).toL (ω'.w 2000).toI 1,S4 (ω'.w 1).toL (ω'.w 2000).toI 2]=_
  rw[u1,v0];rfl
 have fky: ∀m:List Val,(m.findIdx fun x=>keq [.str,.int .i64,.int .i64] x (den ω' ky2))=Y7 m (P1 (atV l i)):=fun m=>by
   rw[dky,ap7,af6]
 have dk:den ω' k3X= .vi (Y7 m (P1 (atV l i))):=by
  show Val.vi (((ω'.w 2001).toL.findIdx fun x=>keq [.str,.int .i64,.int .i64] x (den ω' ky2):Nat):Int)=_
  rw[fky,v1];rfl
 have dr:den ω' r3X=aG2 (atV l i):=by
  show Val.vl [S4 (ω'.w 1).toL (ω'.w 2000).toI 0,S4 (ω'.w 1).toL (ω'.w 2000).toI 1,S4 (ω'.w 1).toL (ω'.w 2000).toI 2,S4 (ω'.w 1).toL (ω'.w 2000).toI 4,S4 (ω'.w 1).toL (ω'.w 2000).toI 5,S4 (ω'.w 1).toL (ω'.w 2000).toI 6,S4 (ω'.w 1).toL (ω'.w 2000).toI 7]=_
  rw[u1,v0];rfl
 have ds:den ω' s3X= .vl (cs1 m (atV l i)):=by
  unfold s3X cs1
  rw[Z1]
  rw[show dB ω' (zs k3X (zl 2001))=decide (Y7 m (P1 (atV l i))<m.length) by
   show decide ((den ω' k3X).toI<((ω'.w 2001).toL.length:Int))=_
   rw[dk,v1];exact bv5 _ _]
  by_cases h:Y7 m (P1 (atV l i))<m.length
  ·rw[decide_eq_true h,if_pos h,cond_true]
   show Val.vl ((ω'.w 2001).toL.set (den ω' k3X).toI.toNat (den ω' r3X))=_
   rw[dk,v1,dr];rfl
  ·rw[decide_eq_false h,if_neg h,cond_false]
   show Val.vl ((ω'.w 2001).toL++[den ω' r3X])=_
   rw[v1,dr];rfl
 have hd:dB ω' (zg 1 2000 3)=a24 (atV l i):=by
  show(S4 (ω'.w 1).toL (ω'.w 2000).toI 3).toB=_
  rw[v0,u1];rfl
 rw[←hω,ce2]
 refine ite_t (by show decide ((ω'.w 2000).toI<((ω'.w 1).toL.length:Int))=true;rw[v0,u1];exact decide_eq_true (by show(i:Int)<(l.length:Int);omega)) (need_ok (by show decide ((0:Int)≤(ω'.w 2000).toI)=true;rw[v0];exact decide_eq_true (by show(0:Int)≤(i:Int);omega)) ?_)
 unfold cL0
 cases hb:a24 (atV l i)with
 |true=>
  refine ite_t (by rw[hd,hb]) ?_
  show some (0,[Val.vi (arI .add .i64 (ω'.w 2000).toI 1),.vl ((den ω' s3X).toL.eraseIdx ((den ω' s3X).toL.findIdx fun x=>keq [.str,.int .i64,.int .i64] x (den ω' ky2)))])=_
  rw[fky,ds,v0,O9,a1];rfl
 |false=>
  refine ite_f (by rw[hd,hb]) ?_
  show some (0,[Val.vi (arI .add .i64 (ω'.w 2000).toI 1),den ω' s3X])=_
  rw[ds,v0,O9,a1];rfl
theorem df6{ω:Opq}{l m:List Val}(h1:(ω.w 1).toL=l)(hl:l.length≤1000):Q9 (fun vs=>O8 d20 (ω.upd 2000 vs)) [.vi 0,.vl m]=some (0,[.vi l.length,.vl (bH0 m l l.length)]):=by
 refine S5 (fun i=>[.vi i,.vl (bH0 m l i)]) (n:=l.length) rfl (fun i hi=>cN4 h1 hi hl) ?_
 show O8 d20 (ω.upd 2000 [.vi l.length,.vl (bH0 m l l.length)])=_
 rw[ce2]
 refine ite_f ?_ rfl
 show decide ((l.length:Int)<((ω.w 1).toL.length:Int))=false
 rw[h1];exact decide_eq_false (by omega)
theorem bw6{ω:Opq}{hd:LHd}{l:SX}{b k:VT}{ks:List VT}{D:List Val}{x:Option (Nat×List Val)}(h1:cW7 (fun vs=>O8 b (ω.upd hd.v0 vs)) (dL ω l).length (P2 ω hd.s0) D)(h2:ω.f hd.id (P2 ω (hd.s0++hd.fv))=T1 (0,[.vi D.length,.vl D]))(h3:O8 k ω=x):O8 (.mloop hd l b (k::ks)) ω=x:=by
 rw[O8,if_pos ⟨D,h1,h2⟩];exact h3
def cN5:SX:= zc (.va 2001) (.op .row [.op .row [.op .lget [S6,.va 2002,.ci 0],.op .lget [S6,.va 2002,.ci 1],.op .lget [S6,.va 2002,.ci 2],.op .lget [S6,.va 2002,.ci 3],.op .lget [S6,.va 2002,.ci 4],.op .lget [S6,.va 2002,.ci 5],.op .lget [S6,.va 2002,.ci 6]]])
theorem cN6:cR0= .need (zn (.op (.cmp .eql) [.va 2000,zl 2001]) (zb (zL cN5) 1000000)) (.ret 0 [zL cN5,cN5]):=rfl
theorem cN7{ω:Opq}{N A:List Val}{i:Nat}(hN: ∀vs,den (ω.upd 2000 vs) S6= .vl N)(hA:A.length<1000000):
 O8 cR0 (ω.upd 2000 [.vi A.length,.vl A,.vi i])=some (0,[.vi (A++[Q8 (atV N i)]).length,.vl (A++[Q8 (atV N i)])]):=by
 obtain⟨ω',hω⟩: ∃ω',ω'=ω.upd 2000 [.vi A.length,.vl A,.vi i]:=⟨_,rfl⟩
 have v0:ω'.w 2000= .vi A.length:=by rw[hω];rfl
 have v1:ω'.w 2001= .vl A:=by rw[hω];rfl
 have v2:ω'.w 2002= .vi i:=by rw[hω];rfl
 have vN:den ω' S6= .vl N:=by rw[hω];exact hN _
 have dc:den ω' cN5= .vl (A++[Q8 (atV N i)]):=by
  show Val.vl ((ω'.w 2001).toL++[.vl [S4 (den ω' S6).toL (ω'.w 2002).toI 0,S4 (den ω' S6).toL (ω'.w 2002).toI 1,S4 (den ω' S6).toL (ω'.w 2002).toI 2,S4 (den ω' S6).toL (ω'.w 2002).toI 3,S4 (den ω' S6).toL (ω'.w 2002).toI 4,S4 (den ω' S6).toL (ω'.w 2002).toI 5,S4 (den ω' S6).toL (ω'.w 2002).toI 6]])=_
  rw[v1,v2,vN];rfl
 rw[←hω,cN6]
 refine need_ok ?_ ?_
 ·show(decide ((ω'.w 2000).toI=((ω'.w 2001).toL.length:Int))&&decide (((den ω' cN5).toL.length:Int)≤1000000))=true
  rw[v0,v1,dc]
  exact and2 (decide_eq_true rfl) (decide_eq_true (by show((A++[_]).length:Int)≤1000000;rw[j5];show((A.length+1:Nat):Int)≤1000000;omega))
 ·show some (0,[Val.vi ((den ω' cN5).toL.length:Int),den ω' cN5])=_
  rw[dc];rfl
theorem ce3{ω:Opq}{N:List Val}(hN: ∀vs,den (ω.upd 2000 vs) S6= .vl N): ∀(p:List Nat) (A:List Val),A.length+p.length≤1000000→
 aW9 (fun vs=>O8 cR0 (ω.upd 2000 vs)) p [.vi A.length,.vl A]=some [.vi (A++p.map fun i=>Q8 (atV N i)).length,.vl (A++p.map fun i=>Q8 (atV N i))]
 | [],A,_=>by rw[G0,v8];rfl
 |i::p,A,h=>by
  rw[List.length_cons]at h
  have ih:=ce3 hN p (A++[Q8 (atV N i)]) (by rw[j5];show A.length+1+p.length≤_;omega)
  rw[aW9,cN7 hN (by omega)]
  show aW9 _ p [.vi (A++[Q8 (atV N i)]).length,.vl (A++[Q8 (atV N i)])]=_
  rw[ih,u5];rfl
theorem bl9(N:List Val):(List.range N.length).map (fun i=>Q8 (atV N i))=N.map Q8:=by
 refine I8 (by simp) (fun i h1 h2=> ?_)
 have hi:i<N.length:=by simpa using h1
 simp[atV,i3,hi]
theorem d50{ω:Opq}{N:List Val}(hN: ∀vs,den (ω.upd 2000 vs) S6= .vl N)(hl:N.length≤1000000):cW7 (fun vs=>O8 cR0 (ω.upd 2000 vs)) N.length [.vi (0:Nat),.vl []] (N.map Q8):=by
 constructor
 ·have:=ce3 hN (List.range N.length) [] (by simpa using hl)
  rw[bl9]at this
  exact this
 ·intro p hp
  have:=ce3 hN p [] (by rw[hp.length_eq];simpa using hl)
  refine⟨_,this,?_⟩
  rw[←bl9]
  exact hp.map _
theorem dk0{a b c:Bool}(h1:a=true)(h2:b=true)(h3:c=true):(a&&(b&&c))=true:=by rw[h1,h2,h3];rfl
theorem d51{l:List Val}{bad:Nat→Bool}(h:(!(List.range l.length).any fun i=>bad i||aX8 l i)=true): ∀i,i<l.length→aX8 l i=false:=by
  intro i hi
  cases hd:aX8 l i with
  |false=>rfl
  |true=>
   have:((List.range l.length).any fun i=>bad i||aX8 l i)=true:=y5.2 ⟨i,r7.2 hi,by rw[hd,Bool.or_true]⟩
   rw[this]at h;cases h
theorem bP5(rows l:List Val):(af5 rows l).length≤rows.length+l.length:=by
 unfold af5
 rw[j5]
 have a1:=a94 (cd4 l) rows
 have a2:=a94 cs6 l
 omega
theorem cs8{ω:Opq}(hf: ∀i a,ω.f i a=F i a)(hn0:(ω.w 0).toL.length≤200)(hn1:(ω.w 1).toL.length≤200)(k0:(F 431 [ω.w 0]).toB=true)(k1:(F 433 [ω.w 1]).toB=true):
 O8 aJ2 ω=some (0,[F 232 [ω.w 0,ω.w 1],F 222 [ω.w 0,ω.w 1]]):=by
 have h232:F 232 [ω.w 0,ω.w 1]= .vi (bif a69 (ω.w 0).toL (ω.w 1).toL then 0 else 2):=rfl
 have h222:F 222 [ω.w 0,ω.w 1]= .vl (bif a69 (ω.w 0).toL (ω.w 1).toL then S7.srt none (af5 (ω.w 0).toL (ω.w 1).toL)else []):=rfl
 have h220:ω.f 220 [ω.w 0,ω.w 1]= .vb (a69 (ω.w 0).toL (ω.w 1).toL):=by rw[hf];rfl
 rw[h232,h222]
 unfold aJ2
 refine need_ok (by show(decide (((ω.w 0).toL.length:Int)≤400)&&decide (((ω.w 1).toL.length:Int)≤400))=true;exact and2 (decide_eq_true (by omega)) (decide_eq_true (by omega))) ?_
 cases hr:a69 (ω.w 0).toL (ω.w 1).toL with
 |false=>exact ite_t (by show(!(ω.f 220 [ω.w 0,ω.w 1]).toB)=true;rw[h220,hr];rfl) rfl
 |true=>
  refine ite_f (by show(!(ω.f 220 [ω.w 0,ω.w 1]).toB)=false;rw[h220,hr];rfl) ?_
  have hro:=cd5 (S7.f431 k0).2 (dm4 k1).2
  obtain⟨r1,r2⟩:=O4 (show(P4 (ω.w 0).toL&&(am8 (ω.w 1).toL&& !(List.range (ω.w 1).toL.length).any (bQ3 (ω.w 0).toL (ω.w 1).toL)))=true from hr)
  obtain⟨r2,_⟩:=O4 r2
  have n0:ND (ω.w 0).toL:=d48 (d51 (bad:=fun i=> !okV (atV (ω.w 0).toL i)) r1)
  have n1:ND (ω.w 1).toL:=d48 (d51 (bad:=fun i=> !okC (atV (ω.w 1).toL i)) r2)
  have hp:=ce1 n0 n1
  have hlr:=bP5 (ω.w 0).toL (ω.w 1).toL
  have nN:ND (bH0 ((ω.w 0).toL.map Q8) (ω.w 1).toL (ω.w 1).toL.length):=bb0 _ (by unfold ND at n0⊢;rw[List.map_map];exact n0) _
  have h0:=bI1 r1
  have lp:=d96 hf (ω:=ω) (by omega)
  have e140:ω.f 140 [.vi 0,.vl [],.vl [],.vi 0,.vi (ω.w 0).toL.length,ω.w 0,.vi (ω.w 0).toL.length]=T1 (bl2 (ω.w 0).toL):=by rw[hf];rfl
  rw[h0]at lp e140
  have d0:den ω Y6= .vl ((ω.w 0).toL.map Q8):=by
   show S4 (ω.f 140 [.vi 0,.vl [],.vl [],.vi 0,.vi (ω.w 0).toL.length,ω.w 0,.vi (ω.w 0).toL.length]).toL 1 1=_
   rw[e140];rfl
  have lp2:=df6 (ω:=ω) (l:=(ω.w 1).toL) (m:=(ω.w 0).toL.map Q8) rfl (by omega)
  have e223:ω.f 223 [.vi 0,den ω Y6,den ω Y6,.vi 0,.vi (ω.w 1).toL.length,ω.w 1,.vi (ω.w 1).toL.length]=T1 (0,[.vi (ω.w 1).toL.length,.vl (bH0 ((ω.w 0).toL.map Q8) (ω.w 1).toL (ω.w 1).toL.length)]):=by
   rw[hf,d0];rfl
  have d0': ∀vs,den (ω.upd 2000 vs) Y6= .vl ((ω.w 0).toL.map Q8):=fun vs=>d0
  have d1': ∀vs,den (ω.upd 2000 vs) S6= .vl (bH0 ((ω.w 0).toL.map Q8) (ω.w 1).toL (ω.w 1).toL.length):=fun vs=>by
   show S4 (ω.f 223 [.vi 0,den ω Y6,den ω Y6,.vi 0,.vi (ω.w 1).toL.length,ω.w 1,.vi (ω.w 1).toL.length]).toL 1 1=_
   rw[e223];rfl
  have d1:den ω S6= .vl (bH0 ((ω.w 0).toL.map Q8) (ω.w 1).toL (ω.w 1).toL.length):=by
   show S4 (ω.f 223 [.vi 0,den ω Y6,den ω Y6,.vi 0,.vi (ω.w 1).toL.length,ω.w 1,.vi (ω.w 1).toL.length]).toL 1 1=_
   rw[e223];rfl
  generalize bH0 ((ω.w 0).toL.map Q8) (ω.w 1).toL (ω.w 1).toL.length=N at*
  have hlen:N.length≤400:=by rw[hp.length_eq];omega
  have hok:N.all S7.okK=true:=by
   rw[j6]at hro⊢
   exact fun x hx=>hro x (hp.mem_iff.1 hx)
  have hNN:N.map Q8=N:=S7.map_norm hok
  have mp:=d50 d1' (by omega)
  rw[hNN]at mp
  have d2:den ω az3=T1 (0,[.vi N.length,.vl N]):=by
   show ω.f 224 [.vi (0:Nat),.vl [],den ω S6]=_
   rw[hf,d1]
   show T1 (0,[.vi N.length,.vl (N.map Q8)])=_
   rw[hNN]
  have d3:den ω a21= .vl N:=by show S4 (den ω az3).toL 1 1=_;rw[d2];rfl
  refine P5 lp e140 (P5 (r:=(0,[.vi (ω.w 1).toL.length,.vl N])) ?_ e223 (bw6 (D:=N) ?_ d2 (need_ok ?_ ?_)))
  ·show Q9 _ [.vi 0,den ω Y6]=_
   rw[d0];exact lp2
  ·show cW7 (fun vs=>O8 cR0 (ω.upd 2000 vs)) (den ω S6).toL.length [.vi (0:Nat),.vl []] N
   rw[d1];exact mp
  ·show(decide ((S4 (den ω az3).toL 1 0).toI=((den ω a21).toL.length:Int))&&((decide (((den ω a21).toL.length:Int)≤400)&&(ω.f 431 [den ω a21]).toB)&&(ω.f 491 [den ω a21]).toB))=true
   rw[d3,d2,hf,hf]
   refine dk0 (decide_eq_true rfl) (and2 (decide_eq_true (by show(N.length:Int)≤400;omega)) ?_) ?_
   ·show(S7.isL (.vl N)&&N.all S7.okK)=true
    exact and2 rfl hok
   ·exact decide_eq_true nN
  ·show some (0,[.vi 0,ω.f 490 [den ω a21]])=_
   rw[hf,d3]
   show some (0,[Val.vi 0,.vl (S7.srt none N)])=_
   rw[bI5 hp nN];rfl
end Go.Ev
