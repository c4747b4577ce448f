import Derived.Test.YtbfbcanipfnfeaaEG1
import Derived.Test.YtbfbcanipfnfeaaET12
set_option linter.unusedSimpArgs false
set_option linter.unusedVariables false
namespace Go.Ev
open Go
@[simp]theorem N5(n:Int):(Val.vi n).toI=n:=rfl
@[simp]theorem Z9(n:List UInt8):(Val.vs n).toS=n:=rfl
@[simp]theorem Q7(n:Bool):(Val.vb n).toB=n:=rfl
@[simp]theorem O8(n:List Val):(Val.vl n).toL=n:=rfl
structure ChgM where
 key:List UInt8
 a:Int
 b:Int
 dead:Bool
 c:Int
 d:Int
 e:Int
 f:Int
 deriving DecidableEq
def bN4(r:Val):ChgM:=⟨(N3 r 0).toS,(N3 r 1).toI,(N3 r 2).toI,(N3 r 3).toB,(N3 r 4).toI,(N3 r 5).toI,(N3 r 6).toI,(N3 r 7).toI⟩
theorem bE0(a b:Val):bN4 a=bN4 b↔((N3 a 0).toS=(N3 b 0).toS∧(N3 a 1).toI=(N3 b 1).toI∧(N3 a 2).toI=(N3 b 2).toI)∧(N3 a 3).toB=(N3 b 3).toB∧(N3 a 4).toI=(N3 b 4).toI∧(N3 a 5).toI=(N3 b 5).toI∧(N3 a 6).toI=(N3 b 6).toI∧(N3 a 7).toI=(N3 b 7).toI:=by
 simp only[bN4,ChgM.mk.injEq]
 constructor<;>intro h<;>simp_all
def bM2(v:Val):List ChgM:=v.toL.map bN4
def okV(r:Val):Bool:= !(decide ((N3 r 3).toI=0)&&(decide ((N3 r 4).toI=0)&&(decide ((N3 r 5).toI=0)&&decide ((N3 r 6).toI=0))))&&(decide ((N3 r 3).toI=1)&&(decide ((N3 r 4).toI=(N3 r 5).toI)&&decide ((N3 r 5).toI=(N3 r 6).toI))||decide (1<(N3 r 3).toI)&&decide ((N3 r 5).toI≤(N3 r 6).toI))
theorem c74(r:Val):okV r=true↔ ¬((N3 r 3).toI=0∧(N3 r 4).toI=0∧(N3 r 5).toI=0∧(N3 r 6).toI=0)∧((N3 r 3).toI=1∧(N3 r 4).toI=(N3 r 5).toI∧(N3 r 5).toI=(N3 r 6).toI∨1<(N3 r 3).toI∧(N3 r 5).toI≤(N3 r 6).toI):=by
 simp only[okV,d6,j8,m6,D2,decide_eq_true_eq,decide_eq_false_iff_not]
 constructor<;>intro h<;>omega
theorem cH0(r:Val):okV r=false↔ ¬(¬((N3 r 3).toI=0∧(N3 r 4).toI=0∧(N3 r 5).toI=0∧(N3 r 6).toI=0)∧((N3 r 3).toI=1∧(N3 r 4).toI=(N3 r 5).toI∧(N3 r 5).toI=(N3 r 6).toI∨1<(N3 r 3).toI∧(N3 r 5).toI≤(N3 r 6).toI)):=by
 rw[←c74];simp
def bM3(l:List Val)(i k:Nat):Bool:=decide (N4 (atV l k)=N4 (atV l i))
def ay5(l:List Val)(i:Nat):Bool:=(List.range i).any (bM3 l i)
def aT4(l:List Val)(i:Nat):Bool:= !okV (atV l i)||ay5 l i
def O0(l:List Val):Bool:= !(List.range l.length).any (aT4 l)
def W6(l:List Val)(p:PaneM):Nat:=l.findIdx fun r=>decide (N4 r=p)
def ab9(l:List Val)(p:PaneM):Bool:=decide (W6 l p<l.length)
def c75(r:Val):Val:= .vl [N3 r 0,N3 r 1,N3 r 2,.vb true,.vi 0,.vi 0,.vi 0,.vi 0]
def d55(r:Val):Val:= .vl [N3 r 0,N3 r 1,N3 r 2,.vb false,N3 r 3,N3 r 4,N3 r 5,N3 r 6]
def Y2(m:List Val)(r:Val):List Val:=bif ab9 m (N4 r)then []else [c75 r]
def br5(a b:Val):Bool:=decide ((N3 a 3).toI=(N3 b 3).toI∧(N3 a 4).toI=(N3 b 4).toI∧(N3 a 5).toI=(N3 b 5).toI∧(N3 a 6).toI=(N3 b 6).toI)
def ap9(m:List Val)(r:Val):List Val:=bif ab9 m (N4 r)&&br5 (atV m (W6 m (N4 r))) r then []else [d55 r]
def af1(a b:List Val):List Val:=a.flatMap (Y2 b)++b.flatMap (ap9 a)
def df2:Val:= .vl [.vs [63],.vi 0,.vi 0,.vb false,.vi 0,.vi 0,.vi 0,.vi 0]
def aA8(v:Val):Nat→Val
 |0=>v
 |n+1=> .vl ((aA8 v n).toL.set n df2)
def df3:Val:= .vl [.vs [63],.vi 0,.vi 0,.vi 0,.vi 0,.vi 0,.vi 0]
def av3(v:Val):Nat→Val
 |0=>v
 |n+1=> .vl ((av3 v n).toL.set n df3)
theorem aX5(v:Val): ∀n,(aA8 v n).toL.length=v.toL.length
 |0=>rfl
 |n+1=>by rw[aA8,O8,s9,aX5 v n]
def br6(a:List Val)(i:Nat):PaneM:=⟨(arg a i).toS,(arg a (i+1)).toI,(arg a (i+2)).toI⟩
def aa7(a0:List Val)(g:Val→List Val)(l:List Val):Val:=S6 (0,[.vi (T9 a0 g l).length,.vi l.length,.vl (T9 a0 g l)])
def bh3(l:List Val):Nat×List Val:=match(List.range l.length).find? (aT4 l)with
 |some k=>(1,[.vi k,.vl (a02 (fun i=>[O1 (atV l i)]) k)])
 |none=>(0,[.vi l.length,.vl (a02 (fun i=>[O1 (atV l i)]) l.length)])
def aT5(l:List Val)(p:PaneM):Nat×List Val:=bif ab9 l p then(1,[.vb true,.vi (W6 l p),N3 (atV l (W6 l p)) 3,N3 (atV l (W6 l p)) 4,N3 (atV l (W6 l p)) 5,N3 (atV l (W6 l p)) 6])else(0,[.vb false,.vi l.length,.vi 0,.vi 0,.vi 0,.vi 0])
def ay6(r:Val):Val:= .vl [N3 r 0,N3 r 1,N3 r 2,N3 r 4,N3 r 5,N3 r 6,N3 r 7]
def a16(r:Val):Bool:=(N3 r 3).toB
def ae6(r:Val):Bool:=decide ((N3 r 4).toI=0)&&(decide ((N3 r 5).toI=0)&&(decide ((N3 r 6).toI=0)&&decide ((N3 r 7).toI=0)))
def okC(r:Val):Bool:=bif a16 r then ae6 r else okV (ay6 r)
def bN5(l:List Val)(i:Nat):Bool:= !okC (atV l i)||ay5 l i
def ac0(l:List Val):Bool:= !(List.range l.length).any (bN5 l)
def b75(rows l:List Val)(i:Nat):Bool:=a16 (atV l i)&& !ab9 rows (N4 (atV l i))
def a86(rows l:List Val):Bool:=O0 rows&&(ac0 l&& !(List.range l.length).any (b75 rows l))
def a00(l:List Val)(r:Val):Bool:=l.any fun c=>decide (N4 c=N4 r)
def a87(l:List Val)(r:Val):List Val:=bif a00 l r then []else [O1 r]
def aB8(c:Val):List Val:=bif a16 c then []else [ay6 c]
def ac1(rows l:List Val):List Val:=rows.flatMap (a87 l)++l.flatMap aB8
def cm7(m:List Val)(c:Val):List Val:=if W6 m (N4 c)<m.length then m.set (W6 m (N4 c)) (ay6 c)else m++[ay6 c]
def cH1(m:List Val)(c:Val):List Val:=bif a16 c then(cm7 m c).eraseIdx (W6 (cm7 m c) (N4 c))else cm7 m c
def bE1(m l:List Val):Nat→List Val
 |0=>m
 |i+1=>cH1 (bE1 m l i) (atV l i)
def cm8(r:Val):Val:= .vl [N3 r 0,N3 r 1,N3 r 2,.vi 1]
def sN(l:List Val)(i:Nat):List Val:=a02 (fun k=>[cm8 (atV l k)]) i
def bUp(s:List Val)(r:Val):List Val:=if W6 s (N4 r)<s.length then s else s++[.vl [N3 r 0,N3 r 1,N3 r 2,.vi 0]]
def cUp(s:List Val)(r:Val):Int:=if W6 s (N4 r)<s.length then(N3 (atV s (W6 s (N4 r))) 3).toI else 0
def sUp(s:List Val)(r:Val):List Val:=(bUp s r).set (W6 s (N4 r)) (.vl [N3 (atV (bUp s r) (W6 s (N4 r))) 0,N3 (atV (bUp s r) (W6 s (N4 r))) 1,N3 (atV (bUp s r) (W6 s (N4 r))) 2,.vi (arI .add .i64 (cUp s r) 1)])
def ae7(l had:List Val)(i:Nat):Bool:=bN5 l i||a16 (atV l i)&& !ab9 had (N4 (atV l i))
def av4(l:List Val)(had:Val):Nat×List Val:=match(List.range l.length).find? (ae7 l had.toL)with
 |some i=>(1,[.vi i,.vi i,had,.vl (sUp (sN l i) (atV l i))])
 |none=>(0,[.vi 0,.vi l.length,had,.vl (sN l l.length)])
noncomputable def F(id:Nat)(a:List Val):Val:=match id with
 |1=> .vb (!(arg a 0).toL.any bq3)
 |3=> .vb (eqB (bL9 (arg a 0)) (bL9 (arg a 1)))
 |30=> .vl ((arg a 0).toL.map O1)
 |200=> .vl ((arg a 0).toL.map W0)
 |201=> .vb (eqB (bM2 (arg a 0)) (bM2 (arg a 1)))
 |202=> .vb (O0 (arg a 0).toL)
 |203=> .vl [.vl ((aT5 (arg a 0).toL (br6 a 1)).2.drop 2)]
 |204=> .vb (ab9 (arg a 0).toL (br6 a 1))
 |205=> .vb (af0 (br6 a 0) (br6 a 3))
 |206=> .vi (cP7 (br6 a 0) (br6 a 3))
 |207=> .vl (ab8 (arg a 0).toL)
 |208=> .vl (bif O0 (arg a 0).toL&&O0 (arg a 1).toL then ab8 (af1 (arg a 0).toL (arg a 1).toL)else [])
 |209=> .vi (bif O0 (arg a 0).toL&&O0 (arg a 1).toL then 0 else 2)
 |211=> .vl (at3 cfV (arg a 0).toL)
 |101=>bq4 bq3 (arg a 4).toL
 |103=>aa7 [] (fun r=>[O1 r]) (arg a 5).toL
 |107=>cm5 bN3 (arg a 4).toL (arg a 7).toL
 |130=>aa7 [] (fun r=>[W0 r]) (arg a 5).toL
 |131=>cm5 bN4 (arg a 4).toL (arg a 7).toL
 |132=>S6 (0,[.vi (arg a 2).toI.toNat,aA8 (arg a 1) (arg a 2).toI.toNat])
 |133=>S6 (a84 (.vb false) (fun k=>[.vb false,.vi k]) (aT4 (arg a 4).toL) (arg a 4).toL.length)
 |134=>S6 (a84 (arg a 0) (fun k=>[.vb false,.vi k]) (bM3 (arg a 4).toL (arg a 5).toI.toNat) (arg a 5).toI.toNat)
 |135=>S6 (aT5 (arg a 8).toL (br6 a 9))
 |136=>S6 (0,[.vi (arg a 5).toL.length,.vi (arg a 5).toL.length,.vl (ab8 (arg a 5).toL)])
 |137=>S6 (0,[.vi (bub (arg a 1).toL (arg a 0).toI.toNat).1,.vl (bub (arg a 1).toL (arg a 0).toI.toNat).2])
 |140=>S6 (bh3 (arg a 5).toL)
 |141=>aa7 [] (Y2 (arg a 7).toL) (arg a 10).toL
 |142=>aa7 (arg a 2).toL (ap9 (arg a 3).toL) (arg a 6).toL
 |143=>aa7 [] (Y2 (arg a 8).toL) (arg a 5).toL
 |144=>aa7 (arg a 2).toL (ap9 (arg a 5).toL) (arg a 8).toL
 |220=> .vb (a86 (arg a 0).toL (arg a 1).toL)
 |221=>S6 (av4 (arg a 6).toL (arg a 2))
 |222=> .vl (bif a86 (arg a 0).toL (arg a 1).toL then S7.srt false (ac1 (arg a 0).toL (arg a 1).toL)else [])
 |232=> .vi (bif a86 (arg a 0).toL (arg a 1).toL then 0 else 2)
 |223=>S6 (0,[.vi (arg a 5).toL.length,.vl (bE1 (arg a 1).toL (arg a 5).toL (arg a 5).toL.length)])
 |224=>S6 (0,[.vi (arg a 2).toL.length,.vl ((arg a 2).toL.map O1)])
 |225=> .vb (ac0 (arg a 0).toL)
 |226=>S6 (a84 (.vb false) (fun k=>[.vb false,.vi k]) (bN5 (arg a 4).toL) (arg a 4).toL.length)
 |227=>S6 (a84 (arg a 0) (fun k=>[.vb false,.vi k]) (bM3 (arg a 4).toL (arg a 5).toI.toNat) (arg a 5).toI.toNat)
 |228=>S6 (a84 (.vb false) (fun k=>[.vb false,.vi k]) (b75 (arg a 4).toL (arg a 7).toL) (arg a 7).toL.length)
 |229=>aa7 [] (a87 (arg a 8).toL) (arg a 5).toL
 |230=>S6 (0,[.vb (a00 (arg a 7).toL (atV (arg a 4).toL (arg a 10).toI.toNat)),.vi (arg a 7).toL.length])
 |231=>aa7 (arg a 2).toL aB8 (arg a 5).toL
 |480=>S6 (0,[.vi (arg a 5).toL.length,.vi (arg a 5).toL.length,.vl (S7.srt false ((arg a 5).toL.map O1))])
 |481=>S6 (0,[.vi (S7.bubA false 0 (arg a 1).toL (arg a 0).toI.toNat).1,.vl (S7.bubA false 0 (arg a 1).toL (arg a 0).toI.toNat).2])
 |212=> .vb (!(arg a 0).toL.any bq3&&decide ((arg a 0).toL.length≤30))
 |450=>bq4 bq3 (arg a 4).toL
 |456=>S6 (0,[.vi (arg a 2).toI.toNat,av3 (arg a 1) (arg a 2).toI.toNat])
 |491=> .vb (decide (((arg a 0).toL.map N4).Nodup))
 |i=>S7.GX i a
theorem Y8(x:Val)(l:List Val):arg (x::l) 0=x:=rfl
theorem Y9(x:Val)(l:List Val)(n:Nat):arg (x::l) (n+1)=arg l n:=rfl
theorem b57(a b:Nat):decide ((a:Int)<(b:Int))=decide (a<b):=by simp
theorem av5(ω:Opq)(v0:Nat)(l:List Val):(ω.upd v0 l).f=ω.f:=rfl
theorem N8(ω:Opq)(v0:Nat)(l:List Val)(n:Nat):(ω.upd v0 l).w n=if v0≤n then l.getD (n-v0) (.vb false)else ω.w n:=rfl
@[simp]theorem Q2{i:Nat}(h:i≤10000000):arI .add .i64 (i:Int) 1=((i+1:Nat):Int):=bL8 h
@[simp]theorem O5(a b:Int):b02 .lss a b=decide (a<b):=rfl
@[simp]theorem P2(a b:Int):b02 .leq a b=decide (a≤b):=rfl
@[simp]theorem W1(a b:Int):b02 .gtr a b=decide (b<a):=rfl
@[simp]theorem d56(a b:Int):b02 .geq a b=decide (b≤a):=rfl
@[simp]theorem R1(a b:Int):b02 .eql a b=decide (a=b):=rfl
@[simp]theorem cm9(a b:Int):b02 .neq a b= !decide (a=b):=rfl
@[simp]theorem d57(a b:List UInt8):bH4 .eql a b=decide (a=b):=rfl
@[simp]theorem cn0(a b:List UInt8):bH4 .neq a b= !decide (a=b):=rfl
theorem bE2(bad:Val→Bool)(l:List Val):bq4 bad l=S6 (if l.any bad then(1,[.vb false,.vi (((List.range l.length).find? (fun i=>bad (atV l i))).getD 0)])else(0,[.vb false,.vi l.length])):=by
  rw[bq4,Y6]
  rw[show(List.range l.length).any (fun i=>bad (atV l i))=l.any bad from au9 bad (.vl []) l]
theorem b58(bad:Val→Bool)(l:List Val)(px:Nat→List Val)(x:Val):a84 x px (fun i=>bad (atV l i)) l.length=if l.any bad then(1,px (((List.range l.length).find? (fun i=>bad (atV l i))).getD 0))else(0,[x,.vi l.length]):=by
  rw[Y6]
  rw[show(List.range l.length).any (fun i=>bad (atV l i))=l.any bad from au9 bad (.vl []) l]
theorem c76{α:Type} [DecidableEq α](m:Val→α)(l r:List Val)(h:l.length=r.length):((List.range l.length).any fun i=> !decide (m (atV l i)=m (atV r i)))= !decide (l.map m=r.map m):=bC7 m (.vl []) l r h
theorem aR0{α:Type} [DecidableEq α](m:Val→α)(l r:List Val)(h:l.length=r.length)(px:Nat→List Val)(x:Val):a84 x px (fun i=> !decide (m (atV l i)=m (atV r i))) l.length=if l.map m=r.map m then(0,[x,.vi l.length])else(1,px (((List.range l.length).find? (fun i=> !decide (m (atV l i)=m (atV r i)))).getD 0)):=by
 rw[Y6,c76 m l r h]
 by_cases h1:l.map m=r.map m<;>simp[h1]
theorem aE7{α:Type} [DecidableEq α](m:Val→α)(l r:List Val)(h:l.length=r.length):cm5 m l r=S6 (if l.map m=r.map m then(0,[.vb false,.vi l.length])else(1,[.vb false,.vi (((List.range l.length).find? (fun i=> !decide (m (atV l i)=m (atV r i)))).getD 0)])):=by
 rw[cm5,aR0 m l r h]
theorem cu5{α:Type}(m:Val→α){l r:List Val}(h:l.length≠r.length): ¬l.map m=r.map m:=fun e=>h (by simpa using congrArg List.length e)
theorem bE3(a b:Val):bN3 a=bN3 b↔((N3 a 0).toS=(N3 b 0).toS∧(N3 a 1).toI=(N3 b 1).toI∧(N3 a 2).toI=(N3 b 2).toI)∧(N3 a 3).toI=(N3 b 3).toI∧(N3 a 4).toI=(N3 b 4).toI∧(N3 a 5).toI=(N3 b 5).toI∧(N3 a 6).toI=(N3 b 6).toI:=by
 simp only[bN3,RowM.mk.injEq]
 constructor<;>intro h<;>simp_all
theorem ai3(a b:Val):N4 a=N4 b↔(N3 a 0).toS=(N3 b 0).toS∧(N3 a 1).toI=(N3 b 1).toI∧(N3 a 2).toI=(N3 b 2).toI:=by
 simp only[N4,PaneM.mk.injEq]
theorem S2(l:List Val)(i:Nat):Q5 l (i:Int) 0=N3 (atV l i) 0:=rfl
theorem S3(l:List Val)(i:Nat):Q5 l (i:Int) 1=N3 (atV l i) 1:=rfl
theorem S4(l:List Val)(i:Nat):Q5 l (i:Int) 2=N3 (atV l i) 2:=rfl
theorem U6(l:List Val)(i:Nat):Q5 l (i:Int) 3=N3 (atV l i) 3:=rfl
theorem U9(l:List Val)(i:Nat):Q5 l (i:Int) 4=N3 (atV l i) 4:=rfl
theorem V0(l:List Val)(i:Nat):Q5 l (i:Int) 5=N3 (atV l i) 5:=rfl
theorem V3(l:List Val)(i:Nat):Q5 l (i:Int) 6=N3 (atV l i) 6:=rfl
end Go.Ev
namespace Go.Ev.S7
open Go Go.Ev
theorem d58{x:Int}(h: -9223372036854775808≤x)(h2:x<9223372036854775808):IntKind.i64.wrap x=x:=by
 simp only[IntKind.wrap,IntKind.bits,IntKind.signed]
 simp
 omega
theorem add64{x y:Int}(h: -9223372036854775808≤x+y)(h2:x+y<9223372036854775808):arI .add .i64 x y=x+y:=d58 h h2
theorem cH2{x y:Int}(h: -9223372036854775808≤x-y)(h2:x-y<9223372036854775808):arI .sub .i64 x y=x-y:=d58 h h2
theorem P8{ω:Opq}{e:SX}{x:VT}{r:Option (Nat×List Val)}(h:dB ω e=true)(h2:N0 x ω=r):N0 (.need e x) ω=r:=by rw[N0.eq_3,if_pos h,h2]
theorem T2{ω:Opq}{e:SX}{x y:VT}{r:Option (Nat×List Val)}(h:dB ω e=true)(h2:N0 x ω=r):N0 (.ite e x y) ω=r:=by rw[N0.eq_2,if_pos h,h2]
theorem S8{ω:Opq}{e:SX}{x y:VT}{r:Option (Nat×List Val)}(h:dB ω e=false)(h2:N0 y ω=r):N0 (.ite e x y) ω=r:=by rw[N0.eq_2,if_neg (by rw[h];simp),h2]
theorem ap6{a b:Bool}(h:a=true)(h2:b=true):(a&&b)=true:=by rw[h,h2];rfl
theorem df4{K k:Nat}(h:K=k+1)(h2:K≤10000000):arI .sub .i64 (K:Int) 1=(k:Int):=by
 rw[cH2 (by omega) (by omega)];omega
theorem N6{hd:LHd}{body:VT}{ks:List VT}{ω:Opq}{r:Nat×List Val}{out:Option (Nat×List Val)}(h1:P5 (fun vs=>N0 body (ω.upd hd.v0 vs)) (N2 ω hd.s0)=some r)(h2:ω.f hd.id (N2 ω (hd.s0++hd.fv))=S6 r)(h3:R2 ks r.1 ω=out):N0 (.loop hd body ks) ω=out:=by
 rw[N0.eq_5,h1]
 simp only
 rw[if_pos h2,h3]
theorem ad9(r:Val):Val.vl [N3 r 0,N3 r 1,N3 r 2,N3 r 3,N3 r 4,N3 r 5,N3 r 6]=O1 r:=rfl
theorem Q4{step:List Val→Option (Nat×List Val)}{n j:Nat}(st:Nat→List Val){s0 p:List Val}(h0:s0=st 0)(h1: ∀i,i<n→step (st i)=some (0,st (i+1)))(h2:step (st n)=some (j+1,p)):P5 step s0=some (j,p):=by
 rw[h0];exact aP8 h1 h2
end Go.Ev.S7
namespace Go.Ev.S7
open Go Go.Ev
theorem cc0{x y:Nat}(h:x+y≤1000000):arI .add .i64 (x:Int) (y:Int)=((x+y:Nat):Int):=by
 rw[add64 (by omega) (by omega)];omega
theorem br7{x y:Nat}(h:y≤x)(h2:x≤1000000):arI .sub .i64 (x:Int) (y:Int)=((x-y:Nat):Int):=by
 rw[cH2 (by omega) (by omega)];omega
theorem c77{x:Nat}(h:1≤x)(h2:x≤1000000):arI .sub .i64 (x:Int) 1=((x-1:Nat):Int):=by
 rw[cH2 (by omega) (by omega)];omega
theorem bh4{x:Nat}(h2:x≤1000000):arI .add .i64 (x:Int) 1=((x+1:Nat):Int):=by
 rw[add64 (by omega) (by omega)];omega
theorem aR1{v:Val}(h:0≤v.toI):v.toI=(nt v:Int):=by unfold nt;omega
theorem da6(n:Nat):nt (.vi n)=n:=rfl
theorem okN{l:List Val}(h:l.all okK=true){k:Nat}(hk:k<l.length):O1 (atV l k)=atV l k:=okK_at (i6.1 h _ (atV_mem hk))
theorem ae0{l q:List Val}{f:Val→Bool}(h:l.all f=true)(hp:q.Perm l):q.all f=true:=i6.2 fun v hv=>i6.1 h v (hp.mem_iff.1 hv)
theorem aR2{l:List Val}{i j:Nat}(h:l.all okK=true)(hi:i<l.length)(hj:j<l.length):(swp l i j).all okK=true:=by
 rw[i6]at h⊢
 intro v hv
 unfold swp at hv
 rcases K4 hv with hv|rfl
 ·rcases K4 hv with hv|rfl
  ·exact h v hv
  ·exact h _ (atV_mem hj)
 ·exact h _ (atV_mem hi)
theorem aE8{l:List Val}(h:l.all okK=true){i j:Nat}(hi:i<l.length)(hj:j<l.length):(l.set i (O1 (atV l j))).set j (O1 (atV l i))=swp l i j:=by
 rw[okN h hi,okN h hj];rfl
theorem ay7{l:List Val}{a b:Nat}(h:l.all okK=true): ∀n,a+n≤l.length→b+n≤l.length→(swN l a b n).all okK=true
 |0,_,_=>h
 |n+1,h1,h2=>aR2 (ay7 h n (by omega) (by omega)) (by rw[ai1];omega) (by rw[ai1];omega)
theorem cH3{ω:Opq}{a b n N i:Nat}(h7:(ω.w 2).toI=a)(h8:(ω.w 3).toI=b)(h9:(ω.w 4).toI=n)(h6:(ω.w 1).toI=N)(hi:i<n)(h1:a+n≤b)(h2:b+n≤N)(hN:N≤400){M:List Val}(hM:M.length=N)(ho:M.all okK=true):
 N0 d53 (ω.upd 2000 [.vi i,.vl M])=some (0,[.vi (i+1:Nat),.vl (swp M (a+i) (b+i))]):=by
 have e1:=cc0 (x:=a) (y:=i) (by omega)
 have e2:=cc0 (x:=b) (y:=i) (by omega)
 have e3:=bh4 (x:=i) (by omega)
 have p1:(i:Int)<n:=by omega
 have p2:(0:Int)≤((b+i:Nat):Int):=by omega
 have p3:((b+i:Nat):Int)<N:=by omega
 have p4:(0:Int)≤((a+i:Nat):Int):=by omega
 have p5:((a+i:Nat):Int)<N:=by omega
 rw[←aE8 ho (by omega) (by omega)]
 unfold d53
 simp only[N0,N2,den,dB,Q9,N8,Nat.reduceLeDiff,Nat.reduceSub,if_true,if_false,m8,q9,N5,O8,Q7,h7,h8,h9,h6,e1,e2,e3,O5,P2,p1,p2,p3,p4,p5,decide_true,p9,hM,s9,S2,S3,S4,U6,U9,V0,V3,ad9,Int.toNat_natCast]
theorem t_swapR{ω:Opq}(hf: ∀i a,ω.f i a=F i a)(hn:(F 420 [ω.w 0,ω.w 1,ω.w 2,ω.w 3,ω.w 4]).toB=true):N0 b47 ω=some (0,[F 421 [ω.w 0,ω.w 2,ω.w 3,ω.w 4]]):=by
 obtain⟨ho,hd⟩:=M6 (show(bi3 (ω.w 0) (ω.w 1)&&decide (0≤(ω.w 2).toI∧0≤(ω.w 4).toI∧(ω.w 2).toI+(ω.w 4).toI≤(ω.w 3).toI∧(ω.w 3).toI+(ω.w 4).toI≤(ω.w 1).toI))=true from hn)
 obtain⟨e5,oa,h6,hl⟩:=aQ8 ho
 obtain⟨q1,q2,q3,q4⟩:=of_decide_eq_true hd
 have h7:=aR1 q1
 have h9:=aR1 q2
 have h8:=aR1 (show 0≤(ω.w 3).toI by omega)
 have hF:F 421 [ω.w 0,ω.w 2,ω.w 3,ω.w 4]= .vl (swN (ω.w 0).toL (nt (ω.w 2)) (nt (ω.w 3)) (nt (ω.w 4))):=rfl
 have hF2: ∀a c d:Val,F 452 [a,ω.w 0,c,d,ω.w 2,ω.w 3,ω.w 4]=S6 (0,[.vi (nt (ω.w 4)),.vl (swN (ω.w 0).toL (nt (ω.w 2)) (nt (ω.w 3)) (nt (ω.w 4)))]):=fun _ _ _=>rfl
 rw[hF]
 unfold b47
 refine N6 (r:=(0,[.vi (nt (ω.w 4)),.vl (swN (ω.w 0).toL (nt (ω.w 2)) (nt (ω.w 3)) (nt (ω.w 4)))])) ?_ ?_ ?_
 ·refine Q4 (fun i=>[.vi i,.vl (swN (ω.w 0).toL (nt (ω.w 2)) (nt (ω.w 3)) i)]) (n:=nt (ω.w 4)) (by rw[show N2 ω [.ci 0,.va 0]=[.vi 0,ω.w 0]from rfl,e5];rfl) (fun i hi=> ?_) ?_
  ·exact cH3 h7 h8 h9 h6 hi (by omega) (by omega) hl (ai1 ..) (ay7 oa i (by omega) (by omega))
  ·unfold d53
   have p1: ¬((nt (ω.w 4):Nat):Int)<(ω.w 4).toI:=by omega
   simp only[N0,N2,den,dB,Q9,N8,Nat.reduceLeDiff,Nat.reduceSub,if_true,if_false,m8,q9,N5,O8,Q7,O5,p1,decide_false,i4]
 ·show ω.f 452 [.vi 0,ω.w 0,ω.w 1,ω.w 0,ω.w 2,ω.w 3,ω.w 4]=_
  rw[hf,hF2]
 ·show some (0,[Q5 (ω.f 452 [.vi 0,ω.w 0,ω.w 1,ω.w 0,ω.w 2,ω.w 3,ω.w 4]).toL 1 1])=_
  rw[hf,hF2];rfl
theorem b59(m N:Nat): ∀(n i j:Nat) (M:List Val),0<i→0<j→i≤m→m+j≤N→M.length=N→M.all okK=true→(b74 m n i j M).2.all okK=true∧(b74 m n i j M).2.length=N
 |0,i,j,M,_,_,_,_,hM,ho=>⟨ho,hM⟩
 |n+1,i,j,M,hi,hj,him,hjN,hM,ho=>by
  unfold b74
  by_cases h1:i=j
  ·rw[if_pos h1];exact⟨ho,hM⟩
  ·rw[if_neg h1]
   by_cases h2:j<i
   ·rw[if_pos h2]
    exact b59 m N n (i-j) j _ (by omega) hj (by omega) hjN (by rw[ai1];exact hM) (ay7 ho j (by omega) (by omega))
   ·rw[if_neg h2]
    exact b59 m N n i (j-i) _ hi (by omega) him (by omega) (by rw[ai1];exact hM) (ay7 ho i (by omega) (by omega))
theorem aR3{l:List Val}{n:Val}{N:Nat}(ho:l.all okK=true)(hl:l.length=N)(hn:n.toI=(N:Int))(hN:N≤400):bi3 (.vl l) n=true:=
 ap6 rfl (ap6 ho (ap6 (decide_eq_true (by rw[hn];show(N:Int)=(l.length:Int);omega)) (decide_eq_true (by show l.length≤400;omega))))
theorem b60{v:Val}{n:Nat}(h:v.toI=(n:Int)):nt v=n:=by unfold nt;omega
theorem br8{M:List Val}{n va vb vk:Val}{N a b k:Nat}(ho:M.all okK=true)(hM:M.length=N)(hn:n.toI=(N:Int))(hN:N≤400)(ha:va.toI=(a:Int))(hb:vb.toI=(b:Int))(hk:vk.toI=(k:Int))(h1:a+k≤b)(h2:b+k≤N):(F 420 [.vl M,n,va,vb,vk]).toB=true:=by
 show(bi3 (.vl M) n&&decide (0≤va.toI∧0≤vk.toI∧va.toI+vk.toI≤vb.toI∧vb.toI+vk.toI≤n.toI))=true
 exact ap6 (aR3 ho hM hn hN) (decide_eq_true (by rw[hn,ha,hb,hk];omega))
theorem da7{M:List Val}{va vb vk:Val}{a b k:Nat}(ha:va.toI=(a:Int))(hb:vb.toI=(b:Int))(hk:vk.toI=(k:Int)):F 421 [.vl M,va,vb,vk]= .vl (swN M a b k):=by
 show Val.vl (swN M (nt va) (nt vb) (nt vk))=_
 rw[b60 ha,b60 hb,b60 hk]
def b61:SX:= .op (.ar .sub .i64) [.va 3,.va 2000]
def c78:SX:= .op (.ar .sub .i64) [.op (.ar .add .i64) [.va 3,.va 2001],.va 2000]
theorem br9:cO9= .ite (.op (.cmp .neq) [.va 2000,.va 2001]) (.ite (.op (.cmp .gtr) [.va 2000,.va 2001]) (.need (.app 420 [.va 2002,.va 1,b61,.va 3,.va 2001]) (.ret 0 [.op (.ar .sub .i64) [.va 2000,.va 2001],.va 2001,.app 421 [.va 2002,b61,.va 3,.va 2001]])) (.need (.app 420 [.va 2002,.va 1,b61,c78,.va 2000]) (.ret 0 [.va 2000,.op (.ar .sub .i64) [.va 2001,.va 2000],.app 421 [.va 2002,b61,c78,.va 2000]]))) (.ret 1 [.va 2000,.va 2001,.va 2002]):=rfl
theorem cH4{ω:Opq}(hf: ∀i a,ω.f i a=F i a){m N:Nat}(h8:(ω.w 3).toI=m)(h6:(ω.w 1).toI=N)(hN:N≤400): ∀(n i j:Nat) (M:List Val),i+j≤n+1→0<i→0<j→i≤m→m+j≤N→M.length=N→M.all okK=true→
 Iter (fun vs=>N0 cO9 (ω.upd 2000 vs)) [.vi i,.vi j,.vl M] 0 [.vi (b74 m n i j M).1,.vi (b74 m n i j M).1,.vl (b74 m n i j M).2]
 |0,i,j,M,hn,hi,hj,him,hjN,hM,ho=>by omega
 |n+1,i,j,M,hn,hi,hj,him,hjN,hM,ho=>by
  obtain⟨ω',hω⟩: ∃ω',ω'=ω.upd 2000 [.vi i,.vi j,.vl M]:=⟨_,rfl⟩
  have v0:ω'.w 2000= .vi i:=by rw[hω];rfl
  have v1:ω'.w 2001= .vi j:=by rw[hω];rfl
  have v2:ω'.w 2002= .vl M:=by rw[hω];rfl
  have u8:(ω'.w 3).toI=m:=by rw[hω];exact h8
  have u6:(ω'.w 1).toI=N:=by rw[hω];exact h6
  have hf': ∀i a,ω'.f i a=F i a:=by rw[hω];exact hf
  have a1:den ω' b61= .vi (m-i:Nat):=by
   show Val.vi (arI .sub .i64 (ω'.w 3).toI (ω'.w 2000).toI)=_
   rw[u8,v0,N5,br7 him (by omega)]
  have a2:den ω' c78= .vi (m+j-i:Nat):=by
   show Val.vi (arI .sub .i64 (arI .add .i64 (ω'.w 3).toI (ω'.w 2001).toI) (ω'.w 2000).toI)=_
   rw[u8,v0,v1,N5,N5,cc0 (by omega),br7 (by omega) (by omega)]
  unfold b74
  by_cases h1:i=j
  ·rw[if_pos h1]
   refine .out ?_
   show N0 cO9 (ω.upd 2000 [.vi i,.vi j,.vl M])=_
   rw[←hω,br9]
   refine S8 (by show(!decide ((ω'.w 2000).toI=(ω'.w 2001).toI))=false;rw[v0,v1,N5,N5,h1,decide_eq_true rfl];rfl) ?_
   show some (1,[ω'.w 2000,ω'.w 2001,ω'.w 2002])=_
   rw[v0,v1,v2,h1]
  ·rw[if_neg h1]
   have c1:dB ω' (.op (.cmp .neq) [.va 2000,.va 2001])=true:=by
    show(!decide ((ω'.w 2000).toI=(ω'.w 2001).toI))=true
    rw[v0,v1,N5,N5,decide_eq_false (by omega)];rfl
   by_cases h2:j<i
   ·rw[if_pos h2]
    refine .more (vs':=[.vi (i-j:Nat),.vi j,.vl (swN M (m-i) m j)]) ?_ (cH4 hf h8 h6 hN n (i-j) j _ (by omega) (by omega) hj (by omega) hjN (by rw[ai1];exact hM) (ay7 ho j (by omega) (by omega)))
    show N0 cO9 (ω.upd 2000 [.vi i,.vi j,.vl M])=_
    rw[←hω,br9]
    refine T2 c1 (T2 (by show decide ((ω'.w 2001).toI<(ω'.w 2000).toI)=true;rw[v0,v1];exact decide_eq_true (by show(j:Int)<(i:Int);omega)) (P8 ?_ ?_))
    ·show(ω'.f 420 [ω'.w 2002,ω'.w 1,den ω' b61,ω'.w 3,ω'.w 2001]).toB=true
     rw[hf',v2,a1,v1]
     exact br8 ho hM u6 hN rfl u8 rfl (by omega) (by omega)
    ·show some (0,[Val.vi (arI .sub .i64 (ω'.w 2000).toI (ω'.w 2001).toI),ω'.w 2001,ω'.f 421 [ω'.w 2002,den ω' b61,ω'.w 3,ω'.w 2001]])=_
     rw[hf',v0,v1,v2,a1,N5,N5,br7 (by omega) (by omega),da7 rfl u8 rfl]
   ·rw[if_neg h2]
    refine .more (vs':=[.vi i,.vi (j-i:Nat),.vl (swN M (m-i) (m+j-i) i)]) ?_ (cH4 hf h8 h6 hN n i (j-i) _ (by omega) hi (by omega) him (by omega) (by rw[ai1];exact hM) (ay7 ho i (by omega) (by omega)))
    show N0 cO9 (ω.upd 2000 [.vi i,.vi j,.vl M])=_
    rw[←hω,br9]
    refine T2 c1 (S8 (by show decide ((ω'.w 2001).toI<(ω'.w 2000).toI)=false;rw[v0,v1];exact decide_eq_false (by show¬(j:Int)<(i:Int);omega)) (P8 ?_ ?_))
    ·show(ω'.f 420 [ω'.w 2002,ω'.w 1,den ω' b61,den ω' c78,ω'.w 2000]).toB=true
     rw[hf',v2,a1,a2,v0]
     exact br8 ho hM u6 hN rfl rfl rfl (by omega) (by omega)
    ·show some (0,[ω'.w 2000,Val.vi (arI .sub .i64 (ω'.w 2001).toI (ω'.w 2000).toI),ω'.f 421 [ω'.w 2002,den ω' b61,den ω' c78,ω'.w 2000]])=_
     rw[hf',v0,v1,v2,a1,a2,N5,N5,br7 (by omega) (by omega),da7 rfl rfl rfl]
theorem t_rotC{ω:Opq}(hf: ∀i a,ω.f i a=F i a)(hn:(F 422 [ω.w 0,ω.w 1,ω.w 2,ω.w 3,ω.w 4]).toB=true):N0 bB8 ω=some (0,[F 423 [ω.w 0,ω.w 2,ω.w 3,ω.w 4]]):=by
 obtain⟨ho,hd⟩:=M6 (show(bi3 (ω.w 0) (ω.w 1)&&decide (0≤(ω.w 2).toI∧(ω.w 2).toI<(ω.w 3).toI∧(ω.w 3).toI<(ω.w 4).toI∧(ω.w 4).toI≤(ω.w 1).toI))=true from hn)
 obtain⟨e5,oa,h6,hl⟩:=aQ8 ho
 obtain⟨q1,q2,q3,q4⟩:=of_decide_eq_true hd
 have h7:=aR1 q1
 have h8:=aR1 (show 0≤(ω.w 3).toI by omega)
 have h9:=aR1 (show 0≤(ω.w 4).toI by omega)
 have hF:F 423 [ω.w 0,ω.w 2,ω.w 3,ω.w 4]= .vl (cG5 (ω.w 0).toL (nt (ω.w 2)) (nt (ω.w 3)) (nt (ω.w 4))):=rfl
 rw[hF]
 generalize nt (ω.w 2)=a at h7⊢
 generalize hm:nt (ω.w 3)=m at h8⊢
 generalize nt (ω.w 4)=b at h9⊢
 generalize hL:(ω.w 0).toL=l at e5 oa h6 hl⊢
 have r0:den ω bf8= .vi (m-a:Nat):=by
  show Val.vi (arI .sub .i64 (ω.w 3).toI (ω.w 2).toI)=_
  rw[h8,h7,br7 (by omega) (by omega)]
 have r1:den ω bf9= .vi (b-m:Nat):=by
  show Val.vi (arI .sub .i64 (ω.w 4).toI (ω.w 3).toI)=_
  rw[h8,h9,br7 (by omega) (by omega)]
 have hF2: ∀x y:Val,F 458 [.vi (m-a:Nat),.vi (b-m:Nat),.vl l,x,y,ω.w 3]=S6 (0,[.vi (b74 (nt (ω.w 3)) (m-a+(b-m)) (m-a) (b-m) l).1,.vi (b74 (nt (ω.w 3)) (m-a+(b-m)) (m-a) (b-m) l).1,.vl (b74 (nt (ω.w 3)) (m-a+(b-m)) (m-a) (b-m) l).2]):=fun _ _=>rfl
 rw[hm]at hF2
 have sp:=aQ6 m (m-a+(b-m)) (m-a) (b-m) (l.take a) (seg l a m) (seg l m b) (l.drop b) (by omega) (by omega) (by omega) (X3 (by omega)) (X3 (by omega)) (by rw[e9];omega)
 rw[←dj3 (l:=l) (by omega) (by omega)]at sp
 have al:=b59 m l.length (m-a+(b-m)) (m-a) (b-m) l (by omega) (by omega) (by omega) (by omega) rfl oa
 have it:=cH4 hf h8 h6 hl (m-a+(b-m)) (m-a) (b-m) l (by omega) (by omega) (by omega) (by omega) (by omega) rfl oa
 generalize b74 m (m-a+(b-m)) (m-a) (b-m) l=R at sp al it hF2
 obtain⟨r,M⟩:=R
 simp only at sp al it hF2
 obtain⟨s1,s2,s3,s4,s5⟩:=sp
 obtain⟨al1,al2⟩:=al
 have d2:den ω bg0=S6 (0,[.vi r,.vi r,.vl M]):=by
  show ω.f 458 [den ω bf8,den ω bf9,ω.w 0,ω.w 1,ω.w 0,ω.w 3]=_
  rw[r0,r1,e5,hf,hF2]
 have d3:den ω bg1= .vl M:=by show Q5 (den ω bg0).toL 1 2=_;rw[d2];rfl
 have d4:den ω aP2= .vi r:=by show Q5 (den ω bg0).toL 1 0=_;rw[d2];rfl
 have d5:den ω bg2= .vi (m-r:Nat):=by
  show Val.vi (arI .sub .i64 (ω.w 3).toI (den ω aP2).toI)=_
  rw[h8,d4,N5,br7 (by omega) (by omega)]
 unfold bB8
 refine N6 (r:=(0,[.vi r,.vi r,.vl M])) ?_ d2 (P8 ?_ ?_)
 ·show P5 _ [den ω bf8,den ω bf9,ω.w 0]=_
  rw[r0,r1,e5,U3]
  exact it
 ·show(ω.f 420 [den ω bg1,ω.w 1,den ω bg2,ω.w 3,den ω aP2]).toB=true
  rw[hf,d3,d4,d5]
  exact br8 al1 al2 h6 hl rfl h8 rfl (by omega) (by omega)
 ·show some (0,[ω.f 421 [den ω bg1,den ω bg2,ω.w 3,den ω aP2]])=_
  rw[hf,d3,d4,d5,da7 rfl h8 rfl,s5];rfl
end Go.Ev.S7
namespace Go.Ev.S7
open Go Go.Ev
theorem bE4(l:List Val)(i j:Nat):decide ((F 206 [N3 (atV l i) 0,N3 (atV l i) 1,N3 (atV l i) 2,N3 (atV l j) 0,N3 (atV l j) 1,N3 (atV l j) 2]).toI<0)=P3 false (atV l i) (atV l j):=by
 rw[m9,decide_eq_true_iff]
 exact b51 _ _
theorem cH5{ω:Opq}(hf: ∀i a,ω.f i a=F i a){a N k:Nat}(h7:(ω.w 2).toI=a)(h6:(ω.w 1).toI=N)(hN:N≤400){l:List Val}(hl:l.length=N)(ho:l.all okK=true)(hk:a+k+1<N):
 N0 cF6 (ω.upd 3000 [.vi (a+k+1:Nat),.vl l])=some (if P3 false (atV l (a+k+1)) (atV l (a+k))then(0,[.vi (a+k:Nat),.vl (swp l (a+k+1) (a+k))])else(1,[.vi (a+k+1:Nat),.vl l])):=by
 have e1:=df4 (K:=a+k+1) (k:=a+k) rfl (by omega)
 have p0:(a:Int)<((a+k+1:Nat):Int):=by omega
 have p1:(0:Int)≤((a+k+1:Nat):Int):=by omega
 have p2:((a+k+1:Nat):Int)<N:=by omega
 have p3:(0:Int)≤((a+k:Nat):Int):=by omega
 have p4:((a+k:Nat):Int)<N:=by omega
 have hc:=bE4 l (a+k+1) (a+k)
 rw[←aE8 ho (by omega) (by omega)]
 unfold cF6
 simp only[N0,N2,den,dB,Q9,N8,Nat.reduceLeDiff,Nat.reduceSub,if_true,if_false,m8,q9,N5,O8,Q7,h7,h6,e1,O5,P2,W1,p0,p1,p2,p3,p4,decide_true,p9,hl,s9,S2,S3,S4,U6,U9,V0,V3,ad9,Int.toNat_natCast,av5,hf,hc]
 cases P3 false (atV l (a+k+1)) (atV l (a+k))<;>rfl
theorem cZ8{ω:Opq}(hf: ∀i a,ω.f i a=F i a){a N:Nat}(h7:(ω.w 2).toI=a)(h6:(ω.w 1).toI=N)(hN:N≤400): ∀(k:Nat) (l:List Val),a+k<N→l.length=N→l.all okK=true→
 Iter (fun vs=>N0 cF6 (ω.upd 3000 vs)) [.vi (a+k:Nat),.vl l] 0 [.vi (bubA false a l k).1,.vl (bubA false a l k).2]
 |0,l,hk,hl,ho=>by
  refine .out ?_
  have p0: ¬(a:Int)<((a:Nat):Int):=by omega
  show N0 cF6 (ω.upd 3000 [.vi (a:Nat),.vl l])=_
  unfold cF6
  simp only[N0,N2,den,dB,Q9,N8,Nat.reduceLeDiff,Nat.reduceSub,if_true,if_false,m8,q9,N5,O8,Q7,h7,W1,p0,decide_false,i4,bubA]
 |k+1,l,hk,hl,ho=>by
  have hs:=cH5 hf h7 h6 hN (k:=k) hl ho (by omega)
  unfold bubA
  cases hc:P3 false (atV l (a+k+1)) (atV l (a+k))with
  |true=>
   rw[hc,if_pos rfl]at hs
   rw[if_pos rfl]
   exact .more hs (cZ8 hf h7 h6 hN k _ (by omega) (by rw[aQ5,hl]) (aR2 ho (by omega) (by omega)))
  |false=>
   rw[hc,if_neg (by simp)]at hs
   rw[if_neg (by simp)]
   exact .out hs
theorem c79:cY9= .ite (.op (.cmp .lss) [.va 2000,.va 3]) (.loop ⟨461,[.va 2000,.va 2001],3000,[.va 1,.va 2001,.va 2,.va 3,.va 2000]⟩ cF6 [.ret 0 [.op (.ar .add .i64) [.va 2000,.ci 1],.op .lget [.app 461 [.va 2000,.va 2001,.va 1,.va 2001,.va 2,.va 3,.va 2000],.ci 1,.ci 1]]]) (.ret 1 [.va 2000,.va 2001]):=rfl
theorem cH6{ω:Opq}(hf: ∀i a,ω.f i a=F i a){a N b i:Nat}(h7:(ω.w 2).toI=a)(h8:(ω.w 3).toI=b)(h6:(ω.w 1).toI=N)(hN:N≤400){l:List Val}(hl:l.length=N)(ho:l.all okK=true)(hai:a≤i)(hib:i<b)(hb:b≤N):
 N0 cY9 (ω.upd 2000 [.vi i,.vl (X4 false l a i)])=some (0,[.vi (i+1:Nat),.vl (X4 false l a (i+1))]):=by
 have hst:=cm6 (sec:=false) (l:=l) hai (by omega)
 have hpl:=bD5 false (l:=l) hai
 have hpo:=ae0 ho (ai2 false (l:=l) hai)
 generalize X4 false l a i=M at hst hpl hpo⊢
 obtain⟨ω',hω⟩: ∃ω',ω'=ω.upd 2000 [.vi i,.vl M]:=⟨_,rfl⟩
 have v0:ω'.w 2000= .vi i:=by rw[hω];rfl
 have v1:ω'.w 2001= .vl M:=by rw[hω];rfl
 have u6:(ω'.w 1).toI=N:=by rw[hω];exact h6
 have u7:(ω'.w 2).toI=a:=by rw[hω];exact h7
 have u8:(ω'.w 3).toI=b:=by rw[hω];exact h8
 have hf': ∀i a,ω'.f i a=F i a:=by rw[hω];exact hf
 have lp:=cZ8 hf' u7 u6 hN (i-a) M (by omega) (by omega) hpo
 rw[show a+(i-a)=i by omega]at lp
 have hF: ∀x y z:Val,F 461 [.vi i,.vl M,x,y,ω'.w 2,z,.vi i]=S6 (0,[.vi (bubA false (nt (ω'.w 2)) M (i-nt (ω'.w 2))).1,.vl (bubA false (nt (ω'.w 2)) M (i-nt (ω'.w 2))).2]):=fun _ _ _=>rfl
 rw[b60 u7]at hF
 have e1:ω'.f 461 [ω'.w 2000,ω'.w 2001,ω'.w 1,ω'.w 2001,ω'.w 2,ω'.w 3,ω'.w 2000]=S6 (0,[.vi (bubA false a M (i-a)).1,.vl (bubA false a M (i-a)).2]):=by
  rw[hf',v0,v1,hF]
 rw[←hω,c79]
 refine T2 (by show decide ((ω'.w 2000).toI<(ω'.w 3).toI)=true;rw[v0,u8,N5];exact decide_eq_true (by omega)) (N6 (r:=(0,[.vi (bubA false a M (i-a)).1,.vl (bubA false a M (i-a)).2])) ?_ e1 ?_)
 ·show P5 _ [ω'.w 2000,ω'.w 2001]=_
  rw[v0,v1,U3]
  exact lp
 ·show some (0,[Val.vi (arI .add .i64 (ω'.w 2000).toI 1),Q5 (ω'.f 461 [ω'.w 2000,ω'.w 2001,ω'.w 1,ω'.w 2001,ω'.w 2,ω'.w 3,ω'.w 2000]).toL 1 1])=_
  rw[e1,v0,N5,bh4 (by omega),←hst];rfl
theorem t_insC{ω:Opq}(hf: ∀i a,ω.f i a=F i a)(hn:(F 424 [ω.w 0,ω.w 1,ω.w 2,ω.w 3]).toB=true):N0 bB9 ω=some (0,[F 425 [ω.w 0,ω.w 2,ω.w 3]]):=by
 obtain⟨ho,hd⟩:=M6 (show(bi3 (ω.w 0) (ω.w 1)&&decide (0≤(ω.w 2).toI∧(ω.w 2).toI≤(ω.w 3).toI∧(ω.w 3).toI≤(ω.w 1).toI))=true from hn)
 obtain⟨e5,oa,h6,hl⟩:=aQ8 ho
 obtain⟨q1,q2,q3⟩:=of_decide_eq_true hd
 have h7:=aR1 q1
 have h8:=aR1 (show 0≤(ω.w 3).toI by omega)
 have hF:F 425 [ω.w 0,ω.w 2,ω.w 3]= .vl (X4 false (ω.w 0).toL (nt (ω.w 2)) (nt (ω.w 3))):=rfl
 have hF2: ∀x y z:Val,F 460 [x,ω.w 0,y,z,ω.w 2,ω.w 3]=S6 (0,[.vi (max (nt (ω.w 2)+1) (nt (ω.w 3)):Nat),.vl (X4 false (ω.w 0).toL (nt (ω.w 2)) (nt (ω.w 3)))]):=fun _ _ _=>rfl
 rw[hF]
 generalize nt (ω.w 2)=a at h7 hF2⊢
 generalize nt (ω.w 3)=b at h8 hF2⊢
 have r0:den ω aX4= .vi (a+1:Nat):=by
  show Val.vi (arI .add .i64 (ω.w 2).toI 1)=_
  rw[h7,bh4 (by omega)]
 have e1:ω.f 460 [den ω aX4,ω.w 0,ω.w 1,ω.w 0,ω.w 2,ω.w 3]=S6 (0,[.vi (max (a+1) b:Nat),.vl (X4 false (ω.w 0).toL a b)]):=by
  rw[hf,hF2]
 unfold bB9
 refine N6 (r:=(0,[.vi (max (a+1) b:Nat),.vl (X4 false (ω.w 0).toL a b)])) ?_ e1 ?_
 ·show P5 _ [den ω aX4,ω.w 0]=_
  rw[r0]
  have hout: ∀(i:Nat) (M:Val),b≤i→N0 cY9 (ω.upd 2000 [.vi i,M])=some (1,[.vi i,M]):=fun i M hi=>by
   rw[c79]
   refine S8 ?_ rfl
   show decide ((i:Int)<(ω.w 3).toI)=false
   exact decide_eq_false (by omega)
  by_cases hab:a+1<b
  ·rw[I2 (by omega)]
   refine Q4 (fun i=>[.vi (a+1+i:Nat),.vl (X4 false (ω.w 0).toL a (a+1+i))]) (n:=b-(a+1)) ?_ (fun i hi=>cH6 hf h7 h8 h6 hl rfl oa (by omega) (by omega) (by omega)) ?_
   ·show _=[Val.vi (a+1:Nat),Val.vl (X4 false (ω.w 0).toL a (a+1))]
    rw[bD7 (by omega) (by omega) (by omega),←e5]
   ·show N0 cY9 (ω.upd 2000 [.vi (a+1+(b-(a+1)):Nat),.vl (X4 false (ω.w 0).toL a (a+1+(b-(a+1))))])=_
    rw[show a+1+(b-(a+1))=b by omega]
    exact hout b _ (b9 _)
  ·rw[K8 (by omega),bD7 (by omega) (by omega) (by omega),←e5,U3]
   exact .out (hout (a+1) _ (by omega))
 ·show some (0,[Q5 (ω.f 460 [den ω aX4,ω.w 0,ω.w 1,ω.w 0,ω.w 2,ω.w 3]).toL 1 1])=_
  rw[e1];rfl
end Go.Ev.S7
namespace Go.Ev.S7
open Go Go.Ev
theorem c80{i j:Nat}(h:i+j≤1000000):IntKind.i64.wrap (arI .shr .u64 (IntKind.u64.wrap (arI .add .i64 (i:Int) (j:Int))) 1)=(((i+j)/2:Nat):Int):=by
 rw[cc0 h]
 have e1:IntKind.u64.wrap ((i+j:Nat):Int)=((i+j:Nat):Int):=by
  have:IntKind.u64.wrap ((i+j:Nat):Int)=((i+j:Nat):Int) % 18446744073709551616:=rfl
  rw[this];omega
 have e2:arI .shr .u64 ((i+j:Nat):Int) 1=(((i+j)/2:Nat):Int):=by
  have:arI .shr .u64 ((i+j:Nat):Int) 1=((i+j:Nat):Int).fdiv 2:=rfl
  rw[this,J1 _ (by omega)];omega
 rw[e1,e2]
 exact d58 (by omega) (by omega)
theorem cH7{ω:Opq}(hf: ∀i a,ω.f i a=F i a){a N i j:Nat}(h7:(ω.w 2).toI=a)(h6:(ω.w 1).toI=N)(hN:N≤400)(hl:(ω.w 0).toL.length=N)(ho:(ω.w 0).toL.all okK=true)(hij:i<j)(hj:j≤N)(ha:a<N):
 N0 cZ0 (ω.upd 2000 [.vi i,.vi j])=some (0,if P3 false (atV (ω.w 0).toL ((i+j)/2)) (atV (ω.w 0).toL a)then [.vi ((i+j)/2+1:Nat),.vi j]else [.vi i,.vi ((i+j)/2:Nat)]):=by
 have e0:=c80 (i:=i) (j:=j) (by omega)
 have hlt:(i+j)/2<j:=by omega
 generalize (i+j)/2=h at e0 hlt⊢
 have e1:=bh4 (x:=h) (by omega)
 have p0:(i:Int)<(j:Int):=by omega
 have p1:(0:Int)≤(h:Int):=by omega
 have p2:(h:Int)<N:=by omega
 have p3:(0:Int)≤(a:Int):=by omega
 have p4:(a:Int)<N:=by omega
 have hc:=bE4 (ω.w 0).toL (h) (a)
 unfold cZ0
 simp only[N0,N2,den,dB,Q9,N8,Nat.reduceLeDiff,Nat.reduceSub,if_true,if_false,m8,q9,N5,O8,Q7,h7,h6,e0,e1,O5,P2,p0,p1,p2,p3,p4,decide_true,p9,hl,S2,S3,S4,av5,hf,hc]
 cases P3 false (atV (ω.w 0).toL h) (atV (ω.w 0).toL a)<;>rfl
theorem cH8{ω:Opq}(hf: ∀i a,ω.f i a=F i a){m N i j:Nat}(h8:(ω.w 3).toI=m)(h6:(ω.w 1).toI=N)(hN:N≤400)(hl:(ω.w 0).toL.length=N)(ho:(ω.w 0).toL.all okK=true)(hij:i<j)(hj:j≤N)(ha:m<N):
 N0 cZ1 (ω.upd 2000 [.vi i,.vi j])=some (0,if(!P3 false (atV (ω.w 0).toL m) (atV (ω.w 0).toL ((i+j)/2)))=true then [.vi ((i+j)/2+1:Nat),.vi j]else [.vi i,.vi ((i+j)/2:Nat)]):=by
 have e0:=c80 (i:=i) (j:=j) (by omega)
 have hlt:(i+j)/2<j:=by omega
 generalize (i+j)/2=h at e0 hlt⊢
 have e1:=bh4 (x:=h) (by omega)
 have p0:(i:Int)<(j:Int):=by omega
 have p1:(0:Int)≤(h:Int):=by omega
 have p2:(h:Int)<N:=by omega
 have p3:(0:Int)≤(m:Int):=by omega
 have p4:(m:Int)<N:=by omega
 have hc:=bE4 (ω.w 0).toL (m) (h)
 unfold cZ1
 simp only[N0,N2,den,dB,Q9,N8,Nat.reduceLeDiff,Nat.reduceSub,if_true,if_false,m8,q9,N5,O8,Q7,h8,h6,e0,e1,O5,P2,p0,p1,p2,p3,p4,decide_true,p9,hl,S2,S3,S4,av5,hf,hc]
 cases P3 false (atV (ω.w 0).toL m) (atV (ω.w 0).toL h)<;>rfl
theorem cH9{ω:Opq}(hf: ∀i a,ω.f i a=F i a){a m b N i j mid:Nat}(h7:(ω.w 2).toI=a)(h8:(ω.w 3).toI=m)(h9:(ω.w 4).toI=b)(h6:(ω.w 1).toI=N)(hN:N≤400)(hl:(ω.w 0).toL.length=N)(ho:(ω.w 0).toL.all okK=true)(hmid:mid=(a+b)/2)(hb:b≤N)(ham:a<m)(hmb:m<b)
 (hij:i<j) (hj:j≤m) (hj2:j≤mid) (hi:mid+m≤b+i):
 N0 cF7 (ω.upd 2000 [.vi i,.vi j])=some (0,if(!P3 false (atV (ω.w 0).toL (mid+m-1-(i+j)/2)) (atV (ω.w 0).toL ((i+j)/2)))=true then [.vi ((i+j)/2+1:Nat),.vi j]else [.vi i,.vi ((i+j)/2:Nat)]):=by
 have e0:=c80 (i:=i) (j:=j) (by omega)
 have g0:=c80 (i:=a) (j:=b) (by omega)
 rw[←hmid]at g0
 have g1:=cc0 (x:=mid) (y:=m) (by omega)
 have g2:=c77 (x:=mid+m) (by omega) (by omega)
 have hlt:(i+j)/2<j:=by omega
 have hge:i≤(i+j)/2:=by omega
 generalize (i+j)/2=h at e0 hlt hge⊢
 have g3:=br7 (x:=mid+m-1) (y:=h) (by omega) (by omega)
 have e1:=bh4 (x:=h) (by omega)
 have hq:mid+m-1-h<N:=by omega
 generalize mid+m-1-h=q at g3 hq⊢
 have p0:(i:Int)<(j:Int):=by omega
 have p1:(0:Int)≤(h:Int):=by omega
 have p2:(h:Int)<N:=by omega
 have p3:(0:Int)≤(q:Int):=by omega
 have p4:(q:Int)<N:=by omega
 have hc:=bE4 (ω.w 0).toL (q) (h)
 unfold cF7
 simp only[N0,N2,den,dB,Q9,N8,Nat.reduceLeDiff,Nat.reduceSub,if_true,if_false,m8,q9,N5,O8,Q7,h7,h8,h9,h6,e0,e1,g0,g1,g2,g3,O5,P2,p0,p1,p2,p3,p4,decide_true,p9,hl,S2,S3,S4,av5,hf,hc]
 cases P3 false (atV (ω.w 0).toL q) (atV (ω.w 0).toL h)<;>rfl
theorem bs0{ω:Opq}{x:VT}(i:Nat):N0 (.ite (.op (.cmp .lss) [.va 2000,.va 2001]) x (.ret 1 [.va 2000,.va 2001])) (ω.upd 2000 [.vi i,.vi i])=some (1,[.vi i,.vi i]):=by
 refine S8 ?_ rfl
 show decide ((i:Int)<(i:Int))=false
 exact decide_eq_false (by omega)
theorem cI0{ω:Opq}{N r i:Nat}(h6:(ω.w 1).toI=N)(hN:N≤400)(hr:Q5 (ω.f 462 [ω.w 3,ω.w 4,ω.w 1,ω.w 0,ω.w 2]).toL 1 0= .vi r){M:List Val}(hM:M.length=N)(ho:M.all okK=true)(hi:i+1<r)(hrN:r≤N):
 N0 cP0 (ω.upd 3000 [.vi i,.vl M])=some (0,[.vi (i+1:Nat),.vl (swp M i (i+1))]):=by
 have e0:=c77 (x:=r) (by omega) (by omega)
 have e1:=bh4 (x:=i) (by omega)
 have p0:(i:Int)<((r-1:Nat):Int):=by omega
 have p1:(0:Int)≤((i+1:Nat):Int):=by omega
 have p2:((i+1:Nat):Int)<N:=by omega
 have p3:(0:Int)≤(i:Int):=by omega
 have p4:(i:Int)<N:=by omega
 rw[←aE8 ho (by omega) (by omega)]
 unfold cP0
 simp only[N0,N2,den,dB,Q9,N8,Nat.reduceLeDiff,Nat.reduceSub,if_true,if_false,m8,q9,av5,hr,N5,O8,Q7,h6,e0,e1,O5,P2,p0,p1,p2,p3,p4,decide_true,p9,hM,s9,S2,S3,S4,U6,U9,V0,V3,ad9,Int.toNat_natCast]
theorem cI1{ω:Opq}{N r i:Nat}(h6:(ω.w 1).toI=N)(hN:N≤400)(hr:Q5 (ω.f 464 [ω.w 2,ω.w 3,ω.w 1,ω.w 0,ω.w 3]).toL 1 0= .vi r){M:List Val}(hM:M.length=N)(ho:M.all okK=true)(hi:r<i)(hiN:i<N):
 N0 cP1 (ω.upd 3000 [.vi i,.vl M])=some (0,[.vi (i-1:Nat),.vl (swp M (i-1) i)]):=by
 have e1:=c77 (x:=i) (by omega) (by omega)
 have p0:(r:Int)<(i:Int):=by omega
 have p1:(0:Int)≤((i-1:Nat):Int):=by omega
 have p2:((i-1:Nat):Int)<N:=by omega
 have p3:(0:Int)≤(i:Int):=by omega
 have p4:(i:Int)<N:=by omega
 rw[b53 (by omega),←aE8 ho (by omega) (by omega)]
 unfold cP1
 simp only[N0,N2,den,dB,Q9,N8,Nat.reduceLeDiff,Nat.reduceSub,if_true,if_false,m8,q9,av5,hr,N5,O8,Q7,h6,e1,O5,P2,W1,p0,p1,p2,p3,p4,decide_true,p9,hM,s9,S2,S3,S4,U6,U9,V0,V3,ad9,Int.toNat_natCast]
theorem c81{l:List Val}{a:Nat}(h:l.all okK=true): ∀n,a+n<l.length→(mvU l a n).all okK=true
 |0,_=>h
 |n+1,h1=>aR2 (c81 h n (by omega)) (by rw[b54];omega) (by rw[b54];omega)
theorem c82{l:List Val}{m:Nat}(h:l.all okK=true)(hm:m<l.length): ∀n,(mvD l m n).all okK=true
 |0=>h
 |n+1=>aR2 (c82 h hm n) (by rw[b55];omega) (by rw[b55];omega)
def cP9(B:Int)(e mid L:SX):VT:= .ite (.op (.cmp .lss) [mid,e]) (.ite (.op (.cmp .lss) [e,.va 4]) (.need (.app 426 [L,.va 1,mid,e,.va 4,.ci B]) (.ret 0 [.app 425 [L,mid,.va 4]])) (.ret 0 [L])) (.ret 0 [L])
def cQ0(B:Int)(r e mid L:SX):VT:= .ite (.op (.cmp .lss) [.va 2,r]) (.ite (.op (.cmp .lss) [r,mid]) (.need (.app 426 [L,.va 1,.va 2,r,mid,.ci B]) (cP9 B e mid (.app 425 [L,.va 2,mid]))) (cP9 B e mid L)) (cP9 B e mid L)
def cZ9(B:Int)(r e mid:SX):VT:= .ite (.op (.cmp .lss) [r,.va 3]) (.ite (.op (.cmp .lss) [.va 3,e]) (.need (.app 422 [.va 0,.va 1,r,.va 3,e]) (cQ0 B r e mid (.app 423 [.va 0,r,.va 3,e]))) (cQ0 B r e mid (.va 0))) (cQ0 B r e mid (.va 0))
theorem cn1(B:Int):ab5 B= .ite (.op (.cmp .eql) [.op (.ar .sub .i64) [.va 3,.va 2],.ci 1]) (.loop ⟨462,[.va 3,.va 4],2000,[.va 1,.va 0,.va 2]⟩ cZ0 [.loop ⟨463,[.va 2,.va 0],3000,[.va 1,.va 0,bp9]⟩ cP0 [.ret 0 [.op .lget [.app 463 [.va 2,.va 0,.va 1,.va 0,bp9],.ci 1,.ci 1]]]])
 (.ite (.op (.cmp .eql) [.op (.ar .sub .i64) [.va 4,.va 3],.ci 1]) (.loop ⟨464,[.va 2,.va 3],2000,[.va 1,.va 0,.va 3]⟩ cZ1 [.loop ⟨465,[.va 3,.va 0],3000,[.va 1,.va 0,bq0]⟩ cP1 [.ret 0 [.op .lget [.app 465 [.va 3,.va 0,.va 1,.va 0,bq0],.ci 1,.ci 1]]]])
 (.ite (.op (.cmp .gtr) [.va 3,S0]) (.loop ⟨466,[bq1,S0],2000,[.va 1,.va 0,.va 2,.va 3,.va 4,S0,ad5,aP3]⟩ cF7 [cZ9 B aP4 aP5 S0]) (.loop ⟨466,[.va 2,.va 3],2000,[.va 1,.va 0,.va 2,.va 3,.va 4,S0,ad5,aP3]⟩ cF7 [cZ9 B ah6 ah7 S0]))):=rfl
theorem b62{M:List Val}{n:Val}{N a m b:Nat}{B:Int}(ho:M.all okK=true)(hM:M.length=N)(hn:n.toI=(N:Int))(hN:N≤400)(h1:a<m)(h2:m<b)(h3:b≤N)(h4:(b:Int)-a≤B)
 (s1:Sd false (seg M a m)) (s2:Sd false (seg M m b)):(F 426 [.vl M,n,.vi a,.vi m,.vi b,.vi B]).toB=true:=by
 show bM1 [.vl M,n,.vi a,.vi m,.vi b,.vi B]=true
 refine aQ9.2 ⟨aR3 ho hM hn hN,?_,?_,?_,?_,h4,rfl,rfl,rfl,s1,s2⟩
 ·show(0:Int)≤(a:Int);omega
 ·show(a:Int)<(m:Int);omega
 ·show(m:Int)<(b:Int);omega
 ·show(b:Int)≤n.toI;omega
theorem cI2{M:List Val}{va vb:Val}{a b:Nat}(ha:va.toI=(a:Int))(hb:vb.toI=(b:Int)):F 425 [.vl M,va,vb]= .vl (X4 false M a b):=by
 show Val.vl (X4 false M (nt va) (nt vb))=_
 rw[b60 ha,b60 hb]
section
variable{ω:Opq}{N a m b R E MID:Nat}{B:Int}{r e mid:SX}
theorem c83(hf: ∀i a,ω.f i a=F i a)(h6:(ω.w 1).toI=N)(hN:N≤400)(h9:ω.w 4= .vi b)(he:den ω e= .vi E)(hmid:den ω mid= .vi MID)(hb:b≤N)(hB:(b:Int)-MID≤B){L:SX}{M Y:List Val}(hL:den ω L= .vl M)(ho:M.all okK=true)(hM:M.length=N)
 (s1:Sd false (seg M MID E)) (s2:Sd false (seg M E b)) (c1:MID<E→E<b→X4 false M MID b=Y) (c2: ¬(MID<E∧E<b)→M=Y):N0 (cP9 B e mid L) ω=some (0,[.vl Y]):=by
 unfold cP9
 have hret: ¬(MID<E∧E<b)→N0 (.ret 0 [L]) ω=some (0,[.vl Y]):=fun h=>by
  show some (0,[den ω L])=_
  rw[hL,c2 h]
 by_cases h1:MID<E
 ·refine T2 (by show decide ((den ω mid).toI<(den ω e).toI)=true;rw[he,hmid];exact decide_eq_true (by show(MID:Int)<(E:Int);omega)) ?_
  by_cases h2:E<b
  ·refine T2 (by show decide ((den ω e).toI<(ω.w 4).toI)=true;rw[he,h9];exact decide_eq_true (by show(E:Int)<(b:Int);omega)) (P8 ?_ ?_)
   ·show(ω.f 426 [den ω L,ω.w 1,den ω mid,den ω e,ω.w 4,.vi B]).toB=true
    rw[hf,hL,hmid,he,h9]
    exact b62 ho hM h6 hN h1 h2 hb hB s1 s2
   ·show some (0,[ω.f 425 [den ω L,den ω mid,ω.w 4]])=_
    rw[hf,hL,hmid,h9,cI2 rfl rfl,c1 h1 h2]
  ·exact S8 (by show decide ((den ω e).toI<(ω.w 4).toI)=false;rw[he,h9];exact decide_eq_false (by show¬(E:Int)<(b:Int);omega)) (hret (by omega))
 ·exact S8 (by show decide ((den ω mid).toI<(den ω e).toI)=false;rw[he,hmid];exact decide_eq_false (by show¬(MID:Int)<(E:Int);omega)) (hret (by omega))
theorem c84(hf: ∀i a,ω.f i a=F i a)(h6:(ω.w 1).toI=N)(hN:N≤400)(h7:ω.w 2= .vi a)(h9:ω.w 4= .vi b)(hr:den ω r= .vi R)(he:den ω e= .vi E)(hmid:den ω mid= .vi MID)(hb:b≤N)(hmb:MID<b)(hB:(b:Int)-MID≤B)(hB2:(MID:Int)-a≤B){L:SX}{M M2 Y:List Val}(hL:den ω L= .vl M)(ho:M.all okK=true)(hM:M.length=N)(ho2:M2.all okK=true)(hM2:M2.length=N)
 (t1:Sd false (seg M a R)) (t2:Sd false (seg M R MID)) (d1:a<R→R<MID→X4 false M a MID=M2) (d2: ¬(a<R∧R<MID)→M=M2)
 (s1:Sd false (seg M2 MID E)) (s2:Sd false (seg M2 E b)) (c1:MID<E→E<b→X4 false M2 MID b=Y) (c2: ¬(MID<E∧E<b)→M2=Y):N0 (cQ0 B r e mid L) ω=some (0,[.vl Y]):=by
 unfold cQ0
 have hid: ¬(a<R∧R<MID)→N0 (cP9 B e mid L) ω=some (0,[.vl Y]):=fun h=>by
  have:=d2 h
  subst this
  exact c83 hf h6 hN h9 he hmid hb hB hL ho hM s1 s2 c1 c2
 by_cases h1:a<R
 ·refine T2 (by show decide ((ω.w 2).toI<(den ω r).toI)=true;rw[hr,h7];exact decide_eq_true (by show(a:Int)<(R:Int);omega)) ?_
  by_cases h2:R<MID
  ·refine T2 (by show decide ((den ω r).toI<(den ω mid).toI)=true;rw[hr,hmid];exact decide_eq_true (by show(R:Int)<(MID:Int);omega)) (P8 ?_ ?_)
   ·show(ω.f 426 [den ω L,ω.w 1,ω.w 2,den ω r,den ω mid,.vi B]).toB=true
    rw[hf,hL,hmid,hr,h7]
    exact b62 ho hM h6 hN h1 h2 (by omega) hB2 t1 t2
   ·refine c83 hf h6 hN h9 he hmid hb hB ?_ ho2 hM2 s1 s2 c1 c2
    show ω.f 425 [den ω L,ω.w 2,den ω mid]=_
    rw[hf,hL,hmid,h7,cI2 rfl rfl,d1 h1 h2]
  ·exact S8 (by show decide ((den ω r).toI<(den ω mid).toI)=false;rw[hr,hmid];exact decide_eq_false (by show¬(R:Int)<(MID:Int);omega)) (hid (by omega))
 ·exact S8 (by show decide ((ω.w 2).toI<(den ω r).toI)=false;rw[hr,h7];exact decide_eq_false (by show¬(a:Int)<(R:Int);omega)) (hid (by omega))
theorem cI3{M:List Val}{n va vm vb:Val}{a m b:Nat}(ho:M.all okK=true)(hM:M.length=N)(hn:n.toI=(N:Int))(hN:N≤400)(ha:va.toI=(a:Int))(hm:vm.toI=(m:Int))(hb:vb.toI=(b:Int))(h1:a<m)(h2:m<b)(h3:b≤N):(F 422 [.vl M,n,va,vm,vb]).toB=true:=by
 show(bi3 (.vl M) n&&decide (0≤va.toI∧va.toI<vm.toI∧vm.toI<vb.toI∧vb.toI≤n.toI))=true
 exact ap6 (aR3 ho hM hn hN) (decide_eq_true (by omega))
theorem cI4(hf: ∀i a,ω.f i a=F i a)(h6:(ω.w 1).toI=N)(hN:N≤400)(h7:ω.w 2= .vi a)(h8:(ω.w 3).toI=m)(h9:ω.w 4= .vi b)(hr:den ω r= .vi R)(he:den ω e= .vi E)(hmid:den ω mid= .vi MID)(hb:b≤N)(hEb:E≤b)(hmb:MID<b)(hB:(b:Int)-MID≤B)(hB2:(MID:Int)-a≤B){l M M2 Y:List Val}(h5:ω.w 0= .vl l)(hl:l.length=N)(hlo:l.all okK=true)
 (b1:R<m→m<E→cG5 l R m E=M) (b2: ¬(R<m∧m<E)→l=M) (p1:M.Perm l)
 (t1:Sd false (seg M a R)) (t2:Sd false (seg M R MID)) (d1:a<R→R<MID→X4 false M a MID=M2) (d2: ¬(a<R∧R<MID)→M=M2) (p2:M2.Perm l)
 (s1:Sd false (seg M2 MID E)) (s2:Sd false (seg M2 E b)) (c1:MID<E→E<b→X4 false M2 MID b=Y) (c2: ¬(MID<E∧E<b)→M2=Y):N0 (cZ9 B r e mid) ω=some (0,[.vl Y]):=by
 unfold cZ9
 have oM:=ae0 hlo p1
 have lM:M.length=N:=p1.length_eq.trans hl
 have oM2:=ae0 hlo p2
 have lM2:M2.length=N:=p2.length_eq.trans hl
 have hid: ¬(R<m∧m<E)→N0 (cQ0 B r e mid (.va 0)) ω=some (0,[.vl Y]):=fun h=>
  c84 hf h6 hN h7 h9 hr he hmid hb hmb hB hB2 (L:= .va 0) (by show ω.w 0=_;rw[h5,b2 h]) oM lM oM2 lM2 t1 t2 d1 d2 s1 s2 c1 c2
 by_cases h1:R<m
 ·refine T2 (by show decide ((den ω r).toI<(ω.w 3).toI)=true;rw[hr,h8];exact decide_eq_true (by show(R:Int)<(m:Int);omega)) ?_
  by_cases h2:m<E
  ·refine T2 (by show decide ((ω.w 3).toI<(den ω e).toI)=true;rw[he,h8];exact decide_eq_true (by show(m:Int)<(E:Int);omega)) (P8 ?_ ?_)
   ·show(ω.f 422 [ω.w 0,ω.w 1,den ω r,ω.w 3,den ω e]).toB=true
    rw[hf,h5,hr,he]
    exact cI3 hlo hl h6 hN rfl h8 rfl h1 h2 (by omega)
   ·refine c84 hf h6 hN h7 h9 hr he hmid hb hmb hB hB2 ?_ oM lM oM2 lM2 t1 t2 d1 d2 s1 s2 c1 c2
    show ω.f 423 [ω.w 0,den ω r,ω.w 3,den ω e]=_
    rw[hf,h5,hr,he,←b1 h1 h2]
    show Val.vl (cG5 l R (nt (ω.w 3)) E)=_
    rw[b60 h8]
  ·exact S8 (by show decide ((ω.w 3).toI<(den ω e).toI)=false;rw[he,h8];exact decide_eq_false (by show¬(m:Int)<(E:Int);omega)) (hid (by omega))
 ·exact S8 (by show decide ((den ω r).toI<(ω.w 3).toI)=false;rw[hr,h8];exact decide_eq_false (by show¬(R:Int)<(m:Int);omega)) (hid (by omega))
end
end Go.Ev.S7
namespace Go.Ev.S7
open Go Go.Ev
theorem bs1{T:Nat→Bool}{lo hi:Nat}{step:List Val→Option (Nat×List Val)}{va vb:Val}(hle:lo≤hi)(h1: ∀i j:Nat,lo≤i→i<j→j≤hi→step [.vi i,.vi j]=some (0,if T ((i+j)/2)=true then [.vi ((i+j)/2+1:Nat),.vi j]else [.vi i,.vi ((i+j)/2:Nat)]))(h2: ∀i:Nat,step [.vi i,.vi i]=some (1,[.vi i,.vi i])):
 P5 step [.vi lo,.vi hi]=some (0,[.vi (bs T (hi-lo) lo hi),.vi (bs T (hi-lo) lo hi)]):=by
 rw[U3]
 exact br0 h1 h2 (hi-lo) lo hi (b9 _) hle (b9 _) (b9 _)
theorem t_sym{ω:Opq}{B:Int}(hf: ∀i a,ω.f i a=F i a)(hn:(F 426 [ω.w 0,ω.w 1,ω.w 2,ω.w 3,ω.w 4,.vi (2*B)]).toB=true):N0 (ab5 B) ω=some (0,[F 425 [ω.w 0,ω.w 2,ω.w 4]]):=by
 have hn':bM1 [ω.w 0,ω.w 1,ω.w 2,ω.w 3,ω.w 4,.vi (2*B)]=true:=hn
 obtain⟨ho,q1,q2,q3,q4,q5,i7,i8,i9,s1,s2⟩:=aQ9.1 hn'
 have ho:bi3 (ω.w 0) (ω.w 1)=true:=ho
 have q1:0≤(ω.w 2).toI:=q1
 have q2:(ω.w 2).toI<(ω.w 3).toI:=q2
 have q3:(ω.w 3).toI<(ω.w 4).toI:=q3
 have q4:(ω.w 4).toI≤(ω.w 1).toI:=q4
 have q5:(ω.w 4).toI-(ω.w 2).toI≤2*B:=q5
 have s1:Sd false (seg (ω.w 0).toL (nt (ω.w 2)) (nt (ω.w 3))):=s1
 have s2:Sd false (seg (ω.w 0).toL (nt (ω.w 3)) (nt (ω.w 4))):=s2
 obtain⟨e5,oa,h6,hl⟩:=aQ8 ho
 have h7:=aR1 q1
 have h8:=aR1 (show 0≤(ω.w 3).toI by omega)
 have h9:=aR1 (show 0≤(ω.w 4).toI by omega)
 have w7:ω.w 2= .vi (nt (ω.w 2)):=(bD9 (show isI (ω.w 2)=true from i7)).trans (congrArg Val.vi h7)
 have w8:ω.w 3= .vi (nt (ω.w 3)):=(bD9 (show isI (ω.w 3)=true from i8)).trans (congrArg Val.vi h8)
 have w9:ω.w 4= .vi (nt (ω.w 4)):=(bD9 (show isI (ω.w 4)=true from i9)).trans (congrArg Val.vi h9)
 have hF:F 425 [ω.w 0,ω.w 2,ω.w 4]= .vl (X4 false (ω.w 0).toL (nt (ω.w 2)) (nt (ω.w 4))):=rfl
 rw[hF]
 generalize nt (ω.w 2)=a at h7 w7 s1⊢
 generalize nt (ω.w 3)=m at h8 w8 s1 s2⊢
 generalize nt (ω.w 4)=b at h9 w9 s2⊢
 obtain⟨l,hL⟩: ∃l,(ω.w 0).toL=l:=⟨_,rfl⟩
 obtain⟨N,hNN⟩: ∃N,l.length=N:=⟨_,rfl⟩
 have hlN:(ω.w 0).toL.length=N:=by rw[hL];exact hNN
 rw[hlN]at h6 hl
 have ham:a<m:=by omega
 have hmb:m<b:=by omega
 have hbN:b≤N:=by omega
 rw[cn1]
 by_cases c1:m=a+1
 ·
  refine T2 (by show decide (arI .sub .i64 (ω.w 3).toI (ω.w 2).toI=1)=true;rw[h8,h7,br7 (by omega) (by omega)];exact decide_eq_true (by omega)) ?_
  subst c1
  have so:=cG7 (sec:=false) (l:=(ω.w 0).toL) (a:=a) (b:=b) hmb (by omega) s2
  have hlp:P5 (fun vs=>N0 cZ0 (ω.upd 2000 vs)) [.vi (a+1:Nat),.vi b]=_:=bs1 (T:=fun h=>P3 false (atV (ω.w 0).toL h) (atV (ω.w 0).toL a)) (va:= .vi 0) (vb:= .vi 0) (by omega) (fun i j h1 h2 h3=>cH7 hf h7 h6 hl hlN oa h2 (by omega) (by omega)) (fun i=>bs0 i)
  have hF2:F 462 [.vi (a+1:Nat),.vi b,ω.w 1,ω.w 0,.vi a]=S6 (0,[.vi (bs (fun h=>P3 false (atV (ω.w 0).toL h) (atV (ω.w 0).toL a)) (b-(a+1)) (a+1) b),.vi (bs (fun h=>P3 false (atV (ω.w 0).toL h) (atV (ω.w 0).toL a)) (b-(a+1)) (a+1) b)]):=rfl
  generalize bs (fun h=>P3 false (atV (ω.w 0).toL h) (atV (ω.w 0).toL a)) (b-(a+1)) (a+1) b=r at so hlp hF2
  obtain⟨r1,r2,r3⟩:=so
  have e462:ω.f 462 [ω.w 3,ω.w 4,ω.w 1,ω.w 0,ω.w 2]=S6 (0,[.vi r,.vi r]):=by
   rw[hf,w7,w8,w9,hF2]
  have er:Q5 (ω.f 462 [ω.w 3,ω.w 4,ω.w 1,ω.w 0,ω.w 2]).toL 1 0= .vi r:=by rw[e462];rfl
  have hF3: ∀x y:Val,F 463 [.vi a,ω.w 0,x,y,.vi r]=S6 (0,[.vi (r-1:Nat),.vl (mvU (ω.w 0).toL a (r-1-a))]):=fun _ _=>rfl
  have e463:ω.f 463 [ω.w 2,ω.w 0,ω.w 1,ω.w 0,den ω bp9]=S6 (0,[.vi (r-1:Nat),.vl (mvU (ω.w 0).toL a (r-1-a))]):=by
   rw[show den ω bp9= .vi r from er,hf,w7,hF3]
  refine N6 (r:=(0,[.vi r,.vi r])) ?_ e462 (N6 (r:=(0,[.vi (r-1:Nat),.vl (mvU (ω.w 0).toL a (r-1-a))])) ?_ e463 ?_)
  ·show P5 _ [ω.w 3,ω.w 4]=_
   rw[w8,w9];exact hlp
  ·show P5 _ [ω.w 2,ω.w 0]=_
   rw[w7]
   refine Q4 (fun i=>[.vi (a+i:Nat),.vl (mvU (ω.w 0).toL a i)]) (n:=r-1-a) (by rw[show mvU (ω.w 0).toL a 0=(ω.w 0).toL from rfl,←e5];rfl) (fun i hi=> ?_) ?_
   ·exact cI0 h6 hl er (by rw[b54];exact hlN) (c81 oa i (by omega)) (by omega) (by omega)
   ·show N0 cP0 (ω.upd 3000 [.vi (a+(r-1-a):Nat),.vl (mvU (ω.w 0).toL a (r-1-a))])=_
    rw[show a+(r-1-a)=r-1 by omega]
    unfold cP0
    refine S8 ?_ rfl
    show decide (((r-1:Nat):Int)<arI .sub .i64 (Q5 (ω.f 462 [ω.w 3,ω.w 4,ω.w 1,ω.w 0,ω.w 2]).toL 1 0).toI 1)=false
    rw[er,N5,c77 (by omega) (by omega)]
    exact decide_eq_false (by omega)
  ·show some (0,[Q5 (ω.f 463 [ω.w 2,ω.w 0,ω.w 1,ω.w 0,den ω bp9]).toL 1 1])=_
   rw[e463,←r3];rfl
 ·refine S8 (by show decide (arI .sub .i64 (ω.w 3).toI (ω.w 2).toI=1)=false;rw[h8,h7,br7 (by omega) (by omega)];exact decide_eq_false (by omega)) ?_
  by_cases c2:b=m+1
  ·
   refine T2 (by show decide (arI .sub .i64 (ω.w 4).toI (ω.w 3).toI=1)=true;rw[h8,h9,br7 (by omega) (by omega)];exact decide_eq_true (by omega)) ?_
   subst c2
   have so:=cG8 (sec:=false) (l:=(ω.w 0).toL) (a:=a) (m:=m) ham (by omega) s1
   have hlp:P5 (fun vs=>N0 cZ1 (ω.upd 2000 vs)) [.vi a,.vi m]=_:=bs1 (T:=fun h=> !P3 false (atV (ω.w 0).toL m) (atV (ω.w 0).toL h)) (va:= .vi 0) (vb:= .vi 0) (by omega) (fun i j h1 h2 h3=>cH8 hf h8 h6 hl hlN oa h2 (by omega) (by omega)) (fun i=>bs0 i)
   have hF2:F 464 [.vi a,.vi m,ω.w 1,ω.w 0,.vi m]=S6 (0,[.vi (bs (fun h=> !P3 false (atV (ω.w 0).toL m) (atV (ω.w 0).toL h)) (m-a) a m),.vi (bs (fun h=> !P3 false (atV (ω.w 0).toL m) (atV (ω.w 0).toL h)) (m-a) a m)]):=rfl
   generalize bs (fun h=> !P3 false (atV (ω.w 0).toL m) (atV (ω.w 0).toL h)) (m-a) a m=r at so hlp hF2
   obtain⟨r1,r2,r3⟩:=so
   have e464:ω.f 464 [ω.w 2,ω.w 3,ω.w 1,ω.w 0,ω.w 3]=S6 (0,[.vi r,.vi r]):=by
    rw[hf,w7,w8,hF2]
   have er:Q5 (ω.f 464 [ω.w 2,ω.w 3,ω.w 1,ω.w 0,ω.w 3]).toL 1 0= .vi r:=by rw[e464];rfl
   have hF3: ∀x y:Val,F 465 [.vi m,ω.w 0,x,y,.vi r]=S6 (0,[.vi r,.vl (mvD (ω.w 0).toL m (m-r))]):=fun _ _=>rfl
   have e465:ω.f 465 [ω.w 3,ω.w 0,ω.w 1,ω.w 0,den ω bq0]=S6 (0,[.vi r,.vl (mvD (ω.w 0).toL m (m-r))]):=by
    rw[show den ω bq0= .vi r from er,hf,w8,hF3]
   refine N6 (r:=(0,[.vi r,.vi r])) ?_ e464 (N6 (r:=(0,[.vi r,.vl (mvD (ω.w 0).toL m (m-r))])) ?_ e465 ?_)
   ·show P5 _ [ω.w 2,ω.w 3]=_
    rw[w7,w8];exact hlp
   ·show P5 _ [ω.w 3,ω.w 0]=_
    rw[w8]
    refine Q4 (fun i=>[.vi (m-i:Nat),.vl (mvD (ω.w 0).toL m i)]) (n:=m-r) (by rw[show mvD (ω.w 0).toL m 0=(ω.w 0).toL from rfl,←e5];rfl) (fun i hi=> ?_) ?_
    ·have:=cI1 (i:=m-i) h6 hl er (M:=mvD (ω.w 0).toL m i) (by rw[b55];exact hlN) (c82 oa (by omega) i) (by omega) (by omega)
     rw[show m-i-1=m-(i+1) by omega]at this
     refine this.trans ?_
     show _=some (0,[Val.vi (m-(i+1):Nat),Val.vl (swp (mvD (ω.w 0).toL m i) (m-i-1) (m-i))])
     rw[show m-i-1=m-(i+1) by omega]
    ·show N0 cP1 (ω.upd 3000 [.vi (m-(m-r):Nat),.vl (mvD (ω.w 0).toL m (m-r))])=_
     rw[show m-(m-r)=r by omega]
     unfold cP1
     refine S8 ?_ rfl
     show decide ((Q5 (ω.f 464 [ω.w 2,ω.w 3,ω.w 1,ω.w 0,ω.w 3]).toL 1 0).toI<(r:Int))=false
     rw[er,N5]
     exact decide_eq_false (by omega)
   ·show some (0,[Q5 (ω.f 465 [ω.w 3,ω.w 0,ω.w 1,ω.w 0,den ω bq0]).toL 1 1])=_
    rw[e465,←r3];rfl
  ·refine S8 (by show decide (arI .sub .i64 (ω.w 4).toI (ω.w 3).toI=1)=false;rw[h8,h9,br7 (by omega) (by omega)];exact decide_eq_false (by omega)) ?_
   obtain⟨mid,hmid⟩: ∃mid,mid=(a+b)/2:=⟨_,rfl⟩
   have d2:den ω S0= .vi mid:=by
    show Val.vi (IntKind.i64.wrap (arI .shr .u64 (IntKind.u64.wrap (arI .add .i64 (ω.w 2).toI (ω.w 4).toI)) 1))=_
    rw[h7,h9,c80 (by omega),←hmid]
   have d3:den ω ad5= .vi (mid+m:Nat):=by
    show Val.vi (arI .add .i64 (den ω S0).toI (ω.w 3).toI)=_
    rw[d2,h8,N5,cc0 (by omega)]
   have d5:den ω aP3= .vi (mid+m-1:Nat):=by
    show Val.vi (arI .sub .i64 (den ω ad5).toI 1)=_
    rw[d3,N5,c77 (by omega) (by omega)]
   have key: ∀(lo hi r:Nat) (va vb:Val) (er ee:SX),(mid<m∧lo=mid+m-b∧hi=mid∨m≤mid∧lo=a∧hi=m)→r=bs (fun c=> !P3 false (atV (ω.w 0).toL (mid+m-1-c)) (atV (ω.w 0).toL c)) (hi-lo) lo hi→den ω er= .vi r→(∀n:Nat,den ω er= .vi n→n≤mid+m→den ω ee= .vi (mid+m-n:Nat))→N0 (cZ9 B er ee S0) ω=some (0,[.vl (X4 false (ω.w 0).toL a b)]):=fun lo hi r va vb er ee hlh hr h1 h2=>by
    obtain⟨g1,g2,g3,g4,M,M2,b1,b2,p1,t1,t2,k1,k2,p2,u1,u2,x1,x2⟩:=cG9 (sec:=false) (l:=(ω.w 0).toL) ham hmb (by omega) s1 s2 hmid hlh hr
    exact cI4 hf h6 hl w7 h8 w9 h1 (h2 r h1 (by omega)) d2 hbN g4 (by omega) (by omega) (by omega) e5 hlN oa b1 b2 p1 t1 t2 k1 k2 p2 u1 u2 x1 x2
   have hlp: ∀lo hi:Nat,(mid<m∧lo=mid+m-b∧hi=mid∨m≤mid∧lo=a∧hi=m)→P5 (fun vs=>N0 cF7 (ω.upd 2000 vs)) [.vi lo,.vi hi]=some (0,[.vi (bs (fun c=> !P3 false (atV (ω.w 0).toL (mid+m-1-c)) (atV (ω.w 0).toL c)) (hi-lo) lo hi),.vi (bs (fun c=> !P3 false (atV (ω.w 0).toL (mid+m-1-c)) (atV (ω.w 0).toL c)) (hi-lo) lo hi)]):=fun lo hi hlh=>bs1 (T:=fun c=> !P3 false (atV (ω.w 0).toL (mid+m-1-c)) (atV (ω.w 0).toL c)) (va:= .vi 0) (vb:= .vi 0) (by omega) (fun i j h1 h2 h3=>cH9 hf h7 h8 h9 h6 hl hlN oa hmid hbN ham hmb h2 (by omega) (by omega) (by omega)) (fun i=>bs0 i)
   have hF2: ∀(lo hi:Nat) (va vb x y:Val),nt va=lo→nt vb=hi→F 466 [va,vb,ω.w 1,ω.w 0,ω.w 2,ω.w 3,ω.w 4,x,y,.vi (mid+m-1:Nat)]=S6 (0,[.vi (bs (fun c=> !P3 false (atV (ω.w 0).toL (mid+m-1-c)) (atV (ω.w 0).toL c)) (hi-lo) lo hi),.vi (bs (fun c=> !P3 false (atV (ω.w 0).toL (mid+m-1-c)) (atV (ω.w 0).toL c)) (hi-lo) lo hi)]):=fun lo hi va vb x y h1 h2=>by subst h1;subst h2;rfl
   by_cases c3:mid<m
   ·refine T2 (by show decide ((den ω S0).toI<(ω.w 3).toI)=true;rw[d2,h8,N5];exact decide_eq_true (by omega)) ?_
    have hlh:mid<m∧mid+m-b=mid+m-b∧mid=mid∨m≤mid∧mid+m-b=a∧mid=m:= .inl ⟨c3,rfl,rfl⟩
    have d4:den ω bq1= .vi (mid+m-b:Nat):=by
     show Val.vi (arI .sub .i64 (den ω ad5).toI (ω.w 4).toI)=_
     rw[d3,h9,N5,br7 (by omega) (by omega)]
    have e466:ω.f 466 [den ω bq1,den ω S0,ω.w 1,ω.w 0,ω.w 2,ω.w 3,ω.w 4,den ω S0,den ω ad5,den ω aP3]=S6 (0,[.vi (bs (fun c=> !P3 false (atV (ω.w 0).toL (mid+m-1-c)) (atV (ω.w 0).toL c)) (mid-(mid+m-b)) (mid+m-b) mid),.vi (bs (fun c=> !P3 false (atV (ω.w 0).toL (mid+m-1-c)) (atV (ω.w 0).toL c)) (mid-(mid+m-b)) (mid+m-b) mid)]):=by
     rw[hf,d5]
     exact hF2 (mid+m-b) mid _ _ _ _ (by rw[d4];rfl) (by rw[d2];rfl)
    refine N6 (r:=(0,_)) ?_ e466 ?_
    ·show P5 _ [den ω bq1,den ω S0]=_
     rw[d4,d2];exact hlp _ _ hlh
    ·refine key _ _ _ (.vi 0) (.vi 0) aP4 aP5 hlh rfl ?_ (fun n h1 h2=> ?_)
     ·show Q5 (ω.f 466 [den ω bq1,den ω S0,ω.w 1,ω.w 0,ω.w 2,ω.w 3,ω.w 4,den ω S0,den ω ad5,den ω aP3]).toL 1 0=_
      rw[e466];rfl
     ·show Val.vi (arI .sub .i64 (den ω ad5).toI (den ω aP4).toI)=_
      rw[d3,h1,N5,N5,br7 h2 (by omega)]
   ·refine S8 (by show decide ((den ω S0).toI<(ω.w 3).toI)=false;rw[d2,h8,N5];exact decide_eq_false (by omega)) ?_
    have hlh:mid<m∧a=mid+m-b∧m=mid∨m≤mid∧a=a∧m=m:= .inr ⟨by omega,rfl,rfl⟩
    have e466:ω.f 466 [ω.w 2,ω.w 3,ω.w 1,ω.w 0,ω.w 2,ω.w 3,ω.w 4,den ω S0,den ω ad5,den ω aP3]=S6 (0,[.vi (bs (fun c=> !P3 false (atV (ω.w 0).toL (mid+m-1-c)) (atV (ω.w 0).toL c)) (m-a) a m),.vi (bs (fun c=> !P3 false (atV (ω.w 0).toL (mid+m-1-c)) (atV (ω.w 0).toL c)) (m-a) a m)]):=by
     rw[hf,d5]
     exact hF2 a m _ _ _ _ (b60 h7) (b60 h8)
    refine N6 (r:=(0,_)) ?_ e466 ?_
    ·show P5 _ [ω.w 2,ω.w 3]=_
     rw[w7,w8];exact hlp _ _ hlh
    ·refine key _ _ _ (.vi 0) (.vi 0) ah6 ah7 hlh rfl ?_ (fun n h1 h2=> ?_)
     ·show Q5 (ω.f 466 [ω.w 2,ω.w 3,ω.w 1,ω.w 0,ω.w 2,ω.w 3,ω.w 4,den ω S0,den ω ad5,den ω aP3]).toL 1 0=_
      rw[e466];rfl
     ·show Val.vi (arI .sub .i64 (den ω ad5).toI (den ω ah6).toI)=_
      rw[d3,h1,N5,N5,br7 h2 (by omega)]
theorem sym_vac{a b c d e:Val}(hn:(F 426 [a,b,c,d,e,.vi 1]).toB=true):False:=by
 obtain⟨_,_,q2,q3,_,q5,_⟩:=aQ9.1 (show bM1 [a,b,c,d,e,.vi 1]=true from hn)
 have q2:c.toI<d.toI:=q2
 have q3:d.toI<e.toI:=q3
 have q5:e.toI-c.toI≤1:=q5
 omega
end Go.Ev.S7
namespace Go.Ev.S7
open Go Go.Ev
theorem c85{l:List Val}{a b c d:Nat}(ha:a≤l.length)(hd:d≤a):seg (X4 false l a b) c d=seg l c d:=by
 unfold seg X4
 rw[M5 (by rw[e9];omega),List.take_take,x7 hd]
theorem cI5{l:List Val}{a b c:Nat}(h:a≤b)(hb:b≤l.length)(hc:b≤c):(X4 false l a b).drop c=l.drop c:=by
 unfold X4
 rw[←r7,F7,E6 (by rw[e8,e9,srt_len,X3 hb];omega),List.nil_append,e8,e9,srt_len,X3 hb,F9]
 congr 1;omega
theorem d00{l:List Val}{a b c d:Nat}(h:a≤b)(hb:b≤l.length)(hc:b≤c):seg (X4 false l a b) c d=seg l c d:=by
 unfold seg
 rw[F8,F8,cI5 h hb hc]
theorem X8(B:Nat)(l:List Val): ∀k,(a49 B l k).length=l.length
 |0=>rfl
 |k+1=>by rw[a49,bD5 false (by omega),X8 B l k]
theorem ai4(B:Nat)(l:List Val): ∀k,(a49 B l k).Perm l
 |0=> .refl _
 |k+1=>(ai2 false (by omega)).trans (ai4 B l k)
theorem b63(B:Nat)(l:List Val): ∀k,Cl false (a49 B l k) l
 |0=>Cl.refl _ _
 |k+1=>(br3 false (by omega)).trans (b63 B l k)
theorem ap7{B:Nat}{l:List Val}: ∀{k c d:Nat},B*k≤l.length→B*k≤c→seg (a49 B l k) c d=seg l c d
 |0,c,d,_,_=>rfl
 |k+1,c,d,hl,hc=>by
  rw[Nat.mul_succ]at hl hc
  rw[a49,d00 (by omega) (by rw[X8];exact hl) hc,ap7 (by omega) (by omega)]
theorem bs2{B:Nat}{l:List Val}: ∀{k j:Nat},j<k→B*k≤l.length→seg (a49 B l k) (B*j) (B*j+B)=srt false (seg l (B*j) (B*j+B))
 |k+1,j,hj,hl=>by
  rw[Nat.mul_succ]at hl
  rw[a49]
  by_cases h:j=k
  ·subst h
   rw[br4 (by omega) (by rw[X8];exact hl),ap7 (by omega) (b9 _)]
  ·have hjk:j<k:=by omega
   have:B*j+B≤B*k:=by rw[←Nat.mul_succ];exact F0 _ hjk
   rw[c85 (by rw[X8];omega) this,bs2 hjk (by omega)]
def Bk(B n:Nat)(l:List Val):Prop:= ∀k,Sd false (seg l (B*k) (min (B*k+B) n))
theorem c86:Sd false []:=List.Pairwise.nil
theorem c87{l:List Val}{n:Nat}(hl:l.length=n):Bk 20 n (X4 false (a49 20 l (n/20)) (20*(n/20)) n):=by
 have hq:20*(n/20)≤n:=D4 n 20
 have hq2:n<20*(n/20)+20:=by omega
 intro k
 rcases D6 k (n/20)with h|h|h
 ·have h1:20*k+20≤20*(n/20):=by omega
  rw[x7 (by omega),c85 (by rw[X8];omega) h1,bs2 h (by omega)]
  exact Y7 _ _
 ·subst h
  rw[C1 (by omega),br4 hq (by rw[X8];omega)]
  exact Y7 _ _
 ·rw[br2 (by omega)];exact c86
theorem c88{bs n:Nat}{l:List Val}(h0:0<bs)(hl:l.length=n)(hb:Bk bs n l):Bk (2*bs) n (pass bs n l)∧Cl false (pass bs n l) l∧(pass bs n l).Perm l:=by
 have hq:2*bs*(n/(2*bs))≤n:=D4 n (2*bs)
 have hq2:n<2*bs*(n/(2*bs))+2*bs:=by
  have:=M4 n (show 0<2*bs by omega)
  rw[Nat.mul_succ]at this;exact this
 have ev: ∀k,bs*(2*k)=2*bs*k:=fun k=>by rw[←D5,x9 bs 2]
 have hp:pass bs n l=if 2*bs*(n/(2*bs))+bs<n then X4 false (a49 (2*bs) l (n/(2*bs))) (2*bs*(n/(2*bs))) n else a49 (2*bs) l (n/(2*bs)):=rfl
 generalize n/(2*bs)=q at hq hq2 hp
 have hM: ∀k,k<q→Sd false (seg (a49 (2*bs) l q) (2*bs*k) (min (2*bs*k+2*bs) n)):=fun k hk=>by
  have:2*bs*k+2*bs≤2*bs*q:=by rw[←Nat.mul_succ];exact F0 _ hk
  rw[x7 (by omega),bs2 hk (by omega)]
  exact Y7 _ _
 have hgt: ∀k,q<k→n≤2*bs*k:=fun k hk=>by
  have:2*bs*(q+1)≤2*bs*k:=F0 _ hk
  rw[Nat.mul_succ]at this;omega
 by_cases hc:2*bs*q+bs<n
 ·have e:(if 2*bs*q+bs<n then X4 false (a49 (2*bs) l q) (2*bs*q) n else a49 (2*bs) l q)=X4 false (a49 (2*bs) l q) (2*bs*q) n:=if_pos hc
  refine⟨fun k=> ?_,?_,?_⟩
  ·rw[hp,e]
   rcases D6 k q with h|h|h
   ·have:2*bs*k+2*bs≤2*bs*q:=by rw[←Nat.mul_succ];exact F0 _ h
    rw[c85 (by rw[X8];omega) (by rw[x7 (by omega)];exact this)]
    exact hM k h
   ·subst h
    rw[C1 (by omega),br4 hq (by rw[X8];omega)]
    exact Y7 _ _
   ·rw[br2 (by have:=hgt k h;omega)];exact c86
  ·rw[hp,e]
   exact(br3 false hq).trans (b63 _ _ _)
  ·rw[hp,e]
   exact(ai2 false hq).trans (ai4 _ _ _)
 ·have e:(if 2*bs*q+bs<n then X4 false (a49 (2*bs) l q) (2*bs*q) n else a49 (2*bs) l q)=a49 (2*bs) l q:=if_neg hc
  refine⟨fun k=> ?_,?_,?_⟩
  ·rw[hp,e]
   rcases D6 k q with h|h|h
   ·exact hM k h
   ·subst h
    rw[C1 (by omega),ap7 (by omega) (b9 _)]
    have:=hb (2*k)
    rw[ev,C1 (by omega)]at this
    exact this
   ·rw[br2 (by have:=hgt k h;omega)];exact c86
  ·rw[hp,e];exact b63 _ _ _
  ·rw[hp,e];exact ai4 _ _ _
theorem bE5{n:Nat}: ∀(f bs:Nat) (l:List Val),0<bs→n≤bs*2^f→l.length=n→Bk bs n l→(ay4 n f bs l).2=srt false l
 |0,bs,l,h0,hn,hl,hb=>by
  rw[ay4,aQ4]
  have:=hb 0
  rw[Nat.mul_zero,i3,C1 (by simpa using hn),←hl]at this
  unfold seg at this
  simpa using this
 |f+1,bs,l,h0,hn,hl,hb=>by
  rw[ay4]
  by_cases h:bs<n
  ·rw[if_pos h]
   obtain⟨p1,p2,p3⟩:=c88 h0 hl hb
   rw[bE5 f (2*bs) _ (by omega) (by rw[Nat.pow_succ,x9 (2^f) 2,←D5,x9 bs 2]at hn;exact hn) (by rw[p3.length_eq];exact hl) p1]
   exact srt_cl p2
  ·rw[if_neg h,aQ4]
   have:=hb 0
   rw[Nat.mul_zero,i3,C1 (by omega),←hl]at this
   unfold seg at this
   simpa using this
end Go.Ev.S7
namespace Go.Ev.S7
open Go Go.Ev
theorem da8{x y:Nat}(h:x*y≤1000000):arI .mul .i64 (x:Int) (y:Int)=((x*y:Nat):Int):=by
 have:arI .mul .i64 (x:Int) (y:Int)=IntKind.i64.wrap ((x:Int)*(y:Int)):=rfl
 rw[this,←Int.natCast_mul]
 exact d58 (by omega) (by omega)
theorem c89{M:List Val}{n va vb:Val}{N a b:Nat}(ho:M.all okK=true)(hM:M.length=N)(hn:n.toI=(N:Int))(hN:N≤400)(ha:va.toI=(a:Int))(hb:vb.toI=(b:Int))(h1:a≤b)(h2:b≤N):(F 424 [.vl M,n,va,vb]).toB=true:=by
 show(bi3 (.vl M) n&&decide (0≤va.toI∧va.toI≤vb.toI∧vb.toI≤n.toI))=true
 exact ap6 (aR3 ho hM hn hN) (decide_eq_true (by rw[hn,ha,hb];omega))
theorem aE9{B:Nat}{l:List Val}(h:l.all okK=true)(k:Nat):(a49 B l k).all okK=true:=ae0 h (ai4 B l k)
theorem da9{ω:Opq}(hf: ∀i a,ω.f i a=F i a){n:Nat}{l:List Val}(h1:(ω.w 1).toI=n)(h2:(ω.w 2).toI=n)(hl:l.length=n)(ho:l.all okK=true)(hn:n≤400):
 P5 (fun vs=>N0 cP2 (ω.upd 2000 vs)) [.vi 0,.vi 20,.vl l]=some (0,[.vi (20*(n/20):Nat),.vi (20*(n/20)+20:Nat),.vl (a49 20 l (n/20))]):=by
 have hq:=D4 n 20
 refine Q4 (fun k=>[.vi (20*k:Nat),.vi (20*k+20:Nat),.vl (a49 20 l k)]) (n:=n/20) rfl (fun k hk=> ?_) ?_
 ·have hk2:20*k+20≤n:=by omega
  show N0 cP2 (ω.upd 2000 [.vi (20*k:Nat),.vi (20*k+20:Nat),.vl (a49 20 l k)])=_
  obtain⟨ω',hω⟩: ∃ω',ω'=ω.upd 2000 [.vi (20*k:Nat),.vi (20*k+20:Nat),.vl (a49 20 l k)]:=⟨_,rfl⟩
  have v0:ω'.w 2000= .vi (20*k:Nat):=by rw[hω];rfl
  have v1:ω'.w 2001= .vi (20*k+20:Nat):=by rw[hω];rfl
  have v2:ω'.w 2002= .vl (a49 20 l k):=by rw[hω];rfl
  have u1:(ω'.w 1).toI=n:=by rw[hω];exact h1
  have u2:(ω'.w 2).toI=n:=by rw[hω];exact h2
  have hf': ∀i a,ω'.f i a=F i a:=by rw[hω];exact hf
  rw[←hω]
  unfold cP2
  refine T2 (by show decide ((ω'.w 2001).toI≤(ω'.w 2).toI)=true;rw[v1,u2];exact decide_eq_true (by show((20*k+20:Nat):Int)≤(n:Int);omega)) (P8 ?_ ?_)
  ·show(ω'.f 424 [ω'.w 2002,ω'.w 1,ω'.w 2000,ω'.w 2001]).toB=true
   rw[hf',v0,v1,v2]
   exact c89 (aE9 ho k) (by rw[X8];exact hl) u1 hn rfl rfl (by omega) hk2
  ·show some (0,[ω'.w 2001,Val.vi (arI .add .i64 (ω'.w 2001).toI 20),ω'.f 425 [ω'.w 2002,ω'.w 2000,ω'.w 2001]])=_
   rw[hf',v0,v1,v2,cI2 rfl rfl,N5,show(20:Int)=((20:Nat):Int)from rfl,cc0 (by omega)]
   rfl
 ·show N0 cP2 (ω.upd 2000 [.vi (20*(n/20):Nat),.vi (20*(n/20)+20:Nat),.vl (a49 20 l (n/20))])=_
  unfold cP2
  refine S8 ?_ rfl
  show decide (((20*(n/20)+20:Nat):Int)≤(ω.w 2).toI)=false
  rw[h2];exact decide_eq_false (by omega)
theorem db0{ω:Opq}(hf: ∀i a,ω.f i a=F i a){n bs:Nat}{l:List Val}(h1:(ω.w 1).toI=n)(h2:ω.w 2= .vi n)(h3:ω.w 3000= .vi bs)(h0:0<bs)(hl:l.length=n)(ho:l.all okK=true)(hn:n≤400)(hbs:bs≤1000)(hb:Bk bs n l):
 P5 (fun vs=>N0 cG0 (ω.upd 4000 vs)) [.vi 0,.vi (2*bs:Nat),.vl l]=some (0,[.vi (2*bs*(n/(2*bs)):Nat),.vi (2*bs*(n/(2*bs))+2*bs:Nat),.vl (a49 (2*bs) l (n/(2*bs)))]):=by
 have hq:2*bs*(n/(2*bs))≤n:=D4 n (2*bs)
 have hq2:n<2*bs*(n/(2*bs))+2*bs:=by
  have:=M4 n (show 0<2*bs by omega)
  rw[Nat.mul_succ]at this;exact this
 have ev: ∀k,bs*(2*k)=2*bs*k:=fun k=>by rw[←D5,x9 bs 2]
 have od: ∀k,bs*(2*k+1)=2*bs*k+bs:=fun k=>by rw[Nat.mul_succ,ev]
 generalize n/(2*bs)=q at hq hq2⊢
 refine Q4 (fun k=>[.vi (2*bs*k:Nat),.vi (2*bs*k+2*bs:Nat),.vl (a49 (2*bs) l k)]) (n:=q) (by rw[Nat.mul_zero,i3];rfl) (fun k hk=> ?_) ?_
 ·have hk2:2*bs*k+2*bs≤n:=by
   have:2*bs*(k+1)≤2*bs*q:=F0 _ hk
   rw[Nat.mul_succ]at this;omega
  show N0 cG0 (ω.upd 4000 [.vi (2*bs*k:Nat),.vi (2*bs*k+2*bs:Nat),.vl (a49 (2*bs) l k)])=some (0,[.vi (2*bs*(k+1):Nat),.vi (2*bs*(k+1)+2*bs:Nat),.vl (a49 (2*bs) l (k+1))])
  obtain⟨ω',hω⟩: ∃ω',ω'=ω.upd 4000 [.vi (2*bs*k:Nat),.vi (2*bs*k+2*bs:Nat),.vl (a49 (2*bs) l k)]:=⟨_,rfl⟩
  have v0:ω'.w 4000= .vi (2*bs*k:Nat):=by rw[hω];rfl
  have v1:ω'.w 4001= .vi (2*bs*k+2*bs:Nat):=by rw[hω];rfl
  have v2:ω'.w 4002= .vl (a49 (2*bs) l k):=by rw[hω];rfl
  have u1:(ω'.w 1).toI=n:=by rw[hω];exact h1
  have u2:ω'.w 2= .vi n:=by rw[hω];exact h2
  have u3:ω'.w 3000= .vi bs:=by rw[hω];exact h3
  have hf': ∀i a,ω'.f i a=F i a:=by rw[hω];exact hf
  have a1:arI .add .i64 ((2*bs*k:Nat):Int) (bs:Int)=((2*bs*k+bs:Nat):Int):=cc0 (by omega)
  have a2:arI .mul .i64 2 (bs:Int)=((2*bs:Nat):Int):=da8 (x:=2) (by omega)
  have a3:arI .add .i64 ((2*bs*k+2*bs:Nat):Int) ((2*bs:Nat):Int)=((2*bs*k+2*bs+2*bs:Nat):Int):=cc0 (by omega)
  have s1:=hb (2*k)
  rw[ev,x7 (by omega)]at s1
  have s2:=hb (2*k+1)
  rw[od,show 2*bs*k+bs+bs=2*bs*k+2*bs by omega,x7 (by omega)]at s2
  rw[←hω]
  unfold cG0
  refine T2 (by show decide ((ω'.w 4001).toI≤(ω'.w 2).toI)=true;rw[v1,u2];exact decide_eq_true (by show((2*bs*k+2*bs:Nat):Int)≤(n:Int);omega)) (P8 ?_ ?_)
  ·show(ω'.f 426 [ω'.w 4002,ω'.w 1,ω'.w 4000,Val.vi (arI .add .i64 (ω'.w 4000).toI (ω'.w 3000).toI),ω'.w 4001,.vi 512]).toB=true
   rw[hf',v0,v1,v2,u3,N5,N5,a1]
   exact b62 (aE9 ho k) (by rw[X8];exact hl) u1 hn (by omega) (by omega) hk2 (by omega) (by rw[ap7 (by omega) (b9 _)];exact s1) (by rw[ap7 (by omega) (by omega)];exact s2)
  ·show some (0,[ω'.w 4001,Val.vi (arI .add .i64 (ω'.w 4001).toI (arI .mul .i64 2 (ω'.w 3000).toI)),ω'.f 425 [ω'.w 4002,ω'.w 4000,ω'.w 4001]])=_
   rw[hf',v0,v1,v2,u3,cI2 rfl rfl,N5,N5,a2,a3,Nat.mul_succ]
   rfl
 ·show N0 cG0 (ω.upd 4000 [.vi (2*bs*q:Nat),.vi (2*bs*q+2*bs:Nat),.vl (a49 (2*bs) l q)])=_
  unfold cG0
  refine S8 ?_ rfl
  show decide (((2*bs*q+2*bs:Nat):Int)≤(ω.w 2).toI)=false
  rw[h2];exact decide_eq_false (by show¬((2*bs*q+2*bs:Nat):Int)≤(n:Int);omega)
def d01:SX:= .app 469 [.ci 0,.op (.ar .mul .i64) [.ci 2,.va 3000],.va 3001,.va 1,.va 3001,.va 2,.va 3000]
def aB9:SX:= .op .lget [d01,.ci 1,.ci 0]
def bs3:SX:= .op .lget [d01,.ci 1,.ci 2]
theorem c90:cZ2= .ite (.op (.cmp .lss) [.va 3000,.va 2]) (.loop ⟨469,[.ci 0,.op (.ar .mul .i64) [.ci 2,.va 3000],.va 3001],4000,[.va 1,.va 3001,.va 2,.va 3000]⟩ cG0 [.ite (.op (.cmp .lss) [.op (.ar .add .i64) [aB9,.va 3000],.va 2]) (.need (.app 426 [bs3,.va 1,aB9,.op (.ar .add .i64) [aB9,.va 3000],.va 2,.ci 512]) (.ret 0 [.op (.ar .mul .i64) [.va 3000,.ci 2],.app 425 [bs3,aB9,.va 2]])) (.ret 0 [.op (.ar .mul .i64) [.va 3000,.ci 2],bs3])]) (.ret 1 [.va 3000,.va 3001]):=rfl
theorem cI6{ω:Opq}(hf: ∀i a,ω.f i a=F i a){n bs:Nat}{l:List Val}(h1:(ω.w 1).toI=n)(h2:ω.w 2= .vi n)(h0:0<bs)(hlt:bs<n)(hl:l.length=n)(ho:l.all okK=true)(hn:n≤400)(hb:Bk bs n l):
 N0 cZ2 (ω.upd 3000 [.vi bs,.vl l])=some (0,[.vi (2*bs:Nat),.vl (pass bs n l)]):=by
 obtain⟨ω',hω⟩: ∃ω',ω'=ω.upd 3000 [.vi bs,.vl l]:=⟨_,rfl⟩
 have v0:ω'.w 3000= .vi bs:=by rw[hω];rfl
 have v1:ω'.w 3001= .vl l:=by rw[hω];rfl
 have u1:(ω'.w 1).toI=n:=by rw[hω];exact h1
 have u2:ω'.w 2= .vi n:=by rw[hω];exact h2
 have hf': ∀i a,ω'.f i a=F i a:=by rw[hω];exact hf
 have a2:arI .mul .i64 2 (bs:Int)=((2*bs:Nat):Int):=da8 (x:=2) (by omega)
 have a2':arI .mul .i64 (bs:Int) 2=((2*bs:Nat):Int):=by rw[x9];exact da8 (y:=2) (by omega)
 have it:=db0 hf' (l:=l) u1 u2 v0 h0 hl ho hn (by omega) hb
 have hp:pass bs n l=if 2*bs*(n/(2*bs))+bs<n then X4 false (a49 (2*bs) l (n/(2*bs))) (2*bs*(n/(2*bs))) n else a49 (2*bs) l (n/(2*bs)):=rfl
 have hF: ∀x y:Val,F 469 [.vi 0,.vi (2*bs:Nat),.vl l,x,y,.vi n,.vi bs]=S6 (0,[.vi (2*bs*(n/(2*bs)):Nat),.vi (2*bs*(n/(2*bs))+2*bs:Nat),.vl (a49 (2*bs) l (n/(2*bs)))]):=fun _ _=>rfl
 have hq:2*bs*(n/(2*bs))≤n:=D4 n (2*bs)
 have hq2:n<2*bs*(n/(2*bs))+2*bs:=by
  have:=M4 n (show 0<2*bs by omega)
  rw[Nat.mul_succ]at this;exact this
 generalize n/(2*bs)=q at it hp hF hq hq2
 have e469:den ω' d01=S6 (0,[.vi (2*bs*q:Nat),.vi (2*bs*q+2*bs:Nat),.vl (a49 (2*bs) l q)]):=by
  show ω'.f 469 [.vi 0,.vi (arI .mul .i64 2 (ω'.w 3000).toI),ω'.w 3001,ω'.w 1,ω'.w 3001,ω'.w 2,ω'.w 3000]=_
  rw[hf',v0,v1,u2,N5,a2,hF]
 have ea:den ω' aB9= .vi (2*bs*q:Nat):=by show Q5 (den ω' d01).toL 1 0=_;rw[e469];rfl
 have el:den ω' bs3= .vl (a49 (2*bs) l q):=by show Q5 (den ω' d01).toL 1 2=_;rw[e469];rfl
 have eb:den ω' (.op (.ar .add .i64) [aB9,.va 3000])= .vi (2*bs*q+bs:Nat):=by
  show Val.vi (arI .add .i64 (den ω' aB9).toI (ω'.w 3000).toI)=_
  rw[ea,v0,N5,N5,cc0 (by omega)]
 rw[←hω,c90]
 refine T2 (by show decide ((ω'.w 3000).toI<(ω'.w 2).toI)=true;rw[v0,u2];exact decide_eq_true (by show((bs:Nat):Int)<(n:Int);omega)) (N6 (r:=(0,[.vi (2*bs*q:Nat),.vi (2*bs*q+2*bs:Nat),.vl (a49 (2*bs) l q)])) ?_ e469 ?_)
 ·show P5 _ [.vi 0,.vi (arI .mul .i64 2 (ω'.w 3000).toI),ω'.w 3001]=_
  rw[v0,v1,N5,a2];exact it
 ·by_cases hc:2*bs*q+bs<n
  ·rw[hp,if_pos hc]
   refine T2 (by show decide ((den ω' (.op (.ar .add .i64) [aB9,.va 3000])).toI<(ω'.w 2).toI)=true;rw[eb,u2];exact decide_eq_true (by show((2*bs*q+bs:Nat):Int)<(n:Int);omega)) (P8 ?_ ?_)
   ·show(ω'.f 426 [den ω' bs3,ω'.w 1,den ω' aB9,den ω' (.op (.ar .add .i64) [aB9,.va 3000]),ω'.w 2,.vi 512]).toB=true
    rw[hf',el,ea,eb,u2]
    have s1:=hb (2*q)
    rw[←D5,x9 bs 2,x7 (by omega)]at s1
    have s2:=hb (2*q+1)
    rw[Nat.mul_succ,←D5,x9 bs 2,C1 (by omega)]at s2
    exact b62 (aE9 ho q) (by rw[X8];exact hl) u1 hn (by omega) hc (b9 _) (by omega) (by rw[ap7 (by omega) (b9 _)];exact s1) (by rw[ap7 (by omega) (by omega)];exact s2)
   ·show some (0,[Val.vi (arI .mul .i64 (ω'.w 3000).toI 2),ω'.f 425 [den ω' bs3,den ω' aB9,ω'.w 2]])=_
    rw[hf',el,ea,u2,v0,N5,a2',cI2 rfl rfl]
  ·rw[hp,if_neg hc]
   refine S8 (by show decide ((den ω' (.op (.ar .add .i64) [aB9,.va 3000])).toI<(ω'.w 2).toI)=false;rw[eb,u2];exact decide_eq_false (by show¬((2*bs*q+bs:Nat):Int)<(n:Int);omega)) ?_
   show some (0,[Val.vi (arI .mul .i64 (ω'.w 3000).toI 2),den ω' bs3])=_
   rw[el,v0,N5,a2']
theorem db1{ω:Opq}(hf: ∀i a,ω.f i a=F i a){n:Nat}(h1:(ω.w 1).toI=n)(h2:ω.w 2= .vi n)(hn:n≤400): ∀(f bs:Nat) (l:List Val),0<bs→n≤bs*2^f→l.length=n→l.all okK=true→Bk bs n l→
 Iter (fun vs=>N0 cZ2 (ω.upd 3000 vs)) [.vi bs,.vl l] 0 [.vi (ay4 n f bs l).1,.vl (ay4 n f bs l).2]:=by
 have out: ∀(bs:Nat) (l:List Val),n≤bs→N0 cZ2 (ω.upd 3000 [.vi bs,.vl l])=some (1,[.vi bs,.vl l]):=fun bs l h=>by
  rw[c90]
  refine S8 ?_ rfl
  show decide ((bs:Int)<(ω.w 2).toI)=false
  rw[h2];exact decide_eq_false (by show¬((bs:Nat):Int)<(n:Int);omega)
 intro f
 induction f with
 |zero=>
  intro bs l h0 hb hl ho hbk
  exact .out (out bs l (by simpa using hb))
 |succ f ih=>
  intro bs l h0 hb hl ho hbk
  rw[ay4]
  by_cases h:bs<n
  ·rw[if_pos h]
   obtain⟨p1,p2,p3⟩:=c88 h0 hl hbk
   exact .more (cI6 hf h1 h2 h0 h hl ho hn hbk) (ih (2*bs) _ (by omega) (by rw[Nat.pow_succ,x9 (2^f) 2,←D5,x9 bs 2]at hb;exact hb) (by rw[p3.length_eq];exact hl) (ae0 ho p3) p1)
  ·rw[if_neg h]
   exact .out (out bs l (by omega))
theorem t_stab{ω:Opq}(hf: ∀i a,ω.f i a=F i a)(hn:(F 428 [ω.w 0,ω.w 1,ω.w 2]).toB=true):N0 bC5 ω=some (0,[F 425 [ω.w 0,.vi 0,ω.w 2]]):=by
 obtain⟨ho,hd⟩:=M6 (show(bi3 (ω.w 0) (ω.w 1)&&(isI (ω.w 2)&&decide ((ω.w 2).toI=(ω.w 1).toI)))=true from hn)
 obtain⟨i2,hd⟩:=M6 hd
 obtain⟨e0,oa,h1,hl⟩:=aQ8 ho
 have q1:=of_decide_eq_true hd
 generalize hL:(ω.w 0).toL=l at e0 oa h1 hl
 obtain⟨n,hnn⟩: ∃n,l.length=n:=⟨_,rfl⟩
 rw[hnn]at h1 hl
 have w2:ω.w 2= .vi n:=(bD9 i2).trans (congrArg Val.vi (q1.trans h1))
 have h2:(ω.w 2).toI=n:=q1.trans h1
 have hq:=D4 n 20
 have e467:den ω bg3=S6 (0,[.vi (20*(n/20):Nat),.vi (20*(n/20)+20:Nat),.vl (a49 20 l (n/20))]):=by
  show ω.f 467 [.vi 0,.vi 20,ω.w 0,ω.w 1,ω.w 0,ω.w 2]=_
  rw[hf,e0,w2];rfl
 have d1:den ω bg4= .vl (a49 20 l (n/20)):=by show Q5 (den ω bg3).toL 1 2=_;rw[e467];rfl
 have d2:den ω bg5= .vi (20*(n/20):Nat):=by show Q5 (den ω bg3).toL 1 0=_;rw[e467];rfl
 have d3:den ω an0= .vl (X4 false (a49 20 l (n/20)) (20*(n/20)) n):=by
  show ω.f 425 [den ω bg4,den ω bg5,ω.w 2]=_
  rw[hf,d1,d2,w2,cI2 rfl rfl]
 have bk:=c87 hnn
 have pm:(X4 false (a49 20 l (n/20)) (20*(n/20)) n).Perm l:=(ai2 false hq).trans (ai4 _ _ _)
 have cl:Cl false (X4 false (a49 20 l (n/20)) (20*(n/20)) n) l:=(br3 false hq).trans (b63 _ _ _)
 have bl:=X8 20 l (n/20)
 have ba:=aE9 (B:=20) oa (n/20)
 generalize X4 false (a49 20 l (n/20)) (20*(n/20)) n=L at d3 bk pm cl
 have hres:=bE5 9 20 L (by omega) (by omega) (by rw[pm.length_eq];exact hnn) bk
 rw[srt_cl cl]at hres
 have e468:ω.f 468 [.vi 20,den ω an0,ω.w 1,den ω an0,ω.w 2]=S6 (0,[.vi (ay4 n 9 20 L).1,.vl (ay4 n 9 20 L).2]):=by
  rw[hf,d3,w2];rfl
 have hF:F 425 [ω.w 0,.vi 0,ω.w 2]= .vl (srt false l):=by
  rw[e0,w2,show Val.vi 0= .vi ((0:Nat):Int)from rfl,cI2 rfl rfl,←hnn,bD8]
 rw[hF]
 unfold bC5
 refine N6 (r:=(0,[.vi (20*(n/20):Nat),.vi (20*(n/20)+20:Nat),.vl (a49 20 l (n/20))])) ?_ e467 (P8 ?_ ?_)
 ·show P5 _ [.vi 0,.vi 20,ω.w 0]=_
  rw[e0];exact da9 hf h1 h2 hnn oa hl
 ·show(ω.f 424 [den ω bg4,ω.w 1,den ω bg5,ω.w 2]).toB=true
  rw[hf,d1,d2]
  exact c89 ba (bl.trans hnn) h1 hl rfl h2 hq (b9 _)
 ·refine N6 (r:=(0,[.vi (ay4 n 9 20 L).1,.vl (ay4 n 9 20 L).2])) ?_ e468 ?_
  ·show P5 _ [.vi 20,den ω an0]=_
   rw[d3,U3]
   exact db1 hf h1 w2 hl 9 20 L (by omega) (by omega) (by rw[pm.length_eq];exact hnn) (ae0 oa pm) bk
  ·show some (0,[Q5 (ω.f 468 [.vi 20,den ω an0,ω.w 1,den ω an0,ω.w 2]).toL 1 1])=_
   rw[e468,hres];rfl
end Go.Ev.S7
namespace Go.Ev.S7
open Go Go.Ev
theorem t_cmpR{ω:Opq}:N0 bB7 ω=some (0,[F 206 [ω.w 0,ω.w 1,ω.w 2,ω.w 7,ω.w 8,ω.w 9]]):=by
 simp only[bB7,bB5,am8,am9,bB6,N0,N2,den,dB,Q9,F,Y8,Y9,br6,Q7,O5,W1,show∀a b,bH4 .lss a b=R0 a b from fun _ _=>rfl,show∀a b,bH4 .gtr a b=R0 b a from fun _ _=>rfl,cP7,decide_eq_true_eq,N5]
 by_cases h1:R0 (ω.w 0).toS (ω.w 7).toS=true<;>by_cases h2:R0 (ω.w 7).toS (ω.w 0).toS=true<;>by_cases c1:(ω.w 2).toI<(ω.w 9).toI<;>by_cases c2:(ω.w 9).toI<(ω.w 2).toI<;>by_cases c3:(ω.w 1).toI<(ω.w 8).toI<;>by_cases c4:(ω.w 8).toI<(ω.w 1).toI<;>simp[h1,h2,c1,c2,c3,c4]
theorem f431{v:Val}(h:(F 431 [v]).toB=true):v= .vl v.toL∧v.toL.all okK=true:=by
 obtain⟨h1,h2⟩:=M6 (show(isL v&&v.toL.all okK)=true from h)
 exact⟨isL_at h1,h2⟩
theorem t_sstab{ω:Opq}(hf: ∀i a,ω.f i a=F i a)(hn:(ω.w 0).toL.length≤400)(h:(F 431 [ω.w 0]).toB=true):N0 b48 ω=some (0,[F 425 [ω.w 0,.vi 0,.vi (ω.w 0).toL.length]]):=by
 obtain⟨e,ho⟩:=f431 h
 unfold b48
 refine P8 ?_ ?_
 ·show(ω.f 428 [ω.w 0,.vi (ω.w 0).toL.length,.vi (ω.w 0).toL.length]).toB=true
  rw[hf]
  show(bi3 (ω.w 0) (.vi (ω.w 0).toL.length)&&(isI (.vi (ω.w 0).toL.length)&&decide (((ω.w 0).toL.length:Int)=((ω.w 0).toL.length:Int))))=true
  refine ap6 ?_ (ap6 rfl (decide_eq_true rfl))
  rw[e];exact aR3 ho rfl rfl hn
 ·show some (0,[ω.f 425 [ω.w 0,.vi 0,.vi (ω.w 0).toL.length]])=_
  rw[hf]
theorem cn2(v:Val):F 425 [v,.vi 0,.vi v.toL.length]= .vl (srt false v.toL):=by
 show Val.vl (X4 false v.toL 0 (nt (.vi v.toL.length)))=_
 rw[show nt (.vi (v.toL.length:Int))=v.toL.length from da6 _,bD8]
theorem t_aggSort{ω:Opq}(hf: ∀i a,ω.f i a=F i a)(hn:(ω.w 0).toL.length≤400)(h:(F 431 [ω.w 0]).toB=true):N0 au4 ω=some (0,[F 490 [ω.w 0]]):=by
 have e1:den ω (.app 425 [.va 0,.ci 0,.op .llen [.va 0]])= .vl (srt false (ω.w 0).toL):=by
  show ω.f 425 [ω.w 0,.vi 0,.vi (ω.w 0).toL.length]=_
  rw[hf,cn2]
 unfold au4 aP6
 refine P8 ?_ (P8 ?_ ?_)
 ·show(decide (((ω.w 0).toL.length:Int)≤400)&&(ω.f 431 [ω.w 0]).toB)=true
  rw[hf];exact ap6 (decide_eq_true (by omega)) h
 ·show decide (((ω.w 0).toL.length:Int)=((den ω (.app 425 [.va 0,.ci 0,.op .llen [.va 0]])).toL.length:Int))=true
  rw[e1]
  exact decide_eq_true (by show((ω.w 0).toL.length:Int)=((srt false (ω.w 0).toL).length:Int);rw[srt_len])
 ·show some (0,[den ω (.app 425 [.va 0,.ci 0,.op .llen [.va 0]])])=_
  rw[e1];rfl
theorem t_cloneR{ω:Opq}(hf: ∀i a,ω.f i a=F i a)(hn:(ω.w 0).toL.length≤400)(h:(F 431 [ω.w 0]).toB=true):N0 at9 ω=some (0,[ω.w 0]):=by
 obtain⟨e,ho⟩:=f431 h
 have hb:decide (((ω.w 0).toL.length:Int)≤1000000)=true:=decide_eq_true (by omega)
 by_cases h0:0<(ω.w 0).toL.length
 ·have h1:decide ((0:Int)<((ω.w 0).toL.length:Int))=true:=decide_eq_true (by omega)
  simp[at9,aE0,N0,N2,den,dB,Q9,h1,hb,h0,Q7,O5,P2,show(ω.w 0).toL.length≤1000000 by omega]
 ·have h2:(ω.w 0).toL=[]:=r9.1 (by omega)
  have h3:ω.w 0= .vl []:=by rw[e,h2]
  simp[at9,aE0,N0,N2,den,dB,Q9,h3,Q7,O5,P2]
end Go.Ev.S7
namespace Go.Ev.S7
open Go Go.Ev
def bs4:SX:= .op .lcat [.va 2002,.op .row [.op .row [.op .lget [.va 0,.va 2001,.ci 0],.op .lget [.va 0,.va 2001,.ci 1],.op .lget [.va 0,.va 2001,.ci 2],.op .lget [.va 0,.va 2001,.ci 3],.op .lget [.va 0,.va 2001,.ci 4],.op .lget [.va 0,.va 2001,.ci 5],.op .lget [.va 0,.va 2001,.ci 6]]]]
def db2:SX:= .app 481 [.va 2001,bs4,.ci 0,.op .llen [.va 0],.va 0,.op .llen [bs4],bs4,.va 2001]
def cI7:SX:= .op .lget [db2,.ci 1,.ci 1]
theorem c91:d54= .ite (.op (.cmp .lss) [.va 2001,.op .llen [.va 0]]) (.need (.op (.cmp .leq) [.ci 0,.va 2001]) (.need (.op .and [.op (.cmp .eql) [.va 2000,.op .llen [.va 2002]],.op (.cmp .leq) [.op .llen [bs4],.ci 1000000]]) (.loop ⟨481,[.va 2001,bs4],3000,[.ci 0,.op .llen [.va 0],.va 0,.op .llen [bs4],bs4,.va 2001]⟩ cG1 [.need (.op (.cmp .eql) [.op .llen [bs4],.op .llen [cI7]]) (.ret 0 [.op .llen [cI7],.op (.ar .add .i64) [.va 2001,.ci 1],cI7])]))) (.ret 1 [.va 2000,.va 2001,.va 2002]):=rfl
theorem cn3(B A:Val):P3 false B A=if(N3 A 0).toS=(N3 B 0).toS then decide ((N3 B 2).toI<(N3 A 2).toI)||decide ((N3 B 2).toI=(N3 A 2).toI)&&decide ((N3 B 1).toI<(N3 A 1).toI)else !R0 (N3 A 0).toS (N3 B 0).toS:=by
 have h0:P3 false B A=(R0 (N3 B 0).toS (N3 A 0).toS||decide ((N3 B 0).toS=(N3 A 0).toS)&&(decide ((N3 B 2).toI<(N3 A 2).toI)||decide ((N3 B 2).toI=(N3 A 2).toI)&&decide ((N3 B 1).toI<(N3 A 1).toI))):=rfl
 rw[h0]
 generalize (N3 A 0).toS=ka
 generalize (N3 B 0).toS=kb
 by_cases h:ka=kb
 ·subst h
  rw[if_pos rfl,show R0 ka ka=false from a64 ka,decide_eq_true rfl]
  simp
 ·rw[if_neg h,decide_eq_false (fun e=>h e.symm),k5,B9]
  cases h1:R0 ka kb with
  |true=>
   rw[o8,←l9]
   intro h2
   have:=aP9 (show ltB ka kb=true from h1) (show ltB kb ka=true from h2)
   rw[a64]at this;cases this
  |false=>
   rw[A2]
   cases h2:R0 kb ka with
   |true=>rfl
   |false=>exact absurd (aQ0 (show ltB ka kb=false from h1) (show ltB kb ka=false from h2)) h
theorem cI8{ω:Opq}{N k:Nat}{M:List Val}(hc:(ω.w 2002).toL.length+1=N)(hM:M.length=N)(ho:M.all okK=true)(hk:k+1<N)(hN:N≤1000):
 N0 cG1 (ω.upd 3000 [.vi (k+1:Nat),.vl M])=some (if P3 false (atV M (k+1)) (atV M k)then(0,[.vi k,.vl (swp M (k+1) k)])else(1,[.vi (k+1:Nat),.vl M])):=by
 have e1:=df4 (K:=k+1) (k:=k) rfl (by omega)
 have p0:(0:Int)<((k+1:Nat):Int):=by omega
 have p1:(0:Int)≤(k:Int):=by omega
 have p2:(k:Int)<N:=by omega
 have p3:(0:Int)≤((k+1:Nat):Int):=by omega
 have p4:((k+1:Nat):Int)<N:=by omega
 have hsw:(M.set k (O1 (atV M (k+1)))).set (k+1) (O1 (atV M k))=swp M (k+1) k:=by
  rw[okN ho (by omega),okN ho (by omega),b53 (by omega)];rfl
 rw[cn3]
 unfold cG1
 simp only[N0,N2,den,dB,Q9,N8,Nat.reduceLeDiff,Nat.reduceSub,if_true,if_false,m8,q9,N5,O8,Q7,e1,O5,P2,W1,cm9,cn0,show∀a b,bH4 .lss a b=R0 a b from fun _ _=>rfl,p0,p1,p2,p3,p4,decide_true,p9,e8,List.length_cons,List.length_nil,i3,hc,hM,s9,S2,S3,S4,U6,U9,V0,V3,ad9,Int.toNat_natCast,hsw]
 generalize (N3 (atV M k) 0).toS=ka
 generalize (N3 (atV M (k+1)) 0).toS=kb
 generalize (N3 (atV M k) 1).toI=sa
 generalize (N3 (atV M (k+1)) 1).toI=sb
 generalize (N3 (atV M k) 2).toI=ea
 generalize (N3 (atV M (k+1)) 2).toI=eb
 by_cases h:ka=kb
 ·simp only[h,decide_true,o8,i4,if_false,if_true]
  by_cases h2:ea=eb
  ·subst h2
   simp only[decide_true,o8,i4,if_false,Int.lt_irrefl,decide_false,A6,A0,decide_eq_true_eq]
   (repeat' split)<;>first|rfl|(exfalso;omega)
  ·simp only[h2,decide_false,A2,if_true,decide_eq_true_eq,show¬eb=ea from fun e=>h2 e.symm,k5,B9]
   (repeat' split)<;>first|rfl|(exfalso;omega)
 ·simp only[h,decide_false,A2,if_true,if_false]
  cases R0 ka kb<;>simp
theorem d02{ω:Opq}{N:Nat}(hc:(ω.w 2002).toL.length+1=N)(hN:N≤1000): ∀(k:Nat) (M:List Val),k<N→M.length=N→M.all okK=true→
 Iter (fun vs=>N0 cG1 (ω.upd 3000 vs)) [.vi k,.vl M] 0 [.vi (bubA false 0 M k).1,.vl (bubA false 0 M k).2]
 |0,M,hk,hM,ho=>by
  refine .out ?_
  show N0 cG1 (ω.upd 3000 [.vi (0:Nat),.vl M])=_
  unfold cG1
  refine S8 ?_ rfl
  show decide ((0:Int)<((0:Nat):Int))=false
  exact decide_eq_false (by omega)
 |k+1,M,hk,hM,ho=>by
  have hs:=cI8 (ω:=ω) hc hM ho hk hN
  unfold bubA
  rw[i3]
  cases h:P3 false (atV M (k+1)) (atV M k)with
  |true=>
   rw[h,if_pos rfl]at hs
   rw[if_pos rfl]
   exact .more hs (d02 hc hN k _ (by omega) (by rw[aQ5];exact hM) (aR2 ho (by omega) (by omega)))
  |false=>
   rw[h,if_neg (by simp)]at hs
   rw[if_neg (by simp)]
   exact .out hs
theorem map_norm{l:List Val}(h:l.all okK=true):l.map O1=l:=by
 have: ∀x∈l,O1 x=id x:=fun x hx=>okK_at (i6.1 h x hx)
 rw[B4 this,List.map_id]
theorem cI9(l:List Val){i:Nat}(hi:i<l.length):(bubA false 0 (srt false (l.take i)++[atV l i]) i).2=srt false (l.take (i+1)):=by
 have hl:(dsc false (l.take i)).length=i:=by
  have:=srt_len false (l.take i)
  unfold srt at this
  rw[List.length_reverse,e9]at this
  omega
 have:=b56 false (atV l i) (P:=[]) (a:=0) rfl (dsc false (l.take i)) []
 rw[hl,List.nil_append,List.nil_append,n9]at this
 unfold srt
 rw[this,show l.take (i+1)=l.take i++[atV l i] by rw[M3,show l[i]?.toList=[atV l i] by simp[atV,d9,hi]],c68]
theorem t_sort5{ω:Opq}(hf: ∀i a,ω.f i a=F i a)(hn:(ω.w 0).toL.length≤400)(h:(F 431 [ω.w 0]).toB=true):N0 b49 ω=some (0,[F 490 [ω.w 0]]):=by
 obtain⟨e,ho⟩:=f431 h
 generalize hL:(ω.w 0).toL=l at e ho hn
 have e480:den ω ap3=S6 (0,[.vi l.length,.vi l.length,.vl (srt false l)]):=by
  show ω.f 480 [.vi (0:Nat),.vi 0,.vl [],.vi 0,.vi (ω.w 0).toL.length,ω.w 0]=_
  rw[hf]
  show S6 (0,[.vi (ω.w 0).toL.length,.vi (ω.w 0).toL.length,.vl (srt false ((ω.w 0).toL.map O1))])=_
  rw[hL,map_norm ho]
 have d0:den ω (.op .lget [ap3,.ci 1,.ci 0])= .vi l.length:=by show Q5 (den ω ap3).toL 1 0=_;rw[e480];rfl
 have d1:den ω aP7= .vl (srt false l):=by show Q5 (den ω ap3).toL 1 2=_;rw[e480];rfl
 have hF:F 490 [ω.w 0]= .vl (srt false l):=by show Val.vl (srt false (ω.w 0).toL)=_;rw[hL]
 rw[hF]
 unfold b49
 refine N6 (r:=(0,[.vi l.length,.vi l.length,.vl (srt false l)])) ?_ e480 (P8 ?_ ?_)
 ·show P5 _ [.vi (0:Nat),.vi 0,.vl []]=_
  refine Q4 (fun i=>[.vi i,.vi i,.vl (srt false (l.take i))]) (n:=l.length) rfl (fun i hi=> ?_) ?_
  ·show N0 d54 (ω.upd 2000 [.vi i,.vi i,.vl (srt false (l.take i))])=some (0,[.vi (i+1:Nat),.vi (i+1:Nat),.vl (srt false (l.take (i+1)))])
   have tl:(srt false (l.take i)).length=i:=by rw[srt_len,e9];omega
   have ta:(srt false (l.take i)).all okK=true:=ae0 (i6.2 fun v hv=>i6.1 ho v (J6 hv)) (av1 false _)
   have hb:=cI9 l hi
   have hbl:(srt false (l.take (i+1))).length=i+1:=by rw[srt_len,e9];omega
   generalize srt false (l.take i)=M0 at tl ta hb⊢
   obtain⟨ω',hω⟩: ∃ω',ω'=ω.upd 2000 [.vi i,.vi i,.vl M0]:=⟨_,rfl⟩
   have v0:ω'.w 2000= .vi i:=by rw[hω];rfl
   have v1:ω'.w 2001= .vi i:=by rw[hω];rfl
   have v2:ω'.w 2002= .vl M0:=by rw[hω];rfl
   have u0:ω'.w 0= .vl l:=by rw[hω];exact e
   have hf': ∀i a,ω'.f i a=F i a:=by rw[hω];exact hf
   have xa:okK (atV l i)=true:=i6.1 ho _ (atV_mem hi)
   have dc:den ω' bs4= .vl (M0++[atV l i]):=by
    show Val.vl ((ω'.w 2002).toL++[O1 (atV (ω'.w 0).toL (ω'.w 2001).toI.toNat)])=_
    rw[v2,u0,v1]
    show Val.vl (M0++[O1 (atV l i)])=_
    rw[okK_at xa]
   have ml:(M0++[atV l i]).length=i+1:=by rw[e8,tl];rfl
   have ma:(M0++[atV l i]).all okK=true:=by rw[B2,ta,List.all_cons,xa];rfl
   have de:den ω' db2=S6 (0,[.vi (bubA false 0 (M0++[atV l i]) i).1,.vl (srt false (l.take (i+1)))]):=by
    show ω'.f 481 [ω'.w 2001,den ω' bs4,.vi 0,.vi (ω'.w 0).toL.length,ω'.w 0,.vi (den ω' bs4).toL.length,den ω' bs4,ω'.w 2001]=_
    rw[hf',dc,v1]
    show S6 (0,[.vi (bubA false 0 (M0++[atV l i]) i).1,.vl (bubA false 0 (M0++[atV l i]) i).2])=_
    rw[hb]
   have df:den ω' cI7= .vl (srt false (l.take (i+1))):=by show Q5 (den ω' db2).toL 1 1=_;rw[de];rfl
   rw[←hω,c91]
   refine T2 (by show decide ((ω'.w 2001).toI<((ω'.w 0).toL.length:Int))=true;rw[v1,u0];exact decide_eq_true (by show(i:Int)<(l.length:Int);omega)) (P8 (by show decide ((0:Int)≤(ω'.w 2001).toI)=true;rw[v1];exact decide_eq_true (by show(0:Int)≤(i:Int);omega)) (P8 ?_ (N6 (r:=(0,[.vi (bubA false 0 (M0++[atV l i]) i).1,.vl (srt false (l.take (i+1)))])) ?_ de (P8 ?_ ?_))))
   ·show(decide ((ω'.w 2000).toI=((ω'.w 2002).toL.length:Int))&&decide (((den ω' bs4).toL.length:Int)≤1000000))=true
    rw[v0,v2,dc]
    exact ap6 (decide_eq_true (by show(i:Int)=(M0.length:Int);omega)) (decide_eq_true (by show((M0++[atV l i]).length:Int)≤1000000;omega))
   ·show P5 _ [ω'.w 2001,den ω' bs4]=_
    rw[v1,dc,U3,←hb]
    exact d02 (N:=i+1) (by rw[v2];show M0.length+1=i+1;omega) (by omega) i _ (by omega) ml ma
   ·show decide (((den ω' bs4).toL.length:Int)=((den ω' cI7).toL.length:Int))=true
    rw[dc,df]
    exact decide_eq_true (by show((M0++[atV l i]).length:Int)=((srt false (l.take (i+1))).length:Int);omega)
   ·show some (0,[Val.vi ((den ω' cI7).toL.length:Int),Val.vi (arI .add .i64 (ω'.w 2001).toI 1),den ω' cI7])=_
    rw[df,v1,N5,bh4 (by omega)]
    show some (0,[Val.vi ((srt false (l.take (i+1))).length:Int),_,_])=_
    rw[hbl]
  ·show N0 d54 (ω.upd 2000 [.vi l.length,.vi l.length,.vl (srt false (l.take l.length))])=_
   rw[c91,C7]
   refine S8 ?_ rfl
   show decide ((l.length:Int)<((ω.w 0).toL.length:Int))=false
   rw[hL];exact decide_eq_false (by omega)
 ·show decide ((den ω (.op .lget [ap3,.ci 1,.ci 0])).toI=((den ω aP7).toL.length:Int))=true
  rw[d0,d1]
  exact decide_eq_true (by show(l.length:Int)=((srt false l).length:Int);rw[srt_len])
 ·show some (0,[den ω aP7])=_
  rw[d1]
end Go.Ev.S7
namespace Go.Ev
open Go
theorem c92{ω:Opq}(hf: ∀i a,ω.f i a=F i a)(hn:(ω.w 0).toL.length≤1000):N0 at5 ω=some (0,[F 1 [ω.w 0]]):=by
 unfold at5 de2
 simp only[N0,R2,N2,den,dB,Q9,List.cons_append,List.nil_append]
 rw[Z7 (bad:=fun i=>bq3 (atV (ω.w 0).toL i)) (px:=fun k=>[.vb false,.vi k]) (n:=(ω.w 0).toL.length)]
 ·simp only[hf,F,Y8,Y9,bE2,b58]
  cases h:(ω.w 0).toL.any bq3<;>simp[R2,N0,h,den,N2,Q9,S6,Q5,hf,F,bE2,Y8,Y9]
 ·intro i hi hb
  simp[hi,N8,Q2 (show i≤10000000 by omega),bq3,bC8,atV,N3]at hb⊢
  omega
 ·intro i hi hb
  simp[hi,N8,bq3,bC8,atV,N3]at hb⊢
  omega
 ·simp[N8]
theorem wrap_i64{x:Int}(h:0≤x)(h2:x≤10000000):IntKind.i64.wrap x=x:=by
 simp only[IntKind.wrap,IntKind.bits,IntKind.signed]
 simp
 omega
theorem cJ0{ω:Opq}(hf: ∀i a,ω.f i a=F i a)(hn:(ω.w 0).toL.length≤1000000):N0 b44 ω=some (0,[F 3 [ω.w 0,ω.w 1]]):=by
 unfold b44 de5
 simp only[N0,R2,N2,den,dB,Q9,List.cons_append,List.nil_append]
 by_cases hl:(ω.w 0).toL.length=(ω.w 1).toL.length
 ·have hl':((ω.w 0).toL.length:Int)=(ω.w 1).toL.length:=by rw[hl]
  rw[Z7 (bad:=fun i=> !decide (bN3 (atV (ω.w 0).toL i)=bN3 (atV (ω.w 1).toL i))) (px:=fun k=>[.vb false,.vi k]) (n:=(ω.w 0).toL.length)]
  ·simp only[hf,F,Y8,Y9,aE7 bN3 _ _ hl,aR0 bN3 _ _ hl,hl']
   by_cases h:(ω.w 0).toL.map bN3=(ω.w 1).toL.map bN3<;>simp[R2,N0,h,den,N2,Q9,S6,Q5,hf,F,Y8,Y9,hl',eqB,aE7 bN3 _ _ hl,bL9]
  ·intro i hi hb
   have hi':i<(ω.w 1).toL.length:=by omega
   simp only[I6,decide_eq_true_eq,bE3]at hb
   simp[hi,hi',N8,Q2 (show i≤10000000 by omega),S2,S3,S4,U6,U9,V0,V3,hb]
  ·intro i hi hb
   have hi':i<(ω.w 1).toL.length:=by omega
   simp only[m6,decide_eq_false_iff_not,bE3]at hb
   simp[hi,hi',N8,S2,S3,S4,U6,U9,V0,V3]
   simpa using hb
  ·simp[N8]
 ·have hl': ¬((ω.w 0).toL.length:Int)=(ω.w 1).toL.length:=by omega
  simp[hl',F,Y8,Y9,bL9,eqB,cu5 _ hl,N2,den]
theorem a34{step:List Val→Option (Nat×List Val)}{n:Nat}{a0:List Val}{g:Nat→List Val}(mk:Nat→List Val→List Val){s0 p:List Val}(h0:s0=mk 0 a0)
 (h1: ∀i,i<n→step (mk i (a0++a02 g i))=some (0,mk (i+1) (a0++a02 g i++g i))) (h2:step (mk n (a0++a02 g n))=some (1,p)):P5 step s0=some (0,p):=by
 have:=aP8 (step:=step) (st:=fun i=>mk i (a0++a02 g i)) (n:=n) (j:=0) (p:=p) (fun i hi=>by
   show step (mk i (a0++a02 g i))=some (0,mk (i+1) (a0++(a02 g i++g i)))
   rw[h1 i hi,r7]) h2
 rw[h0]
 simpa only[a02,n9]using this
theorem aF0{α β:Type}(f:α→β): ∀l:List α,l.flatMap (fun r=>[f r])=l.map f
 | []=>rfl
 |a::l=>by rw[z8,aF0 f l];rfl
theorem ad9(r:Val):Val.vl [N3 r 0,N3 r 1,N3 r 2,N3 r 3,N3 r 4,N3 r 5,N3 r 6]=O1 r:=rfl
theorem Q4{step:List Val→Option (Nat×List Val)}{n j:Nat}(st:Nat→List Val){s0 p:List Val}(h0:s0=st 0)(h1: ∀i,i<n→step (st i)=some (0,st (i+1)))(h2:step (st n)=some (j+1,p)):P5 step s0=some (j,p):=by
 rw[h0];exact aP8 h1 h2
theorem cu6{ω:Opq}(hf: ∀i a,ω.f i a=F i a)(hn:(ω.w 0).toL.length≤400):N0 bf3 ω=some (0,[F 30 [ω.w 0]]):=by
 have hg: ∀i,(a02 (fun i=>[O1 (atV (ω.w 0).toL i)]) i).length≤i:=fun i=>by simpa using ak6 (g:=fun i=>[O1 (atV (ω.w 0).toL i)]) (m:=1) (fun _=>by simp) i
 have hr:a02 (fun i=>[O1 (atV (ω.w 0).toL i)]) (ω.w 0).toL.length=(ω.w 0).toL.map O1:=by
  rw[a63,show(fun i=>[O1 (atV (ω.w 0).toL i)])=fun i=>(fun r=>[O1 r]) ((ω.w 0).toL.getD i (.vl []))from rfl,ab7 (fun r=>[O1 r]) (.vl []) (ω.w 0).toL]
  exact aF0 _ _
 unfold bf3 de3 c60 c59
 simp only[N0,R2,N2,den,dB,Q9,List.cons_append,List.nil_append]
 rw[a34 (fun i acc=>[.vi acc.length,.vi i,.vl acc]) (a0:=[]) (g:=fun i=>[O1 (atV (ω.w 0).toL i)]) (n:=(ω.w 0).toL.length) (p:=[.vi (T9 [] (fun r=>[O1 r]) (ω.w 0).toL).length,.vi (ω.w 0).toL.length,.vl (T9 [] (fun r=>[O1 r]) (ω.w 0).toL)]) (by simp)]
 ·simp[hf,F,aa7,Y8,Y9,T9,R2,N0,den,N2,dB,Q9,S6,Q5,hr]
 ·intro i hi
  have:=hg i
  have hb:((a02 (fun i=>[O1 (atV (ω.w 0).toL i)]) i).length:Int)+1≤1000000:=by omega
  simp[hi,N8,Q2 (show i≤10000000 by omega),S2,S3,S4,U6,U9,V0,V3,ad9,hb]
 ·simp[N8,T9]
theorem aR4(l:List Val)(i:Nat):Q5 l (i:Int) 7=N3 (atV l i) 7:=rfl
theorem bh5{ω:Opq}(hf: ∀i a,ω.f i a=F i a)(hn:(ω.w 0).toL.length≤1000):N0 ah2 ω=some (0,[F 200 [ω.w 0]]):=by
 have hg: ∀i,(a02 (fun i=>[W0 (atV (ω.w 0).toL i)]) i).length≤i:=fun i=>by simpa using ak6 (g:=fun i=>[W0 (atV (ω.w 0).toL i)]) (m:=1) (fun _=>by simp) i
 have hr:a02 (fun i=>[W0 (atV (ω.w 0).toL i)]) (ω.w 0).toL.length=(ω.w 0).toL.map W0:=by
  rw[a63,show(fun i=>[W0 (atV (ω.w 0).toL i)])=fun i=>(fun r=>[W0 r]) ((ω.w 0).toL.getD i (.vl []))from rfl,ab7 (fun r=>[W0 r]) (.vl []) (ω.w 0).toL]
  exact aF0 _ _
 unfold ah2 de4 aO5 aO4
 simp only[N0,R2,N2,den,dB,Q9,List.cons_append,List.nil_append]
 rw[a34 (fun i acc=>[.vi acc.length,.vi i,.vl acc]) (a0:=[]) (g:=fun i=>[W0 (atV (ω.w 0).toL i)]) (n:=(ω.w 0).toL.length) (p:=[.vi (T9 [] (fun r=>[W0 r]) (ω.w 0).toL).length,.vi (ω.w 0).toL.length,.vl (T9 [] (fun r=>[W0 r]) (ω.w 0).toL)]) (by simp)]
 ·simp[hf,F,aa7,Y8,Y9,T9,R2,N0,den,N2,dB,Q9,S6,Q5,hr]
 ·intro i hi
  have:=hg i
  have hb:((a02 (fun i=>[W0 (atV (ω.w 0).toL i)]) i).length:Int)+1≤1000000:=by omega
  simp[hi,N8,Q2 (show i≤10000000 by omega),S2,S3,S4,U6,U9,V0,V3,aR4,aQ3,hb]
 ·simp[N8,T9]
theorem cJ1{ω:Opq}(hf: ∀i a,ω.f i a=F i a)(hn:(ω.w 0).toL.length≤1000000):N0 b45 ω=some (0,[F 201 [ω.w 0,ω.w 1]]):=by
 unfold b45 de6
 simp only[N0,R2,N2,den,dB,Q9,List.cons_append,List.nil_append]
 by_cases hl:(ω.w 0).toL.length=(ω.w 1).toL.length
 ·have hl':((ω.w 0).toL.length:Int)=(ω.w 1).toL.length:=by rw[hl]
  rw[Z7 (bad:=fun i=> !decide (bN4 (atV (ω.w 0).toL i)=bN4 (atV (ω.w 1).toL i))) (px:=fun k=>[.vb false,.vi k]) (n:=(ω.w 0).toL.length)]
  ·simp only[hf,F,Y8,Y9,aE7 bN4 _ _ hl,aR0 bN4 _ _ hl,hl']
   by_cases h:(ω.w 0).toL.map bN4=(ω.w 1).toL.map bN4<;>simp[R2,N0,h,den,N2,Q9,S6,Q5,hf,F,Y8,Y9,hl',eqB,aE7 bN4 _ _ hl,bM2]
  ·intro i hi hb
   have hi':i<(ω.w 1).toL.length:=by omega
   simp only[I6,decide_eq_true_eq,bE0]at hb
   simp[hi,hi',N8,Q2 (show i≤10000000 by omega),S2,S3,S4,U6,U9,V0,V3,aR4,hb]
  ·intro i hi hb
   have hi':i<(ω.w 1).toL.length:=by omega
   simp only[m6,decide_eq_false_iff_not,bE0]at hb
   simp[hi,hi',N8,S2,S3,S4,U6,U9,V0,V3,aR4]
   simpa using hb
  ·simp[N8]
 ·have hl': ¬((ω.w 0).toL.length:Int)=(ω.w 1).toL.length:=by omega
  simp[hl',F,Y8,Y9,bM2,eqB,cu5 _ hl,N2,den]
theorem cn4{ω:Opq}(hf: ∀i a,ω.f i a=F i a)(h:(ω.w 0).toI=(ω.w 1).toL.length)(hn:(ω.w 1).toL.length≤1000000):N0 aD8 ω=some (0,[]):=by
 unfold aD8 de7
 simp only[N0,R2,N2,den,dB,Q9,List.cons_append,List.nil_append]
 rw[Q4 (fun i=>[.vi i,aA8 (ω.w 1) i]) (n:=(ω.w 1).toL.length) (j:=0) (p:=[.vi (ω.w 1).toL.length,aA8 (ω.w 1) (ω.w 1).toL.length]) (by simp[aA8])]
 ·simp[hf,F,Y8,Y9,h,R2,N0,N2]
 ·intro i hi
  simp[hi,N8,h,Q2 (show i≤10000000 by omega),aA8,aX5,df2]
 ·simp[N8,h]
theorem d03{ω:Opq}:N0 bB0 ω=some (0,[F 205 [ω.w 0,ω.w 1,ω.w 2,ω.w 3,ω.w 4,ω.w 5]]):=by
 simp only[bB0,N0,N2,den,dB,Q9,F,Y8,Y9,br6,Q7,O5,W1,show∀a b,bH4 .lss a b=R0 a b from fun _ _=>rfl,show∀a b,bH4 .gtr a b=R0 b a from fun _ _=>rfl,af0]
 cases h1:R0 (ω.w 0).toS (ω.w 3).toS with
 |true=>simp
 |false=>
  cases h2:R0 (ω.w 3).toS (ω.w 0).toS with
  |true=>
   have: ¬(ω.w 0).toS=(ω.w 3).toS:=fun h=>by rw[h]at h2;have:=a64 (ω.w 3).toS;rw[show R0 _ _=ltB _ _ from rfl,this]at h2;cases h2
   simp[this]
  |false=>
   have:=aQ0 h1 h2
   simp only[this,i4,if_false,decide_true,A6,A0]
   by_cases c1:(ω.w 2).toI<(ω.w 5).toI
   ·simp[c1]
   ·by_cases c2:(ω.w 5).toI<(ω.w 2).toI
    ·have: ¬(ω.w 2).toI=(ω.w 5).toI:=by omega
     simp[c1,c2,this]
    ·have:(ω.w 2).toI=(ω.w 5).toI:=by omega
     by_cases c3:(ω.w 1).toI<(ω.w 4).toI<;>by_cases c4:(ω.w 4).toI<(ω.w 1).toI<;>simp[this,c3,c4]
theorem d04{ω:Opq}:N0 bB3 ω=some (0,[F 206 [ω.w 0,ω.w 1,ω.w 2,ω.w 8,ω.w 9,ω.w 10]]):=by
 simp only[bB3,bB1,am6,am7,bB2,N0,N2,den,dB,Q9,F,Y8,Y9,br6,Q7,O5,W1,show∀a b,bH4 .lss a b=R0 a b from fun _ _=>rfl,show∀a b,bH4 .gtr a b=R0 b a from fun _ _=>rfl,cP7]
 by_cases h1:R0 (ω.w 0).toS (ω.w 8).toS=true<;>by_cases h2:R0 (ω.w 8).toS (ω.w 0).toS=true<;>by_cases c1:(ω.w 2).toI<(ω.w 10).toI<;>by_cases c2:(ω.w 10).toI<(ω.w 2).toI<;>by_cases c3:(ω.w 1).toI<(ω.w 9).toI<;>by_cases c4:(ω.w 9).toI<(ω.w 1).toI<;>simp[h1,h2,c1,c2,c3,c4]
theorem al0(m:List Val)(k:List Val):(m.findIdx fun r=>keq [.str,.int .i64,.int .i64] r (.vl k))=W6 m (br6 k 0):=by
  unfold W6
  congr 1
  funext r
  rw[m9,decide_eq_true_iff]
  show(decide ((k.getD 0 default).toS=(r.toL.getD 0 default).toS)&&(decide ((k.getD 1 default).toI=(r.toL.getD 1 default).toI)&&(decide ((k.getD 2 default).toI=(r.toL.getD 2 default).toI)&&true)))=true↔_
  simp only[d6,decide_eq_true_eq,and_true,N4,PaneM.mk.injEq,br6,arg,N3]
  constructor<;>rintro⟨h1,h2,h3⟩<;>exact⟨h1.symm,h2.symm,h3.symm⟩
theorem ay8{l:List Val}{p:PaneM}{k:Nat}(hk:k<W6 l p): ¬N4 (atV l k)=p:=by
 have h:=List.not_of_lt_findIdx hk
 have hl:k<l.length:=o7 hk List.findIdx_le_length
 simp only[decide_eq_false_iff_not]at h
 have e:atV l k=l[k]:=by simp[atV,d9,hl]
 rw[e];simpa using h
theorem cu7{l:List Val}{p:PaneM}(h:W6 l p<l.length):N4 (atV l (W6 l p))=p:=by
 have:=List.findIdx_getElem (xs:=l) (p:=fun r=>decide (N4 r=p)) (w:=h)
 have e:atV l (W6 l p)=l[W6 l p]:=by simp[atV,d9,h]
 rw[e];exact of_decide_eq_true this
theorem d05{ω:Opq}(hf: ∀i a,ω.f i a=F i a)(hn:(ω.w 0).toL.length≤1000000):N0 bA9 ω=some (0,[Q5 (F 203 [ω.w 0,ω.w 1,ω.w 2,ω.w 3]).toL 0 0,Q5 (F 203 [ω.w 0,ω.w 1,ω.w 2,ω.w 3]).toL 0 1,Q5 (F 203 [ω.w 0,ω.w 1,ω.w 2,ω.w 3]).toL 0 2,Q5 (F 203 [ω.w 0,ω.w 1,ω.w 2,ω.w 3]).toL 0 3,F 204 [ω.w 0,ω.w 1,ω.w 2,ω.w 3]]):=by
 unfold bA9 de8 aX3
 simp only[N0,R2,N2,den,dB,Q9,List.cons_append,List.nil_append]
 obtain⟨p,hp⟩: ∃p:PaneM,p=⟨(ω.w 1).toS,(ω.w 2).toI,(ω.w 3).toI⟩:=⟨_,rfl⟩
 have hpan: ∀r:Val,N4 r=p↔(N3 r 0).toS=(ω.w 1).toS∧(N3 r 1).toI=(ω.w 2).toI∧(N3 r 2).toI=(ω.w 3).toI:=fun r=>by rw[hp];simp only[N4,PaneM.mk.injEq]
 by_cases hh:W6 (ω.w 0).toL p<(ω.w 0).toL.length
 ·have hat:=(hpan _).1 (cu7 hh)
  rw[Q4 (fun i=>[.vb false,.vi i,.vi 0,.vi 0,.vi 0,.vi 0]) (n:=W6 (ω.w 0).toL p) (j:=1) (p:=(aT5 (ω.w 0).toL p).2) (by simp)]
  ·simp[hf,F,Y8,Y9,br6,←hp,aT5,ab9,hh,R2,N0,den,N2,Q9,S6,Q5]
  ·intro i hi
   have hb:=(not_congr (hpan _)).1 (ay8 hi)
   simp[show i<(ω.w 0).toL.length by omega,N8,Q2 (show i≤10000000 by omega),S2,S3,S4,U6,U9,V0,V3]
   simpa using hb
  ·simp[hh,N8,S2,S3,S4,U6,U9,V0,V3,hat,aT5,ab9]
 ·rw[Q4 (fun i=>[.vb false,.vi i,.vi 0,.vi 0,.vi 0,.vi 0]) (n:=(ω.w 0).toL.length) (j:=0) (p:=(aT5 (ω.w 0).toL p).2) (by simp)]
  ·simp[hf,F,Y8,Y9,br6,←hp,aT5,ab9,hh,R2,N0,den,N2,Q9,S6,Q5]
  ·intro i hi
   have hb:=(not_congr (hpan _)).1 (ay8 (l:=(ω.w 0).toL) (p:=p) (k:=i) (by omega))
   simp[hi,N8,Q2 (show i≤10000000 by omega),S2,S3,S4,U6,U9,V0,V3]
   simpa using hb
  ·simp[N8,aT5,ab9,hh]
end Go.Ev
namespace Go.Ev
open Go
theorem N6{hd:LHd}{body:VT}{ks:List VT}{ω:Opq}{r:Nat×List Val}{out:Option (Nat×List Val)}(h1:P5 (fun vs=>N0 body (ω.upd hd.v0 vs)) (N2 ω hd.s0)=some r)(h2:ω.f hd.id (N2 ω (hd.s0++hd.fv))=S6 r)(h3:R2 ks r.1 ω=out):N0 (.loop hd body ks) ω=out:=by
 rw[N0.eq_5,h1]
 simp only
 rw[if_pos h2,h3]
def cJ2:VT:= .loop ⟨134,[.va 2000,.ci 0],3000,[.ci 0,.op .llen [.va 0],.va 0,.va 2001]⟩ cO4 [.ret 0 [.op .lget [.app 134 [.va 2000,.ci 0,.ci 0,.op .llen [.va 0],.va 0,.va 2001],.ci 1,.ci 0],.op (.ar .add .i64) [.va 2001,.ci 1]],.ret 2 [.op .lget [.app 134 [.va 2000,.ci 0,.ci 0,.op .llen [.va 0],.va 0,.va 2001],.ci 1,.ci 0],.va 2001]]
theorem db3{ω:Opq}(hf: ∀i a,ω.f i a=F i a){i:Nat}(h0:i<(ω.w 0).toL.length)(hn:(ω.w 0).toL.length≤1000000)(hx:ω.w 2000= .vb false)(hi:ω.w 2001= .vi i):
 N0 cJ2 ω=some (if ay5 (ω.w 0).toL i then(2,[.vb false,.vi i])else(0,[.vb false,.vi (i+1:Nat)])):=by
 unfold cJ2
 refine N6 (r:=a84 (.vb false) (fun k=>[.vb false,.vi k]) (bM3 (ω.w 0).toL i) i) ?_ ?_ ?_
 ·show P5 _ [ω.w 2000,.vi 0]=_
  rw[hx]
  refine Z7 ?_ ?_ ?_
  ·intro k hk hb
   have hb: ¬N4 (atV (ω.w 0).toL k)=N4 (atV (ω.w 0).toL i):=of_decide_eq_false hb
   rw[ai3]at hb
   simp[cO4,N0,N2,den,dB,Q9,hk,hi,h0,show k<(ω.w 0).toL.length by omega,N8,Q2 (show k≤10000000 by omega),S2,S3,S4]
   simpa using hb
  ·intro k hk hb
   have hb:N4 (atV (ω.w 0).toL k)=N4 (atV (ω.w 0).toL i):=of_decide_eq_true hb
   rw[ai3]at hb
   simp[cO4,N0,N2,den,dB,Q9,hk,hi,h0,show k<(ω.w 0).toL.length by omega,N8,S2,S3,S4,hb]
  ·simp[cO4,N0,N2,den,dB,Q9,hi,N8]
 ·simp[hf,F,N2,den,Q9,Y8,Y9,hx,hi]
 ·have hF:F 134 [.vb false,.vi 0,.vi 0,.vi (ω.w 0).toL.length,ω.w 0,.vi i]=S6 (a84 (.vb false) (fun k=>[.vb false,.vi k]) (bM3 (ω.w 0).toL i) i):=by simp[F,Y8,Y9]
  rw[Y6]at hF⊢
  cases hd:ay5 (ω.w 0).toL i with
  |true=>
   have hd':(List.range i).any (bM3 (ω.w 0).toL i)=true:=hd
   rw[hd',if_pos rfl]at hF⊢
   simp only[R2,N0,N2,den,Q9,hf,hx,hi,hF,N5,O8,if_true]
   rfl
  |false=>
   have hd':(List.range i).any (bM3 (ω.w 0).toL i)=false:=hd
   rw[hd',if_neg (by simp)]at hF⊢
   simp only[R2,N0,N2,den,Q9,hf,hx,hi,hF,N5,O8,Q2 (show i≤10000000 by omega),i4,if_false]
   rfl
theorem cn5{ω:Opq}(hf: ∀i a,ω.f i a=F i a)(hn:(ω.w 0).toL.length≤1000000):N0 aD9 ω=some (0,[F 202 [ω.w 0]]):=by
 unfold aD9
 have step: ∀i,i<(ω.w 0).toL.length→N0 cO5 (ω.upd 2000 [.vb false,.vi i])=some (if aT4 (ω.w 0).toL i then(2,[.vb false,.vi i])else(0,[.vb false,.vi (i+1:Nat)])):=by
  intro i hi
  have hl:=db3 (ω:=ω.upd 2000 [.vb false,.vi i]) hf (i:=i) (by simpa[N8]using hi) (by simpa[N8]using hn) (by simp[N8]) (by simp[N8])
  unfold cJ2 at hl
  rw[show(ω.upd 2000 [.vb false,.vi i]).w 0=ω.w 0 by simp[N8]]at hl
  unfold cO5
  simp only[N0.eq_2,N0.eq_3,N0.eq_4,hl]
  simp only[dB,N2,den,Q9,N8,N5,Q7,O8,Z9]
  simp[hi,U6,U9,V0,V3,aT4]
  cases hok:okV (atV (ω.w 0).toL i)with
  |true=>
   rw[c74]at hok
   obtain⟨h1,h2⟩:=hok
   cases ay5 (ω.w 0).toL i<;>simp<;>(repeat' split)<;>first|rfl|(exfalso;omega)|omega
  |false=>
   rw[cH0]at hok
   simp
   intro hz
   (repeat' split)<;>first|rfl|(exfalso;omega)
 refine N6 (r:=a84 (.vb false) (fun k=>[.vb false,.vi k]) (aT4 (ω.w 0).toL) (ω.w 0).toL.length) ?_ ?_ ?_
 ·refine Z7 (fun i hi hb=> ?_) (fun i hi hb=> ?_) ?_
  ·show N0 cO5 (ω.upd 2000 [.vb false,.vi i])=_
   rw[step i hi,hb];rfl
  ·show N0 cO5 (ω.upd 2000 [.vb false,.vi i])=_
   rw[step i hi,hb];rfl
  ·simp[cO5,N0.eq_2,N0.eq_4,dB,N2,den,Q9,N8]
 ·simp[hf,F,N2,den,Q9,Y8,Y9]
 ·have hF:F 133 [.vb false,.vi 0,.vi 0,.vi (ω.w 0).toL.length,ω.w 0]=S6 (a84 (.vb false) (fun k=>[.vb false,.vi k]) (aT4 (ω.w 0).toL) (ω.w 0).toL.length):=by simp[F,Y8,Y9]
  have h2:F 202 [ω.w 0]= .vb (!(List.range (ω.w 0).toL.length).any (aT4 (ω.w 0).toL)):=rfl
  rw[h2]
  rw[Y6]at hF⊢
  cases hd:(List.range (ω.w 0).toL.length).any (aT4 (ω.w 0).toL)with
  |true=>
   rw[hd,if_pos rfl]at hF
   rw[if_pos rfl]
   simp only[R2,N0,N2,den,Q9,hf,hF]
   rfl
  |false=>
   rw[if_neg (by simp)]
   rfl
theorem d06(n:Nat)(p:List Val):Q5 (S6 (n,p)).toL 1 0=p.getD 0 default:=rfl
theorem d07(n:Nat)(p:List Val):Q5 (S6 (n,p)).toL 1 1=p.getD 1 default:=rfl
theorem d08(n:Nat)(p:List Val):Q5 (S6 (n,p)).toL 1 2=p.getD 2 default:=rfl
theorem cn6{K k:Nat}(h:K=k+1)(h2:K≤10000000):arI .sub .i64 (K:Int) 1=(k:Int):=by
 simp only[arI]
 rw[show(K:Int)-1=(k:Int) by omega,wrap_i64]<;>omega
theorem cJ3(a b:Val):F 205 [N3 a 0,N3 a 1,N3 a 2,N3 b 0,N3 b 1,N3 b 2]= .vb (ap5 a b):=rfl
theorem cJ4{ω:Opq}(hf: ∀i a,ω.f i a=F i a){i k K:Nat}(hK:K=k+1)(hKi:K≤i)(hi:i≤1000000)(hacc:(ω.w 2002).toL.length=i){l:List Val}(hl:l.length=i+1):
 N0 cF4 (ω.upd 3000 [.vi K,.vl l])=some (if ap5 (atV l K) (atV l k)then(0,[.vi k,.vl ((l.set k (W0 (atV l K))).set K (W0 (atV l k)))])else(1,[.vi K,.vl l])):=by
 have e1:=cn6 hK (by omega)
 have p0:(0:Int)<K:=by omega
 have p1:(0:Int)≤K:=by omega
 have p2:(K:Int)<((i+1:Nat):Int):=by omega
 have p3:(0:Int)≤k:=by omega
 have p4:(k:Int)<((i+1:Nat):Int):=by omega
 unfold cF4
 simp only[N0,N2,den,dB,Q9,N8,show(3000≤3000)=True by simp,show(3000≤3001)=True by simp,if_true,show 3000-3000=0 from rfl,show 3001-3000=1 from rfl,m8,q9,show(3000≤2002)=False by simp,show(3000≤2001)=False by simp,show(3000≤0)=False by simp,if_false,N5,O8,Q7,e1,S2,S3,S4,U6,U9,V0,V3,aR4,av5,hf,cJ3,aQ3,W1,P2,O5,e8,List.length_cons,List.length_nil,hacc,hl,s9,p0,p1,p2,p3,p4,decide_true,p9,Int.toNat_natCast]
 cases ap5 (atV l K) (atV l k)<;>rfl
theorem d09{ω:Opq}(hf: ∀i a,ω.f i a=F i a){i:Nat}(hi:i≤1000000)(hacc:(ω.w 2002).toL.length=i): ∀(k:Nat),k≤i→ ∀l:List Val,l.length=i+1→
 P5 (fun vs=>N0 cF4 (ω.upd 3000 vs)) [.vi k,.vl l]=some (0,[.vi (bub l k).1,.vl (bub l k).2])
 |0,_,l,hl=>by
  rw[U3]
  refine .out ?_
  show N0 cF4 (ω.upd 3000 [.vi 0,.vl l])=_
  simp[cF4,N0,N2,den,dB,Q9,N8,bub]
 |k+1,hk,l,hl=>by
  have hs:=cJ4 hf (K:=k+1) rfl hk hi hacc hl
  rw[U3]
  cases hc:ap5 (atV l (k+1)) (atV l k)with
  |true=>
   rw[hc,if_pos rfl]at hs
   have ih:=d09 hf hi hacc k (by omega) (bM0 l k) (by rw[bg7,hl])
   rw[U3]at ih
   refine .more hs ?_
   unfold bub
   rw[hc,if_pos rfl]
   exact ih
  |false=>
   rw[hc,if_neg (by simp)]at hs
   refine .out ?_
   show N0 cF4 (ω.upd 3000 [.vi (k+1:Nat),.vl l])=_
   unfold bub
   rw[hc,if_neg (by simp),hs]
theorem cJ5{ω:Opq}(hf: ∀i a,ω.f i a=F i a){i:Nat}(hi:i<(ω.w 0).toL.length)(hn:(ω.w 0).toL.length≤1000):
 N0 cY8 (ω.upd 2000 [.vi i,.vi i,.vl (a48 (ω.w 0).toL i)])=some (0,[.vi (i+1:Nat),.vi (i+1:Nat),.vl (a48 (ω.w 0).toL (i+1))]):=by
 have hlen:=ak7 (ω.w 0).toL i
 have hlp:=d09 (ω:=ω.upd 2000 [.vi i,.vi i,.vl (a48 (ω.w 0).toL i)]) hf (i:=i) (by omega) (by simpa[N8]using hlen) i (b9 _) (a48 (ω.w 0).toL i++[W0 (atV (ω.w 0).toL i)]) (by simp[hlen])
 have hi1:(i:Int)<((ω.w 0).toL.length:Int):=by omega
 have hi0:(0:Int)≤(i:Int):=by omega
 have hb:((i+1:Nat):Int)≤1000000:=by omega
 unfold cY8
 simp only[N0.eq_2,N0.eq_3,dB,den,N2,Q9,N8,show(2000≤2000)=True by simp,show(2000≤2001)=True by simp,show(2000≤2002)=True by simp,if_true,show 2000-2000=0 from rfl,show 2001-2000=1 from rfl,show 2002-2000=2 from rfl,m8,q9,show(2000≤0)=False by simp,if_false,N5,O8,Q7,O5,P2,R1,hi1,hi0,e8,List.length_cons,List.length_nil,hlen,i3,decide_true,hb,p9]
 refine N6 (r:=(0,[.vi (bub (a48 (ω.w 0).toL i++[W0 (atV (ω.w 0).toL i)]) i).1,.vl (a48 (ω.w 0).toL (i+1))])) ?_ ?_ ?_
 ·refine Eq.trans (congrArg (P5 _) ?_) hlp
  simp[N2,den,Q9,N8,S2,S3,S4,U6,U9,V0,V3,aR4,aQ3]
 ·simp[hf,F,N2,den,Q9,Y8,Y9,N8,av5,S2,S3,S4,U6,U9,V0,V3,aR4,aQ3,a48]
 ·have h2:=ak7 (ω.w 0).toL (i+1)
  simp[R2,N0,hf,F,N2,den,dB,Q9,Y8,Y9,N8,av5,S2,S3,S4,U6,U9,V0,V3,aR4,aQ3,d07,bq5,hlen,a48,Q2 (show i≤10000000 by omega)]
theorem c93{ω:Opq}(hf: ∀i a,ω.f i a=F i a)(hn:(ω.w 0).toL.length≤1000):N0 at6 ω=some (0,[F 207 [ω.w 0]]):=by
 unfold at6 aO7 aO6
 have hl:=ak7 (ω.w 0).toL (ω.w 0).toL.length
 refine N6 (r:=(0,[.vi (ω.w 0).toL.length,.vi (ω.w 0).toL.length,.vl (ab8 (ω.w 0).toL)])) ?_ ?_ ?_
 ·refine Q4 (fun i=>[.vi i,.vi i,.vl (a48 (ω.w 0).toL i)]) (n:=(ω.w 0).toL.length) ?_ (fun i hi=>cJ5 hf hi hn) ?_
  ·simp[N2,den,Q9,a48]
  ·show N0 cY8 (ω.upd 2000 [_,_,_])=_
   simp[cY8,N0.eq_2,N0.eq_4,dB,N2,den,Q9,N8,ab8]
 ·simp[hf,F,N2,den,Q9,Y8,Y9]
 ·simp[R2,N0,hf,F,N2,den,dB,Q9,Y8,Y9,d06,d08,ab8,hl]
end Go.Ev
namespace Go.Ev
open Go
theorem bE6(l:List Val)(p:PaneM):ab9 l p=l.any fun r=>decide (N4 r=p):=by
  unfold ab9 W6
  rw[m9,decide_eq_true_iff,List.findIdx_lt_length,u9]
def g7(l:List Val)(i:Nat):List Val:=[O1 (atV l i)]
theorem c94(l:List Val)(i:Nat)(p:PaneM):ab9 (a02 (g7 l) i) p=(List.range i).any fun k=>decide (N4 (atV l k)=p):=by
  rw[bE6,a63,List.any_flatMap]
  congr 1
  funext k
  simp[g7];rfl
theorem bE7(l:List Val)(i:Nat):ab9 (a02 (g7 l) i) (N4 (atV l i))=ay5 l i:=by
 rw[c94];rfl
theorem bh6(l:List Val):a02 (g7 l) l.length=l.map O1:=by
 rw[a63]
 show(List.range l.length).flatMap (fun i=>[O1 (atV l i)])=_
 rw[show(fun i=>[O1 (atV l i)])=fun i=>(fun r=>[O1 r]) (l.getD i (.vl []))from rfl,ab7 (fun r=>[O1 r]) (.vl []) l]
 exact aF0 _ _
theorem ac2(r:Val):br6 [N3 r 0,N3 r 1,N3 r 2] 0=N4 r:=rfl
theorem cu8{ω:Opq}(hf: ∀i a,ω.f i a=F i a){i:Nat}(hi:i<(ω.w 0).toL.length)(hn:(ω.w 0).toL.length≤1000000):
 N0 cb9 (ω.upd 2000 [.vi i,.vl (a02 (g7 (ω.w 0).toL) i)])=some (if aT4 (ω.w 0).toL i then(2,[.vi i,.vl (a02 (g7 (ω.w 0).toL) i)])else(0,[.vi (i+1:Nat),.vl (a02 (g7 (ω.w 0).toL) (i+1))])):=by
 have hi1:(i:Int)<((ω.w 0).toL.length:Int):=by omega
 have hi0:(0:Int)≤(i:Int):=by omega
 have hd:=bE7 (ω.w 0).toL i
 unfold ab9 at hd
 unfold cb9
 simp only[N0,N2,den,dB,Q9,N8,show(2000≤2000)=True by simp,show(2000≤2001)=True by simp,if_true,show 2000-2000=0 from rfl,show 2001-2000=1 from rfl,m8,q9,show(2000≤0)=False by simp,if_false,N5,O8,Q7,O5,P2,R1,W1,hi1,hi0,decide_true,al0,S2,S3,S4,U6,U9,V0,V3,ac2,b57,hd,ad9,Q2 (show i≤10000000 by omega),aT4]
 rcases s7 (ay5 (ω.w 0).toL i)with hdup|hdup
 ·simp[hdup]
 ·rcases s7 (okV (atV (ω.w 0).toL i))with hok|hok
  ·obtain⟨h1,h2⟩:=(c74 _).1 hok
   simp only[hdup,hok,a02,g7,i4,if_false,cond_false,o8,B9,decide_eq_true_eq,d6,m6,D2,decide_eq_false_iff_not,I7,false_or]
   (repeat' split)<;>first|rfl|(exfalso;omega)
  ·have h1:=(cH0 _).1 hok
   simp only[hdup,hok,a02,g7,i4,if_false,cond_false,A2,B9,if_true,decide_eq_true_eq,d6,m6,D2,decide_eq_false_iff_not,I7,false_or]
   (repeat' split)<;>first|rfl|(exfalso;omega)
theorem d59{ω:Opq}(hf: ∀i a,ω.f i a=F i a)(hn:(ω.w 0).toL.length≤1000000):P5 (fun vs=>N0 cb9 (ω.upd 2000 vs)) [.vi 0,.vl []]=some (bh3 (ω.w 0).toL):=by
 have st: ∀i,i<(ω.w 0).toL.length→aT4 (ω.w 0).toL i=false→N0 cb9 (ω.upd 2000 [.vi i,.vl (a02 (g7 (ω.w 0).toL) i)])=some (0,[.vi (i+1:Nat),.vl (a02 (g7 (ω.w 0).toL) (i+1))]):=fun i hi hb=>by rw[cu8 hf hi hn,hb];rfl
 unfold bh3
 split
 ·rename_i k hk
  obtain⟨a,b,c⟩:=ab6 hk
  exact Q4 (fun i=>[.vi i,.vl (a02 (g7 (ω.w 0).toL) i)]) (n:=k) (by simp[a02]) (fun i hi=>st i (by omega) (c i hi)) (by
    show N0 cb9 (ω.upd 2000 [.vi k,.vl (a02 (g7 (ω.w 0).toL) k)])=_
    rw[cu8 hf a hn,b];rfl)
 ·rename_i hk
  rw[C0]at hk
  exact Q4 (fun i=>[.vi i,.vl (a02 (g7 (ω.w 0).toL) i)]) (n:=(ω.w 0).toL.length) (by simp[a02]) (fun i hi=>st i hi (by simpa using hk i hi)) (by
    show N0 cb9 (ω.upd 2000 [.vi (ω.w 0).toL.length,.vl (a02 (g7 (ω.w 0).toL) (ω.w 0).toL.length)])=_
    simp[cb9,N0.eq_2,N0.eq_4,dB,N2,den,Q9,N8];rfl)
theorem cu9{ω:Opq}(hf: ∀i a,ω.f i a=F i a){i:Nat}(hi:i<(ω.w 1).toL.length)(hn:(ω.w 1).toL.length≤1000000):
 N0 ah3 (ω.upd 2000 [.vi i,.vl (a02 (g7 (ω.w 1).toL) i)])=some (if aT4 (ω.w 1).toL i then(2,[.vi i,.vl (a02 (g7 (ω.w 1).toL) i)])else(0,[.vi (i+1:Nat),.vl (a02 (g7 (ω.w 1).toL) (i+1))])):=by
 have hi1:(i:Int)<((ω.w 1).toL.length:Int):=by omega
 have hi0:(0:Int)≤(i:Int):=by omega
 have hd:=bE7 (ω.w 1).toL i
 unfold ab9 at hd
 unfold ah3
 simp only[N0,N2,den,dB,Q9,N8,show(2000≤2000)=True by simp,show(2000≤2001)=True by simp,if_true,show 2000-2000=0 from rfl,show 2001-2000=1 from rfl,m8,q9,show(2000≤1)=False by simp,if_false,N5,O8,Q7,O5,P2,R1,W1,hi1,hi0,decide_true,al0,S2,S3,S4,U6,U9,V0,V3,ac2,b57,hd,ad9,Q2 (show i≤10000000 by omega),aT4]
 rcases s7 (ay5 (ω.w 1).toL i)with hdup|hdup
 ·simp[hdup]
 ·rcases s7 (okV (atV (ω.w 1).toL i))with hok|hok
  ·obtain⟨h1,h2⟩:=(c74 _).1 hok
   simp only[hdup,hok,a02,g7,i4,if_false,cond_false,o8,B9,decide_eq_true_eq,d6,m6,D2,decide_eq_false_iff_not,I7,false_or]
   (repeat' split)<;>first|rfl|(exfalso;omega)
  ·have h1:=(cH0 _).1 hok
   simp only[hdup,hok,a02,g7,i4,if_false,cond_false,A2,B9,if_true,decide_eq_true_eq,d6,m6,D2,decide_eq_false_iff_not,I7,false_or]
   (repeat' split)<;>first|rfl|(exfalso;omega)
theorem df5{ω:Opq}(hf: ∀i a,ω.f i a=F i a)(hn:(ω.w 1).toL.length≤1000000):P5 (fun vs=>N0 ah3 (ω.upd 2000 vs)) [.vi 0,.vl []]=some (bh3 (ω.w 1).toL):=by
 have st: ∀i,i<(ω.w 1).toL.length→aT4 (ω.w 1).toL i=false→N0 ah3 (ω.upd 2000 [.vi i,.vl (a02 (g7 (ω.w 1).toL) i)])=some (0,[.vi (i+1:Nat),.vl (a02 (g7 (ω.w 1).toL) (i+1))]):=fun i hi hb=>by rw[cu9 hf hi hn,hb];rfl
 unfold bh3
 split
 ·rename_i k hk
  obtain⟨a,b,c⟩:=ab6 hk
  exact Q4 (fun i=>[.vi i,.vl (a02 (g7 (ω.w 1).toL) i)]) (n:=k) (by simp[a02]) (fun i hi=>st i (by omega) (c i hi)) (by
    show N0 ah3 (ω.upd 2000 [.vi k,.vl (a02 (g7 (ω.w 1).toL) k)])=_
    rw[cu9 hf a hn,b];rfl)
 ·rename_i hk
  rw[C0]at hk
  exact Q4 (fun i=>[.vi i,.vl (a02 (g7 (ω.w 1).toL) i)]) (n:=(ω.w 1).toL.length) (by simp[a02]) (fun i hi=>st i hi (by simpa using hk i hi)) (by
    show N0 ah3 (ω.upd 2000 [.vi (ω.w 1).toL.length,.vl (a02 (g7 (ω.w 1).toL) (ω.w 1).toL.length)])=_
    simp[ah3,N0.eq_2,N0.eq_4,dB,N2,den,Q9,N8];rfl)
theorem bE8(l:List Val)(p:PaneM):W6 (l.map O1) p=W6 l p:=by
 unfold W6
 rw[List.findIdx_map];rfl
theorem b64(l:List Val)(p:PaneM):ab9 (l.map O1) p=ab9 l p:=by
 unfold ab9
 rw[bE8,m5]
theorem c95(l:List Val):Y2 (l.map O1)=Y2 l:=by
 funext r;unfold Y2;rw[b64]
theorem cn7{l:List Val}{i:Nat}(h:i<l.length):atV (l.map O1) i=O1 (atV l i):=by
 simp[atV,d9,h]
theorem cn8(l:List Val):ap9 (l.map O1)=ap9 l:=by
 funext r
 unfold ap9
 rw[b64,bE8]
 cases h:ab9 l (N4 r)with
 |false=>rfl
 |true=>
  rw[cn7 (of_decide_eq_true h)];rfl
theorem ai5(m:List Val)(r:Val):(Y2 m r).length≤1:=by
 unfold Y2;cases ab9 m (N4 r)<;>simp
theorem b65(m:List Val)(r:Val):(ap9 m r).length≤1:=by
 unfold ap9;cases (ab9 m (N4 r)&&br5 (atV m (W6 m (N4 r))) r)<;>simp
end Go.Ev
namespace Go.Ev
open Go
theorem df6(a b c d e x g:Val):F 140 [a,b,c,d,e,x,g]=S6 (bh3 x.toL):=rfl
theorem b66{l:List Val}(h:O0 l=true):bh3 l=(0,[.vi l.length,.vl (l.map O1)]):=by
 unfold bh3
 have:(List.range l.length).find? (aT4 l)=none:=by
  rw[C0]
  intro i hi
  unfold O0 at h
  rw[m6,C6]at h
  have:=h i (r6.2 hi)
  simpa using this
 rw[this]
 show(0,[Val.vi l.length,Val.vl (a02 (g7 l) l.length)])=_
 rw[bh6]
theorem b67{l:List Val}(h:O0 l=false):(bh3 l).1=1:=by
 unfold bh3
 split
 ·rfl
 ·rename_i hk
  rw[C0]at hk
  have h2:(List.range l.length).any (aT4 l)=true:=by
   unfold O0 at h
   simpa using h
  rw[u9]at h2
  obtain⟨i,h3,h4⟩:=h2
  have:=hk i (r6.1 h3)
  rw[h4]at this
  cases this
theorem c96(r:Val):Val.vl [N3 r 0,N3 r 1,N3 r 2,.vb true,.vi 0,.vi 0,.vi 0,.vi 0]=c75 r:=rfl
theorem cv0(r:Val):Val.vl [N3 r 0,N3 r 1,N3 r 2,.vb false,N3 r 3,N3 r 4,N3 r 5,N3 r 6]=d55 r:=rfl
theorem b68{l:List Val}(h:O0 l=true):Q5 (S6 (bh3 l)).toL 1 1= .vl (l.map O1):=by
 rw[b66 h];rfl
theorem cJ6{ω:Opq}(hf: ∀i a,ω.f i a=F i a)(ok:O0 (ω.w 1).toL=true){i:Nat}(hi:i<(ω.w 0).toL.length)(hn:(ω.w 0).toL.length≤400){acc:List Val}(ha:acc.length≤1000):
 N0 cF5 (ω.upd 2000 [.vi acc.length,.vi i,.vl acc])=some (0,[.vi (acc++Y2 ((ω.w 1).toL.map O1) (atV (ω.w 0).toL i)).length,.vi (i+1:Nat),.vl (acc++Y2 ((ω.w 1).toL.map O1) (atV (ω.w 0).toL i))]):=by
 have hi1:(i:Int)<((ω.w 0).toL.length:Int):=by omega
 have hi0:(0:Int)≤(i:Int):=by omega
 have hb:((acc.length+1:Nat):Int)≤1000000:=by omega
 unfold cF5
 simp only[N0,N2,den,dB,Q9,N8,show(2000≤2000)=True by simp,show(2000≤2001)=True by simp,show(2000≤2002)=True by simp,if_true,show 2000-2000=0 from rfl,show 2001-2000=1 from rfl,show 2002-2000=2 from rfl,m8,q9,show(2000≤0)=False by simp,show(2000≤1)=False by simp,if_false,N5,O8,Q7,O5,P2,R1,W1,hi1,hi0,decide_true,av5,hf,df6,b68 ok,al0,S2,S3,S4,U6,U9,V0,V3,ac2,b57,c96,Q2 (show i≤10000000 by omega),e8,List.length_cons,List.length_nil,i3,hb,p9,Y2]
 rcases s7 (ab9 ((ω.w 1).toL.map O1) (N4 (atV (ω.w 0).toL i)))with hh|hh
 ·have h2:=of_decide_eq_true hh
  rw[m5]at h2
  simp[hh,h2]
 ·have h2:=of_decide_eq_false hh
  rw[m5]at h2
  simp[hh,h2]
  try omega
theorem cJ7{ω:Opq}(hf: ∀i a,ω.f i a=F i a)(ok:O0 (ω.w 0).toL=true){i:Nat}(hi:i<(ω.w 1).toL.length)(hn:(ω.w 1).toL.length≤400){acc:List Val}(ha:acc.length≤1000):
 N0 cO6 (ω.upd 2000 [.vi acc.length,.vi i,.vl acc])=some (0,[.vi (acc++ap9 ((ω.w 0).toL.map O1) (atV (ω.w 1).toL i)).length,.vi (i+1:Nat),.vl (acc++ap9 ((ω.w 0).toL.map O1) (atV (ω.w 1).toL i))]):=by
 have hi1:(i:Int)<((ω.w 1).toL.length:Int):=by omega
 have hi0:(0:Int)≤(i:Int):=by omega
 have hb:((acc.length+1:Nat):Int)≤1000000:=by omega
 unfold cO6
 simp only[N0,N2,den,dB,Q9,N8,show(2000≤2000)=True by simp,show(2000≤2001)=True by simp,show(2000≤2002)=True by simp,if_true,show 2000-2000=0 from rfl,show 2001-2000=1 from rfl,show 2002-2000=2 from rfl,m8,q9,show(2000≤0)=False by simp,show(2000≤1)=False by simp,if_false,N5,O8,Q7,O5,P2,R1,W1,hi1,hi0,decide_true,av5,hf,df6,b68 ok,al0,S2,S3,S4,U6,U9,V0,V3,ac2,b57,cv0,Q2 (show i≤10000000 by omega),e8,List.length_cons,List.length_nil,i3,hb,p9,ap9]
 rcases s7 (ab9 ((ω.w 0).toL.map O1) (N4 (atV (ω.w 1).toL i)))with hh|hh
 ·have h2:=of_decide_eq_true hh
  rcases s7 (br5 (atV ((ω.w 0).toL.map O1) (W6 ((ω.w 0).toL.map O1) (N4 (atV (ω.w 1).toL i)))) (atV (ω.w 1).toL i))with ha'|ha'
  ·have h3:=of_decide_eq_true ha'
   simp only[hh,h2,ha',h3,decide_true,o8,i4,if_false,cond_true,p9,Bool.and_self,n9]
   rfl
  ·have h3:=of_decide_eq_false ha'
   simp only[hh,h2,ha',decide_true,o8,i4,if_false,cond_true,cond_false,Bool.and_false]
   rw[if_pos (by rw[m6,←l9];intro hcc;exact h3 (by simpa using hcc))]
   simp
 ·have h2:=of_decide_eq_false hh
  rw[m5]at h2
  simp[hh,h2]
  try omega
theorem aF1{g:Nat→List Val}(hg: ∀i,(g i).length≤1)(a0:List Val){i n:Nat}(hi:i≤n):(a0++a02 g i).length≤a0.length+n:=by
 have:=ak6 (m:=1) hg i
 rw[e8];omega
theorem cJ8{ω:Opq}(hf: ∀i a,ω.f i a=F i a)(ok:O0 (ω.w 1).toL=true)(hn:(ω.w 0).toL.length≤400){d:List Val}(hd:d=T9 [] (Y2 ((ω.w 1).toL.map O1)) (ω.w 0).toL):
 P5 (fun vs=>N0 cF5 (ω.upd 2000 vs)) [.vi 0,.vi 0,.vl []]=some (0,[.vi d.length,.vi (ω.w 0).toL.length,.vl d]):=by
 subst hd
 refine a34 (fun i acc=>[.vi acc.length,.vi i,.vl acc]) (a0:=[]) (g:=fun i=>Y2 ((ω.w 1).toL.map O1) (atV (ω.w 0).toL i)) (n:=(ω.w 0).toL.length) rfl (fun i hi=> ?_) ?_
 ·exact cJ6 hf ok hi hn (m7 (aF1 (fun _=>ai5 _ _) [] (I8 hi)) (by simp;omega))
 ·show N0 cF5 (ω.upd 2000 [_,_,_])=_
  simp[cF5,N0.eq_2,N0.eq_4,dB,N2,den,Q9,N8,T9]
theorem cJ9{ω:Opq}(hf: ∀i a,ω.f i a=F i a)(ok:O0 (ω.w 0).toL=true)(hn:(ω.w 1).toL.length≤400){d0 d:List Val}(h0:d0.length≤400)(hd:d=T9 d0 (ap9 ((ω.w 0).toL.map O1)) (ω.w 1).toL):
 P5 (fun vs=>N0 cO6 (ω.upd 2000 vs)) [.vi d0.length,.vi 0,.vl d0]=some (0,[.vi d.length,.vi (ω.w 1).toL.length,.vl d]):=by
 subst hd
 refine a34 (fun i acc=>[.vi acc.length,.vi i,.vl acc]) (a0:=d0) (g:=fun i=>ap9 ((ω.w 0).toL.map O1) (atV (ω.w 1).toL i)) (n:=(ω.w 1).toL.length) rfl (fun i hi=> ?_) ?_
 ·exact cJ7 hf ok hi hn (m7 (aF1 (fun _=>b65 _ _) d0 (I8 hi)) (by omega))
 ·show N0 cO6 (ω.upd 2000 [_,_,_])=_
  simp[cO6,N0.eq_2,N0.eq_4,dB,N2,den,Q9,N8,T9]
theorem ae1(a0:List Val)(g:Val→List Val)(l:List Val):T9 a0 g l=a0++l.flatMap g:=by
 unfold T9
 rw[a63]
 congr 1
 exact ab7 g (.vl []) l
theorem V9{g:Val→List Val}(hg: ∀r,(g r).length≤1): ∀l:List Val,(l.flatMap g).length≤l.length
 | []=>b9 _
 |a::l=>by
  have:=V9 hg l
  have:=hg a
  rw[z8,e8,List.length_cons];omega
theorem aR5(a b:List Val):(af1 a b).length≤a.length+b.length:=by
 have h1:=V9 (ai5 b) a
 have h2:=V9 (b65 a) b
 unfold af1
 rw[e8];omega
theorem aA9{l:List Val}(h:O0 l=true):(l.map N4).Nodup:=by
 unfold O0 at h
 rw[m6,C6]at h
 rw[List.Nodup,I3]
 intro i j hi hj hij
 simp only[m5]at hi hj
 have:=h j (r6.2 hj)
 rw[l9,aT4,Bool.or_eq_false_iff]at this
 have hd:=this.2
 unfold ay5 at hd
 rw[C6]at hd
 have:=hd i (r6.2 hij)
 have e1:atV l i=l[i]:=by simp[atV,d9,hi]
 have e2:atV l j=l[j]:=by simp[atV,d9,hj]
 rw[l9,bM3,decide_eq_false_iff_not,e1,e2]at this
 simpa using this
theorem ai6{g:Val→List Val}(hg: ∀r,g r=[]∨ ∃x,g r=[x]∧N4 x=N4 r): ∀l:List Val,((l.flatMap g).map N4).Sublist (l.map N4)
 | []=> .refl _
 |a::l=>by
  rw[z8,r8,j9]
  rcases hg a with h|⟨x,h,hp⟩
  ·rw[h];exact(ai6 hg l).cons _
  ·rw[h,j9,hp];exact(ai6 hg l).cons_cons _
theorem bs5(b:List Val)(r:Val):Y2 b r=[]∨ ∃x,Y2 b r=[x]∧N4 x=N4 r:=by
 unfold Y2
 cases ab9 b (N4 r)with
 |true=>exact .inl rfl
 |false=>exact .inr ⟨_,rfl,rfl⟩
theorem aX6(a:List Val)(r:Val):ap9 a r=[]∨ ∃x,ap9 a r=[x]∧N4 x=N4 r:=by
 unfold ap9
 cases (ab9 a (N4 r)&&br5 (atV a (W6 a (N4 r))) r)with
 |true=>exact .inl rfl
 |false=>exact .inr ⟨_,rfl,rfl⟩
theorem bs6{a b:List Val}(ha:O0 a=true)(hb:O0 b=true):((af1 a b).map N4).Nodup:=by
 unfold af1
 rw[r8,E8]
 refine⟨(ai6 (bs5 b) a).nodup (aA9 ha),(ai6 (aX6 a) b).nodup (aA9 hb),?_⟩
 intro p hp q hq
 rw[k9]at hp
 obtain⟨x,hx,rfl⟩:=hp
 rw[u5]at hx
 obtain⟨r,hr,hx⟩:=hx
 have hq2:=(ai6 (aX6 a) b).subset hq
 rw[k9]at hq2
 obtain⟨y,hy,rfl⟩:=hq2
 unfold Y2 at hx
 cases hh:ab9 b (N4 r)with
 |true=>rw[hh]at hx;cases hx
 |false=>
  rw[hh]at hx
  have hx:x=c75 r:=by simpa using hx
  intro e
  rw[bE6,C6]at hh
  have:=hh y hy
  rw[l9,decide_eq_false_iff_not]at this
  exact this (e.symm.trans (by rw[hx];rfl))
theorem aX7(a b:List Val): ∀x∈af1 a b,W0 x=x:=by
 intro x hx
 unfold af1 at hx
 rw[x5,u5,u5]at hx
 rcases hx with⟨r,_,hx⟩|⟨r,_,hx⟩
 ·unfold Y2 at hx
  cases h:ab9 b (N4 r)with
  |true=>rw[h]at hx;cases hx
  |false=>
   rw[h]at hx
   have hx:x=c75 r:=by simpa using hx
   rw[hx];rfl
 ·unfold ap9 at hx
  cases h:(ab9 a (N4 r)&&br5 (atV a (W6 a (N4 r))) r)with
  |true=>rw[h]at hx;cases hx
  |false=>
   rw[h]at hx
   have hx:x=d55 r:=by simpa using hx
   rw[hx];rfl
theorem bM4{a b:List Val}(ha:O0 a=true)(hb:O0 b=true):at3 cfV (af1 a b)=ab8 (af1 a b):=bq7 (aX7 a b) (bs6 ha hb)
theorem df7(a b c d e x m m1 y z v w:Val):F 141 [a,b,c,d,e,x,m,m1,y,z,v,w]=aa7 [] (Y2 m1.toL) v.toL:=rfl
theorem df8(a b c m d e x y:Val):F 142 [a,b,c,m,d,e,x,y]=aa7 c.toL (ap9 m.toL) x.toL:=rfl
theorem df9(a b c d e v x y m:Val):F 143 [a,b,c,d,e,v,x,y,m]=aa7 [] (Y2 m.toL) v.toL:=rfl
theorem dh0(a b c d e m x y v:Val):F 144 [a,b,c,d,e,m,x,y,v]=aa7 c.toL (ap9 m.toL) v.toL:=rfl
theorem b69(a0:List Val)(g:Val→List Val)(l:List Val):Q5 (aa7 a0 g l).toL 1 2= .vl (T9 a0 g l):=rfl
theorem b70(a0:List Val)(g:Val→List Val)(l:List Val):Q5 (aa7 a0 g l).toL 1 0= .vi (T9 a0 g l).length:=rfl
theorem aX8(a b:List Val):T9 (T9 [] (Y2 b) a) (ap9 a) b=af1 a b:=by
 rw[ae1,ae1,List.nil_append];rfl
theorem d10{ω:Opq}(hf: ∀i a,ω.f i a=F i a)(hn0:(ω.w 0).toL.length≤400)(hn1:(ω.w 1).toL.length≤400):N0 bB4 ω=some (0,[F 209 [ω.w 0,ω.w 1],F 208 [ω.w 0,ω.w 1]]):=by
 have h209:F 209 [ω.w 0,ω.w 1]= .vi (bif O0 (ω.w 0).toL&&O0 (ω.w 1).toL then 0 else 2):=rfl
 have h208:F 208 [ω.w 0,ω.w 1]= .vl (bif O0 (ω.w 0).toL&&O0 (ω.w 1).toL then ab8 (af1 (ω.w 0).toL (ω.w 1).toL)else []):=rfl
 rw[h209,h208]
 unfold bB4
 refine N6 (d59 hf (by omega)) (by rw[hf];rfl) ?_
 rcases s7 (O0 (ω.w 0).toL)with k0|k0
 ·rw[b66 k0,k0,A6]
  show N0 (.loop _ ah3 _) ω=_
  refine N6 (df5 hf (by omega)) (by rw[hf];rfl) ?_
  rcases s7 (O0 (ω.w 1).toL)with k1|k1
  ·rw[b66 k1,k1]
   show N0 (.loop _ cF5 _) ω=_
   have e0:den ω at7= .vl ((ω.w 0).toL.map O1):=by
    show Q5 (ω.f 140 _).toL 1 1=_
    rw[hf];exact b68 k0
   have e1:den ω bf4= .vl ((ω.w 1).toL.map O1):=by
    show Q5 (ω.f 140 _).toL 1 1=_
    rw[hf];exact b68 k1
   obtain⟨d,hd⟩: ∃d,d=T9 [] (Y2 ((ω.w 1).toL.map O1)) (ω.w 0).toL:=⟨_,rfl⟩
   have e2:den ω bf5=aa7 [] (Y2 ((ω.w 1).toL.map O1)) (ω.w 0).toL:=by
    show ω.f 141 [_,_,_,_,_,_,den ω at7,den ω bf4,_,_,_,_]=_
    rw[hf,df7,e1];rfl
   have e3:den ω ah4= .vl d:=by
    show Q5 (den ω bf5).toL 1 2=_
    rw[e2,b69,hd]
   have dl:d.length≤400:=by
    rw[hd,ae1,List.nil_append]
    have:=V9 (ai5 ((ω.w 1).toL.map O1)) (ω.w 0).toL
    omega
   refine N6 (cJ8 hf k1 hn0 hd) (by
    show ω.f 141 [_,_,_,_,_,_,den ω at7,den ω bf4,_,_,_,_]=_
    rw[hf,df7,e1,hd];rfl) ?_
   show N0 (.need _ _) ω=_
   rw[N0.eq_3,if_pos (by
    show decide ((Q5 (den ω bf5).toL 1 0).toI=((den ω ah4).toL.length:Int))=true
    rw[e2,e3,b70,hd];simp)]
   obtain⟨q,hq⟩: ∃q,q=T9 d (ap9 ((ω.w 0).toL.map O1)) (ω.w 1).toL:=⟨_,rfl⟩
   have hqd:q=af1 (ω.w 0).toL (ω.w 1).toL:=by
    rw[hq,hd,cn8,c95,aX8]
   have e4:den ω bf6=aa7 d (ap9 ((ω.w 0).toL.map O1)) (ω.w 1).toL:=by
    show ω.f 142 [_,_,den ω ah4,den ω at7,_,_,_,_]=_
    rw[hf,df8,e3,e0];rfl
   have e5:den ω bf7= .vi q.length:=by
    show Q5 (den ω bf6).toL 1 0=_
    rw[e4,b70,hq]
   have e6:den ω at8= .vl q:=by
    show Q5 (den ω bf6).toL 1 2=_
    rw[e4,b69,hq]
   have ql:q.length≤800:=by
    have:=aR5 (ω.w 0).toL (ω.w 1).toL
    rw[hqd];omega
   have hs:ω.f 211 [.vl q]= .vl (ab8 q):=by
    rw[hf]
    show Val.vl (at3 cfV q)=_
    rw[hqd,bM4 k0 k1]
   refine N6 (r:=(0,[.vi q.length,.vi (ω.w 1).toL.length,.vl q])) (by
    show P5 _ [.vi (den ω ah4).toL.length,.vi 0,den ω ah4]=_
    rw[e3];exact cJ9 hf k0 hn1 dl hq) (by
    show ω.f 142 [_,_,den ω ah4,den ω at7,_,_,_,_]=_
    rw[hf,df8,e3,e0,hq];rfl) ?_
   show N0 (.need _ _) ω=_
   rw[N0.eq_3,if_pos (by
    show(decide ((den ω bf7).toI=((den ω at8).toL.length:Int))&&decide (((den ω at8).toL.length:Int)≤1000000))=true
    rw[e5,e6,d6]
    exact⟨decide_eq_true rfl,decide_eq_true (by show(q.length:Int)≤1000000;omega)⟩),N0.eq_3,if_pos (by
    show decide ((den ω bf7).toI=((ω.f 211 [den ω at8]).toL.length:Int))=true
    rw[e5,e6,hs]
    have:=(ak9 q).length_eq
    rw[m5]at this
    simp[this])]
   show some (0,[Val.vi 0,ω.f 211 [den ω at8]])=_
   rw[e6,hs,hqd];rfl
  ·have:=b67 k1
   rw[this,k1];rfl
 ·have:=b67 k0
  rw[this,k0]
  show N0 (.loop _ ah3 _) ω=_
  refine N6 (df5 hf (by omega)) (by rw[hf];rfl) ?_
  rcases s7 (O0 (ω.w 1).toL)with k1|k1
  ·rw[b66 k1];rfl
  ·rw[b67 k1];rfl
end Go.Ev
namespace Go.Ev
open Go
theorem dh1(m r:Val):F 204 [m,N3 r 0,N3 r 1,N3 r 2]= .vb (ab9 m.toL (N4 r)):=rfl
theorem dj4(m r:Val):F 203 [m,N3 r 0,N3 r 1,N3 r 2]= .vl [.vl ((aT5 m.toL (N4 r)).2.drop 2)]:=rfl
theorem cK0{ω:Opq}(hf: ∀i a,ω.f i a=F i a){i:Nat}(hi:i<(ω.w 0).toL.length)(hn:(ω.w 0).toL.length≤400)(hm:(ω.w 1).toL.length≤400){acc:List Val}(ha:acc.length≤1000):
 N0 cO7 (ω.upd 2000 [.vi acc.length,.vi i,.vl acc])=some (0,[.vi (acc++Y2 (ω.w 1).toL (atV (ω.w 0).toL i)).length,.vi (i+1:Nat),.vl (acc++Y2 (ω.w 1).toL (atV (ω.w 0).toL i))]):=by
 have hi1:(i:Int)<((ω.w 0).toL.length:Int):=by omega
 have hi0:(0:Int)≤(i:Int):=by omega
 have hb:((acc.length+1:Nat):Int)≤1000000:=by omega
 have hm1:((ω.w 1).toL.length:Int)≤1000000:=by omega
 unfold cO7
 simp only[N0,N2,den,dB,Q9,N8,show(2000≤2000)=True by simp,show(2000≤2001)=True by simp,show(2000≤2002)=True by simp,if_true,show 2000-2000=0 from rfl,show 2001-2000=1 from rfl,show 2002-2000=2 from rfl,m8,q9,show(2000≤0)=False by simp,show(2000≤1)=False by simp,if_false,N5,O8,Q7,O5,P2,R1,W1,hi1,hi0,hm1,decide_true,av5,hf,dh1,S2,S3,S4,U6,U9,V0,V3,b57,c96,Q2 (show i≤10000000 by omega),e8,List.length_cons,List.length_nil,i3,hb,p9,Y2]
 rcases s7 (ab9 (ω.w 1).toL (N4 (atV (ω.w 0).toL i)))with hh|hh<;>simp[hh]
theorem cK1(x:Val)(l:List Val):Q5 [.vl (x::l)] 0 0=x:=rfl
theorem cK2(x y:Val)(l:List Val):Q5 [.vl (x::y::l)] 0 1=y:=rfl
theorem cK3(x y z:Val)(l:List Val):Q5 [.vl (x::y::z::l)] 0 2=z:=rfl
theorem cK4(x y z w:Val)(l:List Val):Q5 [.vl (x::y::z::w::l)] 0 3=w:=rfl
theorem cK5{ω:Opq}(hf: ∀i a,ω.f i a=F i a){i:Nat}(hi:i<(ω.w 1).toL.length)(hn:(ω.w 1).toL.length≤400)(hm:(ω.w 0).toL.length≤400){acc:List Val}(ha:acc.length≤1000):
 N0 cO8 (ω.upd 2000 [.vi acc.length,.vi i,.vl acc])=some (0,[.vi (acc++ap9 (ω.w 0).toL (atV (ω.w 1).toL i)).length,.vi (i+1:Nat),.vl (acc++ap9 (ω.w 0).toL (atV (ω.w 1).toL i))]):=by
 have hi1:(i:Int)<((ω.w 1).toL.length:Int):=by omega
 have hi0:(0:Int)≤(i:Int):=by omega
 have hb:((acc.length+1:Nat):Int)≤1000000:=by omega
 have hm1:((ω.w 0).toL.length:Int)≤1000000:=by omega
 unfold cO8
 simp only[N0,N2,den,dB,Q9,N8,show(2000≤2000)=True by simp,show(2000≤2001)=True by simp,show(2000≤2002)=True by simp,if_true,show 2000-2000=0 from rfl,show 2001-2000=1 from rfl,show 2002-2000=2 from rfl,m8,q9,show(2000≤0)=False by simp,show(2000≤1)=False by simp,if_false,N5,O8,Q7,O5,P2,R1,W1,hi1,hi0,hm1,decide_true,av5,hf,dh1,dj4,S2,S3,S4,U6,U9,V0,V3,b57,cv0,Q2 (show i≤10000000 by omega),e8,List.length_cons,List.length_nil,i3,hb,p9,ap9]
 rcases s7 (ab9 (ω.w 0).toL (N4 (atV (ω.w 1).toL i)))with hh|hh
 ·simp only[aT5,hh,cond_true,List.drop_succ_cons,B8,cK1,cK2,cK3,cK4]
  rcases s7 (br5 (atV (ω.w 0).toL (W6 (ω.w 0).toL (N4 (atV (ω.w 1).toL i)))) (atV (ω.w 1).toL i))with ha'|ha'
  ·have h3:=of_decide_eq_true ha'
   simp only[ha',h3,decide_true,o8,i4,if_false,cond_true,p9,Bool.and_self,n9]
   rfl
  ·have h3:=of_decide_eq_false ha'
   simp only[ha',decide_true,o8,i4,if_false,cond_true,cond_false,Bool.and_false]
   rw[if_pos (by rw[m6,←l9];intro hcc;exact h3 (by simpa using hcc))]
   simp
 ·simp[hh]
theorem cK6{ω:Opq}(hf: ∀i a,ω.f i a=F i a)(hn:(ω.w 0).toL.length≤400)(hm:(ω.w 1).toL.length≤400){d:List Val}(hd:d=T9 [] (Y2 (ω.w 1).toL) (ω.w 0).toL):
 P5 (fun vs=>N0 cO7 (ω.upd 2000 vs)) [.vi 0,.vi 0,.vl []]=some (0,[.vi d.length,.vi (ω.w 0).toL.length,.vl d]):=by
 subst hd
 refine a34 (fun i acc=>[.vi acc.length,.vi i,.vl acc]) (a0:=[]) (g:=fun i=>Y2 (ω.w 1).toL (atV (ω.w 0).toL i)) (n:=(ω.w 0).toL.length) rfl (fun i hi=> ?_) ?_
 ·exact cK0 hf hi hn hm (m7 (aF1 (fun _=>ai5 _ _) [] (I8 hi)) (by simp;omega))
 ·show N0 cO7 (ω.upd 2000 [_,_,_])=_
  simp[cO7,N0.eq_2,N0.eq_4,dB,N2,den,Q9,N8,T9]
theorem cK7{ω:Opq}(hf: ∀i a,ω.f i a=F i a)(hn:(ω.w 1).toL.length≤400)(hm:(ω.w 0).toL.length≤400){d0 d:List Val}(h0:d0.length≤400)(hd:d=T9 d0 (ap9 (ω.w 0).toL) (ω.w 1).toL):
 P5 (fun vs=>N0 cO8 (ω.upd 2000 vs)) [.vi d0.length,.vi 0,.vl d0]=some (0,[.vi d.length,.vi (ω.w 1).toL.length,.vl d]):=by
 subst hd
 refine a34 (fun i acc=>[.vi acc.length,.vi i,.vl acc]) (a0:=d0) (g:=fun i=>ap9 (ω.w 0).toL (atV (ω.w 1).toL i)) (n:=(ω.w 1).toL.length) rfl (fun i hi=> ?_) ?_
 ·exact cK5 hf hi hn hm (m7 (aF1 (fun _=>b65 _ _) d0 (I8 hi)) (by omega))
 ·show N0 cO8 (ω.upd 2000 [_,_,_])=_
  simp[cO8,N0.eq_2,N0.eq_4,dB,N2,den,Q9,N8,T9]
theorem cK8{ω:Opq}(hf: ∀i a,ω.f i a=F i a)(hn0:(ω.w 0).toL.length≤400)(hn1:(ω.w 1).toL.length≤400):N0 b46 ω=some (0,[F 209 [ω.w 0,ω.w 1],F 208 [ω.w 0,ω.w 1]]):=by
 have h209:F 209 [ω.w 0,ω.w 1]= .vi (bif O0 (ω.w 0).toL&&O0 (ω.w 1).toL then 0 else 2):=rfl
 have h208:F 208 [ω.w 0,ω.w 1]= .vl (bif O0 (ω.w 0).toL&&O0 (ω.w 1).toL then ab8 (af1 (ω.w 0).toL (ω.w 1).toL)else []):=rfl
 rw[h209,h208]
 unfold b46
 have f0:ω.f 202 [ω.w 0]= .vb (O0 (ω.w 0).toL):=by rw[hf];rfl
 have f1:ω.f 202 [ω.w 1]= .vb (O0 (ω.w 1).toL):=by rw[hf];rfl
 rw[N0.eq_3,if_pos (by show decide (((ω.w 0).toL.length:Int)≤1000000)=true;exact decide_eq_true (by omega)),N0.eq_2]
 rw[show dB ω (.op .not [.app 202 [.va 0]])= !O0 (ω.w 0).toL by show(!(ω.f 202 [ω.w 0]).toB)=_;rw[f0];rfl]
 rcases s7 (O0 (ω.w 0).toL)with k0|k0
 ·rw[k0,A6,if_neg (by simp),N0.eq_3,if_pos (by show decide (((ω.w 1).toL.length:Int)≤1000000)=true;exact decide_eq_true (by omega)),N0.eq_2]
  rw[show dB ω (.op .not [.app 202 [.va 1]])= !O0 (ω.w 1).toL by show(!(ω.f 202 [ω.w 1]).toB)=_;rw[f1];rfl]
  rcases s7 (O0 (ω.w 1).toL)with k1|k1
  ·rw[k1,if_neg (by simp)]
   obtain⟨d,hd⟩: ∃d,d=T9 [] (Y2 (ω.w 1).toL) (ω.w 0).toL:=⟨_,rfl⟩
   have e2:den ω aO8=aa7 [] (Y2 (ω.w 1).toL) (ω.w 0).toL:=by
    show ω.f 143 [_,_,_,_,_,_,_,_,_]=_
    rw[hf,df9];rfl
   have e3:den ω a83= .vl d:=by
    show Q5 (den ω aO8).toL 1 2=_
    rw[e2,b69,hd]
   have dl:d.length≤400:=by
    rw[hd,ae1,List.nil_append]
    have:=V9 (ai5 (ω.w 1).toL) (ω.w 0).toL
    omega
   refine N6 (cK6 hf hn0 hn1 hd) (by
    show ω.f 143 [_,_,_,_,_,_,_,_,_]=_
    rw[hf,df9,hd];rfl) ?_
   show N0 (.need _ _) ω=_
   rw[N0.eq_3,if_pos (by
    show decide ((Q5 (den ω aO8).toL 1 0).toI=((den ω a83).toL.length:Int))=true
    rw[e2,e3,b70,hd];simp)]
   obtain⟨q,hq⟩: ∃q,q=T9 d (ap9 (ω.w 0).toL) (ω.w 1).toL:=⟨_,rfl⟩
   have hqd:q=af1 (ω.w 0).toL (ω.w 1).toL:=by rw[hq,hd,aX8]
   have e4:den ω aO9=aa7 d (ap9 (ω.w 0).toL) (ω.w 1).toL:=by
    show ω.f 144 [_,_,den ω a83,_,_,_,_,_,_]=_
    rw[hf,dh0,e3];rfl
   have e5:den ω ap2= .vi q.length:=by
    show Q5 (den ω aO9).toL 1 0=_
    rw[e4,b70,hq]
   have e6:den ω aP0= .vl q:=by
    show Q5 (den ω aO9).toL 1 2=_
    rw[e4,b69,hq]
   have e7:den ω aP1= .vl q:=by
    show Q9 .lsub [den ω aP0,.vi 0,den ω ap2]=_
    rw[e5,e6];simp[Q9]
   have ql:q.length≤800:=by
    have:=aR5 (ω.w 0).toL (ω.w 1).toL
    rw[hqd];omega
   refine N6 (r:=(0,[.vi q.length,.vi (ω.w 1).toL.length,.vl q])) (by
    show P5 _ [.vi (den ω a83).toL.length,.vi 0,den ω a83]=_
    rw[e3];exact cK7 hf hn1 hn0 dl hq) (by
    show ω.f 144 [_,_,den ω a83,_,_,_,_,_,_]=_
    rw[hf,dh0,e3,hq];rfl) ?_
   show N0 (.need _ _) ω=_
   rw[N0.eq_3,if_pos (by
    show((decide ((0:Int)≤(den ω ap2).toI)&&decide ((den ω ap2).toI≤((den ω aP0).toL.length:Int)))&&decide (((den ω aP1).toL.length:Int)≤1000))=true
    rw[e5,e6,e7,d6,d6]
    exact⟨⟨decide_eq_true (by show(0:Int)≤(q.length:Int);omega),decide_eq_true (Int.le_refl _)⟩,decide_eq_true (by show(q.length:Int)≤1000;omega)⟩)]
   show some (0,[Val.vi 0,ω.f 207 [den ω aP1]])=_
   rw[e7,hf]
   show some (0,[Val.vi 0,Val.vl (ab8 q)])=_
   rw[hqd];rfl
  ·rw[k1];rfl
 ·rw[k0];rfl
end Go.Ev
namespace Go.Ev
open Go
theorem cK9(l:List Val)(i:Nat):Q5 l (i:Int) 7=N3 (atV l i) 7:=rfl
theorem P8{ω:Opq}{e:SX}{x:VT}{r:Option (Nat×List Val)}(h:dB ω e=true)(h2:N0 x ω=r):N0 (.need e x) ω=r:=by rw[N0.eq_3,if_pos h,h2]
theorem T2{ω:Opq}{e:SX}{x y:VT}{r:Option (Nat×List Val)}(h:dB ω e=true)(h2:N0 x ω=r):N0 (.ite e x y) ω=r:=by rw[N0.eq_2,if_pos h,h2]
theorem S8{ω:Opq}{e:SX}{x y:VT}{r:Option (Nat×List Val)}(h:dB ω e=false)(h2:N0 y ω=r):N0 (.ite e x y) ω=r:=by rw[N0.eq_2,if_neg (by rw[h];simp),h2]
theorem ap6{a b:Bool}(h:a=true)(h2:b=true):(a&&b)=true:=by rw[h,h2];rfl
def cL0:VT:= .loop ⟨227,[.va 2000,.ci 0],3000,[.ci 0,.op .llen [.va 0],.va 0,.va 2001]⟩ cG3 [.ret 0 [.op .lget [.app 227 [.va 2000,.ci 0,.ci 0,.op .llen [.va 0],.va 0,.va 2001],.ci 1,.ci 0],.op (.ar .add .i64) [.va 2001,.ci 1]],.ret 2 [.op .lget [.app 227 [.va 2000,.ci 0,.ci 0,.op .llen [.va 0],.va 0,.va 2001],.ci 1,.ci 0],.va 2001]]
theorem db4{ω:Opq}(hf: ∀i a,ω.f i a=F i a){i:Nat}(h0:i<(ω.w 0).toL.length)(hn:(ω.w 0).toL.length≤1000000)(hx:ω.w 2000= .vb false)(hi:ω.w 2001= .vi i):
 N0 cL0 ω=some (if ay5 (ω.w 0).toL i then(2,[.vb false,.vi i])else(0,[.vb false,.vi (i+1:Nat)])):=by
 unfold cL0
 refine N6 (r:=a84 (.vb false) (fun k=>[.vb false,.vi k]) (bM3 (ω.w 0).toL i) i) ?_ ?_ ?_
 ·show P5 _ [ω.w 2000,.vi 0]=_
  rw[hx]
  refine Z7 ?_ ?_ ?_
  ·intro k hk hb
   have hb: ¬N4 (atV (ω.w 0).toL k)=N4 (atV (ω.w 0).toL i):=of_decide_eq_false hb
   rw[ai3]at hb
   simp[cG3,N0,N2,den,dB,Q9,hk,hi,h0,show k<(ω.w 0).toL.length by omega,N8,Q2 (show k≤10000000 by omega),S2,S3,S4]
   simpa using hb
  ·intro k hk hb
   have hb:N4 (atV (ω.w 0).toL k)=N4 (atV (ω.w 0).toL i):=of_decide_eq_true hb
   rw[ai3]at hb
   simp[cG3,N0,N2,den,dB,Q9,hk,hi,h0,show k<(ω.w 0).toL.length by omega,N8,S2,S3,S4,hb]
  ·simp[cG3,N0,N2,den,dB,Q9,hi,N8]
 ·simp[hf,F,N2,den,Q9,Y8,Y9,hx,hi]
 ·have hF:F 227 [.vb false,.vi 0,.vi 0,.vi (ω.w 0).toL.length,ω.w 0,.vi i]=S6 (a84 (.vb false) (fun k=>[.vb false,.vi k]) (bM3 (ω.w 0).toL i) i):=by simp[F,Y8,Y9]
  rw[Y6]at hF⊢
  cases hd:ay5 (ω.w 0).toL i with
  |true=>
   have hd':(List.range i).any (bM3 (ω.w 0).toL i)=true:=hd
   rw[hd',if_pos rfl]at hF⊢
   simp only[R2,N0,N2,den,Q9,hf,hx,hi,hF,N5,O8,if_true]
   rfl
  |false=>
   have hd':(List.range i).any (bM3 (ω.w 0).toL i)=false:=hd
   rw[hd',if_neg (by simp)]at hF⊢
   simp only[R2,N0,N2,den,Q9,hf,hx,hi,hF,N5,O8,Q2 (show i≤10000000 by omega),i4,if_false]
   rfl
theorem d11(r:Val):N3 (ay6 r) 0=N3 r 0∧N3 (ay6 r) 1=N3 r 1∧N3 (ay6 r) 2=N3 r 2∧N3 (ay6 r) 3=N3 r 4∧N3 (ay6 r) 4=N3 r 5∧N3 (ay6 r) 5=N3 r 6∧N3 (ay6 r) 6=N3 r 7:=⟨rfl,rfl,rfl,rfl,rfl,rfl,rfl⟩
theorem cL1(r:Val):okV (ay6 r)=true↔ ¬((N3 r 4).toI=0∧(N3 r 5).toI=0∧(N3 r 6).toI=0∧(N3 r 7).toI=0)∧((N3 r 4).toI=1∧(N3 r 5).toI=(N3 r 6).toI∧(N3 r 6).toI=(N3 r 7).toI∨1<(N3 r 4).toI∧(N3 r 6).toI≤(N3 r 7).toI):=by
 have:=c74 (ay6 r)
 obtain⟨e0,e1,e2,e3,e4,e5,e6⟩:=d11 r
 rw[e3,e4,e5,e6]at this
 rw[this]
theorem db5(r:Val):okV (ay6 r)=false↔ ¬(¬((N3 r 4).toI=0∧(N3 r 5).toI=0∧(N3 r 6).toI=0∧(N3 r 7).toI=0)∧((N3 r 4).toI=1∧(N3 r 5).toI=(N3 r 6).toI∧(N3 r 6).toI=(N3 r 7).toI∨1<(N3 r 4).toI∧(N3 r 6).toI≤(N3 r 7).toI)):=by
 rw[←cL1];simp
theorem cn9{ω:Opq}(hf: ∀i a,ω.f i a=F i a)(hn:(ω.w 0).toL.length≤400):N0 aE2 ω=some (0,[F 225 [ω.w 0]]):=by
 unfold aE2
 have step: ∀i,i<(ω.w 0).toL.length→N0 cP4 (ω.upd 2000 [.vb false,.vi i])=some (if bN5 (ω.w 0).toL i then(2,[.vb false,.vi i])else(0,[.vb false,.vi (i+1:Nat)])):=by
  intro i hi
  have hl:=db4 (ω:=ω.upd 2000 [.vb false,.vi i]) hf (i:=i) (by simpa[N8]using hi) (by simp[N8];omega) (by simp[N8]) (by simp[N8])
  unfold cL0 at hl
  rw[show(ω.upd 2000 [.vb false,.vi i]).w 0=ω.w 0 by simp[N8]]at hl
  unfold cP4
  simp only[N0.eq_2,N0.eq_3,N0.eq_4,hl]
  simp only[dB,N2,den,Q9,N8,N5,Q7,O8,Z9]
  simp[hi,U6,U9,V0,V3,cK9,bN5,okC,ae6,a16]
  cases hdd:(N3 (atV (ω.w 0).toL i) 3).toB with
  |true=>
   cases ay5 (ω.w 0).toL i<;>simp<;>(repeat' split)<;>first|rfl|(exfalso;omega)|omega
  |false=>
   cases hok:okV (ay6 (atV (ω.w 0).toL i))with
   |true=>
    rw[cL1]at hok
    obtain⟨h1,h2⟩:=hok
    cases ay5 (ω.w 0).toL i<;>simp<;>(repeat' split)<;>first|rfl|(exfalso;omega)|omega
   |false=>
    rw[db5]at hok
    simp
    intro hz
    (repeat' split)<;>first|rfl|(exfalso;omega)
 refine N6 (r:=a84 (.vb false) (fun k=>[.vb false,.vi k]) (bN5 (ω.w 0).toL) (ω.w 0).toL.length) ?_ ?_ ?_
 ·refine Z7 (fun i hi hb=> ?_) (fun i hi hb=> ?_) ?_
  ·show N0 cP4 (ω.upd 2000 [.vb false,.vi i])=_
   rw[step i hi,hb];rfl
  ·show N0 cP4 (ω.upd 2000 [.vb false,.vi i])=_
   rw[step i hi,hb];rfl
  ·simp[cP4,N0.eq_2,N0.eq_4,dB,N2,den,Q9,N8]
 ·simp[hf,F,N2,den,Q9,Y8,Y9]
 ·have hF:F 226 [.vb false,.vi 0,.vi 0,.vi (ω.w 0).toL.length,ω.w 0]=S6 (a84 (.vb false) (fun k=>[.vb false,.vi k]) (bN5 (ω.w 0).toL) (ω.w 0).toL.length):=by simp[F,Y8,Y9]
  have h2:F 225 [ω.w 0]= .vb (!(List.range (ω.w 0).toL.length).any (bN5 (ω.w 0).toL)):=rfl
  rw[h2]
  rw[Y6]at hF⊢
  cases hd:(List.range (ω.w 0).toL.length).any (bN5 (ω.w 0).toL)with
  |true=>
   rw[hd,if_pos rfl]at hF
   rw[if_pos rfl]
   simp only[R2,N0,N2,den,Q9,hf,hF]
   rfl
  |false=>
   rw[if_neg (by simp)]
   rfl
theorem co0{ω:Opq}(hf: ∀i a,ω.f i a=F i a)(hn:(ω.w 0).toL.length≤400)(hn1:(ω.w 1).toL.length≤400):N0 aE3 ω=some (0,[F 220 [ω.w 0,ω.w 1]]):=by
 have hF:F 220 [ω.w 0,ω.w 1]= .vb (O0 (ω.w 0).toL&&(ac0 (ω.w 1).toL&& !(List.range (ω.w 1).toL.length).any (b75 (ω.w 0).toL (ω.w 1).toL))):=rfl
 have h202:ω.f 202 [ω.w 0]= .vb (O0 (ω.w 0).toL):=by rw[hf];rfl
 have h225:ω.f 225 [ω.w 1]= .vb (ac0 (ω.w 1).toL):=by rw[hf];rfl
 have h0:decide (((ω.w 0).toL.length:Int)≤1000000)=true:=decide_eq_true (by omega)
 have h1:decide (((ω.w 1).toL.length:Int)≤400)=true:=decide_eq_true (by omega)
 rw[hF]
 unfold aE3
 refine P8 h0 ?_
 cases hr:O0 (ω.w 0).toL with
 |false=>
  refine T2 ?_ rfl
  show(!(ω.f 202 [ω.w 0]).toB)=true
  rw[h202,hr];rfl
 |true=>
  refine S8 (by show(!(ω.f 202 [ω.w 0]).toB)=false;rw[h202,hr];rfl) (P8 h1 ?_)
  cases hc:ac0 (ω.w 1).toL with
  |false=>
   refine T2 ?_ rfl
   show(!(ω.f 225 [ω.w 1]).toB)=true
   rw[h225,hc];rfl
  |true=>
   refine S8 (by show(!(ω.f 225 [ω.w 1]).toB)=false;rw[h225,hc];rfl) ?_
   have step: ∀i,i<(ω.w 1).toL.length→N0 cP5 (ω.upd 2000 [.vb false,.vi i])=some (if b75 (ω.w 0).toL (ω.w 1).toL i then(2,[.vb false,.vi i])else(0,[.vb false,.vi (i+1:Nat)])):=by
    intro i hi
    have h204:F 204 [ω.w 0,N3 (atV (ω.w 1).toL i) 0,N3 (atV (ω.w 1).toL i) 1,N3 (atV (ω.w 1).toL i) 2]= .vb (ab9 (ω.w 0).toL (N4 (atV (ω.w 1).toL i))):=rfl
    unfold cP5
    simp only[N0,dB,N2,den,Q9,N8,N5,Q7,O8,Z9]
    simp[hi,av5,hf,S2,S3,S4,U6,h204,b75,a16,Q2 (show i≤10000000 by omega),show((ω.w 0).toL.length:Int)≤1000000 by omega]
    cases (N3 (atV (ω.w 1).toL i) 3).toB<;>cases ab9 (ω.w 0).toL (N4 (atV (ω.w 1).toL i))<;>simp
   refine N6 (r:=a84 (.vb false) (fun k=>[.vb false,.vi k]) (b75 (ω.w 0).toL (ω.w 1).toL) (ω.w 1).toL.length) ?_ ?_ ?_
   ·refine Z7 (fun i hi hb=> ?_) (fun i hi hb=> ?_) ?_
    ·show N0 cP5 (ω.upd 2000 [.vb false,.vi i])=_
     rw[step i hi,hb];rfl
    ·show N0 cP5 (ω.upd 2000 [.vb false,.vi i])=_
     rw[step i hi,hb];rfl
    ·simp[cP5,N0.eq_2,N0.eq_4,dB,N2,den,Q9,N8]
   ·simp[hf,F,N2,den,Q9,Y8,Y9]
   ·have hF:F 228 [.vb false,.vi 0,.vi 0,.vi (ω.w 0).toL.length,ω.w 0,.vi 0,.vi (ω.w 1).toL.length,ω.w 1]=S6 (a84 (.vb false) (fun k=>[.vb false,.vi k]) (b75 (ω.w 0).toL (ω.w 1).toL) (ω.w 1).toL.length):=by simp[F,Y8,Y9]
    rw[Y6]at hF⊢
    cases hd:(List.range (ω.w 1).toL.length).any (b75 (ω.w 0).toL (ω.w 1).toL)with
    |true=>
     rw[hd,if_pos rfl]at hF
     rw[if_pos rfl]
     simp only[R2,N0,N2,den,Q9,hf,hF]
     rfl
    |false=>
     rw[if_neg (by simp)]
     rfl
end Go.Ev
namespace Go.Ev
open Go
def cv1(l:List Val)(r:Val)(k:Nat):Bool:=(List.range k).any fun j=>decide (N4 (atV l j)=N4 r)
theorem co1(l:List Val)(r:Val):cv1 l r l.length=a00 l r:=au9 (fun c=>decide (N4 c=N4 r)) (.vl []) l
theorem c97(l:List Val)(r:Val)(k:Nat):cv1 l r (k+1)=(cv1 l r k||decide (N4 (atV l k)=N4 r)):=by
 unfold cv1;rw[List.range_succ,List.any_append];simp
theorem db6{ω:Opq}{i:Nat}(hi:ω.w 2001= .vi i)(h0:i<(ω.w 0).toL.length)(hn:(ω.w 1).toL.length≤1000):
 P5 (fun vs=>N0 cP6 (ω.upd 3000 vs)) [.vb false,.vi 0]=some (0,[.vb (a00 (ω.w 1).toL (atV (ω.w 0).toL i)),.vi (ω.w 1).toL.length]):=by
 rw[←co1]
 refine Q4 (fun k=>[.vb (cv1 (ω.w 1).toL (atV (ω.w 0).toL i) k),.vi k]) (n:=(ω.w 1).toL.length) rfl (fun k hk=> ?_) ?_
 ·show N0 cP6 (ω.upd 3000 [.vb (cv1 (ω.w 1).toL (atV (ω.w 0).toL i) k),.vi k])=some (0,[.vb (cv1 (ω.w 1).toL (atV (ω.w 0).toL i) (k+1)),.vi (k+1:Nat)])
  rw[c97]
  have hp:decide (N4 (atV (ω.w 1).toL k)=N4 (atV (ω.w 0).toL i))=(decide ((N3 (atV (ω.w 1).toL k) 0).toS=(N3 (atV (ω.w 0).toL i) 0).toS)&&(decide ((N3 (atV (ω.w 1).toL k) 1).toI=(N3 (atV (ω.w 0).toL i) 1).toI)&&decide ((N3 (atV (ω.w 1).toL k) 2).toI=(N3 (atV (ω.w 0).toL i) 2).toI))):=by
   rw[m9];simp only[decide_eq_true_eq,d6,ai3]
  unfold cP6
  cases cv1 (ω.w 1).toL (atV (ω.w 0).toL i) k<;>simp[N0,N2,den,dB,Q9,N8,hi,hk,h0,hp,Q2 (show k≤10000000 by omega),S2,S3,S4]
 ·simp[cP6,N0,N2,den,dB,Q9,N8]
def cL2:SX:= .op .lcat [.va 2002,.op .row [.op .row [.op .lget [.va 0,.va 2001,.ci 0],.op .lget [.va 0,.va 2001,.ci 1],.op .lget [.va 0,.va 2001,.ci 2],.op .lget [.va 0,.va 2001,.ci 3],.op .lget [.va 0,.va 2001,.ci 4],.op .lget [.va 0,.va 2001,.ci 5],.op .lget [.va 0,.va 2001,.ci 6]]]]
def cL3:SX:= .op .lcat [.va 2002,.op .row [.op .row [.op .lget [.va 1,.va 2001,.ci 0],.op .lget [.va 1,.va 2001,.ci 1],.op .lget [.va 1,.va 2001,.ci 2],.op .lget [.va 1,.va 2001,.ci 4],.op .lget [.va 1,.va 2001,.ci 5],.op .lget [.va 1,.va 2001,.ci 6],.op .lget [.va 1,.va 2001,.ci 7]]]]
def d60:SX:= .app 230 [.cb false,.ci 0,.ci 0,.op .llen [.va 0],.va 0,.ci 0,.op .llen [.va 1],.va 1,.va 2000,.va 2002,.va 2001]
theorem c98:cZ5= .ite (.op (.cmp .lss) [.va 2001,.op .llen [.va 0]]) (.loop ⟨230,[.cb false,.ci 0],3000,[.ci 0,.op .llen [.va 0],.va 0,.ci 0,.op .llen [.va 1],.va 1,.va 2000,.va 2002,.va 2001]⟩ cP6 [.ite (.op .not [.op .lget [d60,.ci 1,.ci 0]]) (.need (.op (.cmp .leq) [.ci 0,.va 2001]) (.need (.op .and [.op (.cmp .eql) [.va 2000,.op .llen [.va 2002]],.op (.cmp .leq) [.op .llen [cL2],.ci 1000000]]) (.ret 0 [.op .llen [cL2],.op (.ar .add .i64) [.va 2001,.ci 1],cL2]))) (.ret 0 [.va 2000,.op (.ar .add .i64) [.va 2001,.ci 1],.va 2002])]) (.ret 1 [.va 2000,.va 2001,.va 2002]):=rfl
theorem c99:cZ6= .ite (.op (.cmp .lss) [.va 2001,.op .llen [.va 1]]) (.need (.op (.cmp .leq) [.ci 0,.va 2001]) (.ite (.op .not [.op .lget [.va 1,.va 2001,.ci 3]]) (.need (.op .and [.op (.cmp .eql) [.va 2000,.op .llen [.va 2002]],.op (.cmp .leq) [.op .llen [cL3],.ci 1000000]]) (.ret 0 [.op .llen [cL3],.op (.ar .add .i64) [.va 2001,.ci 1],cL3])) (.ret 0 [.va 2000,.op (.ar .add .i64) [.va 2001,.ci 1],.va 2002]))) (.ret 1 [.va 2000,.va 2001,.va 2002]):=rfl
theorem cL4{ω:Opq}(hf: ∀i a,ω.f i a=F i a){i:Nat}{A:List Val}(hi:i<(ω.w 0).toL.length)(hn:(ω.w 1).toL.length≤1000)(hn0:(ω.w 0).toL.length≤1000)(hA:A.length≤1000):
 N0 cZ5 (ω.upd 2000 [.vi A.length,.vi i,.vl A])=some (0,[.vi (A++a87 (ω.w 1).toL (atV (ω.w 0).toL i)).length,.vi (i+1:Nat),.vl (A++a87 (ω.w 1).toL (atV (ω.w 0).toL i))]):=by
 obtain⟨ω',hω⟩: ∃ω',ω'=ω.upd 2000 [.vi A.length,.vi i,.vl A]:=⟨_,rfl⟩
 have v0:ω'.w 2000= .vi A.length:=by rw[hω];rfl
 have v1:ω'.w 2001= .vi i:=by rw[hω];rfl
 have v2:ω'.w 2002= .vl A:=by rw[hω];rfl
 have u0:ω'.w 0=ω.w 0:=by rw[hω];rfl
 have u1:ω'.w 1=ω.w 1:=by rw[hω];rfl
 have hf': ∀i a,ω'.f i a=F i a:=by rw[hω];exact hf
 have lp:=db6 (ω:=ω') v1 (by rw[u0];exact hi) (by rw[u1];exact hn)
 rw[u0,u1]at lp
 have de:den ω' d60=S6 (0,[.vb (a00 (ω.w 1).toL (atV (ω.w 0).toL i)),.vi (ω.w 1).toL.length]):=by
  show ω'.f 230 [.vb false,.vi 0,.vi 0,.vi (ω'.w 0).toL.length,ω'.w 0,.vi 0,.vi (ω'.w 1).toL.length,ω'.w 1,ω'.w 2000,ω'.w 2002,ω'.w 2001]=_
  rw[hf',v1,u0,u1];rfl
 have dc:den ω' cL2= .vl (A++[O1 (atV (ω.w 0).toL i)]):=by
  show Val.vl ((ω'.w 2002).toL++[O1 (atV (ω'.w 0).toL (ω'.w 2001).toI.toNat)])=_
  rw[v2,u0,v1];rfl
 have a1:arI .add .i64 (i:Int) 1=((i+1:Nat):Int):=Q2 (by omega)
 rw[←hω,c98]
 refine T2 (by show decide ((ω'.w 2001).toI<((ω'.w 0).toL.length:Int))=true;rw[v1,u0];exact decide_eq_true (by show(i:Int)<_;omega)) (N6 lp de ?_)
 unfold a87
 cases ht:a00 (ω.w 1).toL (atV (ω.w 0).toL i)with
 |false=>
  refine T2 (by show(!(Q5 (den ω' d60).toL 1 0).toB)=true;rw[de,ht];rfl) (P8 (by show decide ((0:Int)≤(ω'.w 2001).toI)=true;rw[v1];exact decide_eq_true (by show(0:Int)≤(i:Int);omega)) (P8 ?_ ?_))
  ·show(decide ((ω'.w 2000).toI=((ω'.w 2002).toL.length:Int))&&decide (((den ω' cL2).toL.length:Int)≤1000000))=true
   rw[v0,v2,dc]
   exact ap6 (decide_eq_true rfl) (decide_eq_true (by show((A++[_]).length:Int)≤1000000;rw[e8];show((A.length+1:Nat):Int)≤1000000;omega))
  ·show some (0,[Val.vi ((den ω' cL2).toL.length:Int),Val.vi (arI .add .i64 (ω'.w 2001).toI 1),den ω' cL2])=_
   rw[dc,v1,N5,a1];rfl
 |true=>
  refine S8 (by show(!(Q5 (den ω' d60).toL 1 0).toB)=false;rw[de,ht];rfl) ?_
  show some (0,[ω'.w 2000,Val.vi (arI .add .i64 (ω'.w 2001).toI 1),ω'.w 2002])=_
  rw[v0,v1,v2,N5,a1,cond_true,n9]
theorem cL5{ω:Opq}{i:Nat}{A:List Val}(hi:i<(ω.w 1).toL.length)(hn:(ω.w 1).toL.length≤1000)(hA:A.length≤1000):
 N0 cZ6 (ω.upd 2000 [.vi A.length,.vi i,.vl A])=some (0,[.vi (A++aB8 (atV (ω.w 1).toL i)).length,.vi (i+1:Nat),.vl (A++aB8 (atV (ω.w 1).toL i))]):=by
 obtain⟨ω',hω⟩: ∃ω',ω'=ω.upd 2000 [.vi A.length,.vi i,.vl A]:=⟨_,rfl⟩
 have v0:ω'.w 2000= .vi A.length:=by rw[hω];rfl
 have v1:ω'.w 2001= .vi i:=by rw[hω];rfl
 have v2:ω'.w 2002= .vl A:=by rw[hω];rfl
 have u1:ω'.w 1=ω.w 1:=by rw[hω];rfl
 have dc:den ω' cL3= .vl (A++[ay6 (atV (ω.w 1).toL i)]):=by
  show Val.vl ((ω'.w 2002).toL++[ay6 (atV (ω'.w 1).toL (ω'.w 2001).toI.toNat)])=_
  rw[v2,u1,v1];rfl
 have a1:arI .add .i64 (i:Int) 1=((i+1:Nat):Int):=Q2 (by omega)
 have hd:dB ω' (.op .not [.op .lget [.va 1,.va 2001,.ci 3]])= !a16 (atV (ω.w 1).toL i):=by
  show(!(Q5 (ω'.w 1).toL (ω'.w 2001).toI 3).toB)=_
  rw[v1,u1];rfl
 rw[←hω,c99]
 refine T2 (by show decide ((ω'.w 2001).toI<((ω'.w 1).toL.length:Int))=true;rw[v1,u1];exact decide_eq_true (by show(i:Int)<_;omega)) (P8 (by show decide ((0:Int)≤(ω'.w 2001).toI)=true;rw[v1];exact decide_eq_true (by show(0:Int)≤(i:Int);omega)) ?_)
 unfold aB8
 cases ht:a16 (atV (ω.w 1).toL i)with
 |false=>
  refine T2 (by rw[hd,ht];rfl) (P8 ?_ ?_)
  ·show(decide ((ω'.w 2000).toI=((ω'.w 2002).toL.length:Int))&&decide (((den ω' cL3).toL.length:Int)≤1000000))=true
   rw[v0,v2,dc]
   exact ap6 (decide_eq_true rfl) (decide_eq_true (by show((A++[_]).length:Int)≤1000000;rw[e8];show((A.length+1:Nat):Int)≤1000000;omega))
  ·show some (0,[Val.vi ((den ω' cL3).toL.length:Int),Val.vi (arI .add .i64 (ω'.w 2001).toI 1),den ω' cL3])=_
   rw[dc,v1,N5,a1];rfl
 |true=>
  refine S8 (by rw[hd,ht];rfl) ?_
  show some (0,[ω'.w 2000,Val.vi (arI .add .i64 (ω'.w 2001).toI 1),ω'.w 2002])=_
  rw[v0,v1,v2,N5,a1,cond_true,n9]
theorem av6(l:List Val)(r:Val):(a87 l r).length≤1:=by unfold a87;cases a00 l r<;>simp
theorem b71(r:Val):(aB8 r).length≤1:=by unfold aB8;cases a16 r<;>simp
theorem db7{ω:Opq}(hf: ∀i a,ω.f i a=F i a)(hn:(ω.w 1).toL.length≤200)(hn0:(ω.w 0).toL.length≤200):
 P5 (fun vs=>N0 cZ5 (ω.upd 2000 vs)) [.vi (0:Nat),.vi 0,.vl []]=some (0,[.vi (T9 [] (a87 (ω.w 1).toL) (ω.w 0).toL).length,.vi (ω.w 0).toL.length,.vl (T9 [] (a87 (ω.w 1).toL) (ω.w 0).toL)]):=by
 have hg: ∀i,(a02 (fun i=>a87 (ω.w 1).toL (atV (ω.w 0).toL i)) i).length≤i:=fun i=>by simpa using ak6 (g:=fun i=>a87 (ω.w 1).toL (atV (ω.w 0).toL i)) (m:=1) (fun _=>av6 _ _) i
 refine a34 (fun i acc=>[.vi acc.length,.vi i,.vl acc]) (a0:=[]) (g:=fun i=>a87 (ω.w 1).toL (atV (ω.w 0).toL i)) (n:=(ω.w 0).toL.length) rfl (fun i hi=> ?_) ?_
 ·have:=hg i
  exact cL4 hf hi (by omega) (by omega) (by simp;omega)
 ·show N0 cZ5 (ω.upd 2000 [_,.vi (ω.w 0).toL.length,_])=_
  rw[c98]
  refine S8 ?_ rfl
  show decide (((ω.w 0).toL.length:Int)<((ω.w 0).toL.length:Int))=false
  exact decide_eq_false (by omega)
theorem db8{ω:Opq}(hn:(ω.w 1).toL.length≤200){A:List Val}(hA:A.length≤200):
 P5 (fun vs=>N0 cZ6 (ω.upd 2000 vs)) [.vi A.length,.vi 0,.vl A]=some (0,[.vi (T9 A aB8 (ω.w 1).toL).length,.vi (ω.w 1).toL.length,.vl (T9 A aB8 (ω.w 1).toL)]):=by
 have hg: ∀i,(a02 (fun i=>aB8 (atV (ω.w 1).toL i)) i).length≤i:=fun i=>by simpa using ak6 (g:=fun i=>aB8 (atV (ω.w 1).toL i)) (m:=1) (fun _=>b71 _) i
 refine a34 (fun i acc=>[.vi acc.length,.vi i,.vl acc]) (a0:=A) (g:=fun i=>aB8 (atV (ω.w 1).toL i)) (n:=(ω.w 1).toL.length) rfl (fun i hi=> ?_) ?_
 ·have:=hg i
  exact cL5 hi (by omega) (by rw[e8];omega)
 ·show N0 cZ6 (ω.upd 2000 [_,.vi (ω.w 1).toL.length,_])=_
  rw[c99]
  refine S8 ?_ rfl
  show decide (((ω.w 1).toL.length:Int)<((ω.w 1).toL.length:Int))=false
  exact decide_eq_false (by omega)
theorem bs7(rows l:List Val):T9 (T9 [] (a87 l) rows) aB8 l=ac1 rows l:=by
 rw[ae1,ae1,List.nil_append];rfl
theorem co2{r:Val}(h:S7.okK r=true):S7.okK (O1 r)=true:=by rw[S7.okK_at h];exact h
theorem cL6{r:Val}(h:S7.okK8 r=true):S7.okK (ay6 r)=true:=by
 unfold S7.okK8 at h
 split at h
 ·rfl
 ·cases h
theorem aR6{rows l:List Val}(h0:rows.all S7.okK=true)(h1:l.all S7.okK8=true):(ac1 rows l).all S7.okK=true:=by
 rw[i6]at*
 intro x hx
 rcases x5.1 hx with hx|hx
 ·obtain⟨r,hr,hx⟩:=u5.1 hx
  unfold a87 at hx
  cases ht:a00 l r with
  |true=>rw[ht]at hx;cases hx
  |false=>
   rw[ht]at hx
   obtain rfl:=s8.1 hx
   exact co2 (h0 r hr)
 ·obtain⟨r,hr,hx⟩:=u5.1 hx
  unfold aB8 at hx
  cases ht:a16 r with
  |true=>rw[ht]at hx;cases hx
  |false=>
   rw[ht]at hx
   obtain rfl:=s8.1 hx
   exact cL6 (h1 r hr)
theorem d61{v:Val}(h:(F 433 [v]).toB=true):v= .vl v.toL∧v.toL.all S7.okK8=true:=by
 obtain⟨h1,h2⟩:=M6 (show(S7.isL v&&v.toL.all S7.okK8)=true from h)
 exact⟨S7.isL_at h1,h2⟩
theorem co3{ω:Opq}(hf: ∀i a,ω.f i a=F i a)(hn0:(ω.w 0).toL.length≤200)(hn1:(ω.w 1).toL.length≤200)(k0:(F 431 [ω.w 0]).toB=true)(k1:(F 433 [ω.w 1]).toB=true):
 N0 aE4 ω=some (0,[F 232 [ω.w 0,ω.w 1],F 222 [ω.w 0,ω.w 1]]):=by
 have h232:F 232 [ω.w 0,ω.w 1]= .vi (bif a86 (ω.w 0).toL (ω.w 1).toL then 0 else 2):=rfl
 have h222:F 222 [ω.w 0,ω.w 1]= .vl (bif a86 (ω.w 0).toL (ω.w 1).toL then S7.srt false (ac1 (ω.w 0).toL (ω.w 1).toL)else []):=rfl
 have h220:ω.f 220 [ω.w 0,ω.w 1]= .vb (a86 (ω.w 0).toL (ω.w 1).toL):=by rw[hf];rfl
 rw[h232,h222]
 unfold aE4
 refine P8 (by show(decide (((ω.w 0).toL.length:Int)≤400)&&decide (((ω.w 1).toL.length:Int)≤400))=true;exact ap6 (decide_eq_true (by omega)) (decide_eq_true (by omega))) ?_
 cases hr:a86 (ω.w 0).toL (ω.w 1).toL with
 |false=>exact T2 (by show(!(ω.f 220 [ω.w 0,ω.w 1]).toB)=true;rw[h220,hr];rfl) rfl
 |true=>
  refine S8 (by show(!(ω.f 220 [ω.w 0,ω.w 1]).toB)=false;rw[h220,hr];rfl) ?_
  have hro:=aR6 (S7.f431 k0).2 (d61 k1).2
  have e0:den ω a98=aa7 [] (a87 (ω.w 1).toL) (ω.w 0).toL:=by
   show ω.f 229 [.vi (0:Nat),.vi 0,.vl [],.vi 0,.vi (ω.w 0).toL.length,ω.w 0,.vi 0,.vi (ω.w 1).toL.length,ω.w 1]=_
   rw[hf];rfl
  have hl1:(T9 [] (a87 (ω.w 1).toL) (ω.w 0).toL).length≤200:=by
   rw[ae1,List.nil_append]
   have:=V9 (av6 (ω.w 1).toL) (ω.w 0).toL
   omega
  have hlr:(ac1 (ω.w 0).toL (ω.w 1).toL).length≤400:=by
   unfold ac1
   rw[e8]
   have a1:=V9 (av6 (ω.w 1).toL) (ω.w 0).toL
   have a2:=V9 b71 (ω.w 1).toL
   omega
  have lp1:=db7 hf hn1 hn0
  have hgo:=bs7 (ω.w 0).toL (ω.w 1).toL
  have d1:den ω Z6= .vl (T9 [] (a87 (ω.w 1).toL) (ω.w 0).toL):=by show Q5 (den ω a98).toL 1 2=_;rw[e0];rfl
  have d1':den ω (.op .lget [a98,.ci 1,.ci 0])= .vi (T9 [] (a87 (ω.w 1).toL) (ω.w 0).toL).length:=by show Q5 (den ω a98).toL 1 0=_;rw[e0];rfl
  have e0':den ω a98=S6 (0,[.vi (T9 [] (a87 (ω.w 1).toL) (ω.w 0).toL).length,.vi (ω.w 0).toL.length,.vl (T9 [] (a87 (ω.w 1).toL) (ω.w 0).toL)]):=e0
  generalize T9 [] (a87 (ω.w 1).toL) (ω.w 0).toL=A at hl1 lp1 hgo d1 d1' e0'
  have e2:den ω au6=S6 (0,[.vi (T9 A aB8 (ω.w 1).toL).length,.vi (ω.w 1).toL.length,.vl (T9 A aB8 (ω.w 1).toL)]):=by
   show ω.f 231 [.vi (den ω Z6).toL.length,.vi 0,den ω Z6,.vi 0,.vi (ω.w 1).toL.length,ω.w 1]=_
   rw[hf,d1];rfl
  have lp2:=db8 hn1 hl1
  rw[hgo]at e2 lp2
  generalize hO:ac1 (ω.w 0).toL (ω.w 1).toL=O at*
  have d3:den ω ad6= .vi O.length:=by show Q5 (den ω au6).toL 1 0=_;rw[e2];rfl
  have d4:den ω au7= .vl O:=by show Q5 (den ω au6).toL 1 2=_;rw[e2];rfl
  have d5:den ω ad7= .vl O:=by
   show Q9 .lsub [den ω au7,.vi 0,den ω ad6]=_
   rw[d3,d4];simp[Q9]
  refine N6 lp1 e0' (P8 ?_ (N6 (r:=(0,[.vi O.length,.vi (ω.w 1).toL.length,.vl O])) ?_ e2 (P8 ?_ ?_)))
  ·show decide ((den ω (.op .lget [a98,.ci 1,.ci 0])).toI=((den ω Z6).toL.length:Int))=true
   rw[d1',d1];exact decide_eq_true rfl
  ·show P5 _ [.vi (den ω Z6).toL.length,.vi 0,den ω Z6]=_
   rw[d1];exact lp2
  ·show((decide ((0:Int)≤(den ω ad6).toI)&&decide ((den ω ad6).toI≤((den ω au7).toL.length:Int)))&&(decide (((den ω ad7).toL.length:Int)≤400)&&(ω.f 431 [den ω ad7]).toB))=true
   rw[d3,d4,d5,hf]
   refine ap6 (ap6 (decide_eq_true (by show(0:Int)≤(O.length:Int);omega)) (decide_eq_true (Int.le_refl _))) (ap6 (decide_eq_true (by show(O.length:Int)≤400;omega)) ?_)
   show(S7.isL (.vl O)&&O.all S7.okK)=true
   exact ap6 rfl hro
  ·show some (0,[.vi 0,ω.f 490 [den ω ad7]])=_
   rw[hf,d5];rfl
end Go.Ev
namespace Go.Ev
open Go
theorem ca0:cG2= .ite (.op (.cmp .lss) [.va 2001,.op .llen [.va 1]]) (.need (.op (.cmp .leq) [.ci 0,.va 2001]) (.need (.op .and [.op (.cmp .leq) [.ci 0,kX],.op (.cmp .lss) [kX,.op .llen [bX]]]) (.ite blX TB (.ite (.op (.cmp .gtr) [.op .lget [.va 1,.va 2001,.ci 4],.ci 0]) (.ite (.op (.cmp .leq) [.op .lget [.va 1,.va 2001,.ci 6],.op .lget [.va 1,.va 2001,.ci 7]]) (.ite (.op (.cmp .gtr) [.op .lget [.va 1,.va 2001,.ci 4],.ci 1]) TB (.ite (.op .and [.op (.cmp .eql) [.op .lget [.va 1,.va 2001,.ci 4],.ci 1],.op .and [.op (.cmp .eql) [.op .lget [.va 1,.va 2001,.ci 5],.op .lget [.va 1,.va 2001,.ci 5]],.op .and [.op (.cmp .eql) [.op .lget [.va 1,.va 2001,.ci 6],.op .lget [.va 1,.va 2001,.ci 5]],.op (.cmp .eql) [.op .lget [.va 1,.va 2001,.ci 7],.op .lget [.va 1,.va 2001,.ci 5]]]]]) TB RB)) RB) RB)))) (.ret 1 [.va 2000,.va 2001,.va 2002,.va 2003]):=rfl
theorem ca1{m:List Val}{p:PaneM}{k:Nat}(h1:k<m.length)(h2:N4 (atV m k)=p)(h3: ∀j,j<k→ ¬N4 (atV m j)=p):W6 m p=k:=by
 unfold W6
 rw[List.findIdx_eq h1]
 have e: ∀j (hj:j<m.length),atV m j=m[j]:=fun j hj=>by simp[atV,d9,hj]
 refine⟨by rw[←e k h1];exact decide_eq_true h2,fun j hj=> ?_⟩
 rw[←e j (by omega)]
 exact decide_eq_false (h3 j hj)
theorem bE9{m:List Val}{p:PaneM}(h: ∀j,j<m.length→ ¬N4 (atV m j)=p):W6 m p=m.length:=by
 unfold W6
 rw[K1]
 intro x hx
 obtain⟨j,hj,rfl⟩:=K7 hx
 have:=h j hj
 rw[show atV m j=m[j] by simp[atV,d9,hj]]at this
 exact decide_eq_false this
theorem a01(l:List Val): ∀i,(sN l i).length=i
 |0=>rfl
 |i+1=>by show(sN l i++[cm8 (atV l i)]).length=_;rw[e8,a01 l i];rfl
theorem cv2{a b:List Val}{k:Nat}(h:k<a.length):atV (a++b) k=atV a k:=by
 unfold atV
 rw[d9,d9,j5 h]
theorem ca2{a:List Val}{x:Val}{k:Nat}(h:k=a.length):atV (a++[x]) k=x:=by
 subst h
 unfold atV
 rw[d9,j3 (b9 _),x6];rfl
theorem bs8(l:List Val): ∀{i k:Nat},k<i→atV (sN l i) k=cm8 (atV l k)
 |i+1,k,h=>by
  show atV (sN l i++[cm8 (atV l i)]) k=_
  by_cases hk:k=i
  ·subst hk;exact ca2 (a01 l k).symm
  ·rw[cv2 (by rw[a01];omega),bs8 l (by omega)]
theorem bs9{l:List Val}{i:Nat}:ay5 l i=true↔ ∃k,k<i∧N4 (atV l k)=N4 (atV l i):=by
 unfold ay5 bM3
 rw[u9]
 constructor
 ·rintro⟨k,hk,h⟩;exact⟨k,r6.1 hk,of_decide_eq_true h⟩
 ·rintro⟨k,hk,h⟩;exact⟨k,r6.2 hk,decide_eq_true h⟩
theorem aX9{m:List Val}{k:Nat}{x:Val}(h:k<m.length):atV (m.set k x) k=x:=by
 unfold atV
 rw[d9,G7,if_pos rfl,if_pos h];rfl
theorem bM5{m:List Val}{k j:Nat}{x:Val}(h:k≠j):atV (m.set k x) j=atV m j:=by
 unfold atV
 rw[d9,d9,G7,if_neg h]
theorem cv3{l:List Val}{i:Nat}(h:ay5 l i=false):W6 (sN l i) (N4 (atV l i))=i∧sUp (sN l i) (atV l i)=sN l (i+1)∧W6 (sN l (i+1)) (N4 (atV l i))=i:=by
 have hno: ∀j,j<i→ ¬N4 (atV l j)=N4 (atV l i):=fun j hj e=>by
  rw[←l9]at h
  exact h (bs9.2 ⟨j,hj,e⟩)
 have e1:W6 (sN l i) (N4 (atV l i))=i:=by
  have:=bE9 (m:=sN l i) (p:=N4 (atV l i)) (fun j hj=>by rw[a01]at hj;rw[bs8 l hj];exact hno j hj)
  rw[this,a01]
 have e2:bUp (sN l i) (atV l i)=sN l i++[.vl [N3 (atV l i) 0,N3 (atV l i) 1,N3 (atV l i) 2,.vi 0]]:=by
  unfold bUp;rw[e1,a01,if_neg (Nat.lt_irrefl _)]
 have e3:cUp (sN l i) (atV l i)=0:=by unfold cUp;rw[e1,a01,if_neg (Nat.lt_irrefl _)]
 refine⟨e1,?_,?_⟩
 ·unfold sUp
  rw[e1,e2,e3,ca2 (a01 l i).symm,I5,if_neg (by rw[a01];omega),a01,x6]
  rfl
 ·refine ca1 (by rw[a01];omega) (by rw[bs8 l (by omega)];rfl) (fun j hj=> ?_)
  rw[bs8 l (by omega)];exact hno j hj
theorem cv4{l:List Val}{i:Nat}(h:ay5 l i=true): ∃k,k<i∧W6 (sN l i) (N4 (atV l i))=k∧bUp (sN l i) (atV l i)=sN l i∧(sUp (sN l i) (atV l i)).length=i∧W6 (sUp (sN l i) (atV l i)) (N4 (atV l i))=k∧N3 (atV (sUp (sN l i) (atV l i)) k) 3= .vi 2:=by
 obtain⟨j,hj,hp⟩:=bs9.1 h
 have hex:W6 (sN l i) (N4 (atV l i))<(sN l i).length:=by
  unfold W6
  rw[List.findIdx_lt_length]
  refine⟨atV (sN l i) j,?_,?_⟩
  ·rw[show atV (sN l i) j=(sN l i)[j]'(by rw[a01];exact hj) by simp[atV,d9,a01,hj]]
   exact I4 _
  ·rw[bs8 l hj];exact decide_eq_true hp
 have hat:=cu7 hex
 have hbf: ∀j',j'<W6 (sN l i) (N4 (atV l i))→ ¬N4 (atV (sN l i) j')=N4 (atV l i):=fun j' hj'=>ay8 hj'
 have e2:bUp (sN l i) (atV l i)=sN l i:=by unfold bUp;rw[if_pos hex]
 have e3:cUp (sN l i) (atV l i)=(N3 (atV (sN l i) (W6 (sN l i) (N4 (atV l i)))) 3).toI:=by unfold cUp;rw[if_pos hex]
 have e4:sUp (sN l i) (atV l i)=(sN l i).set (W6 (sN l i) (N4 (atV l i))) (.vl [N3 (atV (sN l i) (W6 (sN l i) (N4 (atV l i)))) 0,N3 (atV (sN l i) (W6 (sN l i) (N4 (atV l i)))) 1,N3 (atV (sN l i) (W6 (sN l i) (N4 (atV l i)))) 2,.vi (arI .add .i64 (N3 (atV (sN l i) (W6 (sN l i) (N4 (atV l i)))) 3).toI 1)]):=by unfold sUp;rw[e2,e3]
 generalize W6 (sN l i) (N4 (atV l i))=k at hex hat hbf e4
 have hk:k<i:=by rw[a01]at hex;exact hex
 refine⟨k,hk,rfl,e2,?_,?_,?_⟩
 ·rw[e4,s9,a01]
 ·rw[e4]
  refine ca1 (by rw[s9];exact hex) ?_ (fun j' hj'=> ?_)
  ·rw[aX9 hex]
   exact hat
  ·rw[bM5 (by omega)]
   exact hbf j' hj'
 ·rw[e4,aX9 hex,bs8 l hk]
  rfl
end Go.Ev
namespace Go.Ev
open Go
section
variable{ω:Opq}{l s:List Val}{i:Nat}
theorem d12(h1:(ω.w 1).toL=l)(hi:ω.w 2001= .vi i):den ω kyX= .vl [N3 (atV l i) 0,N3 (atV l i) 1,N3 (atV l i) 2]:=by
 show Val.vl [Q5 (ω.w 1).toL (ω.w 2001).toI 0,Q5 (ω.w 1).toL (ω.w 2001).toI 1,Q5 (ω.w 1).toL (ω.w 2001).toI 2]=_
 rw[h1,hi];rfl
theorem bt0(h1:(ω.w 1).toL=l)(hi:ω.w 2001= .vi i)(m:List Val):(m.findIdx fun x=>keq [.str,.int .i64,.int .i64] x (den ω kyX))=W6 m (N4 (atV l i)):=by
  rw[d12 h1 hi,al0,ac2]
theorem bF0(h1:(ω.w 1).toL=l)(hi:ω.w 2001= .vi i)(hs:ω.w 2003= .vl s):den ω kX= .vi (W6 s (N4 (atV l i))):=by
 show Val.vi (((ω.w 2003).toL.findIdx fun x=>keq [.str,.int .i64,.int .i64] x (den ω kyX):Nat):Int)=_
 rw[bt0 h1 hi,hs];rfl
theorem d13(h1:(ω.w 1).toL=l)(hi:ω.w 2001= .vi i)(hs:ω.w 2003= .vl s):dB ω (.op (.cmp .lss) [kX,.op .llen [.va 2003]])=decide (W6 s (N4 (atV l i))<s.length):=by
 show decide ((den ω kX).toI<((ω.w 2003).toL.length:Int))=_
 rw[bF0 h1 hi hs,hs];exact b57 _ _
theorem cv5(h1:(ω.w 1).toL=l)(hi:ω.w 2001= .vi i)(hs:ω.w 2003= .vl s):den ω bX= .vl (bUp s (atV l i)):=by
 unfold bX bUp
 rw[X2,d13 h1 hi hs]
 by_cases h:W6 s (N4 (atV l i))<s.length
 ·rw[decide_eq_true h,if_pos h,cond_true];exact hs
 ·rw[decide_eq_false h,if_neg h,cond_false]
  show Val.vl ((ω.w 2003).toL++[.vl [Q5 (ω.w 1).toL (ω.w 2001).toI 0,Q5 (ω.w 1).toL (ω.w 2001).toI 1,Q5 (ω.w 1).toL (ω.w 2001).toI 2,.vi 0]])=_
  rw[hs,h1,hi];rfl
theorem d14(h1:(ω.w 1).toL=l)(hi:ω.w 2001= .vi i)(hs:ω.w 2003= .vl s):(den ω nX).toI=cUp s (atV l i):=by
 unfold nX cUp
 rw[X2,d13 h1 hi hs]
 by_cases h:W6 s (N4 (atV l i))<s.length
 ·rw[decide_eq_true h,if_pos h,cond_true]
  show(Q5 (ω.w 2003).toL (den ω kX).toI 3).toI=_
  rw[hs,bF0 h1 hi hs];rfl
 ·rw[decide_eq_false h,if_neg h,cond_false];rfl
theorem bF1(h1:(ω.w 1).toL=l)(hi:ω.w 2001= .vi i)(hs:ω.w 2003= .vl s):den ω sX= .vl (sUp s (atV l i)):=by
 show Val.vl ((den ω bX).toL.set (den ω kX).toI.toNat (.vl [Q5 (den ω bX).toL (den ω kX).toI 0,Q5 (den ω bX).toL (den ω kX).toI 1,Q5 (den ω bX).toL (den ω kX).toI 2,.vi (arI .add .i64 (den ω nX).toI 1)]))=_
 rw[cv5 h1 hi hs,bF0 h1 hi hs,d14 h1 hi hs];rfl
theorem cv6(h1:(ω.w 1).toL=l)(hi:ω.w 2001= .vi i)(hs:ω.w 2003= .vl s)(hk:W6 (sUp s (atV l i)) (N4 (atV l i))<(sUp s (atV l i)).length):(den ω cX).toI=(N3 (atV (sUp s (atV l i)) (W6 (sUp s (atV l i)) (N4 (atV l i)))) 3).toI:=by
 have hk2:den ω k2X= .vi (W6 (sUp s (atV l i)) (N4 (atV l i))):=by
  show Val.vi (((den ω sX).toL.findIdx fun x=>keq [.str,.int .i64,.int .i64] x (den ω kyX):Nat):Int)=_
  rw[bt0 h1 hi,bF1 h1 hi hs];rfl
 unfold cX
 rw[X2]
 rw[show dB ω (.op (.cmp .lss) [k2X,.op .llen [sX]])=true by
  show decide ((den ω k2X).toI<((den ω sX).toL.length:Int))=true
  rw[hk2,bF1 h1 hi hs];exact decide_eq_true (by show((_:Nat):Int)<((_:Nat):Int);exact Int.ofNat_lt.2 hk)]
 rw[cond_true]
 show(Q5 (den ω sX).toL (den ω k2X).toI 3).toI=_
 rw[bF1 h1 hi hs,hk2];rfl
theorem db9(h1:(ω.w 1).toL=l)(hi:ω.w 2001= .vi i){had:List Val}(hh:(ω.w 2002).toL=had):dB ω hX=ab9 had (N4 (atV l i)):=by
 show decide ((((ω.w 2002).toL.findIdx fun x=>keq [.str,.int .i64,.int .i64] x (den ω kyX):Nat):Int)<((ω.w 2002).toL.length:Int))=_
 rw[bt0 h1 hi,hh];exact b57 _ _
end
theorem ca3{ω:Opq}{l:List Val}{had:Val}(h1:(ω.w 1).toL=l){i:Nat}(hi:i<l.length)(hl:l.length≤1000):
 N0 cG2 (ω.upd 2000 [.vi 0,.vi i,had,.vl (sN l i)])=some (if ae7 l had.toL i then(2,[.vi i,.vi i,had,.vl (sUp (sN l i) (atV l i))])else(0,[.vi 0,.vi (i+1:Nat),had,.vl (sN l (i+1))])):=by
 obtain⟨ω',hω⟩: ∃ω',ω'=ω.upd 2000 [.vi 0,.vi i,had,.vl (sN l i)]:=⟨_,rfl⟩
 have v0:ω'.w 2000= .vi 0:=by rw[hω];rfl
 have v1:ω'.w 2001= .vi i:=by rw[hω];rfl
 have v2:ω'.w 2002=had:=by rw[hω];rfl
 have v3:ω'.w 2003= .vl (sN l i):=by rw[hω];rfl
 have u1:(ω'.w 1).toL=l:=by rw[hω];exact h1
 have ds:=bF1 u1 v1 v3
 have dk:=bF0 u1 v1 v3
 have db:=cv5 u1 v1 v3
 have dh:=db9 u1 v1 (had:=had.toL) (by rw[v2])
 have a1:arI .add .i64 (i:Int) 1=((i+1:Nat):Int):=Q2 (by omega)
 have hRB:N0 RB ω'=some (2,[.vi i,.vi i,had,.vl (sUp (sN l i) (atV l i))]):=by
  show some (2,[ω'.w 2001,ω'.w 2001,ω'.w 2002,den ω' sX])=_
  rw[v1,v2,ds]
 have hRG:N0 RG ω'=some (0,[.vi 0,.vi (i+1:Nat),had,.vl (sUp (sN l i) (atV l i))]):=by
  show some (0,[ω'.w 2000,Val.vi (arI .add .i64 (ω'.w 2001).toI 1),ω'.w 2002,den ω' sX])=_
  rw[v0,v1,v2,ds,N5,a1]
 have hcol: ∀j:Nat,den ω' (.op .lget [.va 1,.va 2001,.ci j])=N3 (atV l i) j:=fun j=>by
  show Q5 (ω'.w 1).toL (ω'.w 2001).toI j=_
  rw[u1,v1];rfl
 have hd3:dB ω' (.op .lget [.va 1,.va 2001,.ci 3])=a16 (atV l i):=congrArg Val.toB (hcol 3)
 have hbl:dB ω' blX=ae6 (atV l i):=by
  show(decide ((den ω' (.op .lget [.va 1,.va 2001,.ci 4])).toI=0)&&(decide ((den ω' (.op .lget [.va 1,.va 2001,.ci 5])).toI=0)&&(decide ((den ω' (.op .lget [.va 1,.va 2001,.ci 6])).toI=0)&&decide ((den ω' (.op .lget [.va 1,.va 2001,.ci 7])).toI=0))))=_
  rw[show den ω' (.op .lget [.va 1,.va 2001,.ci 4])=_ from hcol 4,show den ω' (.op .lget [.va 1,.va 2001,.ci 5])=_ from hcol 5,show den ω' (.op .lget [.va 1,.va 2001,.ci 6])=_ from hcol 6,show den ω' (.op .lget [.va 1,.va 2001,.ci 7])=_ from hcol 7];rfl
 have hTB:N0 TB ω'=some (if(a16 (atV l i) !=ae6 (atV l i))||(ay5 l i||a16 (atV l i)&& !ab9 had.toL (N4 (atV l i)))then(2,[.vi i,.vi i,had,.vl (sUp (sN l i) (atV l i))])else(0,[.vi 0,.vi (i+1:Nat),had,.vl (sN l (i+1))])):=by
  have hne:dB ω' (.op .not [.op .beq [.op .lget [.va 1,.va 2001,.ci 3],blX]])=(a16 (atV l i) !=ae6 (atV l i)):=by
   show(!(dB ω' (.op .lget [.va 1,.va 2001,.ci 3])==dB ω' blX))=_
   rw[hd3,hbl];rfl
  unfold TB
  cases hb:(a16 (atV l i) !=ae6 (atV l i))with
  |true=>exact T2 (by rw[hne,hb]) hRB
  |false=>
   refine S8 (by rw[hne,hb]) ?_
   unfold TC
   cases hdup:ay5 l i with
   |true=>
    obtain⟨k,q1,q2,q3,q4,q5,q6⟩:=cv4 hdup
    have hc:=cv6 u1 v1 v3 (by rw[q5,q4];exact q1)
    rw[q5,q6]at hc
    exact T2 (by show decide ((1:Int)<(den ω' cX).toI)=true;rw[hc];rfl) hRB
   |false=>
    obtain⟨q1,q2,q3⟩:=cv3 hdup
    have hc:=cv6 u1 v1 v3 (by rw[q2,q3,a01];omega)
    rw[q2,q3,bs8 l (by omega)]at hc
    refine S8 (by show decide ((1:Int)<(den ω' cX).toI)=false;rw[hc];rfl) ?_
    rw[q2]at hRG
    unfold TD
    cases hdd:a16 (atV l i)with
    |false=>
     refine S8 (by rw[hd3,hdd]) ?_
     rw[hRG];rfl
    |true=>
     refine T2 (by rw[hd3,hdd]) ?_
     cases hhv:ab9 had.toL (N4 (atV l i))with
     |true=>
      refine S8 (by show(!(dB ω' hX))=false;rw[dh,hhv];rfl) ?_
      rw[hRG];rfl
     |false=>
      refine T2 (by show(!(dB ω' hX))=true;rw[dh,hhv];rfl) ?_
      rw[hRB];rfl
 rw[←hω,ca0]
 refine T2 (by show decide ((ω'.w 2001).toI<((ω'.w 1).toL.length:Int))=true;rw[v1,u1];exact decide_eq_true (by show(i:Int)<(l.length:Int);omega)) (P8 (by show decide ((0:Int)≤(ω'.w 2001).toI)=true;rw[v1];exact decide_eq_true (by show(0:Int)≤(i:Int);omega)) (P8 ?_ ?_))
 ·show(decide ((0:Int)≤(den ω' kX).toI)&&decide ((den ω' kX).toI<((den ω' bX).toL.length:Int)))=true
  rw[dk,db]
  refine ap6 (decide_eq_true (by show(0:Int)≤((W6 (sN l i) (N4 (atV l i)):Nat):Int);omega)) (decide_eq_true ?_)
  show((W6 (sN l i) (N4 (atV l i)):Nat):Int)<((bUp (sN l i) (atV l i)).length:Int)
  cases hdup:ay5 l i with
  |true=>
   obtain⟨k,q1,q2,q3,_⟩:=cv4 hdup
   rw[q2,q3,a01];omega
  |false=>
   obtain⟨q1,q2,q3⟩:=cv3 hdup
   unfold bUp
   rw[q1,a01,if_neg (D3 _),e8,a01]
   show(i:Int)<((i+1:Nat):Int);omega
 ·
  have hbad:ae7 l had.toL i=(!okC (atV l i)||(ay5 l i||a16 (atV l i)&& !ab9 had.toL (N4 (atV l i)))):=by
   unfold ae7 bN5;rw[Bool.or_assoc]
  have e4: ∀(op:BinOp) (a b:SX),True:=fun _ _ _=>trivial
  have g4:dB ω' (.op (.cmp .gtr) [.op .lget [.va 1,.va 2001,.ci 4],.ci 0])=decide (0<(N3 (atV l i) 4).toI):=by
   show decide ((0:Int)<(den ω' (.op .lget [.va 1,.va 2001,.ci 4])).toI)=_
   rw[show den ω' (.op .lget [.va 1,.va 2001,.ci 4])=_ from hcol 4]
  have g41:dB ω' (.op (.cmp .gtr) [.op .lget [.va 1,.va 2001,.ci 4],.ci 1])=decide (1<(N3 (atV l i) 4).toI):=by
   show decide ((1:Int)<(den ω' (.op .lget [.va 1,.va 2001,.ci 4])).toI)=_
   rw[show den ω' (.op .lget [.va 1,.va 2001,.ci 4])=_ from hcol 4]
  have g67:dB ω' (.op (.cmp .leq) [.op .lget [.va 1,.va 2001,.ci 6],.op .lget [.va 1,.va 2001,.ci 7]])=decide ((N3 (atV l i) 6).toI≤(N3 (atV l i) 7).toI):=by
   show decide ((den ω' (.op .lget [.va 1,.va 2001,.ci 6])).toI≤(den ω' (.op .lget [.va 1,.va 2001,.ci 7])).toI)=_
   rw[show den ω' (.op .lget [.va 1,.va 2001,.ci 6])=_ from hcol 6,show den ω' (.op .lget [.va 1,.va 2001,.ci 7])=_ from hcol 7]
  have gone:dB ω' (.op .and [.op (.cmp .eql) [.op .lget [.va 1,.va 2001,.ci 4],.ci 1],.op .and [.op (.cmp .eql) [.op .lget [.va 1,.va 2001,.ci 5],.op .lget [.va 1,.va 2001,.ci 5]],.op .and [.op (.cmp .eql) [.op .lget [.va 1,.va 2001,.ci 6],.op .lget [.va 1,.va 2001,.ci 5]],.op (.cmp .eql) [.op .lget [.va 1,.va 2001,.ci 7],.op .lget [.va 1,.va 2001,.ci 5]]]]])=decide ((N3 (atV l i) 4).toI=1∧(N3 (atV l i) 6).toI=(N3 (atV l i) 5).toI∧(N3 (atV l i) 7).toI=(N3 (atV l i) 5).toI):=by
   show(decide ((den ω' (.op .lget [.va 1,.va 2001,.ci 4])).toI=1)&&(decide ((den ω' (.op .lget [.va 1,.va 2001,.ci 5])).toI=(den ω' (.op .lget [.va 1,.va 2001,.ci 5])).toI)&&(decide ((den ω' (.op .lget [.va 1,.va 2001,.ci 6])).toI=(den ω' (.op .lget [.va 1,.va 2001,.ci 5])).toI)&&decide ((den ω' (.op .lget [.va 1,.va 2001,.ci 7])).toI=(den ω' (.op .lget [.va 1,.va 2001,.ci 5])).toI))))=_
   rw[show den ω' (.op .lget [.va 1,.va 2001,.ci 4])=_ from hcol 4,show den ω' (.op .lget [.va 1,.va 2001,.ci 5])=_ from hcol 5,show den ω' (.op .lget [.va 1,.va 2001,.ci 6])=_ from hcol 6,show den ω' (.op .lget [.va 1,.va 2001,.ci 7])=_ from hcol 7]
   rw[m9];simp
  rw[hbad]
  have hokt:=cL1 (atV l i)
  have hbk:ae6 (atV l i)=true↔(N3 (atV l i) 4).toI=0∧(N3 (atV l i) 5).toI=0∧(N3 (atV l i) 6).toI=0∧(N3 (atV l i) 7).toI=0:=by
   unfold ae6;simp only[Bool.and_eq_true,decide_eq_true_eq]
  have hok:okC (atV l i)=bif a16 (atV l i)then ae6 (atV l i)else okV (ay6 (atV l i)):=rfl
  generalize (ay5 l i||a16 (atV l i)&& !ab9 had.toL (N4 (atV l i)))=rest at hTB⊢
  generalize a16 (atV l i)=dd at hTB hok
  have fail:okC (atV l i)=false→N0 RB ω'=some (if !okC (atV l i)||rest then(2,[.vi i,.vi i,had,.vl (sUp (sN l i) (atV l i))])else(0,[.vi 0,.vi (i+1:Nat),had,.vl (sN l (i+1))])):=fun h=>by rw[hRB,h];rfl
  have pass:(!okC (atV l i))=(dd !=ae6 (atV l i))→N0 TB ω'=some (if !okC (atV l i)||rest then(2,[.vi i,.vi i,had,.vl (sUp (sN l i) (atV l i))])else(0,[.vi 0,.vi (i+1:Nat),had,.vl (sN l (i+1))])):=fun h=>by rw[hTB,h]
  cases hbv:ae6 (atV l i)with
  |true=>
   refine T2 (by rw[hbl,hbv]) (pass ?_)
   have hz:=hbk.1 hbv
   have hv:okV (ay6 (atV l i))=false:=by rw[←l9];exact fun h=>(hokt.1 h).1 hz
   rw[hok,hbv,hv];cases dd<;>rfl
  |false=>
   refine S8 (by rw[hbl,hbv]) ?_
   have hz: ¬_:=fun h=>by rw[hbk.2 h]at hbv;cases hbv
   have nok:okV (ay6 (atV l i))=false→okC (atV l i)=false:=fun h=>by rw[hok,hbv,h];cases dd<;>rfl
   have yok:okV (ay6 (atV l i))=true→(!okC (atV l i))=(dd !=ae6 (atV l i)):=fun h=>by rw[hok,hbv,h];cases dd<;>rfl
   have nv: ¬((N3 (atV l i) 4).toI=1∧(N3 (atV l i) 5).toI=(N3 (atV l i) 6).toI∧(N3 (atV l i) 6).toI=(N3 (atV l i) 7).toI∨1<(N3 (atV l i) 4).toI∧(N3 (atV l i) 6).toI≤(N3 (atV l i) 7).toI)→okV (ay6 (atV l i))=false:=fun h=>by
    rw[←l9];exact fun h2=>h (hokt.1 h2).2
   by_cases c4:0<(N3 (atV l i) 4).toI
   ·refine T2 (by rw[g4];exact decide_eq_true c4) ?_
    by_cases c67:(N3 (atV l i) 6).toI≤(N3 (atV l i) 7).toI
    ·refine T2 (by rw[g67];exact decide_eq_true c67) ?_
     by_cases c41:1<(N3 (atV l i) 4).toI
     ·exact T2 (by rw[g41];exact decide_eq_true c41) (pass (yok (hokt.2 ⟨hz,.inr ⟨c41,c67⟩⟩)))
     ·refine S8 (by rw[g41];exact decide_eq_false c41) ?_
      by_cases c5:(N3 (atV l i) 4).toI=1∧(N3 (atV l i) 6).toI=(N3 (atV l i) 5).toI∧(N3 (atV l i) 7).toI=(N3 (atV l i) 5).toI
      ·exact T2 (by rw[gone];exact decide_eq_true c5) (pass (yok (hokt.2 ⟨hz,.inl ⟨c5.1,by omega,by omega⟩⟩)))
      ·exact S8 (by rw[gone];exact decide_eq_false c5) (fail (nok (nv (by omega))))
    ·exact S8 (by rw[g67];exact decide_eq_false c67) (fail (nok (nv (by omega))))
   ·exact S8 (by rw[g4];exact decide_eq_false c4) (fail (nok (nv (by omega))))
end Go.Ev
namespace Go.Ev
open Go
theorem dc0{ω:Opq}{l:List Val}{had:Val}(h1:(ω.w 1).toL=l)(hl:l.length≤1000):P5 (fun vs=>N0 cG2 (ω.upd 2000 vs)) [.vi 0,.vi 0,had,.vl []]=some (av4 l had):=by
 have st: ∀i,i<l.length→ae7 l had.toL i=false→N0 cG2 (ω.upd 2000 [.vi 0,.vi i,had,.vl (sN l i)])=some (0,[.vi 0,.vi (i+1:Nat),had,.vl (sN l (i+1))]):=fun i hi hb=>by rw[ca3 h1 hi hl,hb];rfl
 unfold av4
 split
 ·rename_i k hk
  obtain⟨a,b,c⟩:=ab6 hk
  exact Q4 (fun i=>[.vi 0,.vi i,had,.vl (sN l i)]) (n:=k) rfl (fun i hi=>st i (by omega) (c i hi)) (by
    show N0 cG2 (ω.upd 2000 [.vi 0,.vi k,had,.vl (sN l k)])=_
    rw[ca3 h1 a hl,b];rfl)
 ·rename_i hk
  rw[C0]at hk
  exact Q4 (fun i=>[.vi 0,.vi i,had,.vl (sN l i)]) (n:=l.length) rfl (fun i hi=>st i hi (by simpa using hk i hi)) (by
    show N0 cG2 (ω.upd 2000 [.vi 0,.vi l.length,had,.vl (sN l l.length)])=_
    rw[ca0]
    refine S8 ?_ rfl
    show decide ((l.length:Int)<((ω.w 1).toL.length:Int))=false
    rw[h1];exact decide_eq_false (by omega))
theorem d15(f g:Nat→Bool)(n:Nat):((List.range n).any fun i=>f i||g i)=((List.range n).any f||(List.range n).any g):=by
  rw[m9,j8,u9,u9,u9]
  constructor
  ·rintro⟨i,hi,h⟩
   rcases j8 _ _|>.mp h with h|h
   ·exact .inl ⟨i,hi,h⟩
   ·exact .inr ⟨i,hi,h⟩
  ·rintro(⟨i,hi,h⟩|⟨i,hi,h⟩)
   ·exact⟨i,hi,by rw[h];rfl⟩
   ·exact⟨i,hi,by rw[h];simp⟩
theorem bM6(rows l:List Val):((List.range l.length).any (ae7 l (rows.map O1)))= !(ac0 l&& !(List.range l.length).any (b75 rows l)):=by
 have:ae7 l (rows.map O1)=fun i=>bN5 l i||b75 rows l i:=by
  funext i;unfold ae7 b75;rw[b64]
 rw[this,d15]
 unfold ac0
 cases (List.range l.length).any (bN5 l)<;>cases (List.range l.length).any (b75 rows l)<;>rfl
theorem bF2{l:List Val}(h:O0 l=true):bh3 l=(0,[.vi l.length,.vl (l.map O1)]):=by
 unfold O0 at h
 have h2:(List.range l.length).find? (aT4 l)=none:=by
  rw[I9]
  intro i hi hb
  have:(List.range l.length).any (aT4 l)=true:=u9.2 ⟨i,hi,hb⟩
  rw[this]at h;cases h
 unfold bh3
 rw[h2]
 show(0,[Val.vi l.length,Val.vl (a02 (g7 l) l.length)])=_
 rw[bh6]
theorem ca4{l:List Val}(h:O0 l=false): ∃p,bh3 l=(1,p):=by
 unfold O0 at h
 unfold bh3
 split
 ·exact⟨_,rfl⟩
 ·rename_i hk
  rw[I9]at hk
  have:(List.range l.length).any (aT4 l)=true:=by simpa using h
  obtain⟨i,hi,hb⟩:=u9.1 this
  exact absurd hb (hk i hi)
theorem cL7{ω:Opq}(hf: ∀i a,ω.f i a=F i a)(hn0:(ω.w 0).toL.length≤400)(hn1:(ω.w 1).toL.length≤400):N0 b50 ω=some (0,[F 220 [ω.w 0,ω.w 1]]):=by
 have h220:F 220 [ω.w 0,ω.w 1]= .vb (O0 (ω.w 0).toL&&(ac0 (ω.w 1).toL&& !(List.range (ω.w 1).toL.length).any (b75 (ω.w 0).toL (ω.w 1).toL))):=rfl
 have e140:ω.f 140 [.vi 0,.vl [],.vl [],.vi 0,.vi (ω.w 0).toL.length,ω.w 0,.vi (ω.w 0).toL.length]=S6 (bh3 (ω.w 0).toL):=by rw[hf];rfl
 rw[h220]
 unfold b50
 cases hr:O0 (ω.w 0).toL with
 |false=>
  obtain⟨p,hp⟩:=ca4 hr
  have lp:=d59 hf (ω:=ω) (by omega)
  rw[hp]at lp e140
  refine N6 lp e140 rfl
 |true=>
  have hp:=bF2 hr
  have lp:=d59 hf (ω:=ω) (by omega)
  rw[hp]at lp e140
  have d0:den ω aa6= .vl ((ω.w 0).toL.map O1):=by
   show Q5 (ω.f 140 [.vi 0,.vl [],.vl [],.vi 0,.vi (ω.w 0).toL.length,ω.w 0,.vi (ω.w 0).toL.length]).toL 1 1=_
   rw[e140];rfl
  have lp2:=dc0 (ω:=ω) (l:=(ω.w 1).toL) (had:= .vl ((ω.w 0).toL.map O1)) rfl (by omega)
  have e221:ω.f 221 [.vi 0,.vi 0,den ω aa6,.vl [],.vi 0,.vi (ω.w 1).toL.length,ω.w 1,den ω aa6,.vl [],.vi (ω.w 1).toL.length]=S6 (av4 (ω.w 1).toL (.vl ((ω.w 0).toL.map O1))):=by
   rw[hf,d0];rfl
  have hany:=bM6 (ω.w 0).toL (ω.w 1).toL
  refine N6 lp e140 (N6 (r:=av4 (ω.w 1).toL (.vl ((ω.w 0).toL.map O1))) ?_ e221 ?_)
  ·show P5 _ [.vi 0,.vi 0,den ω aa6,.vl []]=_
   rw[d0];exact lp2
  ·cases hb:(List.range (ω.w 1).toL.length).any (ae7 (ω.w 1).toL ((ω.w 0).toL.map O1))with
   |false=>
    have hfi:(List.range (ω.w 1).toL.length).find? (ae7 (ω.w 1).toL ((ω.w 0).toL.map O1))=none:=by
     rw[I9]
     intro i hi hbi
     rw[u9.2 ⟨i,hi,hbi⟩]at hb;cases hb
    rw[hb]at hany
    have hg:(ac0 (ω.w 1).toL&& !(List.range (ω.w 1).toL.length).any (b75 (ω.w 0).toL (ω.w 1).toL))=true:=by
     cases hq:(ac0 (ω.w 1).toL&& !(List.range (ω.w 1).toL.length).any (b75 (ω.w 0).toL (ω.w 1).toL))with
     |true=>rfl
     |false=>rw[hq]at hany;cases hany
    rw[hg]
    have:av4 (ω.w 1).toL (.vl ((ω.w 0).toL.map O1))=(0,[.vi 0,.vi (ω.w 1).toL.length,.vl ((ω.w 0).toL.map O1),.vl (sN (ω.w 1).toL (ω.w 1).toL.length)]):=by
     unfold av4
     rw[show(Val.vl ((ω.w 0).toL.map O1)).toL=(ω.w 0).toL.map O1 from rfl,hfi]
    rw[this];rfl
   |true=>
    rw[hb]at hany
    have hg:(ac0 (ω.w 1).toL&& !(List.range (ω.w 1).toL.length).any (b75 (ω.w 0).toL (ω.w 1).toL))=false:=by
     cases hq:(ac0 (ω.w 1).toL&& !(List.range (ω.w 1).toL.length).any (b75 (ω.w 0).toL (ω.w 1).toL))with
     |false=>rfl
     |true=>rw[hq]at hany;cases hany
    rw[hg]
    obtain⟨k,hk⟩: ∃k,(List.range (ω.w 1).toL.length).find? (ae7 (ω.w 1).toL ((ω.w 0).toL.map O1))=some k:=by
     cases hq:(List.range (ω.w 1).toL.length).find? (ae7 (ω.w 1).toL ((ω.w 0).toL.map O1))with
     |some k=>exact⟨k,rfl⟩
     |none=>
      obtain⟨i,hi,hbi⟩:=u9.1 hb
      exact absurd hbi (I9.1 hq i hi)
    have hres: ∃x y,av4 (ω.w 1).toL (.vl ((ω.w 0).toL.map O1))=(1,[.vi k,.vi k,x,y]):=by
     unfold av4
     rw[show(Val.vl ((ω.w 0).toL.map O1)).toL=(ω.w 0).toL.map O1 from rfl,hk]
     exact⟨_,_,rfl⟩
    obtain⟨x,y,hres⟩:=hres
    rw[hres]at e221⊢
    show some (0,[Val.vb (!decide ((0:Int)≤(Q5 (ω.f 221 [.vi 0,.vi 0,den ω aa6,.vl [],.vi 0,.vi (ω.w 1).toL.length,ω.w 1,den ω aa6,.vl [],.vi (ω.w 1).toL.length]).toL 1 0).toI))])=_
    rw[e221]
    show some (0,[Val.vb (!decide ((0:Int)≤(k:Int)))])=_
    rw[decide_eq_true (by omega)];rfl
end Go.Ev
namespace Go.Ev
open Go
def ND(l:List Val):Prop:=(l.map N4).Nodup
theorem bF3{l:List Val}{i:Nat}(hi:i<l.length):l.take (i+1)=l.take i++[atV l i]:=by
 rw[M3]
 simp[atV,d9,hi]
theorem d16{l:List Val}(h: ∀i,i<l.length→ay5 l i=false):ND l:=by
 unfold ND
 rw[List.nodup_iff_pairwise_ne,List.pairwise_map,I3]
 intro i j hi hj hij e
 have e1: ∀k (hk:k<l.length),atV l k=l[k]:=fun k hk=>by simp[atV,d9,hk]
 have:=bs9.2 ⟨i,hij,by rw[e1 i hi,e1 j hj];exact e⟩
 rw[h j hj]at this;cases this
theorem cv7{A B:List Val}{x:Val}(h:ND (A++x::B)): ∀y,y∈A++B→ ¬N4 y=N4 x:=by
 unfold ND at h
 rw[r8,j9,E8]at h
 obtain⟨h1,h2,h3⟩:=h
 rw[K9]at h2
 intro y hy e
 rcases x5.1 hy with hy|hy
 ·exact h3 _ (K0 hy) _ A9 e
 ·exact h2.1 (by rw[←e];exact K0 hy)
theorem bt1{A B:List Val}{x:Val}{p:PaneM}(h: ∀y,y∈A→ ¬N4 y=p)(hx:N4 x=p):W6 (A++x::B) p=A.length:=by
 refine ca1 (by simp) (by rw[S7.atV_mid rfl];exact hx) (fun j hj=> ?_)
 rw[cv2 hj]
 exact h _ (S7.atV_mem hj)
theorem cL8{m:List Val}{p:PaneM}(h: ∀y,y∈m→ ¬N4 y=p):W6 m p=m.length:=
 bE9 fun j hj=>h _ (S7.atV_mem hj)
theorem bh7{A B:List Val}{x:Val}:(A++x::B).eraseIdx A.length=A++B:=by
 rw[List.eraseIdx_append_of_length_le (b9 _),x6];rfl
theorem aF2{m:List Val}{p:PaneM}(h: ∀y,y∈m→ ¬N4 y=p):m.filter (fun r=> !decide (N4 r=p))=m:=by
 rw[List.filter_eq_self]
 intro y hy
 rw[decide_eq_false (h y hy)];rfl
theorem bF4{m:List Val}{c:Val}(h:ND m):(cH1 m c).Perm (m.filter (fun r=> !decide (N4 r=N4 c))++aB8 c):=by
 have hr:N4 (ay6 c)=N4 c:=rfl
 by_cases hex: ∃x,x∈m∧N4 x=N4 c
 ·obtain⟨x,hx,hp⟩:=hex
  obtain⟨A,B,rfl⟩:=List.append_of_mem hx
  have hmid:=cv7 h
  rw[hp]at hmid
  have hA: ∀y,y∈A→ ¬N4 y=N4 c:=fun y hy=>hmid y (G9 _ hy)
  have hB: ∀y,y∈B→ ¬N4 y=N4 c:=fun y hy=>hmid y (K3 _ hy)
  have hs:cm7 (A++x::B) c=A++ay6 c::B:=by
   unfold cm7
   rw[bt1 hA hp,if_pos (by simp),S7.set_mid rfl]
  have hf:(A++x::B).filter (fun r=> !decide (N4 r=N4 c))=A++B:=by
   rw[B0,aF2 hA,List.filter_cons_of_neg (by rw[decide_eq_true hp];simp),aF2 hB]
  rw[hf]
  unfold cH1 aB8
  rw[hs]
  cases a16 c with
  |true=>rw[cond_true,cond_true,bt1 hA hr,bh7,n9]
  |false=>
   rw[cond_false,cond_false]
   refine(List.perm_middle).trans ?_
   exact(List.perm_append_singleton _ _).symm
 ·have hA: ∀y,y∈m→ ¬N4 y=N4 c:=fun y hy e=>hex ⟨y,hy,e⟩
  have hs:cm7 m c=m++[ay6 c]:=by
   unfold cm7
   rw[cL8 hA,if_neg (D3 _)]
  rw[aF2 hA]
  unfold cH1 aB8
  rw[hs]
  cases a16 c with
  |true=>rw[cond_true,cond_true,bt1 hA hr,bh7]
  |false=>exact List.Perm.refl _
theorem ca5{a b:List Val}(h:a.Perm b)(hb:ND b):ND a:=((h.map N4).nodup_iff).2 hb
theorem bF5{c x:Val}(h:x∈aB8 c):N4 x=N4 c:=by
 unfold aB8 at h
 cases hd:a16 c with
 |true=>rw[hd]at h;cases h
 |false=>rw[hd]at h;rw[s8.1 h];rfl
theorem d17{m:List Val}{c:Val}(h:ND m):ND (cH1 m c):=by
 refine ca5 (bF4 h) ?_
 unfold ND at h⊢
 rw[r8,E8]
 refine⟨h.sublist (List.filter_sublist.map _),?_,?_⟩
 ·unfold aB8;cases a16 c<;>simp
 ·intro p hp q hq e
  obtain⟨x,hx,rfl⟩:=k9.1 hp
  obtain⟨y,hy,rfl⟩:=k9.1 hq
  have:=(x8.1 hx).2
  rw[decide_eq_true (by rw[e];exact bF5 hy)]at this
  cases this
theorem bt2{m:List Val}(l:List Val)(h:ND m): ∀i,ND (bE1 m l i)
 |0=>h
 |i+1=>d17 (bt2 l h i)
theorem bM7(a:List Val)(c r:Val):a00 (a++[c]) r=(a00 a r||decide (N4 c=N4 r)):=by
 unfold a00;rw[List.any_append];simp
theorem bh8{m l:List Val}(hm:ND m)(hl:ND l): ∀i,i≤l.length→(bE1 m l i).Perm (m.filter (fun r=> !a00 (l.take i) r)++(l.take i).flatMap aB8)
 |0,_=>by
  show m.Perm _
  rw[List.take_zero]
  show m.Perm (m.filter (fun r=> !a00 [] r)++[])
  rw[n9,show m.filter (fun r=> !a00 [] r)=m from List.filter_eq_self.2 (fun r _=>rfl)]
 |i+1,hi=>by
  have ih:=bh8 hm hl i (by omega)
  refine(bF4 (bt2 l hm i)).trans ?_
  rw[bF3 (by omega)]
  have hd: ∀y,y∈(l.take i).flatMap aB8→ ¬N4 y=N4 (atV l i):=by
   intro y hy e
   obtain⟨c,hc,hy⟩:=u5.1 hy
   have hs:ND (l.take i++atV l i::l.drop (i+1)):=by
    rw[show l.take i++atV l i::l.drop (i+1)=l by
     rw[show atV l i::l.drop (i+1)=[atV l i]++l.drop (i+1)from rfl,←r7,←bF3 (by omega),p8]]
    exact hl
   exact cv7 hs c (G9 _ hc) (by rw[←bF5 hy];exact e)
  rw[G5]
  have hp:((bE1 m l i).filter (fun r=> !decide (N4 r=N4 (atV l i)))).Perm (m.filter (fun r=> !a00 (l.take i++[atV l i]) r)++(l.take i).flatMap aB8):=by
   refine(ih.filter _).trans ?_
   rw[B0,aF2 hd,List.filter_filter]
   refine List.Perm.append_right _ ?_
   refine List.Perm.of_eq (List.filter_congr fun r _=> ?_)
   rw[bM7,Bool.not_or,Bool.and_comm]
   congr 2
   exact m9.2 ⟨fun h=>decide_eq_true (of_decide_eq_true h).symm,fun h=>decide_eq_true (of_decide_eq_true h).symm⟩
  refine(hp.append_right _).trans ?_
  rw[r7]
  refine List.Perm.of_eq ?_
  simp
theorem bh9(l:List Val): ∀rows:List Val,(rows.map O1).filter (fun r=> !a00 l r)=rows.flatMap (a87 l)
 | []=>rfl
 |r::rows=>by
  have ht:a00 l (O1 r)=a00 l r:=rfl
  rw[j9,z8,←bh9 l rows]
  unfold a87
  cases hh:a00 l r with
  |true=>rw[List.filter_cons_of_neg (by rw[ht,hh];simp)];rfl
  |false=>rw[List.filter_cons_of_pos (by rw[ht,hh];rfl)];rfl
theorem cL9{rows l:List Val}(hr:ND rows)(hl:ND l):(bE1 (rows.map O1) l l.length).Perm (ac1 rows l):=by
 have hm:ND (rows.map O1):=by
  unfold ND at hr⊢
  rw[B3];exact hr
 have:=bh8 hm hl l.length (b9 _)
 rw[C7,bh9]at this
 exact this
theorem cM0{L:List Val}(h:ND L)(x:Val):(L.filter (S7.eqv false x)).length≤1:=by
 have h2:((L.filter (S7.eqv false x)).map N4).Nodup:=h.sublist (List.filter_sublist.map _)
 have h3: ∀y,y∈L.filter (S7.eqv false x)→N4 x=N4 y:=fun y hy=>by
  obtain⟨a,b⟩:=S7.eqv_iff.1 (x8.1 hy).2
  exact aQ1 a b
 match hf:L.filter (S7.eqv false x),h2,h3 with
 | [],_,_=>exact k8 _
 | [a],_,_=>exact b9 _
 |a::b::q,h2,h3=>
  exfalso
  rw[j9,K9]at h2
  exact h2.1 (by rw[←h3 a A9,h3 b (by simp)];exact A9)
theorem cv8{L M:List Val}(h:L.Perm M)(hL:ND L):S7.srt false L=S7.srt false M:=by
 refine S7.srt_cl fun x=> ?_
 have hp:=h.filter (S7.eqv false x)
 have h1:=cM0 hL x
 match hf:L.filter (S7.eqv false x),h1,hp with
 | [],_,hp=>exact(List.nil_perm.1 hp).symm
 | [a],_,hp=>exact List.singleton_perm.1 hp
 |_::_::_,h1,_=>simp at h1
end Go.Ev
namespace Go.Ev
open Go
def ky2:SX:= .op .row [.op .lget [.va 1,.va 2000,.ci 0],.op .lget [.va 1,.va 2000,.ci 1],.op .lget [.va 1,.va 2000,.ci 2]]
def k3X:SX:= .op (.mfind [.str,.int .i64,.int .i64]) [.va 2001,ky2]
def r3X:SX:= .op .row [.op .lget [.va 1,.va 2000,.ci 0],.op .lget [.va 1,.va 2000,.ci 1],.op .lget [.va 1,.va 2000,.ci 2],.op .lget [.va 1,.va 2000,.ci 4],.op .lget [.va 1,.va 2000,.ci 5],.op .lget [.va 1,.va 2000,.ci 6],.op .lget [.va 1,.va 2000,.ci 7]]
def s3X:SX:= .op .ite [.op (.cmp .lss) [k3X,.op .llen [.va 2001]],.op .lset [.va 2001,k3X,r3X],.op .lcat [.va 2001,.op .row [r3X]]]
theorem ca6:cZ3= .ite (.op (.cmp .lss) [.va 2000,.op .llen [.va 1]]) (.need (.op (.cmp .leq) [.ci 0,.va 2000]) (.ite (.op .lget [.va 1,.va 2000,.ci 3]) (.ret 0 [.op (.ar .add .i64) [.va 2000,.ci 1],.op (.mdel [.str,.int .i64,.int .i64]) [s3X,ky2]]) (.ret 0 [.op (.ar .add .i64) [.va 2000,.ci 1],s3X]))) (.ret 1 [.va 2000,.va 2001]):=rfl
theorem cM1{ω:Opq}{l m:List Val}(h1:(ω.w 1).toL=l){i:Nat}(hi:i<l.length)(hl:l.length≤1000):
 N0 cZ3 (ω.upd 2000 [.vi i,.vl m])=some (0,[.vi (i+1:Nat),.vl (cH1 m (atV l i))]):=by
 obtain⟨ω',hω⟩: ∃ω',ω'=ω.upd 2000 [.vi i,.vl m]:=⟨_,rfl⟩
 have v0:ω'.w 2000= .vi i:=by rw[hω];rfl
 have v1:ω'.w 2001= .vl m:=by rw[hω];rfl
 have u1:(ω'.w 1).toL=l:=by rw[hω];exact h1
 have a1:arI .add .i64 (i:Int) 1=((i+1:Nat):Int):=Q2 (by omega)
 have dky:den ω' ky2= .vl [N3 (atV l i) 0,N3 (atV l i) 1,N3 (atV l i) 2]:=by
  show Val.vl [Q5 (ω'.w 1).toL (ω'.w 2000).toI 0,Q5 (ω'.w 1).toL (ω'.w 2000).toI 1,Q5 (ω'.w 1).toL (ω'.w 2000).toI 2]=_
  rw[u1,v0];rfl
 have fky: ∀m:List Val,(m.findIdx fun x=>keq [.str,.int .i64,.int .i64] x (den ω' ky2))=W6 m (N4 (atV l i)):=fun m=>by
   rw[dky,al0,ac2]
 have dk:den ω' k3X= .vi (W6 m (N4 (atV l i))):=by
  show Val.vi (((ω'.w 2001).toL.findIdx fun x=>keq [.str,.int .i64,.int .i64] x (den ω' ky2):Nat):Int)=_
  rw[fky,v1];rfl
 have dr:den ω' r3X=ay6 (atV l i):=by
  show Val.vl [Q5 (ω'.w 1).toL (ω'.w 2000).toI 0,Q5 (ω'.w 1).toL (ω'.w 2000).toI 1,Q5 (ω'.w 1).toL (ω'.w 2000).toI 2,Q5 (ω'.w 1).toL (ω'.w 2000).toI 4,Q5 (ω'.w 1).toL (ω'.w 2000).toI 5,Q5 (ω'.w 1).toL (ω'.w 2000).toI 6,Q5 (ω'.w 1).toL (ω'.w 2000).toI 7]=_
  rw[u1,v0];rfl
 have ds:den ω' s3X= .vl (cm7 m (atV l i)):=by
  unfold s3X cm7
  rw[X2]
  rw[show dB ω' (.op (.cmp .lss) [k3X,.op .llen [.va 2001]])=decide (W6 m (N4 (atV l i))<m.length) by
   show decide ((den ω' k3X).toI<((ω'.w 2001).toL.length:Int))=_
   rw[dk,v1];exact b57 _ _]
  by_cases h:W6 m (N4 (atV l i))<m.length
  ·rw[decide_eq_true h,if_pos h,cond_true]
   show Val.vl ((ω'.w 2001).toL.set (den ω' k3X).toI.toNat (den ω' r3X))=_
   rw[dk,v1,dr];rfl
  ·rw[decide_eq_false h,if_neg h,cond_false]
   show Val.vl ((ω'.w 2001).toL++[den ω' r3X])=_
   rw[v1,dr];rfl
 have hd:dB ω' (.op .lget [.va 1,.va 2000,.ci 3])=a16 (atV l i):=by
  show(Q5 (ω'.w 1).toL (ω'.w 2000).toI 3).toB=_
  rw[v0,u1];rfl
 rw[←hω,ca6]
 refine T2 (by show decide ((ω'.w 2000).toI<((ω'.w 1).toL.length:Int))=true;rw[v0,u1];exact decide_eq_true (by show(i:Int)<(l.length:Int);omega)) (P8 (by show decide ((0:Int)≤(ω'.w 2000).toI)=true;rw[v0];exact decide_eq_true (by show(0:Int)≤(i:Int);omega)) ?_)
 unfold cH1
 cases hb:a16 (atV l i)with
 |true=>
  refine T2 (by rw[hd,hb]) ?_
  show some (0,[Val.vi (arI .add .i64 (ω'.w 2000).toI 1),.vl ((den ω' s3X).toL.eraseIdx ((den ω' s3X).toL.findIdx fun x=>keq [.str,.int .i64,.int .i64] x (den ω' ky2)))])=_
  rw[fky,ds,v0,N5,a1];rfl
 |false=>
  refine S8 (by rw[hd,hb]) ?_
  show some (0,[Val.vi (arI .add .i64 (ω'.w 2000).toI 1),den ω' s3X])=_
  rw[ds,v0,N5,a1];rfl
theorem dc1{ω:Opq}{l m:List Val}(h1:(ω.w 1).toL=l)(hl:l.length≤1000):P5 (fun vs=>N0 cZ3 (ω.upd 2000 vs)) [.vi 0,.vl m]=some (0,[.vi l.length,.vl (bE1 m l l.length)]):=by
 refine Q4 (fun i=>[.vi i,.vl (bE1 m l i)]) (n:=l.length) rfl (fun i hi=>cM1 h1 hi hl) ?_
 show N0 cZ3 (ω.upd 2000 [.vi l.length,.vl (bE1 m l l.length)])=_
 rw[ca6]
 refine S8 ?_ rfl
 show decide ((l.length:Int)<((ω.w 1).toL.length:Int))=false
 rw[h1];exact decide_eq_false (by omega)
theorem bt3{ω:Opq}{hd:LHd}{l:SX}{b k:VT}{ks:List VT}{D:List Val}{x:Option (Nat×List Val)}(h1:cU6 (fun vs=>N0 b (ω.upd hd.v0 vs)) (dL ω l).length (N2 ω hd.s0) D)(h2:ω.f hd.id (N2 ω (hd.s0++hd.fv))=S6 (0,[.vi D.length,.vl D]))(h3:N0 k ω=x):N0 (.mloop hd l b (k::ks)) ω=x:=by
 rw[N0,if_pos ⟨D,h1,h2⟩];exact h3
def cM2:SX:= .op .lcat [.va 2001,.op .row [.op .row [.op .lget [Q6,.va 2002,.ci 0],.op .lget [Q6,.va 2002,.ci 1],.op .lget [Q6,.va 2002,.ci 2],.op .lget [Q6,.va 2002,.ci 3],.op .lget [Q6,.va 2002,.ci 4],.op .lget [Q6,.va 2002,.ci 5],.op .lget [Q6,.va 2002,.ci 6]]]]
theorem cM3:cP3= .need (.op .and [.op (.cmp .eql) [.va 2000,.op .llen [.va 2001]],.op (.cmp .leq) [.op .llen [cM2],.ci 1000000]]) (.ret 0 [.op .llen [cM2],cM2]):=rfl
theorem cM4{ω:Opq}{N A:List Val}{i:Nat}(hN: ∀vs,den (ω.upd 2000 vs) Q6= .vl N)(hA:A.length<1000000):
 N0 cP3 (ω.upd 2000 [.vi A.length,.vl A,.vi i])=some (0,[.vi (A++[O1 (atV N i)]).length,.vl (A++[O1 (atV N i)])]):=by
 obtain⟨ω',hω⟩: ∃ω',ω'=ω.upd 2000 [.vi A.length,.vl A,.vi i]:=⟨_,rfl⟩
 have v0:ω'.w 2000= .vi A.length:=by rw[hω];rfl
 have v1:ω'.w 2001= .vl A:=by rw[hω];rfl
 have v2:ω'.w 2002= .vi i:=by rw[hω];rfl
 have vN:den ω' Q6= .vl N:=by rw[hω];exact hN _
 have dc:den ω' cM2= .vl (A++[O1 (atV N i)]):=by
  show Val.vl ((ω'.w 2001).toL++[.vl [Q5 (den ω' Q6).toL (ω'.w 2002).toI 0,Q5 (den ω' Q6).toL (ω'.w 2002).toI 1,Q5 (den ω' Q6).toL (ω'.w 2002).toI 2,Q5 (den ω' Q6).toL (ω'.w 2002).toI 3,Q5 (den ω' Q6).toL (ω'.w 2002).toI 4,Q5 (den ω' Q6).toL (ω'.w 2002).toI 5,Q5 (den ω' Q6).toL (ω'.w 2002).toI 6]])=_
  rw[v1,v2,vN];rfl
 rw[←hω,cM3]
 refine P8 ?_ ?_
 ·show(decide ((ω'.w 2000).toI=((ω'.w 2001).toL.length:Int))&&decide (((den ω' cM2).toL.length:Int)≤1000000))=true
  rw[v0,v1,dc]
  exact ap6 (decide_eq_true rfl) (decide_eq_true (by show((A++[_]).length:Int)≤1000000;rw[e8];show((A.length+1:Nat):Int)≤1000000;omega))
 ·show some (0,[Val.vi ((den ω' cM2).toL.length:Int),den ω' cM2])=_
  rw[dc];rfl
theorem ca7{ω:Opq}{N:List Val}(hN: ∀vs,den (ω.upd 2000 vs) Q6= .vl N): ∀(p:List Nat) (A:List Val),A.length+p.length≤1000000→
 aS6 (fun vs=>N0 cP3 (ω.upd 2000 vs)) p [.vi A.length,.vl A]=some [.vi (A++p.map fun i=>O1 (atV N i)).length,.vl (A++p.map fun i=>O1 (atV N i))]
 | [],A,_=>by rw[E4,n9];rfl
 |i::p,A,h=>by
  rw[List.length_cons]at h
  have ih:=ca7 hN p (A++[O1 (atV N i)]) (by rw[e8];show A.length+1+p.length≤_;omega)
  rw[aS6,cM4 hN (by omega)]
  show aS6 _ p [.vi (A++[O1 (atV N i)]).length,.vl (A++[O1 (atV N i)])]=_
  rw[ih,r7];rfl
theorem bi0(N:List Val):(List.range N.length).map (fun i=>O1 (atV N i))=N.map O1:=by
 refine G0 (by simp) (fun i h1 h2=> ?_)
 have hi:i<N.length:=by simpa using h1
 simp[atV,d9,hi]
theorem d18{ω:Opq}{N:List Val}(hN: ∀vs,den (ω.upd 2000 vs) Q6= .vl N)(hl:N.length≤1000000):cU6 (fun vs=>N0 cP3 (ω.upd 2000 vs)) N.length [.vi (0:Nat),.vl []] (N.map O1):=by
 constructor
 ·have:=ca7 hN (List.range N.length) [] (by simpa using hl)
  rw[bi0]at this
  exact this
 ·intro p hp
  have:=ca7 hN p [] (by rw[hp.length_eq];simpa using hl)
  refine⟨_,this,?_⟩
  rw[←bi0]
  exact hp.map _
theorem dj5{a b c:Bool}(h1:a=true)(h2:b=true)(h3:c=true):(a&&(b&&c))=true:=by rw[h1,h2,h3];rfl
theorem d19{l:List Val}{bad:Nat→Bool}(h:(!(List.range l.length).any fun i=>bad i||ay5 l i)=true): ∀i,i<l.length→ay5 l i=false:=by
  intro i hi
  cases hd:ay5 l i with
  |false=>rfl
  |true=>
   have:((List.range l.length).any fun i=>bad i||ay5 l i)=true:=u9.2 ⟨i,r6.2 hi,by rw[hd,Bool.or_true]⟩
   rw[this]at h;cases h
theorem aY0(rows l:List Val):(ac1 rows l).length≤rows.length+l.length:=by
 unfold ac1
 rw[e8]
 have a1:=V9 (av6 l) rows
 have a2:=V9 b71 l
 omega
theorem co4{ω:Opq}(hf: ∀i a,ω.f i a=F i a)(hn0:(ω.w 0).toL.length≤200)(hn1:(ω.w 1).toL.length≤200)(k0:(F 431 [ω.w 0]).toB=true)(k1:(F 433 [ω.w 1]).toB=true):
 N0 aE1 ω=some (0,[F 232 [ω.w 0,ω.w 1],F 222 [ω.w 0,ω.w 1]]):=by
 have h232:F 232 [ω.w 0,ω.w 1]= .vi (bif a86 (ω.w 0).toL (ω.w 1).toL then 0 else 2):=rfl
 have h222:F 222 [ω.w 0,ω.w 1]= .vl (bif a86 (ω.w 0).toL (ω.w 1).toL then S7.srt false (ac1 (ω.w 0).toL (ω.w 1).toL)else []):=rfl
 have h220:ω.f 220 [ω.w 0,ω.w 1]= .vb (a86 (ω.w 0).toL (ω.w 1).toL):=by rw[hf];rfl
 rw[h232,h222]
 unfold aE1
 refine P8 (by show(decide (((ω.w 0).toL.length:Int)≤400)&&decide (((ω.w 1).toL.length:Int)≤400))=true;exact ap6 (decide_eq_true (by omega)) (decide_eq_true (by omega))) ?_
 cases hr:a86 (ω.w 0).toL (ω.w 1).toL with
 |false=>exact T2 (by show(!(ω.f 220 [ω.w 0,ω.w 1]).toB)=true;rw[h220,hr];rfl) rfl
 |true=>
  refine S8 (by show(!(ω.f 220 [ω.w 0,ω.w 1]).toB)=false;rw[h220,hr];rfl) ?_
  have hro:=aR6 (S7.f431 k0).2 (d61 k1).2
  obtain⟨r1,r2⟩:=M6 (show(O0 (ω.w 0).toL&&(ac0 (ω.w 1).toL&& !(List.range (ω.w 1).toL.length).any (b75 (ω.w 0).toL (ω.w 1).toL)))=true from hr)
  obtain⟨r2,_⟩:=M6 r2
  have n0:ND (ω.w 0).toL:=d16 (d19 (bad:=fun i=> !okV (atV (ω.w 0).toL i)) r1)
  have n1:ND (ω.w 1).toL:=d16 (d19 (bad:=fun i=> !okC (atV (ω.w 1).toL i)) r2)
  have hp:=cL9 n0 n1
  have hlr:=aY0 (ω.w 0).toL (ω.w 1).toL
  have nN:ND (bE1 ((ω.w 0).toL.map O1) (ω.w 1).toL (ω.w 1).toL.length):=bt2 _ (by unfold ND at n0⊢;rw[List.map_map];exact n0) _
  have h0:=bF2 r1
  have lp:=d59 hf (ω:=ω) (by omega)
  have e140:ω.f 140 [.vi 0,.vl [],.vl [],.vi 0,.vi (ω.w 0).toL.length,ω.w 0,.vi (ω.w 0).toL.length]=S6 (bh3 (ω.w 0).toL):=by rw[hf];rfl
  rw[h0]at lp e140
  have d0:den ω W9= .vl ((ω.w 0).toL.map O1):=by
   show Q5 (ω.f 140 [.vi 0,.vl [],.vl [],.vi 0,.vi (ω.w 0).toL.length,ω.w 0,.vi (ω.w 0).toL.length]).toL 1 1=_
   rw[e140];rfl
  have lp2:=dc1 (ω:=ω) (l:=(ω.w 1).toL) (m:=(ω.w 0).toL.map O1) rfl (by omega)
  have e223:ω.f 223 [.vi 0,den ω W9,den ω W9,.vi 0,.vi (ω.w 1).toL.length,ω.w 1,.vi (ω.w 1).toL.length]=S6 (0,[.vi (ω.w 1).toL.length,.vl (bE1 ((ω.w 0).toL.map O1) (ω.w 1).toL (ω.w 1).toL.length)]):=by
   rw[hf,d0];rfl
  have d0': ∀vs,den (ω.upd 2000 vs) W9= .vl ((ω.w 0).toL.map O1):=fun vs=>d0
  have d1': ∀vs,den (ω.upd 2000 vs) Q6= .vl (bE1 ((ω.w 0).toL.map O1) (ω.w 1).toL (ω.w 1).toL.length):=fun vs=>by
   show Q5 (ω.f 223 [.vi 0,den ω W9,den ω W9,.vi 0,.vi (ω.w 1).toL.length,ω.w 1,.vi (ω.w 1).toL.length]).toL 1 1=_
   rw[e223];rfl
  have d1:den ω Q6= .vl (bE1 ((ω.w 0).toL.map O1) (ω.w 1).toL (ω.w 1).toL.length):=by
   show Q5 (ω.f 223 [.vi 0,den ω W9,den ω W9,.vi 0,.vi (ω.w 1).toL.length,ω.w 1,.vi (ω.w 1).toL.length]).toL 1 1=_
   rw[e223];rfl
  generalize bE1 ((ω.w 0).toL.map O1) (ω.w 1).toL (ω.w 1).toL.length=N at*
  have hlen:N.length≤400:=by rw[hp.length_eq];omega
  have hok:N.all S7.okK=true:=by
   rw[i6]at hro⊢
   exact fun x hx=>hro x (hp.mem_iff.1 hx)
  have hNN:N.map O1=N:=S7.map_norm hok
  have mp:=d18 d1' (by omega)
  rw[hNN]at mp
  have d2:den ω au5=S6 (0,[.vi N.length,.vl N]):=by
   show ω.f 224 [.vi (0:Nat),.vl [],den ω Q6]=_
   rw[hf,d1]
   show S6 (0,[.vi N.length,.vl (N.map O1)])=_
   rw[hNN]
  have d3:den ω Z5= .vl N:=by show Q5 (den ω au5).toL 1 1=_;rw[d2];rfl
  refine N6 lp e140 (N6 (r:=(0,[.vi (ω.w 1).toL.length,.vl N])) ?_ e223 (bt3 (D:=N) ?_ d2 (P8 ?_ ?_)))
  ·show P5 _ [.vi 0,den ω W9]=_
   rw[d0];exact lp2
  ·show cU6 (fun vs=>N0 cP3 (ω.upd 2000 vs)) (den ω Q6).toL.length [.vi (0:Nat),.vl []] N
   rw[d1];exact mp
  ·show(decide ((Q5 (den ω au5).toL 1 0).toI=((den ω Z5).toL.length:Int))&&((decide (((den ω Z5).toL.length:Int)≤400)&&(ω.f 431 [den ω Z5]).toB)&&(ω.f 491 [den ω Z5]).toB))=true
   rw[d3,d2,hf,hf]
   refine dj5 (decide_eq_true rfl) (ap6 (decide_eq_true (by show(N.length:Int)≤400;omega)) ?_) ?_
   ·show(S7.isL (.vl N)&&N.all S7.okK)=true
    exact ap6 rfl hok
   ·exact decide_eq_true nN
  ·show some (0,[.vi 0,ω.f 490 [den ω Z5]])=_
   rw[hf,d3]
   show some (0,[Val.vi 0,.vl (S7.srt false N)])=_
   rw[cv8 hp nN];rfl
end Go.Ev
namespace Go.Ev
open Go
theorem cM5{i n:Nat}(h:i<n)(h2:n≤9223372036854775807):arI .add .i64 (i:Int) 1=((i+1:Nat):Int):=by
 rw[S7.add64 (by omega) (by omega)];omega
theorem co5{ω:Opq}(hf: ∀i a,ω.f i a=F i a)(hn:(ω.w 0).toL.length≤9223372036854775807):N0 aE5 ω=some (0,[F 212 [ω.w 0]]):=by
 have hF:F 212 [ω.w 0]= .vb (!(ω.w 0).toL.any bq3&&decide ((ω.w 0).toL.length≤30)):=rfl
 have hF2: ∀a b c d:Val,F 450 [a,b,c,d,ω.w 0]=bq4 bq3 (ω.w 0).toL:=fun _ _ _ _=>rfl
 rw[hF]
 unfold aE5 de9
 simp only[N0,R2,N2,den,dB,Q9,List.cons_append,List.nil_append]
 rw[Z7 (bad:=fun i=>bq3 (atV (ω.w 0).toL i)) (px:=fun k=>[.vb false,.vi k]) (n:=(ω.w 0).toL.length)]
 ·simp only[hf,hF2,bq4,b58]
  cases h:(ω.w 0).toL.any bq3<;>simp[R2,N0,h,den,N2,Q9,S6,Q5,hf,hF2,bq4,b58]
  omega
 ·intro i hi hb
  simp[hi,N8,cM5 hi hn,bq3,N4,Q5,atV,N3]at hb⊢
  omega
 ·intro i hi hb
  simp[hi,N8,bq3,N4,Q5,atV,N3]at hb⊢
  omega
 ·simp[N8]
theorem aY1(v:Val): ∀n,(av3 v n).toL.length=v.toL.length
 |0=>rfl
 |n+1=>by rw[av3,O8,s9,aY1 v n]
theorem ca8{ω:Opq}(hf: ∀i a,ω.f i a=F i a)(h:(ω.w 0).toI=(ω.w 1).toL.length)(hn:(ω.w 1).toL.length≤1000000):N0 au8 ω=some (0,[]):=by
 have hF: ∀a d:Val,F 456 [a,ω.w 1,ω.w 0,d]=S6 (0,[.vi (ω.w 0).toI.toNat,av3 (ω.w 1) (ω.w 0).toI.toNat]):=fun _ _=>rfl
 unfold au8 df0
 simp only[N0,R2,N2,den,dB,Q9,List.cons_append,List.nil_append]
 rw[Q4 (fun i=>[.vi i,av3 (ω.w 1) i]) (n:=(ω.w 1).toL.length) (j:=0) (p:=[.vi (ω.w 1).toL.length,av3 (ω.w 1) (ω.w 1).toL.length]) (by simp[av3])]
 ·simp[hf,hF,h,R2,N0,N2]
 ·intro i hi
  simp[hi,N8,h,Q2 (show i≤10000000 by omega),av3,aY1,df3]
 ·simp[N8,h]
theorem cM6{r:Val}(h:S7.okK8 r=true):W0 r=r:=by
 unfold S7.okK8 at h
 split at h
 ·rfl
 ·cases h
theorem ca9{l:List Val}(h:l.all S7.okK8=true):l.map W0=l:=by
 rw[i6]at h
 exact(B4 fun x hx=>cM6 (h x hx)).trans (List.map_id l)
theorem cM7{ω:Opq}(hf: ∀i a,ω.f i a=F i a)(hn:(ω.w 0).toL.length≤400)(h:(F 431 [ω.w 0]).toB=true):N0 bq2 ω=some (0,[ω.w 0]):=by
 refine(cu6 hf hn).trans ?_
 obtain⟨e,h2⟩:=S7.f431 h
 rw[show F 30 [ω.w 0]= .vl ((ω.w 0).toL.map O1)from rfl,S7.map_norm h2,←e]
theorem bM8{ω:Opq}(hf: ∀i a,ω.f i a=F i a)(hn:(ω.w 0).toL.length≤1000)(h:(F 433 [ω.w 0]).toB=true):N0 ay2 ω=some (0,[ω.w 0]):=by
 refine(bh5 hf hn).trans ?_
 obtain⟨e,h2⟩:=d61 h
 rw[show F 200 [ω.w 0]= .vl ((ω.w 0).toL.map W0)from rfl,ca9 h2,←e]
theorem co6(a b:Val):(F 222 [a,b]).toL.length≤a.toL.length+b.toL.length:=by
 have:F 222 [a,b]= .vl (bif a86 a.toL b.toL then S7.srt false (ac1 a.toL b.toL)else []):=rfl
 rw[this]
 cases a86 a.toL b.toL with
 |false=>exact k8 _
 |true=>show(S7.srt false _).length≤_;rw[S7.srt_len];exact aY0 _ _
theorem cM8{a b:Val}(h0:(F 431 [a]).toB=true)(h1:(F 433 [b]).toB=true):(F 431 [F 222 [a,b]]).toB=true:=by
 have:F 222 [a,b]= .vl (bif a86 a.toL b.toL then S7.srt false (ac1 a.toL b.toL)else []):=rfl
 rw[this]
 refine ap6 rfl ?_
 cases a86 a.toL b.toL with
 |false=>rfl
 |true=>
  have hro:=aR6 (S7.f431 h0).2 (d61 h1).2
  show(S7.srt false _).all S7.okK=true
  rw[i6]at hro⊢
  exact fun x hx=>hro x (S7.srt_mem.1 hx)
theorem co7(a b:Val):(F 208 [a,b]).toL.length≤a.toL.length+b.toL.length:=by
 have:F 208 [a,b]= .vl (bif O0 a.toL&&O0 b.toL then ab8 (af1 a.toL b.toL)else []):=rfl
 rw[this]
 cases O0 a.toL&&O0 b.toL with
 |false=>exact k8 _
 |true=>
  show(ab8 _).length≤_
  have:=(ak9 (af1 a.toL b.toL)).length_eq
  rw[m5]at this
  have:=aR5 a.toL b.toL
  omega
theorem cM9{r:Val}(h:S7.okK r=true):S7.okK8 (d55 r)=true:=by
 unfold S7.okK at h
 split at h
 ·rfl
 ·cases h
theorem co8{r:Val}(h:S7.okK r=true):S7.okK8 (c75 r)=true:=by
 unfold S7.okK at h
 split at h
 ·rfl
 ·cases h
theorem cN0{a b:Val}(h0:(F 431 [a]).toB=true)(h1:(F 431 [b]).toB=true):(F 433 [F 208 [a,b]]).toB=true:=by
 have:F 208 [a,b]= .vl (bif O0 a.toL&&O0 b.toL then ab8 (af1 a.toL b.toL)else []):=rfl
 rw[this]
 refine ap6 rfl ?_
 cases O0 a.toL&&O0 b.toL with
 |false=>rfl
 |true=>
  have g0:=i6.1 (S7.f431 h0).2
  have g1:=i6.1 (S7.f431 h1).2
  show(ab8 _).all S7.okK8=true
  rw[i6]
  intro x hx
  have hx:=(ak9 (af1 a.toL b.toL)).mem_iff.1 hx
  obtain⟨y,hy,rfl⟩:=k9.1 hx
  rw[aX7 _ _ y hy]
  rcases x5.1 hy with hy|hy
  ·obtain⟨r,hr,hy⟩:=u5.1 hy
   unfold Y2 at hy
   cases hh:ab9 b.toL (N4 r)with
   |true=>rw[hh]at hy;cases hy
   |false=>rw[hh]at hy;rw[s8.1 hy];exact co8 (g0 r hr)
  ·obtain⟨r,hr,hy⟩:=u5.1 hy
   unfold ap9 at hy
   cases hh:(ab9 a.toL (N4 r)&&br5 (atV a.toL (W6 a.toL (N4 r))) r)with
   |true=>rw[hh]at hy;cases hy
   |false=>rw[hh]at hy;rw[s8.1 hy];exact cM9 (g1 r hr)
def cQ1(n:Nat):List Nat→Bool
 | []=>false
 |x::r=>Nat.beq x n||cQ1 n r
theorem b72{n:Nat}: ∀{l:List Nat},cQ1 n l=true→n∈l
 |x::r,h=>by
  rcases j8 _ _|>.mp h with h|h
  ·rw[M8.1 h];exact A9
  ·exact D1 _ (b72 h)
def bF6(B:List Nat):SX→Option Nat
 | .va n=>bif cQ1 n B then some 30 else none
 | .op .row []=>some 0
 | .app i [a,b]=>bif Nat.beq i 222||Nat.beq i 208 then(match bF6 B a,bF6 B b with
     |some x,some y=>some (Nat.add x y)
     |_,_=>none)else none
 |_=>none
def cN1(B:List Nat):SX→Bool
 | .va n=>cQ1 n B&&Nat.blt 0 n
 |_=>false
def bF7(B:List Nat):SX→Bool
 | .va n=>Nat.beq n 0
 | .app i [a,b]=>Nat.beq i 222&&(bF7 B a&&cN1 B b)
 |_=>false
def dc2(B:List Nat):SX→Bool
 | .va n=>cQ1 n B&&Nat.blt 0 n
 | .op .row []=>true
 | .app i [a,b]=>Nat.beq i 208&&(bF7 B a&&bF7 B b)
 |_=>false
def ciN:SX→Option Nat
 | .ci (.ofNat k)=>some k
 |_=>none
def dc3(B:List Nat)(a b:SX):Bool:=match ciN b with
 |some k=>(match a with
  | .op .llen [x]=>(match bF6 B x with
    |some m=>Nat.ble m k
    |none=>false)
  | .ci (.ofNat m)=>Nat.ble m k
  |_=>false)
 |none=>false
def al9(B:List Nat):SX→Bool
 | .cb b=>b
 | .op (.cmp .leq) [a,b]=>dc3 B a b
 | .op (.cmp .eql) [a,b]=>SX.beq a b
 | .op .beq [a,b]=>SX.beq a b
 | .op .and [a,b]=>al9 B a&&al9 B b
 | .app i [x]=>bif Nat.beq i 431 then bF7 B x else(Nat.beq i 433&&dc2 B x)
 | .app i [x,y]=>(Nat.beq i 201||Nat.beq i 3)&&SX.beq x y
 |_=>false
def cN2(e:SX):Option Nat:=match e with
 | .op .not [.app i [.va n]]=>bif Nat.beq i 212 then some n else none
 |_=>none
def aY2(e:SX):Bool:=match e with
 | .op (.cmp .leq) [.op .llen [.va 0],.ci (.ofNat 30)]=>true
 |_=>false
def d62(B:List Nat)(e:SX):Bool:=match e with
 | .op .not [x]=>al9 B x
 |_=>false
def d63:List SX→Bool
 | [.cb b]=>b
 | [.app i [x,y]]=>Nat.beq i 3&&SX.beq x y
 |_=>false
def d20(N:Nat)(e:SX):Bool:=match e with
 | .op (.cmp .leq) [.op .llen [.va n],.ci (.ofNat k)]=>Nat.ble n N&&Nat.ble 9223372036854775807 k
 |_=>false
def aR7(N:Nat):VT→List Nat→Bool
 | .need e x,B=>(al9 B e||d20 N e)&&aR7 N x B
 | .ret i out,_=>Nat.beq i 0&&d63 out
 | .ite e a b,B=>bif aY2 e then aR7 N a (0::B)&&aR7 N b B else
  (match cN2 e with
  |some n=>(Nat.ble n N&&Nat.blt 0 n)&&(aR7 N a B&&aR7 N b (n::B))
  |none=>bif al9 B e then aR7 N a B else bif d62 B e then aR7 N b B else aR7 N a B&&aR7 N b B)
 |_,_=>false
structure HypA (ω:Opq) (N:Nat):Prop where
 hf: ∀i a,ω.f i a=F i a
 k0:(F 431 [ω.w 0]).toB=true
 k1: ∀n,0<n→n≤N→(F 433 [ω.w n]).toB=true
 len: ∀n,n≤N→(ω.w n).toL.length≤9223372036854775807
structure InA (ω:Opq) (B:List Nat):Prop where
 b: ∀n∈B,(ω.w n).toL.length≤30
 k: ∀n∈B,0<n→(F 433 [ω.w n]).toB=true
section
variable{ω:Opq}{N:Nat}{B:List Nat}
theorem bt4(H:HypA ω N)(I:InA ω B): ∀(e:SX) (k:Nat),bF6 B e=some k→(den ω e).toL.length≤k
 | .va n,k,h=>by
   unfold bF6 at h
   cases hm:cQ1 n B with
   |false=>rw[hm]at h;cases h
   |true=>rw[hm]at h;cases h;exact I.b n (b72 hm)
 | .op .row [],k,h=>by cases h;exact b9 _
 | .app i [a,b],k,h=>by
   unfold bF6 at h
   cases hi:(Nat.beq i 222||Nat.beq i 208)with
   |false=>rw[hi]at h;cases h
   |true=>
    rw[hi,cond_true]at h
    split at h
    ·rename_i x y hx hy
     cases h
     have h1:=bt4 H I a x hx
     have h2:=bt4 H I b y hy
     show(ω.f i [den ω a,den ω b]).toL.length≤x+y
     rw[H.hf]
     rcases j8 _ _|>.mp hi with hi|hi
     ·rw[M8.1 hi];have:=co6 (den ω a) (den ω b);omega
     ·rw[M8.1 hi];have:=co7 (den ω a) (den ω b);omega
    ·cases h
 | .ci _,_,h=>by simp[bF6]at h
 | .cs _,_,h=>by simp[bF6]at h
 | .cb _,_,h=>by simp[bF6]at h
 | .app _ [],_,h=>by simp[bF6]at h
 | .app _ [_],_,h=>by simp[bF6]at h
 | .app _ (_::_::_::_),_,h=>by simp[bF6]at h
 | .op .row (_::_),_,h=>by simp[bF6]at h
 | .op p l,k,h=>by
   unfold bF6 at h
   split at h<;>first|cases h|skip
   all_goals rename_i heq;cases heq
   exact b9 _
theorem co9(I:InA ω B): ∀(e:SX),cN1 B e=true→(F 433 [den ω e]).toB=true:=by
 intro e h
 unfold cN1 at h
 split at h
 ·obtain⟨h1,h2⟩:=M6 h
  exact I.k _ (b72 h1) (N9.1 h2)
 ·cases h
theorem b73(H:HypA ω N)(I:InA ω B): ∀(e:SX),bF7 B e=true→(F 431 [den ω e]).toB=true
 | .va n,h=>by
   unfold bF7 at h
   rw[M8.1 h];exact H.k0
 | .app i [a,b],h=>by
   unfold bF7 at h
   obtain⟨h1,h2⟩:=M6 h
   obtain⟨h2,h3⟩:=M6 h2
   show(F 431 [ω.f i [den ω a,den ω b]]).toB=true
   rw[H.hf,M8.1 h1]
   exact cM8 (b73 H I a h2) (co9 I b h3)
 | .ci _,h=>by simp[bF7]at h
 | .cs _,h=>by simp[bF7]at h
 | .cb _,h=>by simp[bF7]at h
 | .op _ _,h=>by simp[bF7]at h
 | .app _ [],h=>by simp[bF7]at h
 | .app _ [_],h=>by simp[bF7]at h
 | .app _ (_::_::_::_),h=>by simp[bF7]at h
theorem cN3(H:HypA ω N)(I:InA ω B)(e:SX)(h:dc2 B e=true):(F 433 [den ω e]).toB=true:=by
 unfold dc2 at h
 split at h
 ·obtain⟨h1,h2⟩:=M6 h
  exact I.k _ (b72 h1) (N9.1 h2)
 ·rfl
 ·rename_i i a b
  obtain⟨h1,h2⟩:=M6 h
  obtain⟨h2,h3⟩:=M6 h2
  show(F 433 [ω.f i [den ω a,den ω b]]).toB=true
  rw[H.hf,M8.1 h1]
  exact cN0 (b73 H I a h2) (b73 H I b h3)
 ·cases h
theorem d21{e:SX}{k:Nat}(h:ciN e=some k):(den ω e).toI=(k:Int):=by
 unfold ciN at h
 split at h
 ·cases h;rfl
 ·cases h
theorem cb0(H:HypA ω N)(I:InA ω B){a b:SX}(h:dc3 B a b=true):dB ω (.op (.cmp .leq) [a,b])=true:=by
 unfold dc3 at h
 show decide ((den ω a).toI≤(den ω b).toI)=true
 split at h
 ·rename_i k hk
  rw[d21 hk]
  split at h
  ·rename_i x
   split at h
   ·rename_i m hm
    have:=bt4 H I x m hm
    have:=N1.1 h
    refine decide_eq_true ?_
    show((den ω x).toL.length:Int)≤(k:Int)
    omega
   ·cases h
  ·rename_i m
   have:=N1.1 h
   refine decide_eq_true ?_
   show(m:Int)≤(k:Int)
   omega
  ·cases h
 ·cases h
theorem cb1(x:Val):F 3 [x,x]= .vb true:=by
 show Val.vb (eqB (bL9 x) (bL9 x))=_
 simp[eqB]
theorem cb2(x:Val):F 201 [x,x]= .vb true:=by
 show Val.vb (eqB (bM2 x) (bM2 x))=_
 simp[eqB]
theorem aa0(H:HypA ω N)(I:InA ω B): ∀(e:SX),al9 B e=true→dB ω e=true
 | .cb b,h=>h
 | .op (.cmp .leq) [a,b],h=>cb0 H I h
 | .op (.cmp .eql) [a,b],h=>by
   rw[SX.beq_eq _ _ h]
   exact decide_eq_true rfl
 | .op .beq [a,b],h=>by
   rw[SX.beq_eq _ _ h]
   show(dB ω b==dB ω b)=true
   simp
 | .op .and [a,b],h=>by
   obtain⟨h1,h2⟩:=M6 h
   exact ap6 (aa0 H I a h1) (aa0 H I b h2)
 | .app i [x],h=>by
   unfold al9 at h
   show(ω.f i [den ω x]).toB=true
   rw[H.hf]
   cases hi:Nat.beq i 431 with
   |true=>rw[hi]at h;rw[M8.1 hi];exact b73 H I x h
   |false=>
    rw[hi,cond_false]at h
    obtain⟨h1,h2⟩:=M6 h
    rw[M8.1 h1];exact cN3 H I x h2
 | .app i [x,y],h=>by
   unfold al9 at h
   obtain⟨h1,h2⟩:=M6 h
   show(ω.f i [den ω x,den ω y]).toB=true
   rw[H.hf,SX.beq_eq _ _ h2]
   rcases j8 _ _|>.mp h1 with h1|h1
   ·rw[M8.1 h1,cb2];rfl
   ·rw[M8.1 h1,cb1];rfl
 | .ci _,h=>by simp[al9]at h
 | .cs _,h=>by simp[al9]at h
 | .va _,h=>by simp[al9]at h
 | .app _ [],h=>by simp[al9]at h
 | .app _ (_::_::_::_),h=>by simp[al9]at h
 | .op p l,h=>by
   unfold al9 at h
   split at h<;>first|cases h|skip
   all_goals rename_i heq;cases heq
   ·exact cb0 H I h
   ·rw[SX.beq_eq _ _ h];exact decide_eq_true rfl
   ·rw[SX.beq_eq _ _ h]
    show(dB ω _==dB ω _)=true
    simp
   ·rename_i a b
    obtain⟨h1,h2⟩:=M6 h
    exact ap6 (aa0 H I a h1) (aa0 H I b h2)
theorem cN4(H:HypA ω N)(I:InA ω B){e:SX}(h:d62 B e=true):dB ω e=false:=by
 unfold d62 at h
 split at h
 ·rename_i x
  show(!dB ω x)=false
  rw[aa0 H I x h];rfl
 ·cases h
theorem cb3(H:HypA ω N){out:List SX}(h:d63 out=true):N2 ω out=[.vb true]:=by
 unfold d63 at h
 split at h
 ·subst h;rfl
 ·rename_i i x y
  obtain⟨h1,h2⟩:=M6 h
  show [ω.f i [den ω x,den ω y]]=_
  rw[H.hf,SX.beq_eq _ _ h2,M8.1 h1,cb1]
 ·cases h
theorem cp0{e:SX}{n:Nat}(H:HypA ω N)(h:cN2 e=some n):dB ω e=false→(ω.w n).toL.length≤30:=by
 unfold cN2 at h
 split at h
 ·rename_i i m
  cases hi:Nat.beq i 212 with
  |false=>rw[hi]at h;cases h
  |true=>
   rw[hi]at h;cases h
   intro hd
   have hd:(!(ω.f i [ω.w n]).toB)=false:=hd
   rw[H.hf,M8.1 hi]at hd
   have hd:(!(!(ω.w n).toL.any bq3&&decide ((ω.w n).toL.length≤30)))=false:=hd
   rw[I6]at hd
   exact of_decide_eq_true (M6 hd).2
 ·cases h
theorem bi1{e:SX}(h:aY2 e=true):dB ω e=true→(ω.w 0).toL.length≤30:=by
 unfold aY2 at h
 split at h
 ·intro hd
  have hd:decide (((ω.w 0).toL.length:Int)≤((30:Nat):Int))=true:=hd
  have:=of_decide_eq_true hd
  omega
 ·cases h
theorem Y3(H:HypA ω N): ∀(t:VT) (B:List Nat),InA ω B→aR7 N t B=true→N0 t ω=some (0,[.vb true])
 | .need e x,B,I,h=>by
   unfold aR7 at h
   obtain⟨h1,h2⟩:=M6 h
   refine P8 ?_ (Y3 H x B I h2)
   rcases j8 _ _|>.mp h1 with h1|h1
   ·exact aa0 H I e h1
   ·unfold d20 at h1
    split at h1
    ·rename_i n k _
     obtain⟨h3,h4⟩:=M6 h1
     have:=H.len n (N1.1 h3)
     have:=N1.1 h4
     refine decide_eq_true ?_
     show((ω.w n).toL.length:Int)≤(k:Int)
     omega
    ·cases h1
 | .ret i out,B,I,h=>by
   unfold aR7 at h
   obtain⟨h1,h2⟩:=M6 h
   rw[N0.eq_4,cb3 H h2,M8.1 h1]
 | .ite e a b,B,I,h=>by
   unfold aR7 at h
   cases hl:aY2 e with
   |true=>
    rw[hl,cond_true]at h
    obtain⟨h1,h2⟩:=M6 h
    cases hd:dB ω e with
    |true=>
     refine T2 hd (Y3 H a _ ⟨fun n hn=> ?_,fun n hn h0=> ?_⟩ h1)
     ·rcases l5.1 hn with rfl|hn
      ·exact bi1 hl hd
      ·exact I.b n hn
     ·rcases l5.1 hn with rfl|hn
      ·omega
      ·exact I.k n hn h0
    |false=>exact S8 hd (Y3 H b B I h2)
   |false=>
    rw[hl,cond_false]at h
    split at h
    ·rename_i n hn
     obtain⟨h1,h2⟩:=M6 h
     obtain⟨h3,h4⟩:=M6 h1
     obtain⟨h5,h6⟩:=M6 h2
     cases hd:dB ω e with
     |true=>exact T2 hd (Y3 H a B I h5)
     |false=>
      refine S8 hd (Y3 H b _ ⟨fun m hm=> ?_,fun m hm h0=> ?_⟩ h6)
      ·rcases l5.1 hm with rfl|hm
       ·exact cp0 H hn hd
       ·exact I.b m hm
      ·rcases l5.1 hm with rfl|hm
       ·exact H.k1 _ h0 (N1.1 h3)
       ·exact I.k m hm h0
    ·cases hg:al9 B e with
     |true=>
      rw[hg,cond_true]at h
      exact T2 (aa0 H I e hg) (Y3 H a B I h)
     |false=>
      rw[hg,cond_false]at h
      cases hn:d62 B e with
      |true=>
       rw[hn,cond_true]at h
       exact S8 (cN4 H I hn) (Y3 H b B I h)
      |false=>
       rw[hn,cond_false]at h
       obtain⟨h1,h2⟩:=M6 h
       cases hd:dB ω e with
       |true=>exact T2 hd (Y3 H a B I h1)
       |false=>exact S8 hd (Y3 H b B I h2)
 | .bad,_,_,h=>by simp[aR7]at h
 | .loop _ _ _,_,_,h=>by simp[aR7]at h
 | .both _ _,_,_,h=>by simp[aR7]at h
 | .mloop _ _ _ _,_,_,h=>by simp[aR7]at h
end
theorem d22{ω:Opq}(hf: ∀i a,ω.f i a=F i a)(hn:dB ω (.op .and [.op (.cmp .eql) [.va 0,.op .llen [.va 1]],.op .and [.op .and [.op (.cmp .leq) [.op .llen [.va 1],.ci 400],.app 431 [.va 1]],.app 491 [.va 1]]])=true):
 dI ω (.va 0)=((dL ω (.va 1)).length:Int)∧ ∀D:List Val,D.Perm (ω.w 1).toL→ω.f 490 [.vl D]=ω.f 490 [ω.w 1]∧dB (ω.upd 1 [.vl D]) (.op .and [.op (.cmp .leq) [.op .llen [.va 1],.ci 400],.app 431 [.va 1]])=true:=by
 have hn:(decide ((ω.w 0).toI=((ω.w 1).toL.length:Int))&&((decide (((ω.w 1).toL.length:Int)≤400)&&(ω.f 431 [ω.w 1]).toB)&&(ω.f 491 [ω.w 1]).toB))=true:=hn
 obtain⟨h1,h2⟩:=M6 hn
 obtain⟨h2,h3⟩:=M6 h2
 obtain⟨h4,h5⟩:=M6 h2
 rw[hf]at h3 h5
 refine⟨of_decide_eq_true h1,fun D hD=> ?_⟩
 have nd:ND (ω.w 1).toL:=of_decide_eq_true (p:=((ω.w 1).toL.map N4).Nodup) h3
 refine⟨?_,?_⟩
 ·rw[hf,hf]
  show Val.vl (S7.srt false D)= .vl (S7.srt false (ω.w 1).toL)
  rw[cv8 hD (ca5 hD nd)]
 ·show(decide ((D.length:Int)≤400)&&(ω.f 431 [.vl D]).toB)=true
  rw[hf]
  have h4:=of_decide_eq_true h4
  have:=hD.length_eq
  refine ap6 (decide_eq_true (by omega)) (ap6 rfl ?_)
  have hall:=i6.1 (S7.f431 h5).2
  exact i6.2 fun x hx=>hall x (hD.mem_iff.1 hx)
def dh2(e:SX):Bool:=match e with
 | .op (.cmp .leq) [.ci (.ofNat 0),.va 1]=>true
 |_=>false
def gt5(e:SX):Bool:=match e with
 | .op (.cmp .gtr) [.va 1,.ci (.ofNat 5)]=>true
 |_=>false
def bt5:VT→List Nat→Bool
 | .need e x,B=>(al9 B e||dh2 e)&&bt5 x B
 | .ret i out,_=>Nat.beq i 0&&d63 out
 | .ite e a b,B=>bif gt5 e then bt5 a B else bif aY2 e then bt5 a (0::B)&&bt5 b B else bt5 a B&&bt5 b B
 |_,_=>false
theorem ap8{ω:Opq}(H:HypA ω 0)(h5:5<(ω.w 1).toI): ∀(t:VT) (B:List Nat),InA ω B→bt5 t B=true→N0 t ω=some (0,[.vb true])
 | .need e x,B,I,h=>by
   unfold bt5 at h
   obtain⟨h1,h2⟩:=M6 h
   refine P8 ?_ (ap8 H h5 x B I h2)
   rcases j8 _ _|>.mp h1 with h1|h1
   ·exact aa0 H I e h1
   ·unfold dh2 at h1
    split at h1
    ·refine decide_eq_true ?_
     show(0:Int)≤(ω.w 1).toI
     omega
    ·cases h1
 | .ret i out,B,I,h=>by
   unfold bt5 at h
   obtain⟨h1,h2⟩:=M6 h
   rw[N0.eq_4,cb3 H h2,M8.1 h1]
 | .ite e a b,B,I,h=>by
   unfold bt5 at h
   cases hg:gt5 e with
   |true=>
    rw[hg,cond_true]at h
    refine T2 ?_ (ap8 H h5 a B I h)
    unfold gt5 at hg
    split at hg
    ·exact decide_eq_true (show(5:Int)<(ω.w 1).toI from h5)
    ·cases hg
   |false=>
    rw[hg,cond_false]at h
    cases hl:aY2 e with
    |true=>
     rw[hl,cond_true]at h
     obtain⟨h1,h2⟩:=M6 h
     cases hd:dB ω e with
     |true=>
      refine T2 hd (ap8 H h5 a _ ⟨fun n hn=> ?_,fun n hn h0=> ?_⟩ h1)
      ·rcases l5.1 hn with rfl|hn
       ·exact bi1 hl hd
       ·exact I.b n hn
      ·rcases l5.1 hn with rfl|hn
       ·omega
       ·exact I.k n hn h0
     |false=>exact S8 hd (ap8 H h5 b B I h2)
    |false=>
     rw[hl,cond_false]at h
     obtain⟨h1,h2⟩:=M6 h
     cases hd:dB ω e with
     |true=>exact T2 hd (ap8 H h5 a B I h1)
     |false=>exact S8 hd (ap8 H h5 b B I h2)
 | .bad,_,_,h=>by simp[bt5]at h
 | .loop _ _ _,_,_,h=>by simp[bt5]at h
 | .both _ _,_,_,h=>by simp[bt5]at h
 | .mloop _ _ _ _,_,_,h=>by simp[bt5]at h
def a17:List CT:=[.str,.int .i64,.int .i64,.int .i64,.int .i64,.int .i64,.int .i64]
def aa8:List CT:=[.str,.int .i64,.int .i64,.bool,.int .i64,.int .i64,.int .i64,.int .i64]
theorem bF8{w:World}{sig:List CT}{ok:Val→Bool}(hok: ∀vs,c51 sig vs→ok (.vl (vs.map cs5))=true){v:Value}(h:av7 w (.sl sig) v):S7.isL (aX2 w (.sl sig) v)=true∧(aX2 w (.sl sig) v).toL.all ok=true:=by
 rcases h with rfl|⟨a,len,cap,rfl,_,_,hc,_⟩
 ·exact⟨rfl,rfl⟩
 ·refine⟨rfl,?_⟩
  show(aB6 w sig.length a len).all ok=true
  rw[i6]
  intro x hx
  obtain⟨i,hi,rfl⟩:=k9.1 hx
  obtain⟨vs,h1,h2⟩:=hc i (r6.1 hi)
  rw[h1]
  exact hok vs h2
theorem cN5{vs:List Value}(h:c51 a17 vs):S7.okK (.vl (vs.map cs5))=true:=by
 obtain⟨v0,r,rfl,⟨s0,rfl⟩,v1,r,rfl,⟨n1,rfl,_⟩,v2,r,rfl,⟨n2,rfl,_⟩,v3,r,rfl,⟨n3,rfl,_⟩,v4,r,rfl,⟨n4,rfl,_⟩,v5,r,rfl,⟨n5,rfl,_⟩,v6,r,rfl,⟨n6,rfl,_⟩,h⟩:=h
 have h:r=[]:=h
 subst h;rfl
theorem cN6{vs:List Value}(h:c51 aa8 vs):S7.okK8 (.vl (vs.map cs5))=true:=by
 obtain⟨v0,r,rfl,⟨s0,rfl⟩,v1,r,rfl,⟨n1,rfl,_⟩,v2,r,rfl,⟨n2,rfl,_⟩,v3,r,rfl,⟨b3,rfl⟩,v4,r,rfl,⟨n4,rfl,_⟩,v5,r,rfl,⟨n5,rfl,_⟩,v6,r,rfl,⟨n6,rfl,_⟩,v7,r,rfl,⟨n7,rfl,_⟩,h⟩:=h
 have h:r=[]:=h
 subst h;rfl
theorem bt6{w:World}{sig:List CT}{v:Value}(h:av7 w (.sl sig) v):(aX2 w (.sl sig) v).toL.length≤9223372036854775807:=by
 rcases h with rfl|⟨a,len,cap,rfl,_,⟨h1,h2⟩,_⟩
 ·exact k8 _
 ·show(aB6 w sig.length a len).length≤_
  have:maxLen≤9223372036854775807:=by decide
  simp only[aB6,m5,E1]
  omega
theorem cv9{w:World}{v:Value}(h:av7 w (.sl a17) v):(F 431 [aX2 w (.sl a17) v]).toB=true:=by
 obtain⟨h1,h2⟩:=bF8 (ok:=S7.okK) (fun vs h=>cN5 h) h
 exact ap6 h1 h2
theorem d23{w:World}{v:Value}(h:av7 w (.sl aa8) v):(F 433 [aX2 w (.sl aa8) v]).toB=true:=by
 obtain⟨h1,h2⟩:=bF8 (ok:=S7.okK8) (fun vs h=>cN6 h) h
 exact ap6 h1 h2
end Go.Ev
