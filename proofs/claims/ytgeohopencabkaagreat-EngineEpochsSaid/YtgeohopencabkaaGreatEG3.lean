import Derived.Test.YtgeohopencabkaaGreatEG1
import Derived.Test.YtgeohopencabkaaGreatEM1
import Derived.Test.YtgeohopencabkaaGreatEQ0
import Derived.Test.YtgeohopencabkaaGreatE1
set_option linter.all false
noncomputable section
namespace Go.Ev
open Go
@[simp]theorem Y1(n:Int):(Val.D n).I=n:=rfl
@[simp]def c25(n:zR):(Val.vs n).toS=n:=rfl
@[simp]def a95(n:Bool):(Val.B n).Z=n:=rfl
@[simp]theorem a71(n:U7):(Val.A n).L=n:=rfl
structure ChgM where
 key:zR
 a:Int
 b:Int
 dead:Bool
 c:Int
 d:Int
 e:Int
 f:Int
 deriving DecidableEq
def ot(r:Val):ChgM:=⟨(X1 r 0).toS,(X1 r 1).I,(X1 r 2).I,(X1 r 3).Z,(X1 r 4).I,(X1 r 5).I,(X1 r 6).I,(X1 r 7).I⟩
def c49(a b:Val):ot a=ot b↔((X1 a 0).toS=(X1 b 0).toS/\(X1 a 1).I=(X1 b 1).I/\(X1 a 2).I=(X1 b 2).I)/\(X1 a 3).Z=(X1 b 3).Z/\(X1 a 4).I=(X1 b 4).I/\(X1 a 5).I=(X1 b 5).I/\(X1 a 6).I=(X1 b 6).I/\(X1 a 7).I=(X1 b 7).I:=by grind[ot,ChgM.mk.injEq]
def Ml(v:Val):List ChgM:=v.L.map ot
def jF(r:Val):Bool:= !(decide ((X1 r 3).I=0)&&(decide ((X1 r 4).I=0)&&(decide ((X1 r 5).I=0)&&decide ((X1 r 6).I=0))))&&(decide ((X1 r 3).I=1)&&(decide ((X1 r 4).I=(X1 r 5).I)&&decide ((X1 r 5).I=(X1 r 6).I))||decide (1<(X1 r 3).I)&&decide ((X1 r 5).I<=(X1 r 6).I))
theorem GN(r:Val):jF r=true↔ ¬((X1 r 3).I=0/\(X1 r 4).I=0/\(X1 r 5).I=0/\(X1 r 6).I=0)/\((X1 r 3).I=1/\(X1 r 4).I=(X1 r 5).I/\(X1 r 5).I=(X1 r 6).I\/1<(X1 r 3).I/\(X1 r 5).I<=(X1 r 6).I):=by simp[jF,j8,t7,s7,J2,decide_eq_true_eq,decide_eq_false_iff_not];omega
def dS6(r:Val):jF r=false↔ ¬(¬((X1 r 3).I=0/\(X1 r 4).I=0/\(X1 r 5).I=0/\(X1 r 6).I=0)/\((X1 r 3).I=1/\(X1 r 4).I=(X1 r 5).I/\(X1 r 5).I=(X1 r 6).I\/1<(X1 r 3).I/\(X1 r 5).I<=(X1 r 6).I)):=by grind[GN]
def Kb(l:U7)(i k:Nat):Bool:=decide (W7 (cg l k)=W7 (cg l i))
def iA(l:U7)(i:Nat):Bool:=(List.range i).any (Kb l i)
def jZ(l:U7)(i:Nat):Bool:= !jF (cg l i)||iA l i
def Y5(l:U7):Bool:= !(List.range l.length).any (jZ l)
def cL(l:U7)(p:PaneM):Nat:=l.findIdx λr=>decide (W7 r=p)
def eC(l:U7)(p:PaneM):Bool:=decide (cL l p<l.length)
def sQ(r:Val):Val:= .A [X1 r 0,X1 r 1,X1 r 2,.B true,.D 0,.D 0,.D 0,.D 0]
def nm(r:Val):Val:= .A [X1 r 0,X1 r 1,X1 r 2,.B false,X1 r 3,X1 r 4,X1 r 5,X1 r 6]
def ii(m:U7)(r:Val):U7:=bif eC m (W7 r)then []else [sQ r]
def uM(a b:Val):Bool:=decide ((X1 a 3).I=(X1 b 3).I/\(X1 a 4).I=(X1 b 4).I/\(X1 a 5).I=(X1 b 5).I/\(X1 a 6).I=(X1 b 6).I)
def ip(m:U7)(r:Val):U7:=bif eC m (W7 r)&&uM (cg m (cL m (W7 r))) r then []else [nm r]
def oK(a:U7)(i:Nat):PaneM:=⟨(ce a i).toS,(ce a (i+1)).I,(ce a (i+2)).I⟩
def fV(r:Val):Val:= .A [X1 r 0,X1 r 1,X1 r 2,X1 r 4,X1 r 5,X1 r 6,X1 r 7]
def fC(r:Val):Bool:=(X1 r 3).Z
def pq(r:Val):Bool:=decide ((X1 r 4).I=0)&&(decide ((X1 r 5).I=0)&&(decide ((X1 r 6).I=0)&&decide ((X1 r 7).I=0)))
def mE(r:Val):Bool:=bif fC r then pq r else jF (fV r)
def AU(l:U7)(i:Nat):Bool:= !mE (cg l i)||iA l i
def rq(l:U7):Bool:= !(List.range l.length).any (AU l)
def oN(rows l:U7)(i:Nat):Bool:=fC (cg l i)&& !eC rows (W7 (cg l i))
def nV(rows l:U7):Bool:=Y5 rows&&(rq l&& !(List.range l.length).any (oN rows l))
def kH(l:U7)(r:Val):Bool:=l.any λc=>decide (W7 c=W7 r)
def EM(l:U7)(r:Val):U7:=bif kH l r then []else [X8 r]
def oR(c:Val):U7:=bif fC c then []else [fV c]
def tG(m:U7)(c:Val):U7:=if cL m (W7 c)<m.length then m.set (cL m (W7 c)) (fV c)else m++[fV c]
def wN(m:U7)(c:Val):U7:=bif fC c then(tG m c).eraseIdx (cL (tG m c) (W7 c))else tG m c
def mY(m l:U7):Nat->U7
 |0=>m
 |i+1=>wN (mY m l i) (cg l i)
def qP(a0:U7)(g:Val->U7)(l:U7):Val:=cx (0,[.D (mO a0 g l).length,.D l.length,.A (mO a0 g l)])
def Zq(l:U7)(p:PaneM):Nat×U7:=bif eC l p then(1,[.B true,.D (cL l p),X1 (cg l (cL l p)) 3,X1 (cg l (cL l p)) 4,X1 (cg l (cL l p)) 5,X1 (cg l (cL l p)) 6])else(0,[.B false,.D l.length,.D 0,.D 0,.D 0,.D 0])
def jV(l:U7):Nat×U7:=match(List.range l.length).find? (jZ l)with
 |some k=>(1,[.D k,.A (cw (λi=>[X8 (cg l i)]) k)])
 |none=>(0,[.D l.length,.A (cw (λi=>[X8 (cg l i)]) l.length)])
def dN(a b:U7):U7:=a.flatMap (ii b)++b.flatMap (ip a)
def oJ(l had:U7)(i:Nat):Bool:=AU l i||fC (cg l i)&& !eC had (W7 (cg l i))
def ni(s:U7)(r:Val):U7:=if cL s (W7 r)<s.length then s else s++[.A [X1 r 0,X1 r 1,X1 r 2,.D 0]]
def zD(s:U7)(r:Val):Int:=if cL s (W7 r)<s.length then(X1 (cg s (cL s (W7 r))) 3).I else 0
def iN(s:U7)(r:Val):U7:=(ni s r).set (cL s (W7 r)) (.A [X1 (cg (ni s r) (cL s (W7 r))) 0,X1 (cg (ni s r) (cL s (W7 r))) 1,X1 (cg (ni s r) (cL s (W7 r))) 2,.D (cq .add .i64 (zD s r) 1)])
def LN(r:Val):Val:= .A [X1 r 0,X1 r 1,X1 r 2,.D 1]
def sN(l:U7)(i:Nat):U7:=cw (λk=>[LN (cg l k)]) i
def ud(l:U7)(had:Val):Nat×U7:=match(List.range l.length).find? (oJ l had.L)with
 |some i=>(1,[.D i,.D i,had,.A (iN (sN l i) (cg l i))])
 |none=>(0,[.D 0,.D l.length,had,.A (sN l l.length)])
def mD(rows l:U7):U7:=rows.flatMap (EM l)++l.flatMap oR
def F0(id:Nat)(a:U7):Val:=match id with
 |3=> .B (uj (Ce (ce a 0)) (Ce (ce a 1)))
 |206=> .D (yT (oK a 0) (oK a 3))
 |107=>BE gH (ce a 4).L (ce a 7).L
 |491=> .B (decide (((ce a 0).L.map W7).Nodup))
 |480=>cx (0,[.D (ce a 5).L.length,.D (ce a 5).L.length,.A (S7.srt false ((ce a 5).L.map X8))])
 |481=>cx (0,[.D (S7.bubA false 0 (ce a 1).L (ce a 0).I.toNat).1,.A (S7.bubA false 0 (ce a 1).L (ce a 0).I.toNat).2])
 |130=>qP [] (λr=>[jw r]) (ce a 5).L
 |131=>BE ot (ce a 4).L (ce a 7).L
 |133=>cx (il (.B false) (λk=>[.B false,.D k]) (jZ (ce a 4).L) (ce a 4).L.length)
 |134=>cx (il (ce a 0) (λk=>[.B false,.D k]) (Kb (ce a 4).L (ce a 5).I.toNat) (ce a 5).I.toNat)
 |135=>cx (Zq (ce a 8).L (oK a 9))
 |136=>cx (0,[.D (ce a 5).L.length,.D (ce a 5).L.length,.A (eu (ce a 5).L)])
 |137=>cx (0,[.D (CJ (ce a 1).L (ce a 0).I.toNat).1,.A (CJ (ce a 1).L (ce a 0).I.toNat).2])
 |140=>cx (jV (ce a 5).L)
 |141=>qP [] (ii (ce a 7).L) (ce a 10).L
 |142=>qP (ce a 2).L (ip (ce a 3).L) (ce a 6).L
 |143=>qP [] (ii (ce a 8).L) (ce a 5).L
 |144=>qP (ce a 2).L (ip (ce a 5).L) (ce a 8).L
 |200=> .A ((ce a 0).L.map jw)
 |201=> .B (uj (Ml (ce a 0)) (Ml (ce a 1)))
 |202=> .B (Y5 (ce a 0).L)
 |203=> .A [.A ((Zq (ce a 0).L (oK a 1)).2.drop 2)]
 |204=> .B (eC (ce a 0).L (oK a 1))
 |205=> .B (fE (oK a 0) (oK a 3))
 |207=> .A (eu (ce a 0).L)
 |208=> .A (bif Y5 (ce a 0).L&&Y5 (ce a 1).L then eu (dN (ce a 0).L (ce a 1).L)else [])
 |209=> .D (bif Y5 (ce a 0).L&&Y5 (ce a 1).L then 0 else 2)
 |211=> .A (fD uQ (ce a 0).L)
 |220=> .B (nV (ce a 0).L (ce a 1).L)
 |221=>cx (ud (ce a 6).L (ce a 2))
 |222=> .A (bif nV (ce a 0).L (ce a 1).L then S7.srt false (mD (ce a 0).L (ce a 1).L)else [])
 |223=>cx (0,[.D (ce a 5).L.length,.A (mY (ce a 1).L (ce a 5).L (ce a 5).L.length)])
 |224=>cx (0,[.D (ce a 2).L.length,.A ((ce a 2).L.map X8)])
 |232=> .D (bif nV (ce a 0).L (ce a 1).L then 0 else 2)
 |233=> .B (decide ((mD (ce a 0).L (ce a 1).L).length<=400))
 |i=>S7.GX i a
def F:Nat->U7->Val:=S9.FT (S9.FV F0)
def wh(x:Val)(l:U7):ce (x::l) 0=x:=rfl
def vB(x:Val)(l:U7)(n:Nat):ce (x::l) (n+1)=ce l n:=rfl
def Aq(a b:Nat):decide ((a:Int)<(b:Int))=decide (a<b):=by simp
theorem mG(I:Opq)(v0:Nat)(l:U7):(I.U v0 l).f=I.f:=rfl
def cT(I:Opq)(v0:Nat)(l:U7)(n:Nat):(I.U v0 l).w n=if v0<=n then l.getD (n-v0) (.B false)else I.w n:=rfl
@[simp]def am6{i:Nat}(h:i<=10000000):cq .add .i64 (i:Int) 1=((i+1:Nat):Int):=cd4 h
@[simp]def a27(a b:Int):gr .lss a b=decide (a<b):=rfl
@[simp]def a59(a b:Int):gr .leq a b=decide (a<=b):=rfl
@[simp]def ab7(a b:Int):gr .gtr a b=decide (b<a):=rfl
@[simp]def d19(a b:Int):gr .geq a b=decide (b<=a):=rfl
@[simp]def am2(a b:Int):gr .eql a b=decide (a=b):=rfl
@[simp]def d20(a b:Int):gr .neq a b= !decide (a=b):=rfl
@[simp]def d21(a b:zR):nZ .eql a b=decide (a=b):=rfl
@[simp]def d22(a b:zR):nZ .neq a b= !decide (a=b):=rfl
theorem cI1{α:Type} [DecidableEq α](m:Val->α)(l r:U7)(h:l.length=r.length):((List.range l.length).any λi=> !decide (m (cg l i)=m (cg r i)))= !decide (l.map m=r.map m):=bZ3 m (.A []) l r h
theorem Uc{α:Type} [DecidableEq α](m:Val->α)(l r:U7)(h:l.length=r.length)(px:Nat->U7)(x:Val):il x px (λi=> !decide (m (cg l i)=m (cg r i))) l.length=if l.map m=r.map m then(0,[x,.D l.length])else(1,px (((List.range l.length).find? (λi=> !decide (m (cg l i)=m (cg r i)))).getD 0)):=by grind[bd0,cI1]
def LO{α:Type} [DecidableEq α](m:Val->α)(l r:U7)(h:l.length=r.length):BE m l r=cx (if l.map m=r.map m then(0,[.B false,.D l.length])else(1,[.B false,.D (((List.range l.length).find? (λi=> !decide (m (cg l i)=m (cg r i)))).getD 0)])):=by grind[BE,Uc]
def Xt{α:Type}(m:Val->α){l r:U7}(h:l.length≠r.length): ¬l.map m=r.map m:=λe=>h (by simpa using congrArg List.length e)
def KO(a b:Val):gH a=gH b↔((X1 a 0).toS=(X1 b 0).toS/\(X1 a 1).I=(X1 b 1).I/\(X1 a 2).I=(X1 b 2).I)/\(X1 a 3).I=(X1 b 3).I/\(X1 a 4).I=(X1 b 4).I/\(X1 a 5).I=(X1 b 5).I/\(X1 a 6).I=(X1 b 6).I:=by grind[gH,RowM.mk.injEq]
def cI2(a b:Val):W7 a=W7 b↔(X1 a 0).toS=(X1 b 0).toS/\(X1 a 1).I=(X1 b 1).I/\(X1 a 2).I=(X1 b 2).I:=by grind[W7,PaneM.mk.injEq]
def lU(l:U7)(i:Nat):Y3 l (i:Int) 0=X1 (cg l i) 0:=rfl
def lg(l:U7)(i:Nat):Y3 l (i:Int) 1=X1 (cg l i) 1:=rfl
def lB(l:U7)(i:Nat):Y3 l (i:Int) 2=X1 (cg l i) 2:=rfl
def oi(l:U7)(i:Nat):Y3 l (i:Int) 3=X1 (cg l i) 3:=rfl
def oI(l:U7)(i:Nat):Y3 l (i:Int) 4=X1 (cg l i) 4:=rfl
def oA(l:U7)(i:Nat):Y3 l (i:Int) 5=X1 (cg l i) 5:=rfl
def oj(l:U7)(i:Nat):Y3 l (i:Int) 6=X1 (cg l i) 6:=rfl
end Go.Ev
namespace Go.Ev.S7
open Go Go.Ev
variable{I:Opq}{r:Option (Nat×U7)}
theorem mQ{x:Int}(h: -9223372036854775808<=x)(h2:x<9223372036854775808):IntKind.i64.wrap x=x:=by grind[IntKind.wrap,IntKind.bits,IntKind.signed]
theorem ij{x y:Int}(h: -9223372036854775808<=x+y)(h2:x+y<9223372036854775808):cq .add .i64 x y=x+y:=mQ h h2
theorem rZ{x y:Int}(h: -9223372036854775808<=x-y)(h2:x-y<9223372036854775808):cq .sub .i64 x y=x-y:=mQ h h2
def X2{e:SX}{x:VT}(h:dB I e=true)(h2:W6 x I=r):W6 (.N e x) I=r:=by rw[W6.eq_3,i6 h,h2]
def Y4{e:SX}{x y:VT}(h:dB I e=true)(h2:W6 x I=r):W6 (.J e x y) I=r:=by rw[W6.eq_2,i6 h,h2]
def Y0{e:SX}{x y:VT}(h:dB I e=false)(h2:W6 y I=r):W6 (.J e x y) I=r:=by simp_all[W6.eq_2,b9]
theorem and2{a b:Bool}(h:a=true)(h2:b=true):(a&&b)=true:=by grind
def er1{K k:Nat}(h:K=k+1)(h2:K<=10000000):cq .sub .i64 (K:Int) 1=(k:Int):=by grind[rZ]
def X7{hd:LHd}{body:VT}{ks:abd}{r:Nat×U7}{out:Option (Nat×U7)}(h1:Y9 (λvs=>W6 body (I.U hd.v0 vs)) (X4 I hd.s0)=some r)(h2:I.f hd.id (X4 I (hd.s0++hd.fv))=cx r)(h3:kE ks r.1 I=out):W6 (.loop hd body ks) I=out:=by simp_all[W6.eq_5,i6]
def zd(r:Val):Val.A [X1 r 0,X1 r 1,X1 r 2,X1 r 3,X1 r 4,X1 r 5,X1 r 6]=X8 r:=rfl
def mC{step:U7->Option (Nat×U7)}{n j:Nat}(st:Nat->U7){s0 p:U7}(h0:s0=st 0)(h1: ∀i,i<n->step (st i)=some (0,st (i+1)))(h2:step (st n)=some (j+1,p)):Y9 step s0=some (j,p):=by rw[h0];exact kr h1 h2
variable{l M:U7}{x:Nat}
def sI{y:Nat}(h:x+y<=1000000):cq .add .i64 (x:Int) (y:Int)=((x+y:Nat):Int):=by grind[ij]
theorem kZ{y:Nat}(h:y<=x)(h2:x<=1000000):cq .sub .i64 (x:Int) (y:Int)=((x-y:Nat):Int):=by grind[rZ]
theorem FF(h:1<=x)(h2:x<=1000000):cq .sub .i64 (x:Int) 1=((x-1:Nat):Int):=by grind[rZ]
theorem wz(h2:x<=1000000):cq .add .i64 (x:Int) 1=((x+1:Nat):Int):=by grind[ij]
def pT{v:Val}(h:0<=v.I):v.I=(nt v:Int):=by grind[nt]
theorem ea1(n:Nat):nt (.D n)=n:=rfl
def Yf(h:l.all okK=true){k:Nat}(hk:k<l.length):X8 (cg l k)=cg l k:=okK_at (l5.1 h _ (atV_mem hk))
def Bz{q:U7}{f:Val->Bool}(h:l.all f=true)(hp:q.Perm l):q.all f=true:=l5.2 λv hv=>l5.1 h v (hp.mem_iff.1 hv)
def Lh{i j:Nat}(h:l.all okK=true)(hi:i<l.length)(hj:j<l.length):(iX l i j).all okK=true:=by rw[l5]at h⊢;intro v hv;unfold iX at hv;grind[List.mem_or_eq_of_mem_set,atV_mem]
def NN(h:l.all okK=true){i j:Nat}(hi:i<l.length)(hj:j<l.length):(l.set i (X8 (cg l j))).set j (X8 (cg l i))=iX l i j:=by rw[Yf h hi,Yf h hj];rfl
def CF{l:U7}{a b:Nat}(h:l.all okK=true): ∀n,a+n<=l.length->b+n<=l.length->(jI l a b n).all okK=true
 |0,_,_=>h
 |n+1,h1,h2=>Lh (CF h n (by omega) (by omega)) (by rw[wa];omega) (by rw[wa];omega)
def dy3{I:Opq}{a b n N i:Nat}(h7:(I.w 2).I=a)(h8:(I.w 3).I=b)(h9:(I.w 4).I=n)(h6:(I.w 1).I=N)(hi:i<n)(h1:a+n<=b)(h2:b+n<=N)(hN:N<=400)(hM:M.length=N)(ho:M.all okK=true):
 W6 IJ (I.U 2000 [.D i,.A M])=some (0,[.D (i+1:Nat),.A (iX M (a+i) (b+i))]):=by
 have e1:=sI (x:=a) (y:=i) (by omega);have e2:=sI (x:=b) (y:=i) (by omega);have e3:=wz (x:=i) (by omega);have p1:(i:Int)<n:=by omega
 have p2:(0:Int)<=((b+i:Nat):Int):=by omega
 have p3:((b+i:Nat):Int)<N:=by omega
 have p4:(0:Int)<=((a+i:Nat):Int):=by omega
 have p5:((a+i:Nat):Int)<N:=by omega
 rw[<-NN ho (by omega) (by omega)];unfold IJ;simp only[W6,X4,bZ,dB,cD,cT,Nat.reduceLeDiff,Nat.reduceSub,if_true,if_false,B7,B8,Y1,a71,a95,h7,h8,h9,h6,e1,e2,e3,a27,a59,p1,p2,p3,p4,p5,decide_true,C7,hM,C6,lU,lg,lB,oi,oI,oA,oj,zd,Int.toNat_natCast]
def t_swapR{I:Opq}(hf: ∀i a,I.f i a=F i a)(hn:(F 420 [I.w 0,I.w 1,I.w 2,I.w 3,I.w 4]).Z=true):W6 cA8 I=some (0,[F 421 [I.w 0,I.w 2,I.w 3,I.w 4]]):=by
 obtain⟨ho,hd⟩:=W4 (show(mi (I.w 0) (I.w 1)&&decide (0<=(I.w 2).I/\0<=(I.w 4).I/\(I.w 2).I+(I.w 4).I<=(I.w 3).I/\(I.w 3).I+(I.w 4).I<=(I.w 1).I))=true from hn);obtain⟨e5,oa,h6,hl⟩:=GT ho;obtain⟨q1,q2,q3,q4⟩:=j7 hd;have h7:=pT q1;have h9:=pT q2;have h8:=pT (show 0<=(I.w 3).I by omega);have hF2: ∀a c d:Val,F 452 [a,I.w 0,c,d,I.w 2,I.w 3,I.w 4]=cx (0,[.D (nt (I.w 4)),.A (jI (I.w 0).L (nt (I.w 2)) (nt (I.w 3)) (nt (I.w 4)))]):=λ_ _ _=>rfl
 refine X7 (r:=(0,[.D (nt (I.w 4)),.A (jI (I.w 0).L (nt (I.w 2)) (nt (I.w 3)) (nt (I.w 4)))])) ?_ ?_ ?_;refine mC (λi=>[.D i,.A (jI (I.w 0).L (nt (I.w 2)) (nt (I.w 3)) i)]) (n:=nt (I.w 4)) (by rw[show X4 I [aM,aN]=[.D 0,I.w 0]from rfl,e5];rfl) (λi hi=> ?_) ?_;exact dy3 h7 h8 h9 h6 hi (by omega) (by omega) hl (wa ..) (CF oa i (by omega) (by omega))
 unfold IJ;have p1: ¬((nt (I.w 4):Nat):Int)<(I.w 4).I:=by omega
 simp[W6,X4,bZ,dB,cD,cT,Nat.reduceLeDiff,Nat.reduceSub,if_true,if_false,B7,B8,Y1,a71,a95,a27,p1,decide_false,n7];show I.f 452 [.D 0,I.w 0,I.w 1,I.w 0,I.w 2,I.w 3,I.w 4]=_;grind;show some (0,[Y3 (I.f 452 [.D 0,I.w 0,I.w 1,I.w 0,I.w 2,I.w 3,I.w 4]).L 1 1])=_;rw[hf,hF2];rfl
def Wp(m N:Nat): ∀(n i j:Nat) (M:U7),0<i->0<j->i<=m->m+j<=N->M.length=N->M.all okK=true->(jH m n i j M).2.all okK=true/\(jH m n i j M).2.length=N
 |0,i,j,M,_,_,_,_,hM,ho=>⟨ho,hM⟩
 |n+1,i,j,M,hi,hj,him,hjN,hM,ho=>by unfold jH;by_cases h1:i=j;grind;rw[b9 h1];by_cases h2:j<i;rw[i6 h2];exact Wp m N n (i-j) j _ (by omega) hj (by omega) hjN (by grind[wa]) (CF ho j (by omega) (by omega));rw[b9 h2];exact Wp m N n i (j-i) _ hi (by omega) him (by omega) (by grind[wa]) (CF ho i (by omega) (by omega))
theorem Fd{n:Val}{N:Nat}(ho:l.all okK=true)(hl:l.length=N)(hn:n.I=(N:Int))(hN:N<=400):mi (.A l) n=true:=
 and2 rfl (and2 ho (and2 (j0 (by simp_all)) (j0 (by simp_all))))
theorem FL{v:Val}{n:Nat}(h:v.I=(n:Int)):nt v=n:=by grind[nt]
def Tr{n va vb vk:Val}{N a b k:Nat}(ho:M.all okK=true)(hM:M.length=N)(hn:n.I=(N:Int))(hN:N<=400)(ha:va.I=(a:Int))(hb:vb.I=(b:Int))(hk:vk.I=(k:Int))(h1:a+k<=b)(h2:b+k<=N):(F 420 [.A M,n,va,vb,vk]).Z=true:=by show(mi (.A M) n&&decide (0<=va.I/\0<=vk.I/\va.I+vk.I<=vb.I/\vb.I+vk.I<=n.I))=true;grind[and2,Fd,decide_eq_true]
theorem RE{va vb vk:Val}{a b k:Nat}(ha:va.I=(a:Int))(hb:vb.I=(b:Int))(hk:vk.I=(k:Int)):F 421 [.A M,va,vb,vk]= .A (jI M a b k):=by show Val.A (jI M (nt va) (nt vb) (nt vk))=_;grind[FL]
def tI:SX:= zm aU aV
def GH:SX:= zm (za aU aR) aV
def Qp:VZ= .J (ew aV aR) (.J (dO aV aR) (.N (.Q 420 [aW,aO,tI,aU,aR]) (.W 0 [zm aV aR,aR,.Q 421 [aW,tI,aU,aR]])) (.N (.Q 420 [aW,aO,tI,GH,aV]) (.W 0 [aV,zm aR aV,.Q 421 [aW,tI,GH,aV]]))) (.W 1 [aV,aR,aW]):=rfl
def SA{I:Opq}(hf: ∀i a,I.f i a=F i a){m N:Nat}(h8:(I.w 3).I=m)(h6:(I.w 1).I=N)(hN:N<=400): ∀(n i j:Nat) (M:U7),i+j<=n+1->0<i->0<j->i<=m->m+j<=N->M.length=N->M.all okK=true->
 Iter (λvs=>W6 VZ (I.U 2000 vs)) [.D i,.D j,.A M] 0 [.D (jH m n i j M).1,.D (jH m n i j M).1,.A (jH m n i j M).2]
 |0,i,j,M,hn,hi,hj,him,hjN,hM,ho=>by omega
 |n+1,i,j,M,hn,hi,hj,him,hjN,hM,ho=>by
  obtain⟨aa,ae⟩: ∃aa,aa=I.U 2000 [.D i,.D j,.A M]:=⟨_,rfl⟩;have v0:aa.w 2000= .D i:=by rw[ae];rfl
  have v1:aa.w 2001= .D j:=by rw[ae];rfl
  have v2:aa.w 2002= .A M:=by rw[ae];rfl
  have u8:(aa.w 3).I=m:=by rw[ae];exact h8
  have u6:(aa.w 1).I=N:=by rw[ae];exact h6
  have hf': ∀i a,aa.f i a=F i a:=by rw[ae];exact hf
  have a1:bZ aa tI= .D (m-i:Nat):=by show Val.D (cq .sub .i64 (aa.w 3).I (aa.w 2000).I)=_;grind[Y1,kZ]
  have a2:bZ aa GH= .D (m+j-i:Nat):=by show Val.D (cq .sub .i64 (cq .add .i64 (aa.w 3).I (aa.w 2001).I) (aa.w 2000).I)=_;rw[u8,v0,v1,Y1,Y1,sI (by omega),kZ (by omega) (by omega)]
  unfold jH;by_cases h1:i=j;refine .out ?_;rw[<-ae,Qp];refine Y0 (by show(!decide ((aa.w 2000).I=(aa.w 2001).I))=false;rw[v0,v1,Y1,Y1,h1,j0 rfl];rfl) ?_;show some (1,[aa.w 2000,aa.w 2001,aa.w 2002])=_;grind
  rw[b9 h1];have c1:dB aa (ew aV aR)=true:=by show(!decide ((aa.w 2000).I=(aa.w 2001).I))=true;grind[Y1,decide_eq_false]
  by_cases h2:j<i;rw[i6 h2];refine .more (vs':=[.D (i-j:Nat),.D j,.A (jI M (m-i) m j)]) ?_ (SA hf h8 h6 hN n (i-j) j _ (by omega) (by omega) hj (by omega) hjN (by grind[wa]) (CF ho j (by omega) (by omega)));rw[<-ae,Qp];refine Y4 c1 (Y4 (by show decide ((aa.w 2001).I<(aa.w 2000).I)=true;simp_all) (X2 ?_ ?_));show(aa.f 420 [aa.w 2002,aa.w 1,bZ aa tI,aa.w 3,aa.w 2001]).Z=true;rw[hf',v2,a1,v1];exact Tr ho hM u6 hN rfl u8 rfl (by omega) (by omega);show some (0,[Val.D (cq .sub .i64 (aa.w 2000).I (aa.w 2001).I),aa.w 2001,aa.f 421 [aa.w 2002,bZ aa tI,aa.w 3,aa.w 2001]])=_;grind[Y1,kZ,RE];rw[b9 h2];refine .more (vs':=[.D i,.D (j-i:Nat),.A (jI M (m-i) (m+j-i) i)]) ?_ (SA hf h8 h6 hN n i (j-i) _ (by omega) hi (by omega) him (by omega) (by grind[wa]) (CF ho i (by omega) (by omega)));rw[<-ae,Qp];refine Y4 c1 (Y0 (by show decide ((aa.w 2001).I<(aa.w 2000).I)=false;simp_all) (X2 ?_ ?_));show(aa.f 420 [aa.w 2002,aa.w 1,bZ aa tI,bZ aa GH,aa.w 2000]).Z=true;rw[hf',v2,a1,a2,v0];exact Tr ho hM u6 hN rfl rfl rfl (by omega) (by omega);show some (0,[aa.w 2000,Val.D (cq .sub .i64 (aa.w 2001).I (aa.w 2000).I),aa.f 421 [aa.w 2002,bZ aa tI,bZ aa GH,aa.w 2000]])=_;grind[Y1,kZ,RE]
def t_rotC{I:Opq}(hf: ∀i a,I.f i a=F i a)(hn:(F 422 [I.w 0,I.w 1,I.w 2,I.w 3,I.w 4]).Z=true):W6 Zh I=some (0,[F 423 [I.w 0,I.w 2,I.w 3,I.w 4]]):=by
 obtain⟨ho,hd⟩:=W4 (show(mi (I.w 0) (I.w 1)&&decide (0<=(I.w 2).I/\(I.w 2).I<(I.w 3).I/\(I.w 3).I<(I.w 4).I/\(I.w 4).I<=(I.w 1).I))=true from hn);obtain⟨e5,oa,h6,hl⟩:=GT ho;obtain⟨q1,q2,q3,q4⟩:=j7 hd;have h7:=pT q1;have h8:=pT (show 0<=(I.w 3).I by omega);have h9:=pT (show 0<=(I.w 4).I by omega);have hF:F 423 [I.w 0,I.w 2,I.w 3,I.w 4]= .A (yZ (I.w 0).L (nt (I.w 2)) (nt (I.w 3)) (nt (I.w 4))):=rfl;rw[hF];generalize nt (I.w 2)=a at h7⊢;generalize hm:nt (I.w 3)=m at h8⊢;generalize nt (I.w 4)=b at h9⊢;generalize hL:(I.w 0).L=l at e5 oa h6 hl⊢;have r0:bZ I Hr= .D (m-a:Nat):=by show Val.D (cq .sub .i64 (I.w 3).I (I.w 2).I)=_;grind[kZ]
 have r1:bZ I Ie= .D (b-m:Nat):=by show Val.D (cq .sub .i64 (I.w 4).I (I.w 3).I)=_;grind[kZ]
 have hF2: ∀x y:Val,F 458 [.D (m-a:Nat),.D (b-m:Nat),.A l,x,y,I.w 3]=cx (0,[.D (jH (nt (I.w 3)) (m-a+(b-m)) (m-a) (b-m) l).1,.D (jH (nt (I.w 3)) (m-a+(b-m)) (m-a) (b-m) l).1,.A (jH (nt (I.w 3)) (m-a+(b-m)) (m-a) (b-m) l).2]):=λ_ _=>rfl
 rw[hm]at hF2;have sp:=Uq m (m-a+(b-m)) (m-a) (b-m) (l.take a) (cB l a m) (cB l m b) (l.drop b) (by omega) (by omega) (by omega) (my (by omega)) (my (by omega)) (by grind);rw[<-ej6 (l:=l) (by omega) (by omega)]at sp;have al:=Wp m l.length (m-a+(b-m)) (m-a) (b-m) l (by omega) (by omega) (by omega) (by omega) rfl oa;have it:=SA hf h8 h6 hl (m-a+(b-m)) (m-a) (b-m) l (by omega) (by omega) (by omega) (by omega) (by omega) rfl oa;generalize jH m (m-a+(b-m)) (m-a) (b-m) l=R at sp al it hF2;obtain⟨r,M⟩:=R;obtain⟨s1,s2,s3,s4,s5⟩:=sp;obtain⟨al1,al2⟩:=al;have d2:bZ I DK=cx (0,[.D r,.D r,.A M]):=by show I.f 458 [bZ I Hr,bZ I Ie,I.w 0,I.w 1,I.w 0,I.w 3]=_;grind
 have d3:bZ I GJ= .A M:=by show Y3 (bZ I DK).L 1 2=_;rw[d2];rfl
 have d4:bZ I zj= .D r:=by show Y3 (bZ I DK).L 1 0=_;rw[d2];rfl
 have d5:bZ I GG= .D (m-r:Nat):=by show Val.D (cq .sub .i64 (I.w 3).I (bZ I zj).I)=_;grind[Y1,kZ]
 refine X7 (r:=(0,[.D r,.D r,.A M])) ?_ d2 (X2 ?_ ?_);show Y9 _ [bZ I Hr,bZ I Ie,I.w 0]=_;grind[qV];show(I.f 420 [bZ I GJ,I.w 1,bZ I GG,I.w 3,bZ I zj]).Z=true;rw[hf,d3,d4,d5];exact Tr al1 al2 h6 hl rfl h8 rfl (by omega) (by omega);show some (0,[I.f 421 [bZ I GJ,bZ I GG,I.w 3,bZ I zj]])=_;rw[hf,d3,d4,d5,RE rfl h8 rfl,s5];rfl
def Kd(l:U7)(i j:Nat):decide ((F 206 [X1 (cg l i) 0,X1 (cg l i) 1,X1 (cg l i) 2,X1 (cg l j) 0,X1 (cg l j) 1,X1 (cg l j) 2]).I<0)=cI false (cg l i) (cg l j):=by rw[A9,decide_eq_true_iff];exact Pm _ _
def dy5{I:Opq}(hf: ∀i a,I.f i a=F i a){a N k:Nat}(h7:(I.w 2).I=a)(h6:(I.w 1).I=N)(hN:N<=400){l:U7}(hl:l.length=N)(ho:l.all okK=true)(hk:a+k+1<N):
 W6 xM (I.U 3000 [.D (a+k+1:Nat),.A l])=some (if cI false (cg l (a+k+1)) (cg l (a+k))then(0,[.D (a+k:Nat),.A (iX l (a+k+1) (a+k))])else(1,[.D (a+k+1:Nat),.A l])):=by
 have e1:=er1 (K:=a+k+1) (k:=a+k) rfl (by omega);have p0:(a:Int)<((a+k+1:Nat):Int):=by omega
 have p1:(0:Int)<=((a+k+1:Nat):Int):=by omega
 have p2:((a+k+1:Nat):Int)<N:=by omega
 have p3:(0:Int)<=((a+k:Nat):Int):=by omega
 have p4:((a+k:Nat):Int)<N:=by omega
 have hc:=Kd l (a+k+1) (a+k);rw[<-NN ho (by omega) (by omega)];unfold xM;simp only[W6,X4,bZ,dB,cD,cT,Nat.reduceLeDiff,Nat.reduceSub,if_true,if_false,B7,B8,Y1,a71,a95,h7,h6,e1,a27,a59,ab7,p0,p1,p2,p3,p4,decide_true,C7,hl,C6,lU,lg,lB,oi,oI,oA,oj,zd,Int.toNat_natCast,mG,hf,hc];grind
def dS8{I:Opq}(hf: ∀i a,I.f i a=F i a){a N:Nat}(h7:(I.w 2).I=a)(h6:(I.w 1).I=N)(hN:N<=400): ∀(k:Nat) (l:U7),a+k<N->l.length=N->l.all okK=true->
 Iter (λvs=>W6 xM (I.U 3000 vs)) [.D (a+k:Nat),.A l] 0 [.D (bubA false a l k).1,.A (bubA false a l k).2]
 |0,l,hk,hl,ho=>by
  refine .out ?_;have p0: ¬(a:Int)<((a:Nat):Int):=by omega
  show W6 xM (I.U 3000 [.D (a:Nat),.A l])=_;unfold xM;simp only[W6,X4,bZ,dB,cD,cT,Nat.reduceLeDiff,Nat.reduceSub,if_true,if_false,B7,B8,Y1,a71,a95,h7,ab7,p0,decide_false,n7,bubA]
 |k+1,l,hk,hl,ho=>by
  have hs:=dy5 hf h7 h6 hN (k:=k) hl ho (by omega);unfold bubA;cases hc:cI false (cg l (a+k+1)) (cg l (a+k))with
  |true=>
   rw[hc,i6 rfl]at hs;rw[i6 rfl];exact .more hs (dS8 hf h7 h6 hN k _ (by omega) (by rw[JD,hl]) (Lh ho (by omega) (by omega)))
  |false=>
   rw[hc,b9 (by simp)]at hs;rw[b9 (by simp)];exact .out hs
def dy6:Jk= .J (zs aV aU) (.loop ⟨461,[aV,aR],3000,[aO,aR,aT,aU,aV]⟩ xM [.W 0 [zi aV,zo (.Q 461 [aV,aR,aO,aR,aT,aU,aV]) 1]]) (.W 1 [aV,aR]):=rfl
def dy7{I:Opq}(hf: ∀i a,I.f i a=F i a){a N b i:Nat}(h7:(I.w 2).I=a)(h8:(I.w 3).I=b)(h6:(I.w 1).I=N)(hN:N<=400){l:U7}(hl:l.length=N)(ho:l.all okK=true)(hai:a<=i)(hib:i<b)(hb:b<=N):
 W6 Jk (I.U 2000 [.D i,.A (cR false l a i)])=some (0,[.D (i+1:Nat),.A (cR false l a (i+1))]):=by
 have hst:=d14 (sec:=false) (l:=l) hai (by omega);have hpl:=c15 false (l:=l) hai;have hpo:=Bz ho (DZ false (l:=l) hai);generalize cR false l a i=M at hst hpl hpo⊢;obtain⟨aa,ae⟩: ∃aa,aa=I.U 2000 [.D i,.A M]:=⟨_,rfl⟩;have v0:aa.w 2000= .D i:=by rw[ae];rfl
 have v1:aa.w 2001= .A M:=by rw[ae];rfl
 have u6:(aa.w 1).I=N:=by rw[ae];exact h6
 have u7:(aa.w 2).I=a:=by rw[ae];exact h7
 have u8:(aa.w 3).I=b:=by rw[ae];exact h8
 have hf': ∀i a,aa.f i a=F i a:=by rw[ae];exact hf
 have lp:=dS8 hf' u7 u6 hN (i-a) M (by omega) (by omega) hpo;have hF: ∀x y z:Val,F 461 [.D i,.A M,x,y,aa.w 2,z,.D i]=cx (0,[.D (bubA false (nt (aa.w 2)) M (i-nt (aa.w 2))).1,.A (bubA false (nt (aa.w 2)) M (i-nt (aa.w 2))).2]):=λ_ _ _=>rfl
 rw[FL u7]at hF;have e1:aa.f 461 [aa.w 2000,aa.w 2001,aa.w 1,aa.w 2001,aa.w 2,aa.w 3,aa.w 2000]=cx (0,[.D (bubA false a M (i-a)).1,.A (bubA false a M (i-a)).2]):=by grind
 rw[<-ae,dy6];refine Y4 (by show decide ((aa.w 2000).I<(aa.w 3).I)=true;simp_all) (X7 (r:=(0,[.D (bubA false a M (i-a)).1,.A (bubA false a M (i-a)).2])) ?_ e1 ?_);show Y9 _ [aa.w 2000,aa.w 2001]=_;grind[qV];show some (0,[Val.D (cq .add .i64 (aa.w 2000).I 1),Y3 (aa.f 461 [aa.w 2000,aa.w 2001,aa.w 1,aa.w 2001,aa.w 2,aa.w 3,aa.w 2000]).L 1 1])=_;rw[e1,v0,Y1,wz (by omega),<-hst];rfl
def t_insC{I:Opq}(hf: ∀i a,I.f i a=F i a)(hn:(F 424 [I.w 0,I.w 1,I.w 2,I.w 3]).Z=true):W6 dc6 I=some (0,[F 425 [I.w 0,I.w 2,I.w 3]]):=by
 obtain⟨ho,hd⟩:=W4 (show(mi (I.w 0) (I.w 1)&&decide (0<=(I.w 2).I/\(I.w 2).I<=(I.w 3).I/\(I.w 3).I<=(I.w 1).I))=true from hn);obtain⟨e5,oa,h6,hl⟩:=GT ho;obtain⟨q1,q2,q3⟩:=j7 hd;have h7:=pT q1;have h8:=pT (show 0<=(I.w 3).I by omega);have hF:F 425 [I.w 0,I.w 2,I.w 3]= .A (cR false (I.w 0).L (nt (I.w 2)) (nt (I.w 3))):=rfl;have hF2: ∀x y z:Val,F 460 [x,I.w 0,y,z,I.w 2,I.w 3]=cx (0,[.D (max (nt (I.w 2)+1) (nt (I.w 3)):Nat),.A (cR false (I.w 0).L (nt (I.w 2)) (nt (I.w 3)))]):=λ_ _ _=>rfl
 rw[hF];generalize nt (I.w 2)=a at h7 hF2⊢;generalize nt (I.w 3)=b at h8 hF2⊢;have r0:bZ I CH= .D (a+1:Nat):=by show Val.D (cq .add .i64 (I.w 2).I 1)=_;grind[wz]
 have e1:I.f 460 [bZ I CH,I.w 0,I.w 1,I.w 0,I.w 2,I.w 3]=cx (0,[.D (max (a+1) b:Nat),.A (cR false (I.w 0).L a b)]):=by grind
 refine X7 (r:=(0,[.D (max (a+1) b:Nat),.A (cR false (I.w 0).L a b)])) ?_ e1 ?_
 show Y9 _ [bZ I CH,I.w 0]=_;rw[r0];have hout: ∀(i:Nat) (M:Val),b<=i->W6 Jk (I.U 2000 [.D i,M])=some (1,[.D i,M]):=λi M hi=>by refine Y0 ?_ rfl;show decide ((i:Int)<(I.w 3).I)=false;grind
 by_cases hab:a+1<b;refine mC (λi=>[.D (a+1+i:Nat),.A (cR false (I.w 0).L a (a+1+i))]) (n:=b-(a+1)) ?_ (λi hi=>dy7 hf h7 h8 h6 hl rfl oa (by omega) (by omega) (by omega)) ?_;rw[YC (by omega) (by omega) (by omega),<-e5];grind;rw[R8 (by omega),YC (by omega) (by omega) (by omega),<-e5,qV];exact .out (hout (a+1) _ (by omega));show some (0,[Y3 (I.f 460 [bZ I CH,I.w 0,I.w 1,I.w 0,I.w 2,I.w 3]).L 1 1])=_;rw[e1];rfl
variable{M Y:U7}{i j:Nat}
theorem Hn(h:i+j<=1000000):IntKind.i64.wrap (cq .shr .u64 (IntKind.u64.wrap (cq .add .i64 (i:Int) (j:Int))) 1)=(((i+j)/2:Nat):Int):=by
 rw[sI h];have e1:IntKind.u64.wrap ((i+j:Nat):Int)=((i+j:Nat):Int):=by have:IntKind.u64.wrap ((i+j:Nat):Int)=((i+j:Nat):Int) % 18446744073709551616:=rfl;omega
 have e2:cq .shr .u64 ((i+j:Nat):Int) 1=(((i+j)/2:Nat):Int):=by have:cq .shr .u64 ((i+j:Nat):Int) 1=((i+j:Nat):Int).fdiv 2:=rfl;rw[this,Q2 _ (by omega)];omega
 grind[mQ]
def dy8{I:Opq}(hf: ∀i a,I.f i a=F i a){a N:Nat}(h7:(I.w 2).I=a)(h6:(I.w 1).I=N)(hN:N<=400)(hl:(I.w 0).L.length=N)(ho:(I.w 0).L.all okK=true)(hij:i<j)(hj:j<=N)(ha:a<N):
 W6 FZ (I.U 2000 [.D i,.D j])=some (0,if cI false (cg (I.w 0).L ((i+j)/2)) (cg (I.w 0).L a)then [.D ((i+j)/2+1:Nat),.D j]else [.D i,.D ((i+j)/2:Nat)]):=by
 have e0:=Hn (i:=i) (j:=j) (by omega);have hlt:(i+j)/2<j:=by omega
 generalize (i+j)/2=h at e0 hlt⊢;have e1:=wz (x:=h) (by omega);have p0:(i:Int)<(j:Int):=by omega
 have p1:(0:Int)<=(h:Int):=by omega
 have p2:(h:Int)<N:=by omega
 have p3:(0:Int)<=(a:Int):=by omega
 have p4:(a:Int)<N:=by omega
 have hc:=Kd (I.w 0).L (h) (a);unfold FZ;simp only[W6,X4,bZ,dB,cD,cT,Nat.reduceLeDiff,Nat.reduceSub,if_true,if_false,B7,B8,Y1,a71,a95,h7,h6,e0,e1,a27,a59,p0,p1,p2,p3,p4,decide_true,C7,hl,lU,lg,lB,mG,hf,hc];grind
def dy9{I:Opq}(hf: ∀i a,I.f i a=F i a){m N:Nat}(h8:(I.w 3).I=m)(h6:(I.w 1).I=N)(hN:N<=400)(hl:(I.w 0).L.length=N)(ho:(I.w 0).L.all okK=true)(hij:i<j)(hj:j<=N)(ha:m<N):
 W6 EV (I.U 2000 [.D i,.D j])=some (0,if(!cI false (cg (I.w 0).L m) (cg (I.w 0).L ((i+j)/2)))=true then [.D ((i+j)/2+1:Nat),.D j]else [.D i,.D ((i+j)/2:Nat)]):=by
 have e0:=Hn (i:=i) (j:=j) (by omega);have hlt:(i+j)/2<j:=by omega
 generalize (i+j)/2=h at e0 hlt⊢;have e1:=wz (x:=h) (by omega);have p0:(i:Int)<(j:Int):=by omega
 have p1:(0:Int)<=(h:Int):=by omega
 have p2:(h:Int)<N:=by omega
 have p3:(0:Int)<=(m:Int):=by omega
 have p4:(m:Int)<N:=by omega
 have hc:=Kd (I.w 0).L (m) (h);unfold EV;simp only[W6,X4,bZ,dB,cD,cT,Nat.reduceLeDiff,Nat.reduceSub,if_true,if_false,B7,B8,Y1,a71,a95,h8,h6,e0,e1,a27,a59,p0,p1,p2,p3,p4,decide_true,C7,hl,lU,lg,lB,mG,hf,hc];grind
def dz0{I:Opq}(hf: ∀i a,I.f i a=F i a){a m b N mid:Nat}(h7:(I.w 2).I=a)(h8:(I.w 3).I=m)(h9:(I.w 4).I=b)(h6:(I.w 1).I=N)(hN:N<=400)(hl:(I.w 0).L.length=N)(ho:(I.w 0).L.all okK=true)(hmid:mid=(a+b)/2)(hb:b<=N)(ham:a<m)(hmb:m<b)
 (hij:i<j) (hj:j<=m) (hj2:j<=mid) (hi:mid+m<=b+i):
 W6 zU (I.U 2000 [.D i,.D j])=some (0,if(!cI false (cg (I.w 0).L (mid+m-1-(i+j)/2)) (cg (I.w 0).L ((i+j)/2)))=true then [.D ((i+j)/2+1:Nat),.D j]else [.D i,.D ((i+j)/2:Nat)]):=by
 have e0:=Hn (i:=i) (j:=j) (by omega);have g0:=Hn (i:=a) (j:=b) (by omega);rw[<-hmid]at g0;have g1:=sI (x:=mid) (y:=m) (by omega);have g2:=FF (x:=mid+m) (by omega) (by omega);have hlt:(i+j)/2<j:=by omega
 have hge:i<=(i+j)/2:=by omega
 generalize (i+j)/2=h at e0 hlt hge⊢;have g3:=kZ (x:=mid+m-1) (y:=h) (by omega) (by omega);have e1:=wz (x:=h) (by omega);have hq:mid+m-1-h<N:=by omega
 generalize mid+m-1-h=q at g3 hq⊢;have p0:(i:Int)<(j:Int):=by omega
 have p1:(0:Int)<=(h:Int):=by omega
 have p2:(h:Int)<N:=by omega
 have p3:(0:Int)<=(q:Int):=by omega
 have p4:(q:Int)<N:=by omega
 have hc:=Kd (I.w 0).L (q) (h);unfold zU;simp only[W6,X4,bZ,dB,cD,cT,Nat.reduceLeDiff,Nat.reduceSub,if_true,if_false,B7,B8,Y1,a71,a95,h7,h8,h9,h6,e0,e1,g0,g1,g2,g3,a27,a59,p0,p1,p2,p3,p4,decide_true,C7,hl,lU,lg,lB,mG,hf,hc];grind
def Uh{I:Opq}{x:VT}(i:Nat):W6 (.J (zs aV aR) x (.W 1 [aV,aR])) (I.U 2000 [.D i,.D i])=some (1,[.D i,.D i]):=by refine Y0 ?_ rfl;show decide ((i:Int)<(i:Int))=false;grind
def dz1{I:Opq}{N r:Nat}(h6:(I.w 1).I=N)(hN:N<=400)(hr:Y3 (I.f 462 [I.w 3,I.w 4,I.w 1,I.w 0,I.w 2]).L 1 0= .D r)(hM:M.length=N)(ho:M.all okK=true)(hi:i+1<r)(hrN:r<=N):
 W6 IX (I.U 3000 [.D i,.A M])=some (0,[.D (i+1:Nat),.A (iX M i (i+1))]):=by
 have e0:=FF (x:=r) (by omega) (by omega);have e1:=wz (x:=i) (by omega);have p0:(i:Int)<((r-1:Nat):Int):=by omega
 have p1:(0:Int)<=((i+1:Nat):Int):=by omega
 have p2:((i+1:Nat):Int)<N:=by omega
 have p3:(0:Int)<=(i:Int):=by omega
 have p4:(i:Int)<N:=by omega
 rw[<-NN ho (by omega) (by omega)];unfold IX;simp only[W6,X4,bZ,dB,cD,cT,Nat.reduceLeDiff,Nat.reduceSub,if_true,if_false,B7,B8,mG,hr,Y1,a71,a95,h6,e0,e1,a27,a59,p0,p1,p2,p3,p4,decide_true,C7,hM,C6,lU,lg,lB,oi,oI,oA,oj,zd,Int.toNat_natCast]
theorem dz2{I:Opq}{N r:Nat}(h6:(I.w 1).I=N)(hN:N<=400)(hr:Y3 (I.f 464 [I.w 2,I.w 3,I.w 1,I.w 0,I.w 3]).L 1 0= .D r)(hM:M.length=N)(ho:M.all okK=true)(hi:r<i)(hiN:i<N):
 W6 IQ (I.U 3000 [.D i,.A M])=some (0,[.D (i-1:Nat),.A (iX M (i-1) i)]):=by
 have e1:=FF (x:=i) (by omega) (by omega);have p0:(r:Int)<(i:Int):=by omega
 have p1:(0:Int)<=((i-1:Nat):Int):=by omega
 have p2:((i-1:Nat):Int)<N:=by omega
 have p3:(0:Int)<=(i:Int):=by omega
 have p4:(i:Int)<N:=by omega
 rw[Xx (by omega),<-NN ho (by omega) (by omega)];unfold IQ;simp only[W6,X4,bZ,dB,cD,cT,Nat.reduceLeDiff,Nat.reduceSub,if_true,if_false,B7,B8,mG,hr,Y1,a71,a95,h6,e1,a27,a59,ab7,p0,p1,p2,p3,p4,decide_true,C7,hM,C6,lU,lg,lB,oi,oI,oA,oj,zd,Int.toNat_natCast]
def WC{l:U7}{a:Nat}(h:l.all okK=true): ∀n,a+n<l.length->(nT l a n).all okK=true
 |0,_=>h
 |n+1,h1=>Lh (WC h n (by omega)) (by rw[Iz];omega) (by rw[Iz];omega)
theorem YW{l:U7}{m:Nat}(h:l.all okK=true)(hm:m<l.length): ∀n,(mM l m n).all okK=true
 |0=>h
 |n+1=>Lh (YW h hm n) (by rw[KC];omega) (by rw[KC];omega)
def GM(B:Int)(e mid L:SX):VT:= .J (zs mid e) (.J (zs e aS) (.N (.Q 426 [L,aO,mid,e,aS,.C B]) (.W 0 [.Q 425 [L,mid,aS]])) (.W 0 [L])) (.W 0 [L])
def GY(B:Int)(r e mid L:SX):VT:= .J (zs aT r) (.J (zs r mid) (.N (.Q 426 [L,aO,aT,r,mid,.C B]) (GM B e mid (.Q 425 [L,aT,mid]))) (GM B e mid L)) (GM B e mid L)
def Nz(B:Int)(r e mid:SX):VT:= .J (zs r aU) (.J (zs aU e) (.N (.Q 422 [aN,aO,r,aU,e]) (GY B r e mid (.Q 423 [aN,r,aU,e]))) (GY B r e mid aN)) (GY B r e mid aN)
def d65(B:Int):qT B= .J (ze (zm aU aT) 1) (.loop ⟨462,[aU,aS],2000,[aO,aN,aT]⟩ FZ [.loop ⟨463,[aT,aN],3000,[aO,aN,yk]⟩ IX [.W 0 [zo (.Q 463 [aT,aN,aO,aN,yk]) 1]]])
 (.J (ze (zm aS aU) 1) (.loop ⟨464,[aT,aU],2000,[aO,aN,aU]⟩ EV [.loop ⟨465,[aU,aN],3000,[aO,aN,xW]⟩ IQ [.W 0 [zo (.Q 465 [aU,aN,aO,aN,xW]) 1]]])
 (.J (dO aU dz) (.loop ⟨466,[Aw,dz],2000,[aO,aN,aT,aU,aS,dz,jj,qS]⟩ zU [Nz B qw pw dz]) (.loop ⟨466,[aT,aU],2000,[aO,aN,aT,aU,aS,dz,jj,qS]⟩ zU [Nz B qG pJ dz]))):=rfl
theorem KA{n:Val}{N a m b:Nat}{B:Int}(ho:M.all okK=true)(hM:M.length=N)(hn:n.I=(N:Int))(hN:N<=400)(h1:a<m)(h2:m<b)(h3:b<=N)(h4:(b:Int)-a<=B)
 (s1:Sd false (cB M a m)) (s2:Sd false (cB M m b)):(F 426 [.A M,n,.D a,.D m,.D b,.D B]).Z=true:=by
 refine Oa.2 ⟨Fd ho hM hn hN,?_,?_,?_,?_,h4,rfl,rfl,rfl,s1,s2⟩;show(0:Int)<=(a:Int);omega;show(a:Int)<(m:Int);omega;show(m:Int)<(b:Int);omega;show(b:Int)<=n.I;omega
theorem wE{va vb:Val}{a b:Nat}(ha:va.I=(a:Int))(hb:vb.I=(b:Int)):F 425 [.A M,va,vb]= .A (cR false M a b):=by show Val.A (cR false M (nt va) (nt vb))=_;grind[FL]
section
variable{I:Opq}{N a m b R E MID:Nat}{B:Int}{r e mid:SX}
def cI9(hf: ∀i a,I.f i a=F i a)(h6:(I.w 1).I=N)(hN:N<=400)(h9:I.w 4= .D b)(he:bZ I e= .D E)(hmid:bZ I mid= .D MID)(hb:b<=N)(hB:(b:Int)-MID<=B){L:SX}(hL:bZ I L= .A M)(ho:M.all okK=true)(hM:M.length=N)
 (s1:Sd false (cB M MID E)) (s2:Sd false (cB M E b)) (c1:MID<E->E<b->cR false M MID b=Y) (c2: ¬(MID<E/\E<b)->M=Y):W6 (GM B e mid L) I=some (0,[.A Y]):=by
 have hret: ¬(MID<E/\E<b)->W6 (.W 0 [L]) I=some (0,[.A Y]):=λh=>by show some (0,[bZ I L])=_;grind
 by_cases h1:MID<E;refine Y4 (by show decide ((bZ I mid).I<(bZ I e).I)=true;simp_all) ?_;by_cases h2:E<b;refine Y4 (by show decide ((bZ I e).I<(I.w 4).I)=true;simp_all) (X2 ?_ ?_);show(I.f 426 [bZ I L,I.w 1,bZ I mid,bZ I e,I.w 4,.D B]).Z=true;grind[KA];show some (0,[I.f 425 [bZ I L,bZ I mid,I.w 4]])=_;rw[hf,hL,hmid,h9,wE rfl rfl,c1 h1 h2];exact Y0 (by show decide ((bZ I e).I<(I.w 4).I)=false;simp_all) (hret (by omega));exact Y0 (by show decide ((bZ I mid).I<(bZ I e).I)=false;simp_all) (hret (by omega))
def cJ0(hf: ∀i a,I.f i a=F i a)(h6:(I.w 1).I=N)(hN:N<=400)(h7:I.w 2= .D a)(h9:I.w 4= .D b)(hr:bZ I r= .D R)(he:bZ I e= .D E)(hmid:bZ I mid= .D MID)(hb:b<=N)(hmb:MID<b)(hB:(b:Int)-MID<=B)(hB2:(MID:Int)-a<=B){L:SX}{M2:U7}(hL:bZ I L= .A M)(ho:M.all okK=true)(hM:M.length=N)(ho2:M2.all okK=true)(hM2:M2.length=N)
 (t1:Sd false (cB M a R)) (t2:Sd false (cB M R MID)) (d1:a<R->R<MID->cR false M a MID=M2) (d2: ¬(a<R/\R<MID)->M=M2)
 (s1:Sd false (cB M2 MID E)) (s2:Sd false (cB M2 E b)) (c1:MID<E->E<b->cR false M2 MID b=Y) (c2: ¬(MID<E/\E<b)->M2=Y):W6 (GY B r e mid L) I=some (0,[.A Y]):=by
 have hid: ¬(a<R/\R<MID)->W6 (GM B e mid L) I=some (0,[.A Y]):=λh=>by have:=d2 h;subst this;exact cI9 hf h6 hN h9 he hmid hb hB hL ho hM s1 s2 c1 c2
 by_cases h1:a<R;refine Y4 (by show decide ((I.w 2).I<(bZ I r).I)=true;simp_all) ?_;by_cases h2:R<MID;refine Y4 (by show decide ((bZ I r).I<(bZ I mid).I)=true;simp_all) (X2 ?_ ?_);show(I.f 426 [bZ I L,I.w 1,I.w 2,bZ I r,bZ I mid,.D B]).Z=true;grind[KA];refine cI9 hf h6 hN h9 he hmid hb hB ?_ ho2 hM2 s1 s2 c1 c2;show I.f 425 [bZ I L,I.w 2,bZ I mid]=_;rw[hf,hL,hmid,h7,wE rfl rfl,d1 h1 h2];exact Y0 (by show decide ((bZ I r).I<(bZ I mid).I)=false;simp_all) (hid (by omega));exact Y0 (by show decide ((I.w 2).I<(bZ I r).I)=false;simp_all) (hid (by omega))
def dz4{n va vm vb:Val}{a m b:Nat}(ho:M.all okK=true)(hM:M.length=N)(hn:n.I=(N:Int))(hN:N<=400)(ha:va.I=(a:Int))(hm:vm.I=(m:Int))(hb:vb.I=(b:Int))(h1:a<m)(h2:m<b)(h3:b<=N):(F 422 [.A M,n,va,vm,vb]).Z=true:=by show(mi (.A M) n&&decide (0<=va.I/\va.I<vm.I/\vm.I<vb.I/\vb.I<=n.I))=true;grind[and2,Fd,decide_eq_true]
def dz5(hf: ∀i a,I.f i a=F i a)(h6:(I.w 1).I=N)(hN:N<=400)(h7:I.w 2= .D a)(h8:(I.w 3).I=m)(h9:I.w 4= .D b)(hr:bZ I r= .D R)(he:bZ I e= .D E)(hmid:bZ I mid= .D MID)(hb:b<=N)(hEb:E<=b)(hmb:MID<b)(hB:(b:Int)-MID<=B)(hB2:(MID:Int)-a<=B){l M2:U7}(h5:I.w 0= .A l)(hl:l.length=N)(hlo:l.all okK=true)
 (b1:R<m->m<E->yZ l R m E=M) (b2: ¬(R<m/\m<E)->l=M) (p1:M.Perm l)
 (t1:Sd false (cB M a R)) (t2:Sd false (cB M R MID)) (d1:a<R->R<MID->cR false M a MID=M2) (d2: ¬(a<R/\R<MID)->M=M2) (p2:M2.Perm l)
 (s1:Sd false (cB M2 MID E)) (s2:Sd false (cB M2 E b)) (c1:MID<E->E<b->cR false M2 MID b=Y) (c2: ¬(MID<E/\E<b)->M2=Y):W6 (Nz B r e mid) I=some (0,[.A Y]):=by
 have oM:=Bz hlo p1;have lM:M.length=N:=p1.length_eq.trans hl;have oM2:=Bz hlo p2;have lM2:M2.length=N:=p2.length_eq.trans hl;have hid: ¬(R<m/\m<E)->W6 (GY B r e mid aN) I=some (0,[.A Y]):=λh=>
  cJ0 hf h6 hN h7 h9 hr he hmid hb hmb hB hB2 (L:= aN) (by show I.w 0=_;grind) oM lM oM2 lM2 t1 t2 d1 d2 s1 s2 c1 c2
 by_cases h1:R<m;refine Y4 (by show decide ((bZ I r).I<(I.w 3).I)=true;simp_all) ?_;by_cases h2:m<E;refine Y4 (by show decide ((I.w 3).I<(bZ I e).I)=true;simp_all) (X2 ?_ ?_);show(I.f 422 [I.w 0,I.w 1,bZ I r,I.w 3,bZ I e]).Z=true;rw[hf,h5,hr,he];exact dz4 hlo hl h6 hN rfl h8 rfl h1 h2 (by omega);refine cJ0 hf h6 hN h7 h9 hr he hmid hb hmb hB hB2 ?_ oM lM oM2 lM2 t1 t2 d1 d2 s1 s2 c1 c2;show I.f 423 [I.w 0,bZ I r,I.w 3,bZ I e]=_;rw[hf,h5,hr,he,<-b1 h1 h2];show Val.A (yZ l R (nt (I.w 3)) E)=_;rw[FL h8];exact Y0 (by show decide ((I.w 3).I<(bZ I e).I)=false;simp_all) (hid (by omega));exact Y0 (by show decide ((bZ I r).I<(I.w 3).I)=false;simp_all) (hid (by omega))
end
def OB{T:Nat->Bool}{lo hi:Nat}{step:U7->Option (Nat×U7)}{va vb:Val}(hle:lo<=hi)(h1: ∀i j:Nat,lo<=i->i<j->j<=hi->step [.D i,.D j]=some (0,if T ((i+j)/2)=true then [.D ((i+j)/2+1:Nat),.D j]else [.D i,.D ((i+j)/2:Nat)]))(h2: ∀i:Nat,step [.D i,.D i]=some (1,[.D i,.D i])):
 Y9 step [.D lo,.D hi]=some (0,[.D (bs T (hi-lo) lo hi),.D (bs T (hi-lo) lo hi)]):=by
 rw[qV];exact Vv h1 h2 (hi-lo) lo hi (j6 _) hle (j6 _) (j6 _)
def t_sym{I:Opq}{B:Int}(hf: ∀i a,I.f i a=F i a)(hn:(F 426 [I.w 0,I.w 1,I.w 2,I.w 3,I.w 4,.D (2*B)]).Z=true):W6 (qT B) I=some (0,[F 425 [I.w 0,I.w 2,I.w 4]]):=by
 have hn':GQ [I.w 0,I.w 1,I.w 2,I.w 3,I.w 4,.D (2*B)]=true:=hn;obtain⟨ho,q1,q2,q3,q4,q5,i7,i8,i9,s1,s2⟩:=Oa.1 hn';have ho:mi (I.w 0) (I.w 1)=true:=ho;have q1:0<=(I.w 2).I:=q1;have q2:(I.w 2).I<(I.w 3).I:=q2;have q3:(I.w 3).I<(I.w 4).I:=q3;have q4:(I.w 4).I<=(I.w 1).I:=q4;have q5:(I.w 4).I-(I.w 2).I<=2*B:=q5;have s1:Sd false (cB (I.w 0).L (nt (I.w 2)) (nt (I.w 3))):=s1;have s2:Sd false (cB (I.w 0).L (nt (I.w 3)) (nt (I.w 4))):=s2;obtain⟨e5,oa,h6,hl⟩:=GT ho;have h7:=pT q1;have h8:=pT (show 0<=(I.w 3).I by omega);have h9:=pT (show 0<=(I.w 4).I by omega);have w7:I.w 2= .D (nt (I.w 2)):=(Ny (show uN (I.w 2)=true from i7)).trans (congrArg Val.D h7);have w8:I.w 3= .D (nt (I.w 3)):=(Ny (show uN (I.w 3)=true from i8)).trans (congrArg Val.D h8);have w9:I.w 4= .D (nt (I.w 4)):=(Ny (show uN (I.w 4)=true from i9)).trans (congrArg Val.D h9);have hF:F 425 [I.w 0,I.w 2,I.w 4]= .A (cR false (I.w 0).L (nt (I.w 2)) (nt (I.w 4))):=rfl;rw[hF];generalize nt (I.w 2)=a at h7 w7 s1⊢;generalize nt (I.w 3)=m at h8 w8 s1 s2⊢;generalize nt (I.w 4)=b at h9 w9 s2⊢;obtain⟨l,hL⟩: ∃l,(I.w 0).L=l:=⟨_,rfl⟩;obtain⟨N,hNN⟩: ∃N,l.length=N:=⟨_,rfl⟩;have hlN:(I.w 0).L.length=N:=by grind
 rw[hlN]at h6 hl;have ham:a<m:=by omega
 have hmb:m<b:=by omega
 have hbN:b<=N:=by omega
 rw[d65];by_cases c1:m=a+1
 .
  refine Y4 (by show decide (cq .sub .i64 (I.w 3).I (I.w 2).I=1)=true;grind[kZ,decide_eq_true]) ?_;subst c1;have so:=du1 (sec:=false) (l:=(I.w 0).L) (a:=a) (b:=b) hmb (by omega) s2;have hlp:Y9 (λvs=>W6 FZ (I.U 2000 vs)) [.D (a+1:Nat),.D b]=_:=OB (T:=λh=>cI false (cg (I.w 0).L h) (cg (I.w 0).L a)) (va:= .D 0) (vb:= .D 0) (by omega) (λi j h1 h2 h3=>dy8 hf h7 h6 hl hlN oa h2 (by omega) (by omega)) (λi=>Uh i);have hF2:F 462 [.D (a+1:Nat),.D b,I.w 1,I.w 0,.D a]=cx (0,[.D (bs (λh=>cI false (cg (I.w 0).L h) (cg (I.w 0).L a)) (b-(a+1)) (a+1) b),.D (bs (λh=>cI false (cg (I.w 0).L h) (cg (I.w 0).L a)) (b-(a+1)) (a+1) b)]):=rfl;generalize bs (λh=>cI false (cg (I.w 0).L h) (cg (I.w 0).L a)) (b-(a+1)) (a+1) b=r at so hlp hF2;obtain⟨r1,r2,r3⟩:=so;have e462:I.f 462 [I.w 3,I.w 4,I.w 1,I.w 0,I.w 2]=cx (0,[.D r,.D r]):=by grind
  have er:Y3 (I.f 462 [I.w 3,I.w 4,I.w 1,I.w 0,I.w 2]).L 1 0= .D r:=by rw[e462];rfl
  have hF3: ∀x y:Val,F 463 [.D a,I.w 0,x,y,.D r]=cx (0,[.D (r-1:Nat),.A (nT (I.w 0).L a (r-1-a))]):=λ_ _=>rfl
  have e463:I.f 463 [I.w 2,I.w 0,I.w 1,I.w 0,bZ I yk]=cx (0,[.D (r-1:Nat),.A (nT (I.w 0).L a (r-1-a))]):=by rw[show bZ I yk= .D r from er,hf,w7,hF3]
  refine X7 (r:=(0,[.D r,.D r])) ?_ e462 (X7 (r:=(0,[.D (r-1:Nat),.A (nT (I.w 0).L a (r-1-a))])) ?_ e463 ?_);show Y9 _ [I.w 3,I.w 4]=_;grind;show Y9 _ [I.w 2,I.w 0]=_;rw[w7];refine mC (λi=>[.D (a+i:Nat),.A (nT (I.w 0).L a i)]) (n:=r-1-a) (by rw[show nT (I.w 0).L a 0=(I.w 0).L from rfl,<-e5];rfl) (λi hi=> ?_) ?_;exact dz1 h6 hl er (by grind[Iz]) (WC oa i (by omega)) (by omega) (by omega);rw[show a+(r-1-a)=r-1 by omega];refine Y0 ?_ rfl;show decide (((r-1:Nat):Int)<cq .sub .i64 (Y3 (I.f 462 [I.w 3,I.w 4,I.w 1,I.w 0,I.w 2]).L 1 0).I 1)=false;grind[Y1,FF,decide_eq_false];show some (0,[Y3 (I.f 463 [I.w 2,I.w 0,I.w 1,I.w 0,bZ I yk]).L 1 1])=_;rw[e463,<-r3];rfl
 .refine Y0 (by show decide (cq .sub .i64 (I.w 3).I (I.w 2).I=1)=false;grind[kZ,decide_eq_false]) ?_;by_cases c2:b=m+1
  .
   refine Y4 (by show decide (cq .sub .i64 (I.w 4).I (I.w 3).I=1)=true;grind[kZ,decide_eq_true]) ?_;subst c2;have so:=du2 (sec:=false) (l:=(I.w 0).L) (a:=a) (m:=m) ham (by omega) s1;have hlp:Y9 (λvs=>W6 EV (I.U 2000 vs)) [.D a,.D m]=_:=OB (T:=λh=> !cI false (cg (I.w 0).L m) (cg (I.w 0).L h)) (va:= .D 0) (vb:= .D 0) (by omega) (λi j h1 h2 h3=>dy9 hf h8 h6 hl hlN oa h2 (by omega) (by omega)) (λi=>Uh i);have hF2:F 464 [.D a,.D m,I.w 1,I.w 0,.D m]=cx (0,[.D (bs (λh=> !cI false (cg (I.w 0).L m) (cg (I.w 0).L h)) (m-a) a m),.D (bs (λh=> !cI false (cg (I.w 0).L m) (cg (I.w 0).L h)) (m-a) a m)]):=rfl;generalize bs (λh=> !cI false (cg (I.w 0).L m) (cg (I.w 0).L h)) (m-a) a m=r at so hlp hF2;obtain⟨r1,r2,r3⟩:=so;have e464:I.f 464 [I.w 2,I.w 3,I.w 1,I.w 0,I.w 3]=cx (0,[.D r,.D r]):=by grind
   have er:Y3 (I.f 464 [I.w 2,I.w 3,I.w 1,I.w 0,I.w 3]).L 1 0= .D r:=by rw[e464];rfl
   have hF3: ∀x y:Val,F 465 [.D m,I.w 0,x,y,.D r]=cx (0,[.D r,.A (mM (I.w 0).L m (m-r))]):=λ_ _=>rfl
   have e465:I.f 465 [I.w 3,I.w 0,I.w 1,I.w 0,bZ I xW]=cx (0,[.D r,.A (mM (I.w 0).L m (m-r))]):=by rw[show bZ I xW= .D r from er,hf,w8,hF3]
   refine X7 (r:=(0,[.D r,.D r])) ?_ e464 (X7 (r:=(0,[.D r,.A (mM (I.w 0).L m (m-r))])) ?_ e465 ?_);show Y9 _ [I.w 2,I.w 3]=_;grind;show Y9 _ [I.w 3,I.w 0]=_;rw[w8];refine mC (λi=>[.D (m-i:Nat),.A (mM (I.w 0).L m i)]) (n:=m-r) (by rw[show mM (I.w 0).L m 0=(I.w 0).L from rfl,<-e5];rfl) (λi hi=> ?_) ?_;grind[dz2,mM,KC,YW,iX];rw[show m-(m-r)=r by omega];refine Y0 ?_ rfl;show decide ((Y3 (I.f 464 [I.w 2,I.w 3,I.w 1,I.w 0,I.w 3]).L 1 0).I<(r:Int))=false;grind[Y1,decide_eq_false];show some (0,[Y3 (I.f 465 [I.w 3,I.w 0,I.w 1,I.w 0,bZ I xW]).L 1 1])=_;rw[e465,<-r3];rfl
  refine Y0 (by show decide (cq .sub .i64 (I.w 4).I (I.w 3).I=1)=false;grind[kZ,decide_eq_false]) ?_;obtain⟨mid,hmid⟩: ∃mid,mid=(a+b)/2:=⟨_,rfl⟩;have d2:bZ I dz= .D mid:=by show Val.D (IntKind.i64.wrap (cq .shr .u64 (IntKind.u64.wrap (cq .add .i64 (I.w 2).I (I.w 4).I)) 1))=_;grind[Hn]
  have d3:bZ I jj= .D (mid+m:Nat):=by show Val.D (cq .add .i64 (bZ I dz).I (I.w 3).I)=_;rw[d2,h8,Y1,sI (by omega)]
  have d5:bZ I qS= .D (mid+m-1:Nat):=by show Val.D (cq .sub .i64 (bZ I jj).I 1)=_;rw[d3,Y1,FF (by omega) (by omega)]
  have key: ∀(lo hi r:Nat) (va vb:Val) (er ee:SX),(mid<m/\lo=mid+m-b/\hi=mid\/m<=mid/\lo=a/\hi=m)->r=bs (λc=> !cI false (cg (I.w 0).L (mid+m-1-c)) (cg (I.w 0).L c)) (hi-lo) lo hi->bZ I er= .D r->(∀n:Nat,bZ I er= .D n->n<=mid+m->bZ I ee= .D (mid+m-n:Nat))->W6 (Nz B er ee dz) I=some (0,[.A (cR false (I.w 0).L a b)]):=λlo hi r va vb er ee hlh hr h1 h2=>by obtain⟨g1,g2,g3,g4,M,M2,b1,b2,p1,t1,t2,k1,k2,p2,u1,u2,x1,x2⟩:=du3 (sec:=false) (l:=(I.w 0).L) ham hmb (by omega) s1 s2 hmid hlh hr;exact dz5 hf h6 hl w7 h8 w9 h1 (h2 r h1 (by omega)) d2 hbN g4 (by omega) (by omega) (by omega) e5 hlN oa b1 b2 p1 t1 t2 k1 k2 p2 u1 u2 x1 x2
  have hlp: ∀lo hi:Nat,(mid<m/\lo=mid+m-b/\hi=mid\/m<=mid/\lo=a/\hi=m)->Y9 (λvs=>W6 zU (I.U 2000 vs)) [.D lo,.D hi]=some (0,[.D (bs (λc=> !cI false (cg (I.w 0).L (mid+m-1-c)) (cg (I.w 0).L c)) (hi-lo) lo hi),.D (bs (λc=> !cI false (cg (I.w 0).L (mid+m-1-c)) (cg (I.w 0).L c)) (hi-lo) lo hi)]):=λlo hi hlh=>OB (T:=λc=> !cI false (cg (I.w 0).L (mid+m-1-c)) (cg (I.w 0).L c)) (va:= .D 0) (vb:= .D 0) (by omega) (λi j h1 h2 h3=>dz0 hf h7 h8 h9 h6 hl hlN oa hmid hbN ham hmb h2 (by omega) (by omega) (by omega)) (λi=>Uh i)
  have hF2: ∀(lo hi:Nat) (va vb x y:Val),nt va=lo->nt vb=hi->F 466 [va,vb,I.w 1,I.w 0,I.w 2,I.w 3,I.w 4,x,y,.D (mid+m-1:Nat)]=cx (0,[.D (bs (λc=> !cI false (cg (I.w 0).L (mid+m-1-c)) (cg (I.w 0).L c)) (hi-lo) lo hi),.D (bs (λc=> !cI false (cg (I.w 0).L (mid+m-1-c)) (cg (I.w 0).L c)) (hi-lo) lo hi)]):=λlo hi va vb x y h1 h2=>by subst h1;subst h2;rfl
  by_cases c3:mid<m
  refine Y4 (by show decide ((bZ I dz).I<(I.w 3).I)=true;grind[Y1,decide_eq_true]) ?_;have hlh:mid<m/\mid+m-b=mid+m-b/\mid=mid\/m<=mid/\mid+m-b=a/\mid=m:= .inl ⟨c3,rfl,rfl⟩;have d4:bZ I Aw= .D (mid+m-b:Nat):=by show Val.D (cq .sub .i64 (bZ I jj).I (I.w 4).I)=_;rw[d3,h9,Y1,kZ (by omega) (by omega)]
  have e466:I.f 466 [bZ I Aw,bZ I dz,I.w 1,I.w 0,I.w 2,I.w 3,I.w 4,bZ I dz,bZ I jj,bZ I qS]=cx (0,[.D (bs (λc=> !cI false (cg (I.w 0).L (mid+m-1-c)) (cg (I.w 0).L c)) (mid-(mid+m-b)) (mid+m-b) mid),.D (bs (λc=> !cI false (cg (I.w 0).L (mid+m-1-c)) (cg (I.w 0).L c)) (mid-(mid+m-b)) (mid+m-b) mid)]):=by rw[hf,d5];exact hF2 (mid+m-b) mid _ _ _ _ (by rw[d4];rfl) (by rw[d2];rfl)
  refine X7 (r:=(0,_)) ?_ e466 ?_;show Y9 _ [bZ I Aw,bZ I dz]=_;grind;refine key _ _ _ (.D 0) (.D 0) qw pw hlh rfl ?_ (λn h1 h2=> ?_);show Y3 (I.f 466 [bZ I Aw,bZ I dz,I.w 1,I.w 0,I.w 2,I.w 3,I.w 4,bZ I dz,bZ I jj,bZ I qS]).L 1 0=_;rw[e466];rfl;show Val.D (cq .sub .i64 (bZ I jj).I (bZ I qw).I)=_;rw[d3,h1,Y1,Y1,kZ h2 (by omega)]
  refine Y0 (by show decide ((bZ I dz).I<(I.w 3).I)=false;grind[Y1,decide_eq_false]) ?_;have hlh:mid<m/\a=mid+m-b/\m=mid\/m<=mid/\a=a/\m=m:= .inr ⟨by omega,rfl,rfl⟩;have e466:I.f 466 [I.w 2,I.w 3,I.w 1,I.w 0,I.w 2,I.w 3,I.w 4,bZ I dz,bZ I jj,bZ I qS]=cx (0,[.D (bs (λc=> !cI false (cg (I.w 0).L (mid+m-1-c)) (cg (I.w 0).L c)) (m-a) a m),.D (bs (λc=> !cI false (cg (I.w 0).L (mid+m-1-c)) (cg (I.w 0).L c)) (m-a) a m)]):=by grind[FL]
  refine X7 (r:=(0,_)) ?_ e466 ?_;show Y9 _ [I.w 2,I.w 3]=_;grind;refine key _ _ _ (.D 0) (.D 0) qG pJ hlh rfl ?_ (λn h1 h2=> ?_);show Y3 (I.f 466 [I.w 2,I.w 3,I.w 1,I.w 0,I.w 2,I.w 3,I.w 4,bZ I dz,bZ I jj,bZ I qS]).L 1 0=_;rw[e466];rfl;show Val.D (cq .sub .i64 (bZ I jj).I (bZ I qG).I)=_;rw[d3,h1,Y1,Y1,kZ h2 (by omega)]
def sym_vac{a b c d e:Val}(hn:(F 426 [a,b,c,d,e,.D 1]).Z=true):False:=by obtain⟨_,_,q2,q3,_,q5,_⟩:=Oa.1 (show GQ [a,b,c,d,e,.D 1]=true from hn);have q2:c.I<d.I:=q2;have q3:d.I<e.I:=q3;have q5:e.I-c.I<=1:=q5;omega
variable{l:U7}
def RK{a b c d:Nat}(ha:a<=l.length)(hd:d<=a):cB (cR false l a b) c d=cB l c d:=by unfold cB cR;rw[T9 (by rw[n8];omega),Q4,C0 hd]
theorem dz6{a b c:Nat}(h:a<=b)(hb:b<=l.length)(hc:b<=c):(cR false l a b).drop c=l.drop c:=by unfold cR;rw[<-A0,N5,O3 (by rw[k9,n8,srt_len,my hb];omega),List.nil_append,k9,n8,srt_len,my hb,N6];grind
def dT1{a b c d:Nat}(h:a<=b)(hb:b<=l.length)(hc:b<=c):cB (cR false l a b) c d=cB l c d:=by grind[cB,List.drop_take,dz6]
theorem oL(B:Nat)(l:U7): ∀k,(dM B l k).length=l.length
 |0=>rfl
 |k+1=>by rw[dM,c15 false (by omega),oL B l k]
theorem FO(B:Nat)(l:U7): ∀k,(dM B l k).Perm l
 |0=> .refl _
 |k+1=>(DZ false (by omega)).trans (FO B l k)
def IT(B:Nat)(l:U7): ∀k,Cl false (dM B l k) l
 |0=>Cl.refl _ _
 |k+1=>(PJ false (by omega)).trans (IT B l k)
theorem wB{B:Nat}{l:U7}: ∀{k c d:Nat},B*k<=l.length->B*k<=c->cB (dM B l k) c d=cB l c d
 |0,c,d,_,_=>rfl
 |k+1,c,d,hl,hc=>by rw[Nat.mul_succ]at hl hc;rw[dM,dT1 (by omega) (by grind[oL]) hc,wB (by omega) (by omega)]
def Oi{B:Nat}{l:U7}: ∀{k j:Nat},j<k->B*k<=l.length->cB (dM B l k) (B*j) (B*j+B)=srt false (cB l (B*j) (B*j+B))
 |k+1,j,hj,hl=>by
  rw[Nat.mul_succ]at hl;rw[dM];by_cases h:j=k;subst h;rw[Rf (by omega) (by grind[oL]),wB (by omega) (j6 _)]
  have hjk:j<k:=by omega
  have:B*j+B<=B*k:=by exact N1 _ hjk
  rw[RK (by rw[oL];omega) this,Oi hjk (by omega)]
def Bk(B n:Nat)(l:U7):Prop:= ∀k,Sd false (cB l (B*k) (min (B*k+B) n))
theorem Ss:Sd false []:=List.Pairwise.nil
def cJ3{n:Nat}(hl:l.length=n):Bk 20 n (cR false (dM 20 l (n/20)) (20*(n/20)) n):=by
 have hq:20*(n/20)<=n:=N2 n 20;intro k;rcases G9 k (n/20)with h|h|h
 have h1:20*k+20<=20*(n/20):=by omega
 rw[C0 (by omega),RK (by rw[oL];omega) h1,Oi h (by omega)];exact srt_sorted _ _;subst h;rw[P9 (by omega),Rf hq (by rw[oL];omega)];exact srt_sorted _ _;grind[Ra,Ss]
def cJ4{bs n:Nat}(h0:0<bs)(hl:l.length=n)(hb:Bk bs n l):Bk (2*bs) n (pass bs n l)/\Cl false (pass bs n l) l/\(pass bs n l).Perm l:=by
 have hq:2*bs*(n/(2*bs))<=n:=N2 n (2*bs);have hq2:n<2*bs*(n/(2*bs))+2*bs:=by have:=U0 n (show 0<2*bs by omega);omega
 have ev: ∀k,bs*(2*k)=2*bs*k:=λk=>by grind
 have hp:pass bs n l=if 2*bs*(n/(2*bs))+bs<n then cR false (dM (2*bs) l (n/(2*bs))) (2*bs*(n/(2*bs))) n else dM (2*bs) l (n/(2*bs)):=rfl
 generalize n/(2*bs)=q at hq hq2 hp;have hM: ∀k,k<q->Sd false (cB (dM (2*bs) l q) (2*bs*k) (min (2*bs*k+2*bs) n)):=λk hk=>by
  have:2*bs*k+2*bs<=2*bs*q:=by exact N1 _ hk
  rw[C0 (by omega),Oi hk (by omega)];exact srt_sorted _ _
 have hgt: ∀k,q<k->n<=2*bs*k:=λk hk=>by have:2*bs*(q+1)<=2*bs*k:=N1 _ hk;grind
 by_cases hc:2*bs*q+bs<n;have e:(if 2*bs*q+bs<n then cR false (dM (2*bs) l q) (2*bs*q) n else dM (2*bs) l q)=cR false (dM (2*bs) l q) (2*bs*q) n:=i6 hc;refine⟨λk=> ?_,?_,?_⟩
 rw[hp,e];rcases G9 k q with h|h|h
 have:2*bs*k+2*bs<=2*bs*q:=by exact N1 _ h
 rw[RK (by rw[oL];omega) (by rw[C0 (by omega)];exact this)];exact hM k h;subst h;rw[P9 (by omega),Rf hq (by rw[oL];omega)];exact srt_sorted _ _;grind[Ra,Ss];rw[hp,e];exact(PJ false hq).trans (IT _ _ _);rw[hp,e];exact(DZ false hq).trans (FO _ _ _);have e:(if 2*bs*q+bs<n then cR false (dM (2*bs) l q) (2*bs*q) n else dM (2*bs) l q)=dM (2*bs) l q:=b9 hc;refine⟨λk=> ?_,?_,?_⟩
 rw[hp,e];rcases G9 k q with h|h|h
 exact hM k h;subst h;rw[P9 (by omega),wB (by omega) (j6 _)];have:=hb (2*k);rw[ev,P9 (by omega)]at this;exact this;rw[Ra (by have:=hgt k h;omega)];exact Ss;rw[hp,e];exact IT _ _ _;grind[FO]
def c52{n:Nat}: ∀(f bs:Nat) (l:U7),0<bs->n<=bs*2^f->l.length=n->Bk bs n l->(nF n f bs l).2=srt false l
 |0,bs,l,h0,hn,hl,hb=>by rw[nF,srt_id];have:=hb 0;grind[cB]
 |f+1,bs,l,h0,hn,hl,hb=>by rw[nF];by_cases h:bs<n;rw[i6 h];obtain⟨p1,p2,p3⟩:=cJ4 h0 hl hb;rw[c52 f (2*bs) _ (by omega) (by grind) (by rw[p3.length_eq];exact hl) p1];exact srt_cl p2;rw[b9 h,srt_id];have:=hb 0;grind[cB]
variable{I:Opq}{l:U7}{n:Nat}
theorem Rb{x y:Nat}(h:x*y<=1000000):cq .mul .i64 (x:Int) (y:Int)=((x*y:Nat):Int):=by have:cq .mul .i64 (x:Int) (y:Int)=IntKind.i64.wrap ((x:Int)*(y:Int)):=rfl;grind[Int.natCast_mul,mQ]
def Xd{M:U7}{n va vb:Val}{N a b:Nat}(ho:M.all okK=true)(hM:M.length=N)(hn:n.I=(N:Int))(hN:N<=400)(ha:va.I=(a:Int))(hb:vb.I=(b:Int))(h1:a<=b)(h2:b<=N):(F 424 [.A M,n,va,vb]).Z=true:=by show(mi (.A M) n&&decide (0<=va.I/\va.I<=vb.I/\vb.I<=n.I))=true;grind[and2,Fd,decide_eq_true]
def Jv{B:Nat}(h:l.all okK=true)(k:Nat):(dM B l k).all okK=true:=Bz h (FO B l k)
theorem ea4(hf: ∀i a,I.f i a=F i a)(h1:(I.w 1).I=n)(h2:(I.w 2).I=n)(hl:l.length=n)(ho:l.all okK=true)(hn:n<=400):
 Y9 (λvs=>W6 ee2 (I.U 2000 vs)) [.D 0,.D 20,.A l]=some (0,[.D (20*(n/20):Nat),.D (20*(n/20)+20:Nat),.A (dM 20 l (n/20))]):=by
 refine mC (λk=>[.D (20*k:Nat),.D (20*k+20:Nat),.A (dM 20 l k)]) (n:=n/20) rfl (λk hk=> ?_) ?_
 have hk2:20*k+20<=n:=by omega
 obtain⟨aa,ae⟩: ∃aa,aa=I.U 2000 [.D (20*k:Nat),.D (20*k+20:Nat),.A (dM 20 l k)]:=⟨_,rfl⟩;have v0:aa.w 2000= .D (20*k:Nat):=by rw[ae];rfl
 have v1:aa.w 2001= .D (20*k+20:Nat):=by rw[ae];rfl
 have v2:aa.w 2002= .A (dM 20 l k):=by rw[ae];rfl
 have u1:(aa.w 1).I=n:=by rw[ae];exact h1
 have u2:(aa.w 2).I=n:=by rw[ae];exact h2
 have hf': ∀i a,aa.f i a=F i a:=by rw[ae];exact hf
 rw[<-ae];refine Y4 (by show decide ((aa.w 2001).I<=(aa.w 2).I)=true;rw[v1,u2];exact j0 (by show((20*k+20:Nat):Int)<=(n:Int);omega)) (X2 ?_ ?_);show(aa.f 424 [aa.w 2002,aa.w 1,aa.w 2000,aa.w 2001]).Z=true;rw[hf',v0,v1,v2];exact Xd (Jv ho k) (by grind[oL]) u1 hn rfl rfl (by omega) hk2;show some (0,[aa.w 2001,Val.D (cq .add .i64 (aa.w 2001).I 20),aa.f 425 [aa.w 2002,aa.w 2000,aa.w 2001]])=_;rw[hf',v0,v1,v2,wE rfl rfl,Y1,show(20:Int)=((20:Nat):Int)from rfl,sI (by omega)];rfl;refine Y0 ?_ rfl;show decide (((20*(n/20)+20:Nat):Int)<=(I.w 2).I)=false;grind
def ea5(hf: ∀i a,I.f i a=F i a){bs:Nat}(h1:(I.w 1).I=n)(h2:I.w 2= .D n)(h3:I.w 3000= .D bs)(h0:0<bs)(hl:l.length=n)(ho:l.all okK=true)(hn:n<=400)(hbs:bs<=1000)(hb:Bk bs n l):
 Y9 (λvs=>W6 Vu (I.U 4000 vs)) [.D 0,.D (2*bs:Nat),.A l]=some (0,[.D (2*bs*(n/(2*bs)):Nat),.D (2*bs*(n/(2*bs))+2*bs:Nat),.A (dM (2*bs) l (n/(2*bs)))]):=by
 have hq:2*bs*(n/(2*bs))<=n:=N2 n (2*bs);have hq2:n<2*bs*(n/(2*bs))+2*bs:=by have:=U0 n (show 0<2*bs by omega);omega
 have ev: ∀k,bs*(2*k)=2*bs*k:=λk=>by grind
 have od: ∀k,bs*(2*k+1)=2*bs*k+bs:=λk=>by grind
 generalize n/(2*bs)=q at hq hq2⊢;refine mC (λk=>[.D (2*bs*k:Nat),.D (2*bs*k+2*bs:Nat),.A (dM (2*bs) l k)]) (n:=q) (by rw[Nat.mul_zero,n9];rfl) (λk hk=> ?_) ?_
 have hk2:2*bs*k+2*bs<=n:=by have:2*bs*(k+1)<=2*bs*q:=N1 _ hk;grind
 obtain⟨aa,ae⟩: ∃aa,aa=I.U 4000 [.D (2*bs*k:Nat),.D (2*bs*k+2*bs:Nat),.A (dM (2*bs) l k)]:=⟨_,rfl⟩;have v0:aa.w 4000= .D (2*bs*k:Nat):=by rw[ae];rfl
 have v1:aa.w 4001= .D (2*bs*k+2*bs:Nat):=by rw[ae];rfl
 have v2:aa.w 4002= .A (dM (2*bs) l k):=by rw[ae];rfl
 have u1:(aa.w 1).I=n:=by rw[ae];exact h1
 have u2:aa.w 2= .D n:=by rw[ae];exact h2
 have u3:aa.w 3000= .D bs:=by rw[ae];exact h3
 have hf': ∀i a,aa.f i a=F i a:=by rw[ae];exact hf
 have a1:cq .add .i64 ((2*bs*k:Nat):Int) (bs:Int)=((2*bs*k+bs:Nat):Int):=sI (by omega);have a2:cq .mul .i64 2 (bs:Int)=((2*bs:Nat):Int):=Rb (x:=2) (by omega);have a3:cq .add .i64 ((2*bs*k+2*bs:Nat):Int) ((2*bs:Nat):Int)=((2*bs*k+2*bs+2*bs:Nat):Int):=sI (by omega);have s1:=hb (2*k);rw[ev,C0 (by omega)]at s1;have s2:=hb (2*k+1);rw[<-ae];refine Y4 (by show decide ((aa.w 4001).I<=(aa.w 2).I)=true;rw[v1,u2];exact j0 (by show((2*bs*k+2*bs:Nat):Int)<=(n:Int);omega)) (X2 ?_ ?_);show(aa.f 426 [aa.w 4002,aa.w 1,aa.w 4000,Val.D (cq .add .i64 (aa.w 4000).I (aa.w 3000).I),aa.w 4001,.D 512]).Z=true;rw[hf',v0,v1,v2,u3,Y1,Y1,a1];exact KA (Jv ho k) (by grind[oL]) u1 hn (by omega) (by omega) hk2 (by omega) (by rw[wB (by omega) (j6 _)];exact s1) (by grind[wB]);show some (0,[aa.w 4001,Val.D (cq .add .i64 (aa.w 4001).I (cq .mul .i64 2 (aa.w 3000).I)),aa.f 425 [aa.w 4002,aa.w 4000,aa.w 4001]])=_;rw[hf',v0,v1,v2,u3,wE rfl rfl,Y1,Y1,a2,a3,Nat.mul_succ];rfl;refine Y0 ?_ rfl;show decide (((2*bs*q+2*bs:Nat):Int)<=(I.w 2).I)=false;rw[h2];exact j9 (by show¬((2*bs*q+2*bs:Nat):Int)<=(n:Int);omega)
def Fp:SX:= .Q 469 [aM,.O (.ar .mul .i64) [bC,aY],bg,aO,bg,aT,aY]
def ow:SX:= zo Fp 0
def zI:SX:= zo Fp 2
def dz7:DL= .J (zs aY aT) (.loop ⟨469,[aM,.O (.ar .mul .i64) [bC,aY],bg],4000,[aO,bg,aT,aY]⟩ Vu [.J (zs (za ow aY) aT) (.N (.Q 426 [zI,aO,ow,za ow aY,aT,.C 512]) (.W 0 [.O (.ar .mul .i64) [aY,bC],.Q 425 [zI,ow,aT]])) (.W 0 [.O (.ar .mul .i64) [aY,bC],zI])]) (.W 1 [aY,bg]):=rfl
def dz8(hf: ∀i a,I.f i a=F i a){bs:Nat}(h1:(I.w 1).I=n)(h2:I.w 2= .D n)(h0:0<bs)(hlt:bs<n)(hl:l.length=n)(ho:l.all okK=true)(hn:n<=400)(hb:Bk bs n l):
 W6 DL (I.U 3000 [.D bs,.A l])=some (0,[.D (2*bs:Nat),.A (pass bs n l)]):=by
 obtain⟨aa,ae⟩: ∃aa,aa=I.U 3000 [.D bs,.A l]:=⟨_,rfl⟩;have v0:aa.w 3000= .D bs:=by rw[ae];rfl
 have v1:aa.w 3001= .A l:=by rw[ae];rfl
 have u1:(aa.w 1).I=n:=by rw[ae];exact h1
 have u2:aa.w 2= .D n:=by rw[ae];exact h2
 have hf': ∀i a,aa.f i a=F i a:=by rw[ae];exact hf
 have a2:cq .mul .i64 2 (bs:Int)=((2*bs:Nat):Int):=Rb (x:=2) (by omega);have a2':cq .mul .i64 (bs:Int) 2=((2*bs:Nat):Int):=by grind[Nat.mul_comm,Rb]
 have it:=ea5 hf' (l:=l) u1 u2 v0 h0 hl ho hn (by omega) hb;have hp:pass bs n l=if 2*bs*(n/(2*bs))+bs<n then cR false (dM (2*bs) l (n/(2*bs))) (2*bs*(n/(2*bs))) n else dM (2*bs) l (n/(2*bs)):=rfl
 have hF: ∀x y:Val,F 469 [.D 0,.D (2*bs:Nat),.A l,x,y,.D n,.D bs]=cx (0,[.D (2*bs*(n/(2*bs)):Nat),.D (2*bs*(n/(2*bs))+2*bs:Nat),.A (dM (2*bs) l (n/(2*bs)))]):=λ_ _=>rfl
 have hq:2*bs*(n/(2*bs))<=n:=N2 n (2*bs);have hq2:n<2*bs*(n/(2*bs))+2*bs:=by have:=U0 n (show 0<2*bs by omega);omega
 generalize n/(2*bs)=q at it hp hF hq hq2;have e469:bZ aa Fp=cx (0,[.D (2*bs*q:Nat),.D (2*bs*q+2*bs:Nat),.A (dM (2*bs) l q)]):=by show aa.f 469 [.D 0,.D (cq .mul .i64 2 (aa.w 3000).I),aa.w 3001,aa.w 1,aa.w 3001,aa.w 2,aa.w 3000]=_;simp_all
 have ea:bZ aa ow= .D (2*bs*q:Nat):=by show Y3 (bZ aa Fp).L 1 0=_;rw[e469];rfl
 have el:bZ aa zI= .A (dM (2*bs) l q):=by show Y3 (bZ aa Fp).L 1 2=_;rw[e469];rfl
 have eb:bZ aa (za ow aY)= .D (2*bs*q+bs:Nat):=by show Val.D (cq .add .i64 (bZ aa ow).I (aa.w 3000).I)=_;rw[ea,v0,Y1,Y1,sI (by omega)]
 rw[<-ae,dz7];refine Y4 (by show decide ((aa.w 3000).I<(aa.w 2).I)=true;simp_all) (X7 (r:=(0,[.D (2*bs*q:Nat),.D (2*bs*q+2*bs:Nat),.A (dM (2*bs) l q)])) ?_ e469 ?_);show Y9 _ [.D 0,.D (cq .mul .i64 2 (aa.w 3000).I),aa.w 3001]=_;simp_all;by_cases hc:2*bs*q+bs<n;refine Y4 (by show decide ((bZ aa (za ow aY)).I<(aa.w 2).I)=true;rw[eb,u2];exact j0 (by show((2*bs*q+bs:Nat):Int)<(n:Int);omega)) (X2 ?_ ?_);show(aa.f 426 [bZ aa zI,aa.w 1,bZ aa ow,bZ aa (za ow aY),aa.w 2,.D 512]).Z=true;rw[hf',el,ea,eb,u2];have s1:=hb (2*q);rw[<-Nat.mul_assoc,M5 bs 2,C0 (by omega)]at s1;have s2:=hb (2*q+1);exact KA (Jv ho q) (by grind[oL]) u1 hn (by omega) hc (j6 _) (by omega) (by simp_all[wB,j6]) (by grind[wB]);show some (0,[Val.D (cq .mul .i64 (aa.w 3000).I 2),aa.f 425 [bZ aa zI,bZ aa ow,aa.w 2]])=_;grind[Y1,wE];refine Y0 (by show decide ((bZ aa (za ow aY)).I<(aa.w 2).I)=false;rw[eb,u2];exact j9 (by show¬((2*bs*q+bs:Nat):Int)<(n:Int);omega)) ?_;show some (0,[Val.D (cq .mul .i64 (aa.w 3000).I 2),bZ aa zI])=_;simp_all
def ea6(hf: ∀i a,I.f i a=F i a)(h1:(I.w 1).I=n)(h2:I.w 2= .D n)(hn:n<=400): ∀(f bs:Nat) (l:U7),0<bs->n<=bs*2^f->l.length=n->l.all okK=true->Bk bs n l->
 Iter (λvs=>W6 DL (I.U 3000 vs)) [.D bs,.A l] 0 [.D (nF n f bs l).1,.A (nF n f bs l).2]:=by
 have out: ∀(bs:Nat) (l:U7),n<=bs->W6 DL (I.U 3000 [.D bs,.A l])=some (1,[.D bs,.A l]):=λbs l h=>by refine Y0 ?_ rfl;show decide ((bs:Int)<(I.w 2).I)=false;simp_all
 intro f;induction f with
 |zero=>
  intro bs l h0 hb hl ho hbk;exact .out (out bs l (by omega))
 |succ f ih=>
  intro bs l h0 hb hl ho hbk;rw[nF];by_cases h:bs<n;rw[i6 h];obtain⟨p1,p2,p3⟩:=cJ4 h0 hl hbk;exact .more (dz8 hf h1 h2 h0 h hl ho hn hbk) (ih (2*bs) _ (by omega) (by grind) (by rw[p3.length_eq];exact hl) (Bz ho p3) p1);rw[b9 h];exact .out (out bs l (by omega))
def t_stab(hf: ∀i a,I.f i a=F i a)(hn:(F 428 [I.w 0,I.w 1,I.w 2]).Z=true):W6 YU I=some (0,[F 425 [I.w 0,.D 0,I.w 2]]):=by
 obtain⟨ho,hd⟩:=W4 (show(mi (I.w 0) (I.w 1)&&(uN (I.w 2)&&decide ((I.w 2).I=(I.w 1).I)))=true from hn);obtain⟨i2,hd⟩:=W4 hd;obtain⟨e0,oa,h1,hl⟩:=GT ho;have q1:=j7 hd;generalize hL:(I.w 0).L=l at e0 oa h1 hl;obtain⟨n,hnn⟩: ∃n,l.length=n:=⟨_,rfl⟩;rw[hnn]at h1 hl;have w2:I.w 2= .D n:=(Ny i2).trans (congrArg Val.D (q1.trans h1));have h2:(I.w 2).I=n:=q1.trans h1;have hq:=N2 n 20;have e467:bZ I GA=cx (0,[.D (20*(n/20):Nat),.D (20*(n/20)+20:Nat),.A (dM 20 l (n/20))]):=by show I.f 467 [.D 0,.D 20,I.w 0,I.w 1,I.w 0,I.w 2]=_;rw[hf,e0,w2];rfl
 have d1:bZ I Eg= .A (dM 20 l (n/20)):=by show Y3 (bZ I GA).L 1 2=_;rw[e467];rfl
 have d2:bZ I Gh= .D (20*(n/20):Nat):=by show Y3 (bZ I GA).L 1 0=_;rw[e467];rfl
 have d3:bZ I ta= .A (cR false (dM 20 l (n/20)) (20*(n/20)) n):=by show I.f 425 [bZ I Eg,bZ I Gh,I.w 2]=_;rw[hf,d1,d2,w2,wE rfl rfl]
 have bk:=cJ3 hnn;have pm:(cR false (dM 20 l (n/20)) (20*(n/20)) n).Perm l:=(DZ false hq).trans (FO _ _ _);have cl:Cl false (cR false (dM 20 l (n/20)) (20*(n/20)) n) l:=(PJ false hq).trans (IT _ _ _);have bl:=oL 20 l (n/20);have ba:=Jv (B:=20) oa (n/20);generalize cR false (dM 20 l (n/20)) (20*(n/20)) n=L at d3 bk pm cl;have hres:=c52 9 20 L (by omega) (by omega) (by rw[pm.length_eq];exact hnn) bk;rw[srt_cl cl]at hres;have e468:I.f 468 [.D 20,bZ I ta,I.w 1,bZ I ta,I.w 2]=cx (0,[.D (nF n 9 20 L).1,.A (nF n 9 20 L).2]):=by rw[hf,d3,w2];rfl
 have hF:F 425 [I.w 0,.D 0,I.w 2]= .A (srt false l):=by rw[e0,w2,show Val.D 0= .D ((0:Nat):Int)from rfl,wE rfl rfl,<-hnn,c19]
 rw[hF];refine X7 (r:=(0,[.D (20*(n/20):Nat),.D (20*(n/20)+20:Nat),.A (dM 20 l (n/20))])) ?_ e467 (X2 ?_ ?_);show Y9 _ [.D 0,.D 20,I.w 0]=_;grind[ea4];show(I.f 424 [bZ I Eg,I.w 1,bZ I Gh,I.w 2]).Z=true;rw[hf,d1,d2];exact Xd ba (bl.trans hnn) h1 hl rfl h2 hq (j6 _);refine X7 (r:=(0,[.D (nF n 9 20 L).1,.A (nF n 9 20 L).2])) ?_ e468 ?_;show Y9 _ [.D 20,bZ I ta]=_;rw[d3,qV];exact ea6 hf h1 w2 hl 9 20 L (by omega) (by omega) (by rw[pm.length_eq];exact hnn) (Bz oa pm) bk;show some (0,[Y3 (I.f 468 [.D 20,bZ I ta,I.w 1,bZ I ta,I.w 2]).L 1 1])=_;rw[e468,hres];rfl
variable{I:Opq}
def t_cmpR:W6 MS I=some (0,[F 206 [I.w 0,I.w 1,I.w 2,I.w 7,I.w 8,I.w 9]]):=by show W6 MS I=some (0,[Val.D (yT ⟨(I.w 0).toS,(I.w 1).I,(I.w 2).I⟩ ⟨(I.w 7).toS,(I.w 8).I,(I.w 9).I⟩)]);simp[MS,Mq,tp,sZ,IE,W6,X4,bZ,dB,cD,wh,vB,oK,a95,a27,ab7,show∀a b,nZ .lss a b=kI a b fromλ_ _=>rfl,show∀a b,nZ .gtr a b=kI b a fromλ_ _=>rfl,yT,decide_eq_true_eq,Y1];grind
def f431{v:Val}(h:(F 431 [v]).Z=true):v= .A v.L/\v.L.all okK=true:=by obtain⟨h1,h2⟩:=W4 (show(isL v&&v.L.all okK)=true from h);grind[isL_at]
def t_sstab(hf: ∀i a,I.f i a=F i a)(hn:(I.w 0).L.length<=400)(h:(F 431 [I.w 0]).Z=true):W6 XT I=some (0,[F 425 [I.w 0,.D 0,.D (I.w 0).L.length]]):=by obtain⟨e,ho⟩:=f431 h;refine X2 ?_ ?_;show(I.f 428 [I.w 0,.D (I.w 0).L.length,.D (I.w 0).L.length]).Z=true;rw[hf];refine and2 ?_ (and2 rfl (j0 rfl));rw[e];exact Fd ho rfl rfl hn;show some (0,[I.f 425 [I.w 0,.D 0,.D (I.w 0).L.length]])=_;rw[hf]
def d66(v:Val):F 425 [v,.D 0,.D v.L.length]= .A (srt false v.L):=by show Val.A (cR false v.L 0 (nt (.D v.L.length)))=_;grind[nt,ea1,c19]
def t_aggSort(hf: ∀i a,I.f i a=F i a)(hn:(I.w 0).L.length<=400)(h:(F 431 [I.w 0]).Z=true):W6 YL I=some (0,[F 490 [I.w 0]]):=by
 have e1:bZ I (.Q 425 [aN,aM,zl 0])= .A (srt false (I.w 0).L):=by show I.f 425 [I.w 0,.D 0,.D (I.w 0).L.length]=_;rw[hf,d66]
 refine X2 ?_ (X2 ?_ ?_);show(decide (((I.w 0).L.length:Int)<=400)&&(I.f 431 [I.w 0]).Z)=true;grind;show decide (((I.w 0).L.length:Int)=((bZ I (.Q 425 [aN,aM,zl 0])).L.length:Int))=true;rw[e1];exact j0 (by show((I.w 0).L.length:Int)=((srt false (I.w 0).L).length:Int);rw[srt_len]);show some (0,[bZ I (.Q 425 [aN,aM,zl 0])])=_;rw[e1];rfl
def t_cloneR(hf: ∀i a,I.f i a=F i a)(hn:(I.w 0).L.length<=400)(h:(F 431 [I.w 0]).Z=true):W6 Np I=some (0,[I.w 0]):=by
 obtain⟨e,ho⟩:=f431 h;have hb:decide (((I.w 0).L.length:Int)<=1000000)=true:=j0 (by omega);by_cases h0:0<(I.w 0).L.length;have h1:decide ((0:Int)<((I.w 0).L.length:Int))=true:=j0 (by omega);simp[Np,Jx,W6,X4,bZ,dB,cD,h1,hb,h0,a95,a27,a59,show(I.w 0).L.length<=1000000 by omega]
 have h2:(I.w 0).L=[]:=C3.1 (by omega);have h3:I.w 0= .A []:=by rw[e,h2]
 simp[Np,Jx,W6,X4,bZ,dB,cD,h3,a95,a27,a59]
end Go.Ev.S7
namespace Go.Ev
open Go
end Go.Ev
namespace Go.Ev.S7
open Go Go.Ev
def map_norm{l:U7}(h:l.all okK=true):l.map X8=l:=by
 have: ∀x∈l,X8 x=id x:=λx hx=>okK_at (l5.1 h x hx)
 rw[A1 this,G6]
end Go.Ev.S7
namespace Go.Ev
open Go
def eg8:VT:= .J (zs aR (zl 0)) (.N (zp aR) (.N (zs aR (zl 1)) (.J (cY (zn (zn (.O (.scmp .eql) [zg 0 2001 0,zg 1 2001 0]) (zn (cG (zg 0 2001 1) (zg 1 2001 1)) (cG (zg 0 2001 2) (zg 1 2001 2)))) (zn (.O .beq [zg 0 2001 3,zg 1 2001 3]) (zn (cG (zg 0 2001 4) (zg 1 2001 4)) (zn (cG (zg 0 2001 5) (zg 1 2001 5)) (zn (cG (zg 0 2001 6) (zg 1 2001 6)) (cG (zg 0 2001 7) (zg 1 2001 7)))))))) (.W 2 [.cb false,aR]) (.W 0 [aV,zi aR])))) (.W 1 [aV,aR])
def KM:SX:= zs aT bF
def sf:SX:= zs aO bE
def tc:SX:= dO aO bE
def JV:SX:= dO aT bF
def QB:VT:= .J (.O (.scmp .lss) [aN,bi]) (.J (KM) (.J (sf) (.W 0 [.C (-1)]) (.J (tc) (.W 0 [.C (-1)]) (.W 0 [.C (-1)]))) (.J (JV) (.J (sf) (.W 0 [.C (-1)]) (.J (tc) (.W 0 [.C (-1)]) (.W 0 [.C (-1)]))) (.J (sf) (.W 0 [.C (-1)]) (.J (tc) (.W 0 [.C (-1)]) (.W 0 [.C (-1)]))))) (.J (.O (.scmp .gtr) [aN,bi]) (.J (KM) (.J (sf) (.W 0 [aZ]) (.J (tc) (.W 0 [aZ]) (.W 0 [aZ]))) (.J (JV) (.J (sf) (.W 0 [aZ]) (.J (tc) (.W 0 [aZ]) (.W 0 [aZ]))) (.J (sf) (.W 0 [aZ]) (.J (tc) (.W 0 [aZ]) (.W 0 [aZ]))))) (.J (KM) (.J (sf) (.W 0 [.C (-1)]) (.J (tc) (.W 0 [.C (-1)]) (.W 0 [.C (-1)]))) (.J (JV) (.J (sf) (.W 0 [aZ]) (.J (tc) (.W 0 [aZ]) (.W 0 [aZ]))) (.J (sf) (.W 0 [.C (-1)]) (.J (tc) (.W 0 [aZ]) (.W 0 [aM]))))))
def sY:VT:= .J (zs aV (zl 0)) (.N (zp aV) (.J (zs (.O (.mfind [.str,.int .i64,.int .i64]) [aR,zu 0 2000]) (zl 2001)) (.W 2 [aV,aR]) (.J (zn (ze (zg 0 2000 3) 0) (zn (ze (zg 0 2000 4) 0) (zn (ze (zg 0 2000 5) 0) (ze (zg 0 2000 6) 0)))) (.W 2 [aV,aR]) (.J (zt (zg 0 2000 3) 0) (.J (fW (zg 0 2000 5) (zg 0 2000 6)) (.J (zt (zg 0 2000 3) 1) (.W 0 [zi aV,.O .J [zs (.O (.mfind [.str,.int .i64,.int .i64]) [aR,zu 0 2000]) (zl 2001),.O .lset [aR,.O (.mfind [.str,.int .i64,.int .i64]) [aR,zu 0 2000],zv 0 2000],zc aR (.O .row [zv 0 2000])]]) (.J (cY (zn (ze (zg 0 2000 3) 1) (zn (cG (zg 0 2000 4) (zg 0 2000 4)) (zn (cG (zg 0 2000 5) (zg 0 2000 4)) (cG (zg 0 2000 6) (zg 0 2000 4)))))) (.W 2 [aV,aR]) (.W 0 [zi aV,.O .J [zs (.O (.mfind [.str,.int .i64,.int .i64]) [aR,zu 0 2000]) (zl 2001),.O .lset [aR,.O (.mfind [.str,.int .i64,.int .i64]) [aR,zu 0 2000],zv 0 2000],zc aR (.O .row [zv 0 2000])]]))) (.W 2 [aV,aR])) (.W 2 [aV,aR]))))) (.W 1 [aV,aR])
def qJ:VT:= .J (zs aV (zl 1)) (.N (zp aV) (.J (zs (.O (.mfind [.str,.int .i64,.int .i64]) [aR,zu 1 2000]) (zl 2001)) (.W 2 [aV,aR]) (.J (zn (ze (zg 1 2000 3) 0) (zn (ze (zg 1 2000 4) 0) (zn (ze (zg 1 2000 5) 0) (ze (zg 1 2000 6) 0)))) (.W 2 [aV,aR]) (.J (zt (zg 1 2000 3) 0) (.J (fW (zg 1 2000 5) (zg 1 2000 6)) (.J (zt (zg 1 2000 3) 1) (.W 0 [zi aV,.O .J [zs (.O (.mfind [.str,.int .i64,.int .i64]) [aR,zu 1 2000]) (zl 2001),.O .lset [aR,.O (.mfind [.str,.int .i64,.int .i64]) [aR,zu 1 2000],zv 1 2000],zc aR (.O .row [zv 1 2000])]]) (.J (cY (zn (ze (zg 1 2000 3) 1) (zn (cG (zg 1 2000 4) (zg 1 2000 4)) (zn (cG (zg 1 2000 5) (zg 1 2000 4)) (cG (zg 1 2000 6) (zg 1 2000 4)))))) (.W 2 [aV,aR]) (.W 0 [zi aV,.O .J [zs (.O (.mfind [.str,.int .i64,.int .i64]) [aR,zu 1 2000]) (zl 2001),.O .lset [aR,.O (.mfind [.str,.int .i64,.int .i64]) [aR,zu 1 2000],zv 1 2000],zc aR (.O .row [zv 1 2000])]]))) (.W 2 [aV,aR])) (.W 2 [aV,aR]))))) (.W 1 [aV,aR])
def uJ:SX:= zo (.Q 140 [aM,ck,ck,aM,zl 0,aN,zl 0]) 1
def EE:SX:= zo (.Q 140 [aM,ck,ck,aM,zl 1,aO,zl 1]) 1
def yq:VT:= .J (zs aR (zl 0)) (.N (zp aR) (.J (cY (zs (.O (.mfind [.str,.int .i64,.int .i64]) [zo (.Q 140 [aM,ck,ck,aM,zl 1,aO,zl 1]) 1,zu 0 2001]) (zL (zo (.Q 140 [aM,ck,ck,aM,zl 1,aO,zl 1]) 1)))) (.N (zn (cG aV (zl 2002)) (zb (zL (zc aW (.O .row [.O .row [zg 0 2001 0,zg 0 2001 1,zg 0 2001 2,.cb true,aM,aM,aM,aM]]))) 1000000)) (.W 0 [zL (zc aW (.O .row [.O .row [zg 0 2001 0,zg 0 2001 1,zg 0 2001 2,.cb true,aM,aM,aM,aM]])),zi aR,zc aW (.O .row [.O .row [zg 0 2001 0,zg 0 2001 1,zg 0 2001 2,.cb true,aM,aM,aM,aM]])])) (.W 0 [aV,zi aR,aW]))) (.W 1 [aV,aR,aW])
def Ef:SX:= .Q 141 [zL ck,aM,ck,aM,zl 1,aO,uJ,EE,aM,zl 0,aN,zl 0]
def qH:SX:= zo Ef 2
def Dk:VT:= .J (zs aR (zl 1)) (.N (zp aR) (.J (cY (zs (.O (.mfind [.str,.int .i64,.int .i64]) [zo (.Q 140 [aM,ck,ck,aM,zl 0,aN,zl 0]) 1,zu 1 2001]) (zL (zo (.Q 140 [aM,ck,ck,aM,zl 0,aN,zl 0]) 1)))) (.N (zn (cG aV (zl 2002)) (zb (zL (zc aW (.O .row [.O .row [zg 1 2001 0,zg 1 2001 1,zg 1 2001 2,.cb false,zg 1 2001 3,zg 1 2001 4,zg 1 2001 5,zg 1 2001 6]]))) 1000000)) (.W 0 [zL (zc aW (.O .row [.O .row [zg 1 2001 0,zg 1 2001 1,zg 1 2001 2,.cb false,zg 1 2001 3,zg 1 2001 4,zg 1 2001 5,zg 1 2001 6]])),zi aR,zc aW (.O .row [.O .row [zg 1 2001 0,zg 1 2001 1,zg 1 2001 2,.cb false,zg 1 2001 3,zg 1 2001 4,zg 1 2001 5,zg 1 2001 6]])])) (.J (cY (zn (cG (.O .J [zs (.O (.mfind [.str,.int .i64,.int .i64]) [zo (.Q 140 [aM,ck,ck,aM,zl 0,aN,zl 0]) 1,zu 1 2001]) (zL (zo (.Q 140 [aM,ck,ck,aM,zl 0,aN,zl 0]) 1)),cr (zo (.Q 140 [aM,ck,ck,aM,zl 0,aN,zl 0]) 1) (.O (.mfind [.str,.int .i64,.int .i64]) [zo (.Q 140 [aM,ck,ck,aM,zl 0,aN,zl 0]) 1,zu 1 2001]) 3,aM]) (zg 1 2001 3)) (zn (cG (.O .J [zs (.O (.mfind [.str,.int .i64,.int .i64]) [zo (.Q 140 [aM,ck,ck,aM,zl 0,aN,zl 0]) 1,zu 1 2001]) (zL (zo (.Q 140 [aM,ck,ck,aM,zl 0,aN,zl 0]) 1)),cr (zo (.Q 140 [aM,ck,ck,aM,zl 0,aN,zl 0]) 1) (.O (.mfind [.str,.int .i64,.int .i64]) [zo (.Q 140 [aM,ck,ck,aM,zl 0,aN,zl 0]) 1,zu 1 2001]) 4,aM]) (zg 1 2001 4)) (zn (cG (.O .J [zs (.O (.mfind [.str,.int .i64,.int .i64]) [zo (.Q 140 [aM,ck,ck,aM,zl 0,aN,zl 0]) 1,zu 1 2001]) (zL (zo (.Q 140 [aM,ck,ck,aM,zl 0,aN,zl 0]) 1)),cr (zo (.Q 140 [aM,ck,ck,aM,zl 0,aN,zl 0]) 1) (.O (.mfind [.str,.int .i64,.int .i64]) [zo (.Q 140 [aM,ck,ck,aM,zl 0,aN,zl 0]) 1,zu 1 2001]) 5,aM]) (zg 1 2001 5)) (cG (.O .J [zs (.O (.mfind [.str,.int .i64,.int .i64]) [zo (.Q 140 [aM,ck,ck,aM,zl 0,aN,zl 0]) 1,zu 1 2001]) (zL (zo (.Q 140 [aM,ck,ck,aM,zl 0,aN,zl 0]) 1)),cr (zo (.Q 140 [aM,ck,ck,aM,zl 0,aN,zl 0]) 1) (.O (.mfind [.str,.int .i64,.int .i64]) [zo (.Q 140 [aM,ck,ck,aM,zl 0,aN,zl 0]) 1,zu 1 2001]) 6,aM]) (zg 1 2001 6)))))) (.N (zn (cG aV (zl 2002)) (zb (zL (zc aW (.O .row [.O .row [zg 1 2001 0,zg 1 2001 1,zg 1 2001 2,.cb false,zg 1 2001 3,zg 1 2001 4,zg 1 2001 5,zg 1 2001 6]]))) 1000000)) (.W 0 [zL (zc aW (.O .row [.O .row [zg 1 2001 0,zg 1 2001 1,zg 1 2001 2,.cb false,zg 1 2001 3,zg 1 2001 4,zg 1 2001 5,zg 1 2001 6]])),zi aR,zc aW (.O .row [.O .row [zg 1 2001 0,zg 1 2001 1,zg 1 2001 2,.cb false,zg 1 2001 3,zg 1 2001 4,zg 1 2001 5,zg 1 2001 6]])])) (.W 0 [aV,zi aR,aW])))) (.W 1 [aV,aR,aW])
def If:SX:= .Q 142 [zL qH,aM,qH,uJ,aM,zl 1,aO,zl 1]
def DC:SX:= zo If 0
def tW:SX:= zo If 2
def QD:VT:= .loop ⟨140,[aM,ck],2000,[ck,aM,zl 0,aN,zl 0]⟩ sY [.loop ⟨140,[aM,ck],2000,[ck,aM,zl 1,aO,zl 1]⟩ qJ [.loop ⟨141,[zL ck,aM,ck],2000,[aM,zl 1,aO,uJ,EE,aM,zl 0,aN,zl 0]⟩ yq [.N (cG (zo Ef 0) (zL qH)) (.loop ⟨142,[zL qH,aM,qH],2000,[uJ,aM,zl 1,aO,zl 1]⟩ Dk [.N (zn (cG DC (zL tW)) (zb (zL tW) 1000000)) (.N (cG DC (zL (.Q 211 [tW]))) (.W 0 [aM,.Q 211 [tW]]))])],.W 0 [bC,ck]],.loop ⟨140,[aM,ck],2000,[ck,aM,zl 1,aO,zl 1]⟩ qJ [.W 0 [bC,ck],.W 0 [bC,ck]]]
def QU:VT:= .J (ew (zl 0) (zl 1)) (.W 0 [.cb false]) (.loop ⟨131,[.cb false,aM],2000,[aM,zl 0,aN,aM,zl 1,aO,zl 0]⟩ eg8 [.W 0 [.cb true],.W 0 [zo (.Q 131 [.cb false,aM,aM,zl 0,aN,aM,zl 1,aO,zl 0]) 0]])
def sT:SX:= zo (.Q 140 [aM,ck,ck,aM,zl 0,aN,zl 0]) 1
def vq:SX:= zu 1 2001
def kX:SX:= .O (.mfind [.str,.int .i64,.int .i64]) [bD,vq]
def bX:SX:= .O .J [zs kX (zl 2003),bD,zc bD (.O .row [.O .row [zg 1 2001 0,zg 1 2001 1,zg 1 2001 2,aM]])]
def CS:SX:= zn (ze (zg 1 2001 4) 0) (zn (ze (zg 1 2001 5) 0) (zn (ze (zg 1 2001 6) 0) (ze (zg 1 2001 7) 0)))
def nX:SX:= .O .J [zs kX (zl 2003),cr bD kX 3,aM]
def sX:SX:= .O .lset [bX,kX,.O .row [cr bX kX 0,cr bX kX 1,cr bX kX 2,zi nX]]
def RB:VT:= .W 2 [aR,aR,aW,sX]
def Bs:SX:= .O (.mfind [.str,.int .i64,.int .i64]) [sX,vq]
def cX:SX:= .O .J [zs Bs (zL sX),cr sX Bs 3,aM]
def hX:SX:= zs (.O (.mfind [.str,.int .i64,.int .i64]) [aW,vq]) (zl 2002)
def RG:VT:= .W 0 [aV,zi aR,aW,sX]
def TD:VT:= .J (zg 1 2001 3) (.J (cY hX) RB RG) RG
def TC:VT:= .J (zt cX 1) RB TD
def TB:VT:= .J (cY (.O .beq [zg 1 2001 3,CS])) RB TC
def xB:VT:= .J (zs aR (zl 1)) (.N (zp aR) (.N (zn (zp kX) (zs kX (zL bX))) (.J CS TB (.J (zt (zg 1 2001 4) 0) (.J (fW (zg 1 2001 6) (zg 1 2001 7)) (.J (zt (zg 1 2001 4) 1) TB (.J (zn (ze (zg 1 2001 4) 1) (zn (cG (zg 1 2001 5) (zg 1 2001 5)) (zn (cG (zg 1 2001 6) (zg 1 2001 5)) (cG (zg 1 2001 7) (zg 1 2001 5))))) TB RB)) RB) RB)))) (.W 1 [aV,aR,aW,bD])
def Oz:VT:= .loop ⟨140,[aM,ck],2000,[ck,aM,zl 0,aN,zl 0]⟩ sY [.loop ⟨221,[aM,aM,sT,ck],2000,[aM,zl 1,aO,sT,ck,zl 1]⟩ xB [.W 0 [.cb true],.W 0 [cY (fT (zo (.Q 221 [aM,aM,sT,ck,aM,zl 1,aO,sT,ck,zl 1]) 0) aM)]],.W 0 [.cb false]]
def ny:SX:= zo (.Q 140 [aM,ck,ck,aM,zl 0,aN,zl 0]) 1
def FA:VT:= .J (zs aV (zl 1)) (.N (zp aV) (.J (zg 1 2000 3) (.W 0 [zi aV,.O (.mdel [.str,.int .i64,.int .i64]) [.O .J [zs (.O (.mfind [.str,.int .i64,.int .i64]) [aR,zu 1 2000]) (zl 2001),.O .lset [aR,.O (.mfind [.str,.int .i64,.int .i64]) [aR,zu 1 2000],.O .row [zg 1 2000 0,zg 1 2000 1,zg 1 2000 2,zg 1 2000 4,zg 1 2000 5,zg 1 2000 6,zg 1 2000 7]],zc aR (.O .row [.O .row [zg 1 2000 0,zg 1 2000 1,zg 1 2000 2,zg 1 2000 4,zg 1 2000 5,zg 1 2000 6,zg 1 2000 7]])],zu 1 2000]]) (.W 0 [zi aV,.O .J [zs (.O (.mfind [.str,.int .i64,.int .i64]) [aR,zu 1 2000]) (zl 2001),.O .lset [aR,.O (.mfind [.str,.int .i64,.int .i64]) [aR,zu 1 2000],.O .row [zg 1 2000 0,zg 1 2000 1,zg 1 2000 2,zg 1 2000 4,zg 1 2000 5,zg 1 2000 6,zg 1 2000 7]],zc aR (.O .row [.O .row [zg 1 2000 0,zg 1 2000 1,zg 1 2000 2,zg 1 2000 4,zg 1 2000 5,zg 1 2000 6,zg 1 2000 7]])]]))) (.W 1 [aV,aR])
def gj:SX:= zo (.Q 223 [aM,ny,ny,aM,zl 1,aO,zl 1]) 1
def BV:VT:= .N (zn (cG aV (zl 2001)) (zb (zL (zc aR (.O .row [.O .row [cr (zo (.Q 223 [aM,zo (.Q 140 [aM,ck,ck,aM,zl 0,aN,zl 0]) 1,zo (.Q 140 [aM,ck,ck,aM,zl 0,aN,zl 0]) 1,aM,zl 1,aO,zl 1]) 1) aW 0,cr (zo (.Q 223 [aM,zo (.Q 140 [aM,ck,ck,aM,zl 0,aN,zl 0]) 1,zo (.Q 140 [aM,ck,ck,aM,zl 0,aN,zl 0]) 1,aM,zl 1,aO,zl 1]) 1) aW 1,cr (zo (.Q 223 [aM,zo (.Q 140 [aM,ck,ck,aM,zl 0,aN,zl 0]) 1,zo (.Q 140 [aM,ck,ck,aM,zl 0,aN,zl 0]) 1,aM,zl 1,aO,zl 1]) 1) aW 2,cr (zo (.Q 223 [aM,zo (.Q 140 [aM,ck,ck,aM,zl 0,aN,zl 0]) 1,zo (.Q 140 [aM,ck,ck,aM,zl 0,aN,zl 0]) 1,aM,zl 1,aO,zl 1]) 1) aW 3,cr (zo (.Q 223 [aM,zo (.Q 140 [aM,ck,ck,aM,zl 0,aN,zl 0]) 1,zo (.Q 140 [aM,ck,ck,aM,zl 0,aN,zl 0]) 1,aM,zl 1,aO,zl 1]) 1) aW 4,cr (zo (.Q 223 [aM,zo (.Q 140 [aM,ck,ck,aM,zl 0,aN,zl 0]) 1,zo (.Q 140 [aM,ck,ck,aM,zl 0,aN,zl 0]) 1,aM,zl 1,aO,zl 1]) 1) aW 5,cr (zo (.Q 223 [aM,zo (.Q 140 [aM,ck,ck,aM,zl 0,aN,zl 0]) 1,zo (.Q 140 [aM,ck,ck,aM,zl 0,aN,zl 0]) 1,aM,zl 1,aO,zl 1]) 1) aW 6]]))) 1000000)) (.W 0 [zL (zc aR (.O .row [.O .row [cr (zo (.Q 223 [aM,zo (.Q 140 [aM,ck,ck,aM,zl 0,aN,zl 0]) 1,zo (.Q 140 [aM,ck,ck,aM,zl 0,aN,zl 0]) 1,aM,zl 1,aO,zl 1]) 1) aW 0,cr (zo (.Q 223 [aM,zo (.Q 140 [aM,ck,ck,aM,zl 0,aN,zl 0]) 1,zo (.Q 140 [aM,ck,ck,aM,zl 0,aN,zl 0]) 1,aM,zl 1,aO,zl 1]) 1) aW 1,cr (zo (.Q 223 [aM,zo (.Q 140 [aM,ck,ck,aM,zl 0,aN,zl 0]) 1,zo (.Q 140 [aM,ck,ck,aM,zl 0,aN,zl 0]) 1,aM,zl 1,aO,zl 1]) 1) aW 2,cr (zo (.Q 223 [aM,zo (.Q 140 [aM,ck,ck,aM,zl 0,aN,zl 0]) 1,zo (.Q 140 [aM,ck,ck,aM,zl 0,aN,zl 0]) 1,aM,zl 1,aO,zl 1]) 1) aW 3,cr (zo (.Q 223 [aM,zo (.Q 140 [aM,ck,ck,aM,zl 0,aN,zl 0]) 1,zo (.Q 140 [aM,ck,ck,aM,zl 0,aN,zl 0]) 1,aM,zl 1,aO,zl 1]) 1) aW 4,cr (zo (.Q 223 [aM,zo (.Q 140 [aM,ck,ck,aM,zl 0,aN,zl 0]) 1,zo (.Q 140 [aM,ck,ck,aM,zl 0,aN,zl 0]) 1,aM,zl 1,aO,zl 1]) 1) aW 5,cr (zo (.Q 223 [aM,zo (.Q 140 [aM,ck,ck,aM,zl 0,aN,zl 0]) 1,zo (.Q 140 [aM,ck,ck,aM,zl 0,aN,zl 0]) 1,aM,zl 1,aO,zl 1]) 1) aW 6]])),zc aR (.O .row [.O .row [cr (zo (.Q 223 [aM,zo (.Q 140 [aM,ck,ck,aM,zl 0,aN,zl 0]) 1,zo (.Q 140 [aM,ck,ck,aM,zl 0,aN,zl 0]) 1,aM,zl 1,aO,zl 1]) 1) aW 0,cr (zo (.Q 223 [aM,zo (.Q 140 [aM,ck,ck,aM,zl 0,aN,zl 0]) 1,zo (.Q 140 [aM,ck,ck,aM,zl 0,aN,zl 0]) 1,aM,zl 1,aO,zl 1]) 1) aW 1,cr (zo (.Q 223 [aM,zo (.Q 140 [aM,ck,ck,aM,zl 0,aN,zl 0]) 1,zo (.Q 140 [aM,ck,ck,aM,zl 0,aN,zl 0]) 1,aM,zl 1,aO,zl 1]) 1) aW 2,cr (zo (.Q 223 [aM,zo (.Q 140 [aM,ck,ck,aM,zl 0,aN,zl 0]) 1,zo (.Q 140 [aM,ck,ck,aM,zl 0,aN,zl 0]) 1,aM,zl 1,aO,zl 1]) 1) aW 3,cr (zo (.Q 223 [aM,zo (.Q 140 [aM,ck,ck,aM,zl 0,aN,zl 0]) 1,zo (.Q 140 [aM,ck,ck,aM,zl 0,aN,zl 0]) 1,aM,zl 1,aO,zl 1]) 1) aW 4,cr (zo (.Q 223 [aM,zo (.Q 140 [aM,ck,ck,aM,zl 0,aN,zl 0]) 1,zo (.Q 140 [aM,ck,ck,aM,zl 0,aN,zl 0]) 1,aM,zl 1,aO,zl 1]) 1) aW 5,cr (zo (.Q 223 [aM,zo (.Q 140 [aM,ck,ck,aM,zl 0,aN,zl 0]) 1,zo (.Q 140 [aM,ck,ck,aM,zl 0,aN,zl 0]) 1,aM,zl 1,aO,zl 1]) 1) aW 6]])])
def Gg:SX:= .Q 224 [zL ck,ck,gj]
def rH:SX:= zo Gg 1
def dT4:VT:= .J (zs aV (zl 1)) (.N (zp aV) (.X)) (.W 1 [aV])
def SS:VT:= .N (zn (zb (zl 0) 400) (zb (zl 1) 800)) (.J (cY (.Q 220 [aN,aO])) (.W 0 [bC,ck]) (.loop ⟨140,[aM,ck],2000,[ck,aM,zl 0,aN,zl 0]⟩ sY [.loop ⟨223,[aM,ny],2000,[ny,aM,zl 1,aO,zl 1]⟩ FA [.mloop ⟨224,[zL ck,ck],2000,[gj]⟩ (gj) BV [.N (zn (cG (zo Gg 0) (zL rH)) (zn (zn (zb (zL rH) 400) (.Q 431 [rH])) (.Q 491 [rH]))) (.W 0 [aM,.Q 490 [rH]])]],.loop ⟨223,[aM],2000,[aM,zl 1,aO,zl 1]⟩ dT4 [.X]]))
def wrap_i64{x:Int}(h:0<=x)(h2:x<=10000000):IntKind.i64.wrap x=x:=by simp only[IntKind.wrap,IntKind.bits,IntKind.signed];simp;omega
def Fm{step:U7->Option (Nat×U7)}{n:Nat}{a0:U7}{g:Nat->U7}(mk:Nat->U7->U7){s0 p:U7}(h0:s0=mk 0 a0)
 (h1: ∀i,i<n->step (mk i (a0++cw g i))=some (0,mk (i+1) (a0++cw g i++g i))) (h2:step (mk n (a0++cw g n))=some (1,p)):Y9 step s0=some (0,p):=by
 have:=kr (step:=step) (st:=λi=>mk i (a0++cw g i)) (n:=n) (j:=0) (p:=p) (λi hi=>by show step (mk i (a0++cw g i))=some (0,mk (i+1) (a0++(cw g i++g i)));rw[h1 i hi,A0]) h2;rw[h0];simpa only[cw,x5]using this
def Xj{α O:Type}(f:α->O): ∀l:List α,l.flatMap (λr=>[f r])=l.map f
 | []=>rfl
 |a::l=>by rw[A5,Xj f l];rfl
def zd(r:Val):Val.A [X1 r 0,X1 r 1,X1 r 2,X1 r 3,X1 r 4,X1 r 5,X1 r 6]=X8 r:=rfl
def mC{step:U7->Option (Nat×U7)}{n j:Nat}(st:Nat->U7){s0 p:U7}(h0:s0=st 0)(h1: ∀i,i<n->step (st i)=some (0,st (i+1)))(h2:step (st n)=some (j+1,p)):Y9 step s0=some (j,p):=by rw[h0];exact kr h1 h2
def Wt(l:U7)(i:Nat):Y3 l (i:Int) 7=X1 (cg l i) 7:=rfl
def dT5{I:Opq}:W6 QB I=some (0,[F 206 [I.w 0,I.w 1,I.w 2,I.w 8,I.w 9,I.w 10]]):=by simp only[QB,KM,sf,tc,JV,W6,X4,bZ,dB,cD,F,F0,S9.FT,S9.FV,S9.FU,S9.FQ,S9.FE,wh,vB,oK,a95,a27,ab7,show∀a b,nZ .lss a b=kI a b fromλ_ _=>rfl,show∀a b,nZ .gtr a b=kI b a fromλ_ _=>rfl,yT];by_cases h1:kI (I.w 0).toS (I.w 8).toS=true<;>by_cases h2:kI (I.w 8).toS (I.w 0).toS=true<;>by_cases c1:(I.w 2).I<(I.w 10).I<;>by_cases c2:(I.w 10).I<(I.w 2).I<;>by_cases c3:(I.w 1).I<(I.w 9).I<;>by_cases c4:(I.w 9).I<(I.w 1).I<;>simp[h1,h2,c1,c2,c3,c4]
def BZ(m:U7)(k:U7):(m.findIdx λr=>eF [.str,.int .i64,.int .i64] r (.A k))=cL m (oK k 0):=by unfold cL;congr 1;funext r;rw[A9,decide_eq_true_iff];show(decide ((k.getD 0 default).toS=(r.L.getD 0 default).toS)&&(decide ((k.getD 1 default).I=(r.L.getD 1 default).I)&&(decide ((k.getD 2 default).I=(r.L.getD 2 default).I)&&true)))=true↔_;simp only[j8,decide_eq_true_eq,and_true,W7,PaneM.mk.injEq,oK,ce,X1];constructor<;>rintro⟨h1,h2,h3⟩<;>exact⟨h1.symm,h2.symm,h3.symm⟩
def cf3{l:U7}{p:PaneM}{k:Nat}(hk:k<cL l p): ¬W7 (cg l k)=p:=by
 have h:=List.not_of_lt_findIdx hk;have hl:k<l.length:=y7 hk List.findIdx_le_length;simp only[decide_eq_false_iff_not]at h;have e:cg l k=l[k]:=by simp[cg,k5,hl]
 rw[e];simpa using h
def dT6{l:U7}{p:PaneM}(h:cL l p<l.length):W7 (cg l (cL l p))=p:=by
 have:=W2 (xs:=l) (p:=λr=>decide (W7 r=p)) (w:=h);have e:cg l (cL l p)=l[cL l p]:=by simp[cg,k5,h]
 rw[e];exact j7 this
def X7{hd:LHd}{body:VT}{ks:abd}{I:Opq}{r:Nat×U7}{out:Option (Nat×U7)}(h1:Y9 (λvs=>W6 body (I.U hd.v0 vs)) (X4 I hd.s0)=some r)(h2:I.f hd.id (X4 I (hd.s0++hd.fv))=cx r)(h3:kE ks r.1 I=out):W6 (.loop hd body ks) I=out:=by rw[W6.eq_5,h1];simp only;rw[i6 h2,h3]
def VV(l:U7)(p:PaneM):eC l p=l.any λr=>decide (W7 r=p):=by unfold eC cL;rw[A9,decide_eq_true_iff,W3,A3]
def g7(l:U7)(i:Nat):U7:=[X8 (cg l i)]
def cJ8(l:U7)(i:Nat)(p:PaneM):eC (cw (g7 l) i) p=(List.range i).any λk=>decide (W7 (cg l k)=p):=by rw[VV,mX,List.any_flatMap];congr 1;funext k;simp[g7];rfl
def c56(l:U7)(i:Nat):eC (cw (g7 l) i) (W7 (cg l i))=iA l i:=by rw[cJ8];rfl
def bC2(l:U7):cw (g7 l) l.length=l.map X8:=by rw[mX];show(List.range l.length).flatMap (λi=>[X8 (cg l i)])=_;rw[show(λi=>[X8 (cg l i)])=λi=>(λr=>[X8 r]) (l.getD i (.A []))from rfl,Dd (λr=>[X8 r]) (.A []) l];exact Xj _ _
def CP(r:Val):oK [X1 r 0,X1 r 1,X1 r 2] 0=W7 r:=rfl
def dh1{I:Opq}(hf: ∀i a,I.f i a=F i a){i:Nat}(hi:i<(I.w 0).L.length)(hn:(I.w 0).L.length<=1000000):
 W6 sY (I.U 2000 [.D i,.A (cw (g7 (I.w 0).L) i)])=some (if jZ (I.w 0).L i then(2,[.D i,.A (cw (g7 (I.w 0).L) i)])else(0,[.D (i+1:Nat),.A (cw (g7 (I.w 0).L) (i+1))])):=by
 have hi1:(i:Int)<((I.w 0).L.length:Int):=by omega
 have hi0:(0:Int)<=(i:Int):=by omega
 have hd:=c56 (I.w 0).L i;unfold eC at hd;unfold sY;simp only[W6,X4,bZ,dB,cD,cT,show(2000<=2000)=True by simp,show(2000<=2001)=True by simp,if_true,show 2000-2000=0 from rfl,show 2001-2000=1 from rfl,B7,B8,show(2000<=0)=False by simp,if_false,Y1,a71,a95,a27,a59,am2,ab7,hi1,hi0,decide_true,BZ,lU,lg,lB,oi,oI,oA,oj,CP,Aq,hd,zd,am6 (show i<=10000000 by omega),jZ];rcases E2 (iA (I.w 0).L i)with hdup|hdup
 simp[hdup]
 rcases E2 (jF (cg (I.w 0).L i))with hok|hok
 obtain⟨h1,h2⟩:=(GN _).1 hok;simp only[hdup,hok,cw,g7,n7,if_false,cond_false,C8,I8,decide_eq_true_eq,j8,s7,J2,decide_eq_false_iff_not,Q0,false_or]
 (repeat' split)<;>first|rfl|(exfalso;omega)
 have h1:=(dS6 _).1 hok;simp only[hdup,hok,cw,g7,n7,if_false,cond_false,J8,I8,if_true,decide_eq_true_eq,j8,s7,J2,decide_eq_false_iff_not,Q0,false_or]
 (repeat' split)<;>first|rfl|(exfalso;omega)
def KR{I:Opq}(hf: ∀i a,I.f i a=F i a)(hn:(I.w 0).L.length<=1000000):Y9 (λvs=>W6 sY (I.U 2000 vs)) [.D 0,.A []]=some (jV (I.w 0).L):=by
 have st: ∀i,i<(I.w 0).L.length->jZ (I.w 0).L i=false->W6 sY (I.U 2000 [.D i,.A (cw (g7 (I.w 0).L) i)])=some (0,[.D (i+1:Nat),.A (cw (g7 (I.w 0).L) (i+1))]):=λi hi hb=>by rw[dh1 hf hi hn,hb];rfl
 unfold jV;split;rename_i k hk;obtain⟨a,b,c⟩:=rS hk;exact mC (λi=>[.D i,.A (cw (g7 (I.w 0).L) i)]) (n:=k) (by simp[cw]) (λi hi=>st i (by omega) (c i hi)) (by show W6 sY (I.U 2000 [.D k,.A (cw (g7 (I.w 0).L) k)])=_;rw[dh1 hf a hn,b];rfl);rename_i hk;rw[J3]at hk;exact mC (λi=>[.D i,.A (cw (g7 (I.w 0).L) i)]) (n:=(I.w 0).L.length) (by simp[cw]) (λi hi=>st i hi (by simpa using hk i hi)) (by show W6 sY (I.U 2000 [.D (I.w 0).L.length,.A (cw (g7 (I.w 0).L) (I.w 0).L.length)])=_;simp[sY,W6.eq_2,W6.eq_4,dB,X4,bZ,cD,cT];rfl)
def dh2{I:Opq}(hf: ∀i a,I.f i a=F i a){i:Nat}(hi:i<(I.w 1).L.length)(hn:(I.w 1).L.length<=1000000):
 W6 qJ (I.U 2000 [.D i,.A (cw (g7 (I.w 1).L) i)])=some (if jZ (I.w 1).L i then(2,[.D i,.A (cw (g7 (I.w 1).L) i)])else(0,[.D (i+1:Nat),.A (cw (g7 (I.w 1).L) (i+1))])):=by
 have hi1:(i:Int)<((I.w 1).L.length:Int):=by omega
 have hi0:(0:Int)<=(i:Int):=by omega
 have hd:=c56 (I.w 1).L i;unfold eC at hd;unfold qJ;simp only[W6,X4,bZ,dB,cD,cT,show(2000<=2000)=True by simp,show(2000<=2001)=True by simp,if_true,show 2000-2000=0 from rfl,show 2001-2000=1 from rfl,B7,B8,show(2000<=1)=False by simp,if_false,Y1,a71,a95,a27,a59,am2,ab7,hi1,hi0,decide_true,BZ,lU,lg,lB,oi,oI,oA,oj,CP,Aq,hd,zd,am6 (show i<=10000000 by omega),jZ];rcases E2 (iA (I.w 1).L i)with hdup|hdup
 simp[hdup]
 rcases E2 (jF (cg (I.w 1).L i))with hok|hok
 obtain⟨h1,h2⟩:=(GN _).1 hok;simp only[hdup,hok,cw,g7,n7,if_false,cond_false,C8,I8,decide_eq_true_eq,j8,s7,J2,decide_eq_false_iff_not,Q0,false_or]
 (repeat' split)<;>first|rfl|(exfalso;omega)
 have h1:=(dS6 _).1 hok;simp only[hdup,hok,cw,g7,n7,if_false,cond_false,J8,I8,if_true,decide_eq_true_eq,j8,s7,J2,decide_eq_false_iff_not,Q0,false_or]
 (repeat' split)<;>first|rfl|(exfalso;omega)
def Xm{I:Opq}(hf: ∀i a,I.f i a=F i a)(hn:(I.w 1).L.length<=1000000):Y9 (λvs=>W6 qJ (I.U 2000 vs)) [.D 0,.A []]=some (jV (I.w 1).L):=by
 have st: ∀i,i<(I.w 1).L.length->jZ (I.w 1).L i=false->W6 qJ (I.U 2000 [.D i,.A (cw (g7 (I.w 1).L) i)])=some (0,[.D (i+1:Nat),.A (cw (g7 (I.w 1).L) (i+1))]):=λi hi hb=>by rw[dh2 hf hi hn,hb];rfl
 unfold jV;split;rename_i k hk;obtain⟨a,b,c⟩:=rS hk;exact mC (λi=>[.D i,.A (cw (g7 (I.w 1).L) i)]) (n:=k) (by simp[cw]) (λi hi=>st i (by omega) (c i hi)) (by show W6 qJ (I.U 2000 [.D k,.A (cw (g7 (I.w 1).L) k)])=_;rw[dh2 hf a hn,b];rfl);rename_i hk;rw[J3]at hk;exact mC (λi=>[.D i,.A (cw (g7 (I.w 1).L) i)]) (n:=(I.w 1).L.length) (by simp[cw]) (λi hi=>st i hi (by simpa using hk i hi)) (by show W6 qJ (I.U 2000 [.D (I.w 1).L.length,.A (cw (g7 (I.w 1).L) (I.w 1).L.length)])=_;simp[qJ,W6.eq_2,W6.eq_4,dB,X4,bZ,cD,cT];rfl)
def YS(l:U7)(p:PaneM):cL (l.map X8) p=cL l p:=by unfold cL;rw[List.findIdx_map];rfl
def Qu(l:U7)(p:PaneM):eC (l.map X8) p=eC l p:=by unfold eC;rw[YS,k7]
def cJ9(l:U7):ii (l.map X8)=ii l:=by funext r;unfold ii;rw[Qu]
def d67{l:U7}{i:Nat}(h:i<l.length):cg (l.map X8) i=X8 (cg l i):=by simp[cg,k5,h]
def d68(l:U7):ip (l.map X8)=ip l:=by
 funext r;unfold ip;rw[Qu,YS];cases h:eC l (W7 r)with
 |false=>rfl
 |true=>
  rw[d67 (j7 h)];rfl
def Si(m:U7)(r:Val):(ii m r).length<=1:=by unfold ii;cases eC m (W7 r)<;>simp
def Zv(m:U7)(r:Val):(ip m r).length<=1:=by unfold ip;cases (eC m (W7 r)&&uM (cg m (cL m (W7 r))) r)<;>simp
def XS(a b c d e x g:Val):F 140 [a,b,c,d,e,x,g]=cx (jV x.L):=rfl
def LM{l:U7}(h:Y5 l=true):jV l=(0,[.D l.length,.A (l.map X8)]):=by
 unfold jV;have:(List.range l.length).find? (jZ l)=none:=by rw[J3];intro i hi;unfold Y5 at h;rw[s7,A4]at h;have:=h i (o7.2 hi);simpa using this
 rw[this];show(0,[Val.D l.length,Val.A (cw (g7 l) l.length)])=_;rw[bC2]
def UZ{l:U7}(h:Y5 l=false):(jV l).1=1:=by
 unfold jV;split;rfl
 rename_i hk;rw[J3]at hk;have h2:(List.range l.length).any (jZ l)=true:=by unfold Y5 at h;simpa using h
 rw[A3]at h2;obtain⟨i,h3,h4⟩:=h2;have:=hk i (o7.1 h3);rw[h4]at this;cases this
def dA1(r:Val):Val.A [X1 r 0,X1 r 1,X1 r 2,.B true,.D 0,.D 0,.D 0,.D 0]=sQ r:=rfl
def dT7(r:Val):Val.A [X1 r 0,X1 r 1,X1 r 2,.B false,X1 r 3,X1 r 4,X1 r 5,X1 r 6]=nm r:=rfl
def JR{l:U7}(h:Y5 l=true):Y3 (cx (jV l)).L 1 1= .A (l.map X8):=by rw[LM h];rfl
def dA2{I:Opq}(hf: ∀i a,I.f i a=F i a)(ok:Y5 (I.w 1).L=true){i:Nat}(hi:i<(I.w 0).L.length)(hn:(I.w 0).L.length<=400){acc:U7}(ha:acc.length<=1000):
 W6 yq (I.U 2000 [.D acc.length,.D i,.A acc])=some (0,[.D (acc++ii ((I.w 1).L.map X8) (cg (I.w 0).L i)).length,.D (i+1:Nat),.A (acc++ii ((I.w 1).L.map X8) (cg (I.w 0).L i))]):=by
 have hi1:(i:Int)<((I.w 0).L.length:Int):=by omega
 have hi0:(0:Int)<=(i:Int):=by omega
 have hb:((acc.length+1:Nat):Int)<=1000000:=by omega
 unfold yq;simp only[W6,X4,bZ,dB,cD,cT,show(2000<=2000)=True by simp,show(2000<=2001)=True by simp,show(2000<=2002)=True by simp,if_true,show 2000-2000=0 from rfl,show 2001-2000=1 from rfl,show 2002-2000=2 from rfl,B7,B8,show(2000<=0)=False by simp,show(2000<=1)=False by simp,if_false,Y1,a71,a95,a27,a59,am2,ab7,hi1,hi0,decide_true,mG,hf,XS,JR ok,BZ,lU,lg,lB,oi,oI,oA,oj,CP,Aq,dA1,am6 (show i<=10000000 by omega),k9,List.length_cons,List.length_nil,n9,hb,C7,ii];rcases E2 (eC ((I.w 1).L.map X8) (W7 (cg (I.w 0).L i)))with hh|hh
 have h2:=j7 hh;rw[k7]at h2;simp[hh,h2];have h2:=of_decide_eq_false hh;rw[k7]at h2;simp[hh,h2];try omega
def dA3{I:Opq}(hf: ∀i a,I.f i a=F i a)(ok:Y5 (I.w 0).L=true){i:Nat}(hi:i<(I.w 1).L.length)(hn:(I.w 1).L.length<=400){acc:U7}(ha:acc.length<=1000):
 W6 Dk (I.U 2000 [.D acc.length,.D i,.A acc])=some (0,[.D (acc++ip ((I.w 0).L.map X8) (cg (I.w 1).L i)).length,.D (i+1:Nat),.A (acc++ip ((I.w 0).L.map X8) (cg (I.w 1).L i))]):=by
 have hi1:(i:Int)<((I.w 1).L.length:Int):=by omega
 have hi0:(0:Int)<=(i:Int):=by omega
 have hb:((acc.length+1:Nat):Int)<=1000000:=by omega
 unfold Dk;simp only[W6,X4,bZ,dB,cD,cT,show(2000<=2000)=True by simp,show(2000<=2001)=True by simp,show(2000<=2002)=True by simp,if_true,show 2000-2000=0 from rfl,show 2001-2000=1 from rfl,show 2002-2000=2 from rfl,B7,B8,show(2000<=0)=False by simp,show(2000<=1)=False by simp,if_false,Y1,a71,a95,a27,a59,am2,ab7,hi1,hi0,decide_true,mG,hf,XS,JR ok,BZ,lU,lg,lB,oi,oI,oA,oj,CP,Aq,dT7,am6 (show i<=10000000 by omega),k9,List.length_cons,List.length_nil,n9,hb,C7,ip];rcases E2 (eC ((I.w 0).L.map X8) (W7 (cg (I.w 1).L i)))with hh|hh
 have h2:=j7 hh;rcases E2 (uM (cg ((I.w 0).L.map X8) (cL ((I.w 0).L.map X8) (W7 (cg (I.w 1).L i)))) (cg (I.w 1).L i))with ha'|ha'
 have h3:=j7 ha';simp only[hh,h2,ha',h3,decide_true,C8,n7,if_false,cond_true,C7,Bool.and_self,x5];rfl;have h3:=of_decide_eq_false ha';simp only[hh,h2,ha',decide_true,C8,n7,if_false,cond_true,cond_false,T1];rw[i6 (by rw[s7,<-v7];intro hcc;exact h3 (by simpa using hcc))];simp;have h2:=of_decide_eq_false hh;rw[k7]at h2;simp[hh,h2];try omega
def c59{g:Nat->U7}(hg: ∀i,(g i).length<=1)(a0:U7){i n:Nat}(hi:i<=n):(a0++cw g i).length<=a0.length+n:=by have:=rG (m:=1) hg i;rw[k9];omega
def dA4{I:Opq}(hf: ∀i a,I.f i a=F i a)(ok:Y5 (I.w 1).L=true)(hn:(I.w 0).L.length<=400){d:U7}(hd:d=mO [] (ii ((I.w 1).L.map X8)) (I.w 0).L):
 Y9 (λvs=>W6 yq (I.U 2000 vs)) [.D 0,.D 0,.A []]=some (0,[.D d.length,.D (I.w 0).L.length,.A d]):=by
 subst hd;refine Fm (λi acc=>[.D acc.length,.D i,.A acc]) (a0:=[]) (g:=λi=>ii ((I.w 1).L.map X8) (cg (I.w 0).L i)) (n:=(I.w 0).L.length) rfl (λi hi=> ?_) ?_;exact dA2 hf ok hi hn (p9 (c59 (λ_=>Si _ _) [] (T6 hi)) (by simp;omega));show W6 yq (I.U 2000 [_,_,_])=_;simp[yq,W6.eq_2,W6.eq_4,dB,X4,bZ,cD,cT,mO]
def dA5{I:Opq}(hf: ∀i a,I.f i a=F i a)(ok:Y5 (I.w 0).L=true)(hn:(I.w 1).L.length<=400){d0 d:U7}(h0:d0.length<=400)(hd:d=mO d0 (ip ((I.w 0).L.map X8)) (I.w 1).L):
 Y9 (λvs=>W6 Dk (I.U 2000 vs)) [.D d0.length,.D 0,.A d0]=some (0,[.D d.length,.D (I.w 1).L.length,.A d]):=by
 subst hd;refine Fm (λi acc=>[.D acc.length,.D i,.A acc]) (a0:=d0) (g:=λi=>ip ((I.w 0).L.map X8) (cg (I.w 1).L i)) (n:=(I.w 1).L.length) rfl (λi hi=> ?_) ?_;exact dA3 hf ok hi hn (p9 (c59 (λ_=>Zv _ _) d0 (T6 hi)) (by omega));show W6 Dk (I.U 2000 [_,_,_])=_;simp[Dk,W6.eq_2,W6.eq_4,dB,X4,bZ,cD,cT,mO]
def SY(a0:U7)(g:Val->U7)(l:U7):mO a0 g l=a0++l.flatMap g:=by unfold mO;rw[mX];congr 1;exact Dd g (.A []) l
def ML{g:Val->U7}(hg: ∀r,(g r).length<=1): ∀l:U7,(l.flatMap g).length<=l.length
 | []=>j6 _
 |a::l=>by have:=ML hg l;have:=hg a;rw[A5,k9,List.length_cons];omega
def Zz(a b:U7):(dN a b).length<=a.length+b.length:=by have h1:=ML (Si b) a;have h2:=ML (Zv a) b;unfold dN;rw[k9];omega
def PE{l:U7}(h:Y5 l=true):(l.map W7).Nodup:=by
 unfold Y5 at h;rw[s7,A4]at h;rw[List.Nodup,G4];intro i j hi hj hij;simp only[k7]at hi hj;have:=h j (o7.2 hj);rw[v7,jZ,M4]at this;have hd:=this.2;unfold iA at hd;rw[A4]at hd;have:=hd i (o7.2 hij);have e1:cg l i=l[i]:=by simp[cg,k5,hi]
 have e2:cg l j=l[j]:=by simp[cg,k5,hj]
 rw[v7,Kb,decide_eq_false_iff_not,e1,e2]at this;simpa using this
def FG{g:Val->U7}(hg: ∀r,g r=[]\/ ∃x,g r=[x]/\W7 x=W7 r): ∀l:U7,((l.flatMap g).map W7).Sublist (l.map W7)
 | []=> .refl _
 |a::l=>by
  rw[A5,s6,m8];rcases hg a with h|⟨x,h,hp⟩
  rw[h];exact(FG hg l).cons _;rw[h,m8,hp];exact(FG hg l).cons_cons _
def bQ2(b:U7)(r:Val):ii b r=[]\/ ∃x,ii b r=[x]/\W7 x=W7 r:=by
 unfold ii;cases eC b (W7 r)with
 |true=>exact .inl rfl
 |false=>exact .inr ⟨_,rfl,rfl⟩
def be0(a:U7)(r:Val):ip a r=[]\/ ∃x,ip a r=[x]/\W7 x=W7 r:=by
 unfold ip;cases (eC a (W7 r)&&uM (cg a (cL a (W7 r))) r)with
 |true=>exact .inl rfl
 |false=>exact .inr ⟨_,rfl,rfl⟩
def b66{a b:U7}(ha:Y5 a=true)(hb:Y5 b=true):((dN a b).map W7).Nodup:=by
 unfold dN;rw[s6,J0];refine⟨(FG (bQ2 b) a).nodup (PE ha),(FG (be0 a) b).nodup (PE hb),?_⟩;intro p hp q hq;rw[k6]at hp;obtain⟨x,hx,rfl⟩:=hp;rw[x7]at hx;obtain⟨r,hr,hx⟩:=hx;have hq2:=(FG (be0 a) b).subset hq;rw[k6]at hq2;obtain⟨y,hy,rfl⟩:=hq2;unfold ii at hx;cases hh:eC b (W7 r)with
 |true=>rw[hh]at hx;cases hx
 |false=>
  rw[hh]at hx;have hx:x=sQ r:=by simpa using hx
  intro e;rw[VV,A4]at hh;have:=hh y hy;rw[v7,decide_eq_false_iff_not]at this;exact this (e.symm.trans (by rw[hx];rfl))
def be1(a b:U7): ∀x∈dN a b,jw x=x:=by
 intro x hx;unfold dN at hx;rw[t8,x7,x7]at hx;rcases hx with⟨r,_,hx⟩|⟨r,_,hx⟩
 unfold ii at hx;cases h:eC b (W7 r)with
 |true=>rw[h]at hx;cases hx
 |false=>
  rw[h]at hx;have hx:x=sQ r:=by simpa using hx
  rw[hx];rfl
 .unfold ip at hx;cases h:(eC a (W7 r)&&uM (cg a (cL a (W7 r))) r)with
  |true=>rw[h]at hx;cases hx
  |false=>
   rw[h]at hx;have hx:x=nm r:=by simpa using hx
   rw[hx];rfl
def cf4{a b:U7}(ha:Y5 a=true)(hb:Y5 b=true):fD uQ (dN a b)=eu (dN a b):=bK9 (be1 a b) (b66 ha hb)
def eh1(a b c d e x m m1 y z v w:Val):F 141 [a,b,c,d,e,x,m,m1,y,z,v,w]=qP [] (ii m1.L) v.L:=rfl
def eh2(a b c m d e x y:Val):F 142 [a,b,c,m,d,e,x,y]=qP c.L (ip m.L) x.L:=rfl
def cK0(a0:U7)(g:Val->U7)(l:U7):Y3 (qP a0 g l).L 1 2= .A (mO a0 g l):=rfl
def cK1(a0:U7)(g:Val->U7)(l:U7):Y3 (qP a0 g l).L 1 0= .D (mO a0 g l).length:=rfl
def cf5(a b:U7):mO (mO [] (ii b) a) (ip a) b=dN a b:=by rw[SY,SY,List.nil_append];rfl
def dT8{I:Opq}(hf: ∀i a,I.f i a=F i a)(hn0:(I.w 0).L.length<=400)(hn1:(I.w 1).L.length<=400):W6 QD I=some (0,[F 209 [I.w 0,I.w 1],F 208 [I.w 0,I.w 1]]):=by
 have h209:F 209 [I.w 0,I.w 1]= .D (bif Y5 (I.w 0).L&&Y5 (I.w 1).L then 0 else 2):=rfl;have h208:F 208 [I.w 0,I.w 1]= .A (bif Y5 (I.w 0).L&&Y5 (I.w 1).L then eu (dN (I.w 0).L (I.w 1).L)else []):=rfl;rw[h209,h208];unfold QD;refine X7 (KR hf (by omega)) (by rw[hf];rfl) ?_;rcases E2 (Y5 (I.w 0).L)with k0|k0
 rw[LM k0,k0,I2];show W6 (.loop _ qJ _) I=_;refine X7 (Xm hf (by omega)) (by rw[hf];rfl) ?_;rcases E2 (Y5 (I.w 1).L)with k1|k1
 rw[LM k1,k1];show W6 (.loop _ yq _) I=_;have e0:bZ I uJ= .A ((I.w 0).L.map X8):=by show Y3 (I.f 140 _).L 1 1=_;rw[hf];exact JR k0
 have e1:bZ I EE= .A ((I.w 1).L.map X8):=by show Y3 (I.f 140 _).L 1 1=_;rw[hf];exact JR k1
 obtain⟨d,hd⟩: ∃d,d=mO [] (ii ((I.w 1).L.map X8)) (I.w 0).L:=⟨_,rfl⟩;have e2:bZ I Ef=qP [] (ii ((I.w 1).L.map X8)) (I.w 0).L:=by show I.f 141 [_,_,_,_,_,_,bZ I uJ,bZ I EE,_,_,_,_]=_;rw[hf,eh1,e1];rfl
 have e3:bZ I qH= .A d:=by show Y3 (bZ I Ef).L 1 2=_;rw[e2,cK0,hd]
 have dl:d.length<=400:=by rw[hd,SY,List.nil_append];have:=ML (Si ((I.w 1).L.map X8)) (I.w 0).L;omega
 refine X7 (dA4 hf k1 hn0 hd) (by show I.f 141 [_,_,_,_,_,_,bZ I uJ,bZ I EE,_,_,_,_]=_;rw[hf,eh1,e1,hd];rfl) ?_;show W6 (.N _ _) I=_;rw[W6.eq_3,i6 (by show decide ((Y3 (bZ I Ef).L 1 0).I=((bZ I qH).L.length:Int))=true;rw[e2,e3,cK1,hd];simp)]
 obtain⟨q,hq⟩: ∃q,q=mO d (ip ((I.w 0).L.map X8)) (I.w 1).L:=⟨_,rfl⟩;have hqd:q=dN (I.w 0).L (I.w 1).L:=by rw[hq,hd,d68,cJ9,cf5]
 have e4:bZ I If=qP d (ip ((I.w 0).L.map X8)) (I.w 1).L:=by show I.f 142 [_,_,bZ I qH,bZ I uJ,_,_,_,_]=_;rw[hf,eh2,e3,e0];rfl
 have e5:bZ I DC= .D q.length:=by show Y3 (bZ I If).L 1 0=_;rw[e4,cK1,hq]
 have e6:bZ I tW= .A q:=by show Y3 (bZ I If).L 1 2=_;rw[e4,cK0,hq]
 have ql:q.length<=800:=by have:=Zz (I.w 0).L (I.w 1).L;rw[hqd];omega
 have hs:I.f 211 [.A q]= .A (eu q):=by rw[hf];show Val.A (fD uQ q)=_;rw[hqd,cf4 k0 k1]
 refine X7 (r:=(0,[.D q.length,.D (I.w 1).L.length,.A q])) (by
  show Y9 _ [.D (bZ I qH).L.length,.D 0,bZ I qH]=_;rw[e3];exact dA5 hf k0 hn1 dl hq) (by
  show I.f 142 [_,_,bZ I qH,bZ I uJ,_,_,_,_]=_;rw[hf,eh2,e3,e0,hq];rfl) ?_
 show W6 (.N _ _) I=_;rw[W6.eq_3,i6 (by
  show(decide ((bZ I DC).I=((bZ I tW).L.length:Int))&&decide (((bZ I tW).L.length:Int)<=1000000))=true;rw[e5,e6,j8];exact⟨j0 rfl,j0 (by show(q.length:Int)<=1000000;omega)⟩),W6.eq_3,i6 (by
  show decide ((bZ I DC).I=((I.f 211 [bZ I tW]).L.length:Int))=true;rw[e5,e6,hs];have:=(In q).length_eq;rw[k7]at this;simp[this])]
 show some (0,[Val.D 0,I.f 211 [bZ I tW]])=_;rw[e6,hs,hqd];rfl;have:=UZ k1;rw[this,k1];rfl
 have:=UZ k0;rw[this,k0];show W6 (.loop _ qJ _) I=_;refine X7 (Xm hf (by omega)) (by rw[hf];rfl) ?_;rcases E2 (Y5 (I.w 1).L)with k1|k1
 rw[LM k1];rfl;rw[UZ k1];rfl
def er2{v:Val}(h:(F 433 [v]).Z=true):v= .A v.L/\v.L.all S7.okK8=true:=by obtain⟨h1,h2⟩:=W4 (show(S7.isL v&&v.L.all S7.okK8)=true from h);exact⟨S7.isL_at h1,h2⟩
def d69(a b:Val):(F 208 [a,b]).L.length<=a.L.length+b.L.length:=by
 have:F 208 [a,b]= .A (bif Y5 a.L&&Y5 b.L then eu (dN a.L b.L)else []):=rfl;rw[this];cases Y5 a.L&&Y5 b.L with
 |false=>exact s8 _
 |true=>
  show(eu _).length<=_;have:=(In (dN a.L b.L)).length_eq;rw[k7]at this;have:=Zz a.L b.L;omega
