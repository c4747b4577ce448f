import Derived.Test.YtliadehnohhngaaGreatEG1
import Derived.Test.YtliadehnohhngaaGreatEM1
import Derived.Test.YtliadehnohhngaaGreatEQ0
import Derived.Test.YtliadehnohhngaaGreatE1
set_option linter.all false
noncomputable section
namespace Go.Ev
open Go
@[simp]theorem a01(n:Int):(Val.D n).I=n:=rfl
@[simp]def aT0(n:qw):(Val.vs n).S=n:=rfl
@[simp]def a63(n:Bool):(Val.B n).Z=n:=rfl
@[simp]theorem a41(n:U0):(Val.A n).L=n:=rfl
structure ChgM where
 key:qw
 a:Int
 b:Int
 dead:Bool
 c:Int
 d:Int
 e:Int
 f:Int
 deriving DecidableEq
def pM(r:Val):ChgM:=⟨(Y5 r 0).S,(Y5 r 1).I,(Y5 r 2).I,(Y5 r 3).Z,(Y5 r 4).I,(Y5 r 5).I,(Y5 r 6).I,(Y5 r 7).I⟩
def c85(a b:Val):pM a=pM b↔((Y5 a 0).S=(Y5 b 0).S/\(Y5 a 1).I=(Y5 b 1).I/\(Y5 a 2).I=(Y5 b 2).I)/\(Y5 a 3).Z=(Y5 b 3).Z/\(Y5 a 4).I=(Y5 b 4).I/\(Y5 a 5).I=(Y5 b 5).I/\(Y5 a 6).I=(Y5 b 6).I/\(Y5 a 7).I=(Y5 b 7).I:=by grind[pM,ChgM.mk.injEq]
def Pz(v:Val):List ChgM:=v.L.map pM
def Ax(r:Val):Bool:= !(decide ((Y5 r 3).I=0)&&(decide ((Y5 r 4).I=0)&&(decide ((Y5 r 5).I=0)&&decide ((Y5 r 6).I=0))))&&(decide ((Y5 r 3).I=1)&&(decide ((Y5 r 4).I=(Y5 r 5).I)&&decide ((Y5 r 5).I=(Y5 r 6).I))||decide (1<(Y5 r 3).I)&&decide ((Y5 r 5).I<=(Y5 r 6).I))
theorem KQ(r:Val):Ax r=true↔ ¬((Y5 r 3).I=0/\(Y5 r 4).I=0/\(Y5 r 5).I=0/\(Y5 r 6).I=0)/\((Y5 r 3).I=1/\(Y5 r 4).I=(Y5 r 5).I/\(Y5 r 5).I=(Y5 r 6).I\/1<(Y5 r 3).I/\(Y5 r 5).I<=(Y5 r 6).I):=by simp[Ax,j8,s9,s8,I2,decide_eq_true_eq,decide_eq_false_iff_not];omega
def TI(r:Val):Ax r=false↔ ¬(¬((Y5 r 3).I=0/\(Y5 r 4).I=0/\(Y5 r 5).I=0/\(Y5 r 6).I=0)/\((Y5 r 3).I=1/\(Y5 r 4).I=(Y5 r 5).I/\(Y5 r 5).I=(Y5 r 6).I\/1<(Y5 r 3).I/\(Y5 r 5).I<=(Y5 r 6).I)):=by grind[KQ]
def zU(l:U0)(i k:Nat):Bool:=decide (Y2 (cg l k)=Y2 (cg l i))
def wE(l:U0)(i:Nat):Bool:=(List.range i).any (zU l i)
def lg(l:U0)(i:Nat):Bool:= !Ax (cg l i)||wE l i
def ei(l:U0):Bool:= !(List.range l.length).any (lg l)
def gM(l:U0)(p:PaneM):Nat:=l.findIdx λr=>decide (Y2 r=p)
def fB(l:U0)(p:PaneM):Bool:=decide (gM l p<l.length)
def JX(r:Val):Val:= .A [Y5 r 0,Y5 r 1,Y5 r 2,.B true,.D 0,.D 0,.D 0,.D 0]
def KT(r:Val):Val:= .A [Y5 r 0,Y5 r 1,Y5 r 2,.B false,Y5 r 3,Y5 r 4,Y5 r 5,Y5 r 6]
def fM(m:U0)(r:Val):U0:=bif fB m (Y2 r)then []else [JX r]
def Ao(a b:Val):Bool:=decide ((Y5 a 3).I=(Y5 b 3).I/\(Y5 a 4).I=(Y5 b 4).I/\(Y5 a 5).I=(Y5 b 5).I/\(Y5 a 6).I=(Y5 b 6).I)
def fV(m:U0)(r:Val):U0:=bif fB m (Y2 r)&&Ao (cg m (gM m (Y2 r))) r then []else [KT r]
def mS(a:U0)(i:Nat):PaneM:=⟨(ce a i).S,(ce a (i+1)).I,(ce a (i+2)).I⟩
def lY(a0:U0)(g:Val->U0)(l:U0):Val:=cC (0,[.D (iv a0 g l).length,.D l.length,.A (iv a0 g l)])
def tC(l:U0)(p:PaneM):Nat×U0:=bif fB l p then(1,[.B true,.D (gM l p),Y5 (cg l (gM l p)) 3,Y5 (cg l (gM l p)) 4,Y5 (cg l (gM l p)) 5,Y5 (cg l (gM l p)) 6])else(0,[.B false,.D l.length,.D 0,.D 0,.D 0,.D 0])
def tp(l:U0):Nat×U0:=match(List.range l.length).find? (lg l)with
 |some k=>(1,[.D k,.A (cw (λi=>[cO (cg l i)]) k)])
 |none=>(0,[.D l.length,.A (cw (λi=>[cO (cg l i)]) l.length)])
def lc(a b:U0):U0:=a.flatMap (fM b)++b.flatMap (fV a)
def F0(id:Nat)(a:U0):Val:=match id with
 |3=> .B (xw (NL (ce a 0)) (NL (ce a 1)))
 |206=> .D (BX (mS a 0) (mS a 3))
 |107=>Gz km (ce a 4).L (ce a 7).L
 |491=> .B (decide (((ce a 0).L.map Y2).Nodup))
 |480=>cC (0,[.D (ce a 5).L.length,.D (ce a 5).L.length,.A (S7.srt false ((ce a 5).L.map cO))])
 |481=>cC (0,[.D (S7.bubA false 0 (ce a 1).L (ce a 0).I.toNat).1,.A (S7.bubA false 0 (ce a 1).L (ce a 0).I.toNat).2])
 |130=>lY [] (λr=>[eR r]) (ce a 5).L
 |131=>Gz pM (ce a 4).L (ce a 7).L
 |133=>cC (gg (.B false) (λk=>[.B false,.D k]) (lg (ce a 4).L) (ce a 4).L.length)
 |134=>cC (gg (ce a 0) (λk=>[.B false,.D k]) (zU (ce a 4).L (ce a 5).I.toNat) (ce a 5).I.toNat)
 |135=>cC (tC (ce a 8).L (mS a 9))
 |136=>cC (0,[.D (ce a 5).L.length,.D (ce a 5).L.length,.A (jM (ce a 5).L)])
 |137=>cC (0,[.D (oK (ce a 1).L (ce a 0).I.toNat).1,.A (oK (ce a 1).L (ce a 0).I.toNat).2])
 |140=>cC (tp (ce a 5).L)
 |141=>lY [] (fM (ce a 7).L) (ce a 10).L
 |142=>lY (ce a 2).L (fV (ce a 3).L) (ce a 6).L
 |143=>lY [] (fM (ce a 8).L) (ce a 5).L
 |144=>lY (ce a 2).L (fV (ce a 5).L) (ce a 8).L
 |200=> .A ((ce a 0).L.map eR)
 |201=> .B (xw (Pz (ce a 0)) (Pz (ce a 1)))
 |202=> .B (ei (ce a 0).L)
 |203=> .A [.A ((tC (ce a 0).L (mS a 1)).2.drop 2)]
 |204=> .B (fB (ce a 0).L (mS a 1))
 |205=> .B (fX (mS a 0) (mS a 3))
 |207=> .A (jM (ce a 0).L)
 |208=> .A (bif ei (ce a 0).L&&ei (ce a 1).L then jM (lc (ce a 0).L (ce a 1).L)else [])
 |209=> .D (bif ei (ce a 0).L&&ei (ce a 1).L then 0 else 2)
 |211=> .A (gn vw (ce a 0).L)
 |i=>S7.GX i a
def F:Nat->U0->Val:=S9.FT (S9.FU F0)
def jV(x:Val)(l:U0):ce (x::l) 0=x:=rfl
def jN(x:Val)(l:U0)(n:Nat):ce (x::l) (n+1)=ce l n:=rfl
def Ff(a b:Nat):decide ((a:Int)<(b:Int))=decide (a<b):=by simp
theorem fh(I:Opq)(v0:Nat)(l:U0):(I.U v0 l).f=I.f:=rfl
theorem Y8(I:Opq)(v0:Nat)(l:U0)(n:Nat):(I.U v0 l).w n=if v0<=n then l.getD (n-v0) (.B false)else I.w n:=rfl
@[simp]def aa3{i:Nat}(h:i<=10000000):cr .add .i64 (i:Int) 1=((i+1:Nat):Int):=cf8 h
@[simp]def a29(a b:Int):js .lss a b=decide (a<b):=rfl
@[simp]def a37(a b:Int):js .leq a b=decide (a<=b):=rfl
@[simp]def a85(a b:Int):js .gtr a b=decide (b<a):=rfl
@[simp]def d05(a b:Int):js .geq a b=decide (b<=a):=rfl
@[simp]def aa0(a b:Int):js .eql a b=decide (a=b):=rfl
@[simp]def c54(a b:Int):js .neq a b= !decide (a=b):=rfl
@[simp]def d06(a b:qw):lC .eql a b=decide (a=b):=rfl
@[simp]def c55(a b:qw):lC .neq a b= !decide (a=b):=rfl
theorem cJ1{α:Type} [DecidableEq α](m:Val->α)(l r:U0)(h:l.length=r.length):((List.range l.length).any λi=> !decide (m (cg l i)=m (cg r i)))= !decide (l.map m=r.map m):=c25 m (.A []) l r h
theorem XP{α:Type} [DecidableEq α](m:Val->α)(l r:U0)(h:l.length=r.length)(px:Nat->U0)(x:Val):gg x px (λi=> !decide (m (cg l i)=m (cg r i))) l.length=if l.map m=r.map m then(0,[x,.D l.length])else(1,px (((List.range l.length).find? (λi=> !decide (m (cg l i)=m (cg r i)))).getD 0)):=by grind[JP,cJ1]
def Po{α:Type} [DecidableEq α](m:Val->α)(l r:U0)(h:l.length=r.length):Gz m l r=cC (if l.map m=r.map m then(0,[.B false,.D l.length])else(1,[.B false,.D (((List.range l.length).find? (λi=> !decide (m (cg l i)=m (cg r i)))).getD 0)])):=by grind[Gz,XP]
def de2{α:Type}(m:Val->α){l r:U0}(h:l.length≠r.length): ¬l.map m=r.map m:=λe=>h (by simpa using congrArg List.length e)
def Vu(a b:Val):km a=km b↔((Y5 a 0).S=(Y5 b 0).S/\(Y5 a 1).I=(Y5 b 1).I/\(Y5 a 2).I=(Y5 b 2).I)/\(Y5 a 3).I=(Y5 b 3).I/\(Y5 a 4).I=(Y5 b 4).I/\(Y5 a 5).I=(Y5 b 5).I/\(Y5 a 6).I=(Y5 b 6).I:=by grind[km,RowM.mk.injEq]
def bG8(a b:Val):Y2 a=Y2 b↔(Y5 a 0).S=(Y5 b 0).S/\(Y5 a 1).I=(Y5 b 1).I/\(Y5 a 2).I=(Y5 b 2).I:=by grind[Y2,PaneM.mk.injEq]
def gq(l:U0)(i:Nat):ck l (i:Int) 0=Y5 (cg l i) 0:=rfl
def gp(l:U0)(i:Nat):ck l (i:Int) 1=Y5 (cg l i) 1:=rfl
def gj(l:U0)(i:Nat):ck l (i:Int) 2=Y5 (cg l i) 2:=rfl
def ix(l:U0)(i:Nat):ck l (i:Int) 3=Y5 (cg l i) 3:=rfl
def iu(l:U0)(i:Nat):ck l (i:Int) 4=Y5 (cg l i) 4:=rfl
def iq(l:U0)(i:Nat):ck l (i:Int) 5=Y5 (cg l i) 5:=rfl
def io(l:U0)(i:Nat):ck l (i:Int) 6=Y5 (cg l i) 6:=rfl
end Go.Ev
namespace Go.Ev.S7
open Go Go.Ev
variable{I:Opq}{r:Option (Nat×U0)}
theorem nL{x:Int}(h: -9223372036854775808<=x)(h2:x<9223372036854775808):IntKind.i64.wrap x=x:=by grind[IntKind.wrap,IntKind.bits,IntKind.signed]
theorem gN{x y:Int}(h: -9223372036854775808<=x+y)(h2:x+y<9223372036854775808):cr .add .i64 x y=x+y:=nL h h2
theorem lN{x y:Int}(h: -9223372036854775808<=x-y)(h2:x-y<9223372036854775808):cr .sub .i64 x y=x-y:=nL h h2
def W6{e:SX}{x:VT}(h:dB I e=true)(h2:W5 x I=r):W5 (.N e x) I=r:=by rw[W5.eq_3,c9 h,h2]
def cD{e:SX}{x y:VT}(h:dB I e=true)(h2:W5 x I=r):W5 (.J e x y) I=r:=by rw[W5.eq_2,c9 h,h2]
def Y9{e:SX}{x y:VT}(h:dB I e=false)(h2:W5 y I=r):W5 (.J e x y) I=r:=by simp_all[W5.eq_2,b9]
theorem and2{a b:Bool}(h:a=true)(h2:b=true):(a&&b)=true:=by grind
def em0{K k:Nat}(h:K=k+1)(h2:K<=10000000):cr .sub .i64 (K:Int) 1=(k:Int):=by grind[lN]
def Y3{hd:LHd}{body:VT}{ks:abg}{r:Nat×U0}{out:Option (Nat×U0)}(h1:cQ (λvs=>W5 body (I.U hd.v0 vs)) (Y6 I hd.s0)=some r)(h2:I.f hd.id (Y6 I (hd.s0++hd.fv))=cC r)(h3:iP ks r.1 I=out):W5 (.loop hd body ks) I=out:=by simp_all[W5.eq_5,c9]
def wJ(r:Val):Val.A [Y5 r 0,Y5 r 1,Y5 r 2,Y5 r 3,Y5 r 4,Y5 r 5,Y5 r 6]=cO r:=rfl
def mE{step:U0->Option (Nat×U0)}{n j:Nat}(st:Nat->U0){s0 p:U0}(h0:s0=st 0)(h1: ∀i,i<n->step (st i)=some (0,st (i+1)))(h2:step (st n)=some (j+1,p)):cQ step s0=some (j,p):=by rw[h0];exact fD h1 h2
variable{l M:U0}{x:Nat}
def uw{y:Nat}(h:x+y<=1000000):cr .add .i64 (x:Int) (y:Int)=((x+y:Nat):Int):=by grind[gN]
theorem mX{y:Nat}(h:y<=x)(h2:x<=1000000):cr .sub .i64 (x:Int) (y:Int)=((x-y:Nat):Int):=by grind[lN]
theorem Gm(h:1<=x)(h2:x<=1000000):cr .sub .i64 (x:Int) 1=((x-1:Nat):Int):=by grind[lN]
theorem xd(h2:x<=1000000):cr .add .i64 (x:Int) 1=((x+1:Nat):Int):=by grind[gN]
def rV{v:Val}(h:0<=v.I):v.I=(nt v:Int):=by grind[nt]
theorem ee3(n:Nat):nt (.D n)=n:=rfl
def MY(h:l.all okK=true){k:Nat}(hk:k<l.length):cO (cg l k)=cg l k:=okK_at (k9.1 h _ (Hj hk))
def yT{q:U0}{f:Val->Bool}(h:l.all f=true)(hp:q.Perm l):q.all f=true:=k9.2 λv hv=>k9.1 h v (hp.mem_iff.1 hv)
def Iu{i j:Nat}(h:l.all okK=true)(hi:i<l.length)(hj:j<l.length):(jm l i j).all okK=true:=by rw[k9]at h⊢;intro v hv;unfold jm at hv;grind[List.mem_or_eq_of_mem_set,Hj]
def Pf(h:l.all okK=true){i j:Nat}(hi:i<l.length)(hj:j<l.length):(l.set i (cO (cg l j))).set j (cO (cg l i))=jm l i j:=by rw[MY h hi,MY h hj];rfl
def Dr{l:U0}{a b:Nat}(h:l.all okK=true): ∀n,a+n<=l.length->b+n<=l.length->(lj l a b n).all okK=true
 |0,_,_=>h
 |n+1,h1,h2=>Iu (Dr h n (by omega) (by omega)) (by rw[xh];omega) (by rw[xh];omega)
def dx2{I:Opq}{a b n N i:Nat}(h7:(I.w 2).I=a)(h8:(I.w 3).I=b)(h9:(I.w 4).I=n)(h6:(I.w 1).I=N)(hi:i<n)(h1:a+n<=b)(h2:b+n<=N)(hN:N<=400)(hM:M.length=N)(ho:M.all okK=true):
 W5 MH (I.U 2000 [.D i,.A M])=some (0,[.D (i+1:Nat),.A (jm M (a+i) (b+i))]):=by
 have e1:=uw (x:=a) (y:=i) (by omega);have e2:=uw (x:=b) (y:=i) (by omega);have e3:=xd (x:=i) (by omega);have p1:(i:Int)<n:=by omega
 have p2:(0:Int)<=((b+i:Nat):Int):=by omega
 have p3:((b+i:Nat):Int)<N:=by omega
 have p4:(0:Int)<=((a+i:Nat):Int):=by omega
 have p5:((a+i:Nat):Int)<N:=by omega
 rw[<-Pf ho (by omega) (by omega)];unfold MH;simp only[W5,Y6,bZ,dB,cB,Y8,Nat.reduceLeDiff,Nat.reduceSub,if_true,if_false,y9,A0,a01,a41,a63,h7,h8,h9,h6,e1,e2,e3,a29,a37,p1,p2,p3,p4,p5,decide_true,A4,hM,C1,gq,gp,gj,ix,iu,iq,io,wJ,Int.toNat_natCast]
def t_swapR{I:Opq}(hf: ∀i a,I.f i a=F i a)(hn:(F 420 [I.w 0,I.w 1,I.w 2,I.w 3,I.w 4]).Z=true):W5 cA8 I=some (0,[F 421 [I.w 0,I.w 2,I.w 3,I.w 4]]):=by
 obtain⟨ho,hd⟩:=W7 (show(mC (I.w 0) (I.w 1)&&decide (0<=(I.w 2).I/\0<=(I.w 4).I/\(I.w 2).I+(I.w 4).I<=(I.w 3).I/\(I.w 3).I+(I.w 4).I<=(I.w 1).I))=true from hn);obtain⟨e5,oa,h6,hl⟩:=GR ho;obtain⟨q1,q2,q3,q4⟩:=j6 hd;have h7:=rV q1;have h9:=rV q2;have h8:=rV (show 0<=(I.w 3).I by omega);have hF2: ∀a c d:Val,F 452 [a,I.w 0,c,d,I.w 2,I.w 3,I.w 4]=cC (0,[.D (nt (I.w 4)),.A (lj (I.w 0).L (nt (I.w 2)) (nt (I.w 3)) (nt (I.w 4)))]):=λ_ _ _=>rfl
 refine Y3 (r:=(0,[.D (nt (I.w 4)),.A (lj (I.w 0).L (nt (I.w 2)) (nt (I.w 3)) (nt (I.w 4)))])) ?_ ?_ ?_;refine mE (λi=>[.D i,.A (lj (I.w 0).L (nt (I.w 2)) (nt (I.w 3)) i)]) (n:=nt (I.w 4)) (by rw[show Y6 I [aM,aN]=[.D 0,I.w 0]from rfl,e5];rfl) (λi hi=> ?_) ?_;exact dx2 h7 h8 h9 h6 hi (by omega) (by omega) hl (xh ..) (Dr oa i (by omega) (by omega))
 unfold MH;have p1: ¬((nt (I.w 4):Nat):Int)<(I.w 4).I:=by omega
 simp[W5,Y6,bZ,dB,cB,Y8,Nat.reduceLeDiff,Nat.reduceSub,if_true,if_false,y9,A0,a01,a41,a63,a29,p1,decide_false,n9];show I.f 452 [.D 0,I.w 0,I.w 1,I.w 0,I.w 2,I.w 3,I.w 4]=_;grind;show some (0,[ck (I.f 452 [.D 0,I.w 0,I.w 1,I.w 0,I.w 2,I.w 3,I.w 4]).L 1 1])=_;rw[hf,hF2];rfl
def RN(m N:Nat): ∀(n i j:Nat) (M:U0),0<i->0<j->i<=m->m+j<=N->M.length=N->M.all okK=true->(kW m n i j M).2.all okK=true/\(kW m n i j M).2.length=N
 |0,i,j,M,_,_,_,_,hM,ho=>⟨ho,hM⟩
 |n+1,i,j,M,hi,hj,him,hjN,hM,ho=>by unfold kW;by_cases h1:i=j;grind;rw[b9 h1];by_cases h2:j<i;rw[c9 h2];exact RN m N n (i-j) j _ (by omega) hj (by omega) hjN (by grind[xh]) (Dr ho j (by omega) (by omega));rw[b9 h2];exact RN m N n i (j-i) _ hi (by omega) him (by omega) (by grind[xh]) (Dr ho i (by omega) (by omega))
theorem IC{n:Val}{N:Nat}(ho:l.all okK=true)(hl:l.length=N)(hn:n.I=(N:Int))(hN:N<=400):mC (.A l) n=true:=
 and2 rfl (and2 ho (and2 (i6 (by simp_all)) (i6 (by simp_all))))
theorem Gl{v:Val}{n:Nat}(h:v.I=(n:Int)):nt v=n:=by grind[nt]
def TY{n va vb vk:Val}{N a b k:Nat}(ho:M.all okK=true)(hM:M.length=N)(hn:n.I=(N:Int))(hN:N<=400)(ha:va.I=(a:Int))(hb:vb.I=(b:Int))(hk:vk.I=(k:Int))(h1:a+k<=b)(h2:b+k<=N):(F 420 [.A M,n,va,vb,vk]).Z=true:=by show(mC (.A M) n&&decide (0<=va.I/\0<=vk.I/\va.I+vk.I<=vb.I/\vb.I+vk.I<=n.I))=true;grind[and2,IC,decide_eq_true]
theorem VH{va vb vk:Val}{a b k:Nat}(ha:va.I=(a:Int))(hb:vb.I=(b:Int))(hk:vk.I=(k:Int)):F 421 [.A M,va,vb,vk]= .A (lj M a b k):=by show Val.A (lj M (nt va) (nt vb) (nt vk))=_;grind[Gl]
def we:SX:= zm aV aU
def HN:SX:= zm (za aV aR) aU
def WX:UR= .J (cX aU aR) (.J (dF aU aR) (.N (.Q 420 [aW,aO,we,aV,aR]) (.W 0 [zm aU aR,aR,.Q 421 [aW,we,aV,aR]])) (.N (.Q 420 [aW,aO,we,HN,aU]) (.W 0 [aU,zm aR aU,.Q 421 [aW,we,HN,aU]]))) (.W 1 [aU,aR,aW]):=rfl
def Sk{I:Opq}(hf: ∀i a,I.f i a=F i a){m N:Nat}(h8:(I.w 3).I=m)(h6:(I.w 1).I=N)(hN:N<=400): ∀(n i j:Nat) (M:U0),i+j<=n+1->0<i->0<j->i<=m->m+j<=N->M.length=N->M.all okK=true->
 Iter (λvs=>W5 UR (I.U 2000 vs)) [.D i,.D j,.A M] 0 [.D (kW m n i j M).1,.D (kW m n i j M).1,.A (kW m n i j M).2]
 |0,i,j,M,hn,hi,hj,him,hjN,hM,ho=>by omega
 |n+1,i,j,M,hn,hi,hj,him,hjN,hM,ho=>by
  obtain⟨aa,ae⟩: ∃aa,aa=I.U 2000 [.D i,.D j,.A M]:=⟨_,rfl⟩;have v0:aa.w 2000= .D i:=by rw[ae];rfl
  have v1:aa.w 2001= .D j:=by rw[ae];rfl
  have v2:aa.w 2002= .A M:=by rw[ae];rfl
  have u8:(aa.w 3).I=m:=by rw[ae];exact h8
  have u6:(aa.w 1).I=N:=by rw[ae];exact h6
  have hf': ∀i a,aa.f i a=F i a:=by rw[ae];exact hf
  have a1:bZ aa we= .D (m-i:Nat):=by show Val.D (cr .sub .i64 (aa.w 3).I (aa.w 2000).I)=_;grind[a01,mX]
  have a2:bZ aa HN= .D (m+j-i:Nat):=by show Val.D (cr .sub .i64 (cr .add .i64 (aa.w 3).I (aa.w 2001).I) (aa.w 2000).I)=_;rw[u8,v0,v1,a01,a01,uw (by omega),mX (by omega) (by omega)]
  unfold kW;by_cases h1:i=j;refine .out ?_;rw[<-ae,WX];refine Y9 (by show(!decide ((aa.w 2000).I=(aa.w 2001).I))=false;rw[v0,v1,a01,a01,h1,i6 rfl];rfl) ?_;show some (1,[aa.w 2000,aa.w 2001,aa.w 2002])=_;grind
  rw[b9 h1];have c1:dB aa (cX aU aR)=true:=by show(!decide ((aa.w 2000).I=(aa.w 2001).I))=true;grind[a01,decide_eq_false]
  by_cases h2:j<i;rw[c9 h2];refine .more (vs':=[.D (i-j:Nat),.D j,.A (lj M (m-i) m j)]) ?_ (Sk hf h8 h6 hN n (i-j) j _ (by omega) (by omega) hj (by omega) hjN (by grind[xh]) (Dr ho j (by omega) (by omega)));rw[<-ae,WX];refine cD c1 (cD (by show decide ((aa.w 2001).I<(aa.w 2000).I)=true;simp_all) (W6 ?_ ?_));show(aa.f 420 [aa.w 2002,aa.w 1,bZ aa we,aa.w 3,aa.w 2001]).Z=true;rw[hf',v2,a1,v1];exact TY ho hM u6 hN rfl u8 rfl (by omega) (by omega);show some (0,[Val.D (cr .sub .i64 (aa.w 2000).I (aa.w 2001).I),aa.w 2001,aa.f 421 [aa.w 2002,bZ aa we,aa.w 3,aa.w 2001]])=_;grind[a01,mX,VH];rw[b9 h2];refine .more (vs':=[.D i,.D (j-i:Nat),.A (lj M (m-i) (m+j-i) i)]) ?_ (Sk hf h8 h6 hN n i (j-i) _ (by omega) hi (by omega) him (by omega) (by grind[xh]) (Dr ho i (by omega) (by omega)));rw[<-ae,WX];refine cD c1 (Y9 (by show decide ((aa.w 2001).I<(aa.w 2000).I)=false;simp_all) (W6 ?_ ?_));show(aa.f 420 [aa.w 2002,aa.w 1,bZ aa we,bZ aa HN,aa.w 2000]).Z=true;rw[hf',v2,a1,a2,v0];exact TY ho hM u6 hN rfl rfl rfl (by omega) (by omega);show some (0,[aa.w 2000,Val.D (cr .sub .i64 (aa.w 2001).I (aa.w 2000).I),aa.f 421 [aa.w 2002,bZ aa we,bZ aa HN,aa.w 2000]])=_;grind[a01,mX,VH]
def t_rotC{I:Opq}(hf: ∀i a,I.f i a=F i a)(hn:(F 422 [I.w 0,I.w 1,I.w 2,I.w 3,I.w 4]).Z=true):W5 da7 I=some (0,[F 423 [I.w 0,I.w 2,I.w 3,I.w 4]]):=by
 obtain⟨ho,hd⟩:=W7 (show(mC (I.w 0) (I.w 1)&&decide (0<=(I.w 2).I/\(I.w 2).I<(I.w 3).I/\(I.w 3).I<(I.w 4).I/\(I.w 4).I<=(I.w 1).I))=true from hn);obtain⟨e5,oa,h6,hl⟩:=GR ho;obtain⟨q1,q2,q3,q4⟩:=j6 hd;have h7:=rV q1;have h8:=rV (show 0<=(I.w 3).I by omega);have h9:=rV (show 0<=(I.w 4).I by omega);have hF:F 423 [I.w 0,I.w 2,I.w 3,I.w 4]= .A (zP (I.w 0).L (nt (I.w 2)) (nt (I.w 3)) (nt (I.w 4))):=rfl;rw[hF];generalize nt (I.w 2)=a at h7⊢;generalize hm:nt (I.w 3)=m at h8⊢;generalize nt (I.w 4)=b at h9⊢;generalize hL:(I.w 0).L=l at e5 oa h6 hl⊢;have r0:bZ I Hb= .D (m-a:Nat):=by show Val.D (cr .sub .i64 (I.w 3).I (I.w 2).I)=_;grind[mX]
 have r1:bZ I Kd= .D (b-m:Nat):=by show Val.D (cr .sub .i64 (I.w 4).I (I.w 3).I)=_;grind[mX]
 have hF2: ∀x y:Val,F 458 [.D (m-a:Nat),.D (b-m:Nat),.A l,x,y,I.w 3]=cC (0,[.D (kW (nt (I.w 3)) (m-a+(b-m)) (m-a) (b-m) l).1,.D (kW (nt (I.w 3)) (m-a+(b-m)) (m-a) (b-m) l).1,.A (kW (nt (I.w 3)) (m-a+(b-m)) (m-a) (b-m) l).2]):=λ_ _=>rfl
 rw[hm]at hF2;have sp:=Xa m (m-a+(b-m)) (m-a) (b-m) (l.take a) (cE l a m) (cE l m b) (l.drop b) (by omega) (by omega) (by omega) (nV (by omega)) (nV (by omega)) (by grind);rw[<-ep7 (l:=l) (by omega) (by omega)]at sp;have al:=RN m l.length (m-a+(b-m)) (m-a) (b-m) l (by omega) (by omega) (by omega) (by omega) rfl oa;have it:=Sk hf h8 h6 hl (m-a+(b-m)) (m-a) (b-m) l (by omega) (by omega) (by omega) (by omega) (by omega) rfl oa;generalize kW m (m-a+(b-m)) (m-a) (b-m) l=R at sp al it hF2;obtain⟨r,M⟩:=R;obtain⟨s1,s2,s3,s4,s5⟩:=sp;obtain⟨al1,al2⟩:=al;have d2:bZ I HM=cC (0,[.D r,.D r,.A M]):=by show I.f 458 [bZ I Hb,bZ I Kd,I.w 0,I.w 1,I.w 0,I.w 3]=_;grind
 have d3:bZ I HJ= .A M:=by show ck (bZ I HM).L 1 2=_;rw[d2];rfl
 have d4:bZ I BV= .D r:=by show ck (bZ I HM).L 1 0=_;rw[d2];rfl
 have d5:bZ I Gb= .D (m-r:Nat):=by show Val.D (cr .sub .i64 (I.w 3).I (bZ I BV).I)=_;grind[a01,mX]
 refine Y3 (r:=(0,[.D r,.D r,.A M])) ?_ d2 (W6 ?_ ?_);show cQ _ [bZ I Hb,bZ I Kd,I.w 0]=_;grind[kK];show(I.f 420 [bZ I HJ,I.w 1,bZ I Gb,I.w 3,bZ I BV]).Z=true;rw[hf,d3,d4,d5];exact TY al1 al2 h6 hl rfl h8 rfl (by omega) (by omega);show some (0,[I.f 421 [bZ I HJ,bZ I Gb,I.w 3,bZ I BV]])=_;rw[hf,d3,d4,d5,VH rfl h8 rfl,s5];rfl
def La(l:U0)(i j:Nat):decide ((F 206 [Y5 (cg l i) 0,Y5 (cg l i) 1,Y5 (cg l i) 2,Y5 (cg l j) 0,Y5 (cg l j) 1,Y5 (cg l j) 2]).I<0)=cU false (cg l i) (cg l j):=by rw[D6,decide_eq_true_iff];exact YC _ _
def dx4{I:Opq}(hf: ∀i a,I.f i a=F i a){a N k:Nat}(h7:(I.w 2).I=a)(h6:(I.w 1).I=N)(hN:N<=400){l:U0}(hl:l.length=N)(ho:l.all okK=true)(hk:a+k+1<N):
 W5 Cv (I.U 3000 [.D (a+k+1:Nat),.A l])=some (if cU false (cg l (a+k+1)) (cg l (a+k))then(0,[.D (a+k:Nat),.A (jm l (a+k+1) (a+k))])else(1,[.D (a+k+1:Nat),.A l])):=by
 have e1:=em0 (K:=a+k+1) (k:=a+k) rfl (by omega);have p0:(a:Int)<((a+k+1:Nat):Int):=by omega
 have p1:(0:Int)<=((a+k+1:Nat):Int):=by omega
 have p2:((a+k+1:Nat):Int)<N:=by omega
 have p3:(0:Int)<=((a+k:Nat):Int):=by omega
 have p4:((a+k:Nat):Int)<N:=by omega
 have hc:=La l (a+k+1) (a+k);rw[<-Pf ho (by omega) (by omega)];unfold Cv;simp only[W5,Y6,bZ,dB,cB,Y8,Nat.reduceLeDiff,Nat.reduceSub,if_true,if_false,y9,A0,a01,a41,a63,h7,h6,e1,a29,a37,a85,p0,p1,p2,p3,p4,decide_true,A4,hl,C1,gq,gp,gj,ix,iu,iq,io,wJ,Int.toNat_natCast,fh,hf,hc];grind
def dU0{I:Opq}(hf: ∀i a,I.f i a=F i a){a N:Nat}(h7:(I.w 2).I=a)(h6:(I.w 1).I=N)(hN:N<=400): ∀(k:Nat) (l:U0),a+k<N->l.length=N->l.all okK=true->
 Iter (λvs=>W5 Cv (I.U 3000 vs)) [.D (a+k:Nat),.A l] 0 [.D (bubA false a l k).1,.A (bubA false a l k).2]
 |0,l,hk,hl,ho=>by
  refine .out ?_;have p0: ¬(a:Int)<((a:Nat):Int):=by omega
  show W5 Cv (I.U 3000 [.D (a:Nat),.A l])=_;unfold Cv;simp only[W5,Y6,bZ,dB,cB,Y8,Nat.reduceLeDiff,Nat.reduceSub,if_true,if_false,y9,A0,a01,a41,a63,h7,a85,p0,decide_false,n9,bubA]
 |k+1,l,hk,hl,ho=>by
  have hs:=dx4 hf h7 h6 hN (k:=k) hl ho (by omega);unfold bubA;cases hc:cU false (cg l (a+k+1)) (cg l (a+k))with
  |true=>
   rw[hc,c9 rfl]at hs;rw[c9 rfl];exact .more hs (dU0 hf h7 h6 hN k _ (by omega) (by rw[ID,hl]) (Iu ho (by omega) (by omega)))
  |false=>
   rw[hc,b9 (by simp)]at hs;rw[b9 (by simp)];exact .out hs
def dx5:Qa= .J (zs aU aV) (.loop ⟨461,[aU,aR],3000,[aO,aR,aS,aV,aU]⟩ Cv [.W 0 [zi aU,zo (.Q 461 [aU,aR,aO,aR,aS,aV,aU]) 1]]) (.W 1 [aU,aR]):=rfl
def dx6{I:Opq}(hf: ∀i a,I.f i a=F i a){a N b i:Nat}(h7:(I.w 2).I=a)(h8:(I.w 3).I=b)(h6:(I.w 1).I=N)(hN:N<=400){l:U0}(hl:l.length=N)(ho:l.all okK=true)(hai:a<=i)(hib:i<b)(hb:b<=N):
 W5 Qa (I.U 2000 [.D i,.A (dv false l a i)])=some (0,[.D (i+1:Nat),.A (dv false l a (i+1))]):=by
 have hst:=d03 (sec:=false) (l:=l) hai (by omega);have hpl:=c45 false (l:=l) hai;have hpo:=yT ho (Ih false (l:=l) hai);generalize dv false l a i=M at hst hpl hpo⊢;obtain⟨aa,ae⟩: ∃aa,aa=I.U 2000 [.D i,.A M]:=⟨_,rfl⟩;have v0:aa.w 2000= .D i:=by rw[ae];rfl
 have v1:aa.w 2001= .A M:=by rw[ae];rfl
 have u6:(aa.w 1).I=N:=by rw[ae];exact h6
 have u7:(aa.w 2).I=a:=by rw[ae];exact h7
 have u8:(aa.w 3).I=b:=by rw[ae];exact h8
 have hf': ∀i a,aa.f i a=F i a:=by rw[ae];exact hf
 have lp:=dU0 hf' u7 u6 hN (i-a) M (by omega) (by omega) hpo;have hF: ∀x y z:Val,F 461 [.D i,.A M,x,y,aa.w 2,z,.D i]=cC (0,[.D (bubA false (nt (aa.w 2)) M (i-nt (aa.w 2))).1,.A (bubA false (nt (aa.w 2)) M (i-nt (aa.w 2))).2]):=λ_ _ _=>rfl
 rw[Gl u7]at hF;have e1:aa.f 461 [aa.w 2000,aa.w 2001,aa.w 1,aa.w 2001,aa.w 2,aa.w 3,aa.w 2000]=cC (0,[.D (bubA false a M (i-a)).1,.A (bubA false a M (i-a)).2]):=by grind
 rw[<-ae,dx5];refine cD (by show decide ((aa.w 2000).I<(aa.w 3).I)=true;simp_all) (Y3 (r:=(0,[.D (bubA false a M (i-a)).1,.A (bubA false a M (i-a)).2])) ?_ e1 ?_);show cQ _ [aa.w 2000,aa.w 2001]=_;grind[kK];show some (0,[Val.D (cr .add .i64 (aa.w 2000).I 1),ck (aa.f 461 [aa.w 2000,aa.w 2001,aa.w 1,aa.w 2001,aa.w 2,aa.w 3,aa.w 2000]).L 1 1])=_;rw[e1,v0,a01,xd (by omega),<-hst];rfl
def t_insC{I:Opq}(hf: ∀i a,I.f i a=F i a)(hn:(F 424 [I.w 0,I.w 1,I.w 2,I.w 3]).Z=true):W5 Zz I=some (0,[F 425 [I.w 0,I.w 2,I.w 3]]):=by
 obtain⟨ho,hd⟩:=W7 (show(mC (I.w 0) (I.w 1)&&decide (0<=(I.w 2).I/\(I.w 2).I<=(I.w 3).I/\(I.w 3).I<=(I.w 1).I))=true from hn);obtain⟨e5,oa,h6,hl⟩:=GR ho;obtain⟨q1,q2,q3⟩:=j6 hd;have h7:=rV q1;have h8:=rV (show 0<=(I.w 3).I by omega);have hF:F 425 [I.w 0,I.w 2,I.w 3]= .A (dv false (I.w 0).L (nt (I.w 2)) (nt (I.w 3))):=rfl;have hF2: ∀x y z:Val,F 460 [x,I.w 0,y,z,I.w 2,I.w 3]=cC (0,[.D (max (nt (I.w 2)+1) (nt (I.w 3)):Nat),.A (dv false (I.w 0).L (nt (I.w 2)) (nt (I.w 3)))]):=λ_ _ _=>rfl
 rw[hF];generalize nt (I.w 2)=a at h7 hF2⊢;generalize nt (I.w 3)=b at h8 hF2⊢;have r0:bZ I Dj= .D (a+1:Nat):=by show Val.D (cr .add .i64 (I.w 2).I 1)=_;grind[xd]
 have e1:I.f 460 [bZ I Dj,I.w 0,I.w 1,I.w 0,I.w 2,I.w 3]=cC (0,[.D (max (a+1) b:Nat),.A (dv false (I.w 0).L a b)]):=by grind
 refine Y3 (r:=(0,[.D (max (a+1) b:Nat),.A (dv false (I.w 0).L a b)])) ?_ e1 ?_
 show cQ _ [bZ I Dj,I.w 0]=_;rw[r0];have hout: ∀(i:Nat) (M:Val),b<=i->W5 Qa (I.U 2000 [.D i,M])=some (1,[.D i,M]):=λi M hi=>by refine Y9 ?_ rfl;show decide ((i:Int)<(I.w 3).I)=false;grind
 by_cases hab:a+1<b;refine mE (λi=>[.D (a+1+i:Nat),.A (dv false (I.w 0).L a (a+1+i))]) (n:=b-(a+1)) ?_ (λi hi=>dx6 hf h7 h8 h6 hl rfl oa (by omega) (by omega) (by omega)) ?_;rw[c47 (by omega) (by omega) (by omega),<-e5];grind;rw[S1 (by omega),c47 (by omega) (by omega) (by omega),<-e5,kK];exact .out (hout (a+1) _ (by omega));show some (0,[ck (I.f 460 [bZ I Dj,I.w 0,I.w 1,I.w 0,I.w 2,I.w 3]).L 1 1])=_;rw[e1];rfl
variable{M Y:U0}{i j:Nat}
theorem Ht(h:i+j<=1000000):IntKind.i64.wrap (cr .shr .u64 (IntKind.u64.wrap (cr .add .i64 (i:Int) (j:Int))) 1)=(((i+j)/2:Nat):Int):=by
 rw[uw h];have e1:IntKind.u64.wrap ((i+j:Nat):Int)=((i+j:Nat):Int):=by have:IntKind.u64.wrap ((i+j:Nat):Int)=((i+j:Nat):Int) % 18446744073709551616:=rfl;omega
 have e2:cr .shr .u64 ((i+j:Nat):Int) 1=(((i+j)/2:Nat):Int):=by have:cr .shr .u64 ((i+j:Nat):Int) 1=((i+j:Nat):Int).fdiv 2:=rfl;rw[this,Q3 _ (by omega)];omega
 grind[nL]
def dx7{I:Opq}(hf: ∀i a,I.f i a=F i a){a N:Nat}(h7:(I.w 2).I=a)(h6:(I.w 1).I=N)(hN:N<=400)(hl:(I.w 0).L.length=N)(ho:(I.w 0).L.all okK=true)(hij:i<j)(hj:j<=N)(ha:a<N):
 W5 Hg (I.U 2000 [.D i,.D j])=some (0,if cU false (cg (I.w 0).L ((i+j)/2)) (cg (I.w 0).L a)then [.D ((i+j)/2+1:Nat),.D j]else [.D i,.D ((i+j)/2:Nat)]):=by
 have e0:=Ht (i:=i) (j:=j) (by omega);have hlt:(i+j)/2<j:=by omega
 generalize (i+j)/2=h at e0 hlt⊢;have e1:=xd (x:=h) (by omega);have p0:(i:Int)<(j:Int):=by omega
 have p1:(0:Int)<=(h:Int):=by omega
 have p2:(h:Int)<N:=by omega
 have p3:(0:Int)<=(a:Int):=by omega
 have p4:(a:Int)<N:=by omega
 have hc:=La (I.w 0).L (h) (a);unfold Hg;simp only[W5,Y6,bZ,dB,cB,Y8,Nat.reduceLeDiff,Nat.reduceSub,if_true,if_false,y9,A0,a01,a41,a63,h7,h6,e0,e1,a29,a37,p0,p1,p2,p3,p4,decide_true,A4,hl,gq,gp,gj,fh,hf,hc];grind
def dx8{I:Opq}(hf: ∀i a,I.f i a=F i a){m N:Nat}(h8:(I.w 3).I=m)(h6:(I.w 1).I=N)(hN:N<=400)(hl:(I.w 0).L.length=N)(ho:(I.w 0).L.all okK=true)(hij:i<j)(hj:j<=N)(ha:m<N):
 W5 Gn (I.U 2000 [.D i,.D j])=some (0,if(!cU false (cg (I.w 0).L m) (cg (I.w 0).L ((i+j)/2)))=true then [.D ((i+j)/2+1:Nat),.D j]else [.D i,.D ((i+j)/2:Nat)]):=by
 have e0:=Ht (i:=i) (j:=j) (by omega);have hlt:(i+j)/2<j:=by omega
 generalize (i+j)/2=h at e0 hlt⊢;have e1:=xd (x:=h) (by omega);have p0:(i:Int)<(j:Int):=by omega
 have p1:(0:Int)<=(h:Int):=by omega
 have p2:(h:Int)<N:=by omega
 have p3:(0:Int)<=(m:Int):=by omega
 have p4:(m:Int)<N:=by omega
 have hc:=La (I.w 0).L (m) (h);unfold Gn;simp only[W5,Y6,bZ,dB,cB,Y8,Nat.reduceLeDiff,Nat.reduceSub,if_true,if_false,y9,A0,a01,a41,a63,h8,h6,e0,e1,a29,a37,p0,p1,p2,p3,p4,decide_true,A4,hl,gq,gp,gj,fh,hf,hc];grind
def dx9{I:Opq}(hf: ∀i a,I.f i a=F i a){a m b N mid:Nat}(h7:(I.w 2).I=a)(h8:(I.w 3).I=m)(h9:(I.w 4).I=b)(h6:(I.w 1).I=N)(hN:N<=400)(hl:(I.w 0).L.length=N)(ho:(I.w 0).L.all okK=true)(hmid:mid=(a+b)/2)(hb:b<=N)(ham:a<m)(hmb:m<b)
 (hij:i<j) (hj:j<=m) (hj2:j<=mid) (hi:mid+m<=b+i):
 W5 AQ (I.U 2000 [.D i,.D j])=some (0,if(!cU false (cg (I.w 0).L (mid+m-1-(i+j)/2)) (cg (I.w 0).L ((i+j)/2)))=true then [.D ((i+j)/2+1:Nat),.D j]else [.D i,.D ((i+j)/2:Nat)]):=by
 have e0:=Ht (i:=i) (j:=j) (by omega);have g0:=Ht (i:=a) (j:=b) (by omega);rw[<-hmid]at g0;have g1:=uw (x:=mid) (y:=m) (by omega);have g2:=Gm (x:=mid+m) (by omega) (by omega);have hlt:(i+j)/2<j:=by omega
 have hge:i<=(i+j)/2:=by omega
 generalize (i+j)/2=h at e0 hlt hge⊢;have g3:=mX (x:=mid+m-1) (y:=h) (by omega) (by omega);have e1:=xd (x:=h) (by omega);have hq:mid+m-1-h<N:=by omega
 generalize mid+m-1-h=q at g3 hq⊢;have p0:(i:Int)<(j:Int):=by omega
 have p1:(0:Int)<=(h:Int):=by omega
 have p2:(h:Int)<N:=by omega
 have p3:(0:Int)<=(q:Int):=by omega
 have p4:(q:Int)<N:=by omega
 have hc:=La (I.w 0).L (q) (h);unfold AQ;simp only[W5,Y6,bZ,dB,cB,Y8,Nat.reduceLeDiff,Nat.reduceSub,if_true,if_false,y9,A0,a01,a41,a63,h7,h8,h9,h6,e0,e1,g0,g1,g2,g3,a29,a37,p0,p1,p2,p3,p4,decide_true,A4,hl,gq,gp,gj,fh,hf,hc];grind
def UT{I:Opq}{x:VT}(i:Nat):W5 (.J (zs aU aR) x (.W 1 [aU,aR])) (I.U 2000 [.D i,.D i])=some (1,[.D i,.D i]):=by refine Y9 ?_ rfl;show decide ((i:Int)<(i:Int))=false;grind
def dy0{I:Opq}{N r:Nat}(h6:(I.w 1).I=N)(hN:N<=400)(hr:ck (I.f 462 [I.w 3,I.w 4,I.w 1,I.w 0,I.w 2]).L 1 0= .D r)(hM:M.length=N)(ho:M.all okK=true)(hi:i+1<r)(hrN:r<=N):
 W5 PV (I.U 3000 [.D i,.A M])=some (0,[.D (i+1:Nat),.A (jm M i (i+1))]):=by
 have e0:=Gm (x:=r) (by omega) (by omega);have e1:=xd (x:=i) (by omega);have p0:(i:Int)<((r-1:Nat):Int):=by omega
 have p1:(0:Int)<=((i+1:Nat):Int):=by omega
 have p2:((i+1:Nat):Int)<N:=by omega
 have p3:(0:Int)<=(i:Int):=by omega
 have p4:(i:Int)<N:=by omega
 rw[<-Pf ho (by omega) (by omega)];unfold PV;simp only[W5,Y6,bZ,dB,cB,Y8,Nat.reduceLeDiff,Nat.reduceSub,if_true,if_false,y9,A0,fh,hr,a01,a41,a63,h6,e0,e1,a29,a37,p0,p1,p2,p3,p4,decide_true,A4,hM,C1,gq,gp,gj,ix,iu,iq,io,wJ,Int.toNat_natCast]
theorem dy1{I:Opq}{N r:Nat}(h6:(I.w 1).I=N)(hN:N<=400)(hr:ck (I.f 464 [I.w 2,I.w 3,I.w 1,I.w 0,I.w 3]).L 1 0= .D r)(hM:M.length=N)(ho:M.all okK=true)(hi:r<i)(hiN:i<N):
 W5 NC (I.U 3000 [.D i,.A M])=some (0,[.D (i-1:Nat),.A (jm M (i-1) i)]):=by
 have e1:=Gm (x:=i) (by omega) (by omega);have p0:(r:Int)<(i:Int):=by omega
 have p1:(0:Int)<=((i-1:Nat):Int):=by omega
 have p2:((i-1:Nat):Int)<N:=by omega
 have p3:(0:Int)<=(i:Int):=by omega
 have p4:(i:Int)<N:=by omega
 rw[Rt (by omega),<-Pf ho (by omega) (by omega)];unfold NC;simp only[W5,Y6,bZ,dB,cB,Y8,Nat.reduceLeDiff,Nat.reduceSub,if_true,if_false,y9,A0,fh,hr,a01,a41,a63,h6,e1,a29,a37,a85,p0,p1,p2,p3,p4,decide_true,A4,hM,C1,gq,gp,gj,ix,iu,iq,io,wJ,Int.toNat_natCast]
def cJ6{l:U0}{a:Nat}(h:l.all okK=true): ∀n,a+n<l.length->(pi l a n).all okK=true
 |0,_=>h
 |n+1,h1=>Iu (cJ6 h n (by omega)) (by rw[On];omega) (by rw[On];omega)
theorem cJ7{l:U0}{m:Nat}(h:l.all okK=true)(hm:m<l.length): ∀n,(oq l m n).all okK=true
 |0=>h
 |n+1=>Iu (cJ7 h hm n) (by rw[Ol];omega) (by rw[Ol];omega)
def Je(B:Int)(e mid L:SX):VT:= .J (zs mid e) (.J (zs e aT) (.N (.Q 426 [L,aO,mid,e,aT,.C B]) (.W 0 [.Q 425 [L,mid,aT]])) (.W 0 [L])) (.W 0 [L])
def HY(B:Int)(r e mid L:SX):VT:= .J (zs aS r) (.J (zs r mid) (.N (.Q 426 [L,aO,aS,r,mid,.C B]) (Je B e mid (.Q 425 [L,aS,mid]))) (Je B e mid L)) (Je B e mid L)
def NO(B:Int)(r e mid:SX):VT:= .J (zs r aV) (.J (zs aV e) (.N (.Q 422 [aN,aO,r,aV,e]) (HY B r e mid (.Q 423 [aN,r,aV,e]))) (HY B r e mid aN)) (HY B r e mid aN)
def d57(B:Int):sH B= .J (ze (zm aV aS) 1) (.loop ⟨462,[aV,aT],2000,[aO,aN,aS]⟩ Hg [.loop ⟨463,[aS,aN],3000,[aO,aN,Cj]⟩ PV [.W 0 [zo (.Q 463 [aS,aN,aO,aN,Cj]) 1]]])
 (.J (ze (zm aT aV) 1) (.loop ⟨464,[aS,aV],2000,[aO,aN,aV]⟩ Gn [.loop ⟨465,[aV,aN],3000,[aO,aN,BY]⟩ NC [.W 0 [zo (.Q 465 [aV,aN,aO,aN,BY]) 1]]])
 (.J (dF aV dQ) (.loop ⟨466,[An,dQ],2000,[aO,aN,aS,aV,aT,dQ,kF,rG]⟩ AQ [NO B qW sI dQ]) (.loop ⟨466,[aS,aV],2000,[aO,aN,aS,aV,aT,dQ,kF,rG]⟩ AQ [NO B sa sc dQ]))):=rfl
theorem LA{n:Val}{N a m b:Nat}{B:Int}(ho:M.all okK=true)(hM:M.length=N)(hn:n.I=(N:Int))(hN:N<=400)(h1:a<m)(h2:m<b)(h3:b<=N)(h4:(b:Int)-a<=B)
 (s1:Sd false (cE M a m)) (s2:Sd false (cE M m b)):(F 426 [.A M,n,.D a,.D m,.D b,.D B]).Z=true:=by
 refine XI.2 ⟨IC ho hM hn hN,?_,?_,?_,?_,h4,rfl,rfl,rfl,s1,s2⟩;show(0:Int)<=(a:Int);omega;show(a:Int)<(m:Int);omega;show(m:Int)<(b:Int);omega;show(b:Int)<=n.I;omega
theorem BP{va vb:Val}{a b:Nat}(ha:va.I=(a:Int))(hb:vb.I=(b:Int)):F 425 [.A M,va,vb]= .A (dv false M a b):=by show Val.A (dv false M (nt va) (nt vb))=_;grind[Gl]
section
variable{I:Opq}{N a m b R E MID:Nat}{B:Int}{r e mid:SX}
def cJ8(hf: ∀i a,I.f i a=F i a)(h6:(I.w 1).I=N)(hN:N<=400)(h9:I.w 4= .D b)(he:bZ I e= .D E)(hmid:bZ I mid= .D MID)(hb:b<=N)(hB:(b:Int)-MID<=B){L:SX}(hL:bZ I L= .A M)(ho:M.all okK=true)(hM:M.length=N)
 (s1:Sd false (cE M MID E)) (s2:Sd false (cE M E b)) (c1:MID<E->E<b->dv false M MID b=Y) (c2: ¬(MID<E/\E<b)->M=Y):W5 (Je B e mid L) I=some (0,[.A Y]):=by
 have hret: ¬(MID<E/\E<b)->W5 (.W 0 [L]) I=some (0,[.A Y]):=λh=>by show some (0,[bZ I L])=_;grind
 by_cases h1:MID<E;refine cD (by show decide ((bZ I mid).I<(bZ I e).I)=true;simp_all) ?_;by_cases h2:E<b;refine cD (by show decide ((bZ I e).I<(I.w 4).I)=true;simp_all) (W6 ?_ ?_);show(I.f 426 [bZ I L,I.w 1,bZ I mid,bZ I e,I.w 4,.D B]).Z=true;grind[LA];show some (0,[I.f 425 [bZ I L,bZ I mid,I.w 4]])=_;rw[hf,hL,hmid,h9,BP rfl rfl,c1 h1 h2];exact Y9 (by show decide ((bZ I e).I<(I.w 4).I)=false;simp_all) (hret (by omega));exact Y9 (by show decide ((bZ I mid).I<(bZ I e).I)=false;simp_all) (hret (by omega))
def ZG(hf: ∀i a,I.f i a=F i a)(h6:(I.w 1).I=N)(hN:N<=400)(h7:I.w 2= .D a)(h9:I.w 4= .D b)(hr:bZ I r= .D R)(he:bZ I e= .D E)(hmid:bZ I mid= .D MID)(hb:b<=N)(hmb:MID<b)(hB:(b:Int)-MID<=B)(hB2:(MID:Int)-a<=B){L:SX}{M2:U0}(hL:bZ I L= .A M)(ho:M.all okK=true)(hM:M.length=N)(ho2:M2.all okK=true)(hM2:M2.length=N)
 (t1:Sd false (cE M a R)) (t2:Sd false (cE M R MID)) (d1:a<R->R<MID->dv false M a MID=M2) (d2: ¬(a<R/\R<MID)->M=M2)
 (s1:Sd false (cE M2 MID E)) (s2:Sd false (cE M2 E b)) (c1:MID<E->E<b->dv false M2 MID b=Y) (c2: ¬(MID<E/\E<b)->M2=Y):W5 (HY B r e mid L) I=some (0,[.A Y]):=by
 have hid: ¬(a<R/\R<MID)->W5 (Je B e mid L) I=some (0,[.A Y]):=λh=>by have:=d2 h;subst this;exact cJ8 hf h6 hN h9 he hmid hb hB hL ho hM s1 s2 c1 c2
 by_cases h1:a<R;refine cD (by show decide ((I.w 2).I<(bZ I r).I)=true;simp_all) ?_;by_cases h2:R<MID;refine cD (by show decide ((bZ I r).I<(bZ I mid).I)=true;simp_all) (W6 ?_ ?_);show(I.f 426 [bZ I L,I.w 1,I.w 2,bZ I r,bZ I mid,.D B]).Z=true;grind[LA];refine cJ8 hf h6 hN h9 he hmid hb hB ?_ ho2 hM2 s1 s2 c1 c2;show I.f 425 [bZ I L,I.w 2,bZ I mid]=_;rw[hf,hL,hmid,h7,BP rfl rfl,d1 h1 h2];exact Y9 (by show decide ((bZ I r).I<(bZ I mid).I)=false;simp_all) (hid (by omega));exact Y9 (by show decide ((I.w 2).I<(bZ I r).I)=false;simp_all) (hid (by omega))
def dy3{n va vm vb:Val}{a m b:Nat}(ho:M.all okK=true)(hM:M.length=N)(hn:n.I=(N:Int))(hN:N<=400)(ha:va.I=(a:Int))(hm:vm.I=(m:Int))(hb:vb.I=(b:Int))(h1:a<m)(h2:m<b)(h3:b<=N):(F 422 [.A M,n,va,vm,vb]).Z=true:=by show(mC (.A M) n&&decide (0<=va.I/\va.I<vm.I/\vm.I<vb.I/\vb.I<=n.I))=true;grind[and2,IC,decide_eq_true]
def dy4(hf: ∀i a,I.f i a=F i a)(h6:(I.w 1).I=N)(hN:N<=400)(h7:I.w 2= .D a)(h8:(I.w 3).I=m)(h9:I.w 4= .D b)(hr:bZ I r= .D R)(he:bZ I e= .D E)(hmid:bZ I mid= .D MID)(hb:b<=N)(hEb:E<=b)(hmb:MID<b)(hB:(b:Int)-MID<=B)(hB2:(MID:Int)-a<=B){l M2:U0}(h5:I.w 0= .A l)(hl:l.length=N)(hlo:l.all okK=true)
 (b1:R<m->m<E->zP l R m E=M) (b2: ¬(R<m/\m<E)->l=M) (p1:M.Perm l)
 (t1:Sd false (cE M a R)) (t2:Sd false (cE M R MID)) (d1:a<R->R<MID->dv false M a MID=M2) (d2: ¬(a<R/\R<MID)->M=M2) (p2:M2.Perm l)
 (s1:Sd false (cE M2 MID E)) (s2:Sd false (cE M2 E b)) (c1:MID<E->E<b->dv false M2 MID b=Y) (c2: ¬(MID<E/\E<b)->M2=Y):W5 (NO B r e mid) I=some (0,[.A Y]):=by
 have oM:=yT hlo p1;have lM:M.length=N:=p1.length_eq.trans hl;have oM2:=yT hlo p2;have lM2:M2.length=N:=p2.length_eq.trans hl;have hid: ¬(R<m/\m<E)->W5 (HY B r e mid aN) I=some (0,[.A Y]):=λh=>
  ZG hf h6 hN h7 h9 hr he hmid hb hmb hB hB2 (L:= aN) (by show I.w 0=_;grind) oM lM oM2 lM2 t1 t2 d1 d2 s1 s2 c1 c2
 by_cases h1:R<m;refine cD (by show decide ((bZ I r).I<(I.w 3).I)=true;simp_all) ?_;by_cases h2:m<E;refine cD (by show decide ((I.w 3).I<(bZ I e).I)=true;simp_all) (W6 ?_ ?_);show(I.f 422 [I.w 0,I.w 1,bZ I r,I.w 3,bZ I e]).Z=true;rw[hf,h5,hr,he];exact dy3 hlo hl h6 hN rfl h8 rfl h1 h2 (by omega);refine ZG hf h6 hN h7 h9 hr he hmid hb hmb hB hB2 ?_ oM lM oM2 lM2 t1 t2 d1 d2 s1 s2 c1 c2;show I.f 423 [I.w 0,bZ I r,I.w 3,bZ I e]=_;rw[hf,h5,hr,he,<-b1 h1 h2];show Val.A (zP l R (nt (I.w 3)) E)=_;rw[Gl h8];exact Y9 (by show decide ((I.w 3).I<(bZ I e).I)=false;simp_all) (hid (by omega));exact Y9 (by show decide ((bZ I r).I<(I.w 3).I)=false;simp_all) (hid (by omega))
end
def XR{T:Nat->Bool}{lo hi:Nat}{step:U0->Option (Nat×U0)}{va vb:Val}(hle:lo<=hi)(h1: ∀i j:Nat,lo<=i->i<j->j<=hi->step [.D i,.D j]=some (0,if T ((i+j)/2)=true then [.D ((i+j)/2+1:Nat),.D j]else [.D i,.D ((i+j)/2:Nat)]))(h2: ∀i:Nat,step [.D i,.D i]=some (1,[.D i,.D i])):
 cQ step [.D lo,.D hi]=some (0,[.D (bs T (hi-lo) lo hi),.D (bs T (hi-lo) lo hi)]):=by
 rw[kK];exact Vw h1 h2 (hi-lo) lo hi (j5 _) hle (j5 _) (j5 _)
def t_sym{I:Opq}{B:Int}(hf: ∀i a,I.f i a=F i a)(hn:(F 426 [I.w 0,I.w 1,I.w 2,I.w 3,I.w 4,.D (2*B)]).Z=true):W5 (sH B) I=some (0,[F 425 [I.w 0,I.w 2,I.w 4]]):=by
 have hn':Hl [I.w 0,I.w 1,I.w 2,I.w 3,I.w 4,.D (2*B)]=true:=hn;obtain⟨ho,q1,q2,q3,q4,q5,i7,i8,i9,s1,s2⟩:=XI.1 hn';have ho:mC (I.w 0) (I.w 1)=true:=ho;have q1:0<=(I.w 2).I:=q1;have q2:(I.w 2).I<(I.w 3).I:=q2;have q3:(I.w 3).I<(I.w 4).I:=q3;have q4:(I.w 4).I<=(I.w 1).I:=q4;have q5:(I.w 4).I-(I.w 2).I<=2*B:=q5;have s1:Sd false (cE (I.w 0).L (nt (I.w 2)) (nt (I.w 3))):=s1;have s2:Sd false (cE (I.w 0).L (nt (I.w 3)) (nt (I.w 4))):=s2;obtain⟨e5,oa,h6,hl⟩:=GR ho;have h7:=rV q1;have h8:=rV (show 0<=(I.w 3).I by omega);have h9:=rV (show 0<=(I.w 4).I by omega);have w7:I.w 2= .D (nt (I.w 2)):=(Pi (show vC (I.w 2)=true from i7)).trans (congrArg Val.D h7);have w8:I.w 3= .D (nt (I.w 3)):=(Pi (show vC (I.w 3)=true from i8)).trans (congrArg Val.D h8);have w9:I.w 4= .D (nt (I.w 4)):=(Pi (show vC (I.w 4)=true from i9)).trans (congrArg Val.D h9);have hF:F 425 [I.w 0,I.w 2,I.w 4]= .A (dv false (I.w 0).L (nt (I.w 2)) (nt (I.w 4))):=rfl;rw[hF];generalize nt (I.w 2)=a at h7 w7 s1⊢;generalize nt (I.w 3)=m at h8 w8 s1 s2⊢;generalize nt (I.w 4)=b at h9 w9 s2⊢;obtain⟨l,hL⟩: ∃l,(I.w 0).L=l:=⟨_,rfl⟩;obtain⟨N,hNN⟩: ∃N,l.length=N:=⟨_,rfl⟩;have hlN:(I.w 0).L.length=N:=by grind
 rw[hlN]at h6 hl;have ham:a<m:=by omega
 have hmb:m<b:=by omega
 have hbN:b<=N:=by omega
 rw[d57];by_cases c1:m=a+1
 .
  refine cD (by show decide (cr .sub .i64 (I.w 3).I (I.w 2).I=1)=true;grind[mX,decide_eq_true]) ?_;subst c1;have so:=dr9 (sec:=false) (l:=(I.w 0).L) (a:=a) (b:=b) hmb (by omega) s2;have hlp:cQ (λvs=>W5 Hg (I.U 2000 vs)) [.D (a+1:Nat),.D b]=_:=XR (T:=λh=>cU false (cg (I.w 0).L h) (cg (I.w 0).L a)) (va:= .D 0) (vb:= .D 0) (by omega) (λi j h1 h2 h3=>dx7 hf h7 h6 hl hlN oa h2 (by omega) (by omega)) (λi=>UT i);have hF2:F 462 [.D (a+1:Nat),.D b,I.w 1,I.w 0,.D a]=cC (0,[.D (bs (λh=>cU false (cg (I.w 0).L h) (cg (I.w 0).L a)) (b-(a+1)) (a+1) b),.D (bs (λh=>cU false (cg (I.w 0).L h) (cg (I.w 0).L a)) (b-(a+1)) (a+1) b)]):=rfl;generalize bs (λh=>cU false (cg (I.w 0).L h) (cg (I.w 0).L a)) (b-(a+1)) (a+1) b=r at so hlp hF2;obtain⟨r1,r2,r3⟩:=so;have e462:I.f 462 [I.w 3,I.w 4,I.w 1,I.w 0,I.w 2]=cC (0,[.D r,.D r]):=by grind
  have er:ck (I.f 462 [I.w 3,I.w 4,I.w 1,I.w 0,I.w 2]).L 1 0= .D r:=by rw[e462];rfl
  have hF3: ∀x y:Val,F 463 [.D a,I.w 0,x,y,.D r]=cC (0,[.D (r-1:Nat),.A (pi (I.w 0).L a (r-1-a))]):=λ_ _=>rfl
  have e463:I.f 463 [I.w 2,I.w 0,I.w 1,I.w 0,bZ I Cj]=cC (0,[.D (r-1:Nat),.A (pi (I.w 0).L a (r-1-a))]):=by rw[show bZ I Cj= .D r from er,hf,w7,hF3]
  refine Y3 (r:=(0,[.D r,.D r])) ?_ e462 (Y3 (r:=(0,[.D (r-1:Nat),.A (pi (I.w 0).L a (r-1-a))])) ?_ e463 ?_);show cQ _ [I.w 3,I.w 4]=_;grind;show cQ _ [I.w 2,I.w 0]=_;rw[w7];refine mE (λi=>[.D (a+i:Nat),.A (pi (I.w 0).L a i)]) (n:=r-1-a) (by rw[show pi (I.w 0).L a 0=(I.w 0).L from rfl,<-e5];rfl) (λi hi=> ?_) ?_;exact dy0 h6 hl er (by grind[On]) (cJ6 oa i (by omega)) (by omega) (by omega);rw[show a+(r-1-a)=r-1 by omega];refine Y9 ?_ rfl;show decide (((r-1:Nat):Int)<cr .sub .i64 (ck (I.f 462 [I.w 3,I.w 4,I.w 1,I.w 0,I.w 2]).L 1 0).I 1)=false;grind[a01,Gm,decide_eq_false];show some (0,[ck (I.f 463 [I.w 2,I.w 0,I.w 1,I.w 0,bZ I Cj]).L 1 1])=_;rw[e463,<-r3];rfl
 .refine Y9 (by show decide (cr .sub .i64 (I.w 3).I (I.w 2).I=1)=false;grind[mX,decide_eq_false]) ?_;by_cases c2:b=m+1
  .
   refine cD (by show decide (cr .sub .i64 (I.w 4).I (I.w 3).I=1)=true;grind[mX,decide_eq_true]) ?_;subst c2;have so:=ds3 (sec:=false) (l:=(I.w 0).L) (a:=a) (m:=m) ham (by omega) s1;have hlp:cQ (λvs=>W5 Gn (I.U 2000 vs)) [.D a,.D m]=_:=XR (T:=λh=> !cU false (cg (I.w 0).L m) (cg (I.w 0).L h)) (va:= .D 0) (vb:= .D 0) (by omega) (λi j h1 h2 h3=>dx8 hf h8 h6 hl hlN oa h2 (by omega) (by omega)) (λi=>UT i);have hF2:F 464 [.D a,.D m,I.w 1,I.w 0,.D m]=cC (0,[.D (bs (λh=> !cU false (cg (I.w 0).L m) (cg (I.w 0).L h)) (m-a) a m),.D (bs (λh=> !cU false (cg (I.w 0).L m) (cg (I.w 0).L h)) (m-a) a m)]):=rfl;generalize bs (λh=> !cU false (cg (I.w 0).L m) (cg (I.w 0).L h)) (m-a) a m=r at so hlp hF2;obtain⟨r1,r2,r3⟩:=so;have e464:I.f 464 [I.w 2,I.w 3,I.w 1,I.w 0,I.w 3]=cC (0,[.D r,.D r]):=by grind
   have er:ck (I.f 464 [I.w 2,I.w 3,I.w 1,I.w 0,I.w 3]).L 1 0= .D r:=by rw[e464];rfl
   have hF3: ∀x y:Val,F 465 [.D m,I.w 0,x,y,.D r]=cC (0,[.D r,.A (oq (I.w 0).L m (m-r))]):=λ_ _=>rfl
   have e465:I.f 465 [I.w 3,I.w 0,I.w 1,I.w 0,bZ I BY]=cC (0,[.D r,.A (oq (I.w 0).L m (m-r))]):=by rw[show bZ I BY= .D r from er,hf,w8,hF3]
   refine Y3 (r:=(0,[.D r,.D r])) ?_ e464 (Y3 (r:=(0,[.D r,.A (oq (I.w 0).L m (m-r))])) ?_ e465 ?_);show cQ _ [I.w 2,I.w 3]=_;grind;show cQ _ [I.w 3,I.w 0]=_;rw[w8];refine mE (λi=>[.D (m-i:Nat),.A (oq (I.w 0).L m i)]) (n:=m-r) (by rw[show oq (I.w 0).L m 0=(I.w 0).L from rfl,<-e5];rfl) (λi hi=> ?_) ?_;grind[dy1,oq,Ol,cJ7,jm];rw[show m-(m-r)=r by omega];refine Y9 ?_ rfl;show decide ((ck (I.f 464 [I.w 2,I.w 3,I.w 1,I.w 0,I.w 3]).L 1 0).I<(r:Int))=false;grind[a01,decide_eq_false];show some (0,[ck (I.f 465 [I.w 3,I.w 0,I.w 1,I.w 0,bZ I BY]).L 1 1])=_;rw[e465,<-r3];rfl
  refine Y9 (by show decide (cr .sub .i64 (I.w 4).I (I.w 3).I=1)=false;grind[mX,decide_eq_false]) ?_;obtain⟨mid,hmid⟩: ∃mid,mid=(a+b)/2:=⟨_,rfl⟩;have d2:bZ I dQ= .D mid:=by show Val.D (IntKind.i64.wrap (cr .shr .u64 (IntKind.u64.wrap (cr .add .i64 (I.w 2).I (I.w 4).I)) 1))=_;grind[Ht]
  have d3:bZ I kF= .D (mid+m:Nat):=by show Val.D (cr .add .i64 (bZ I dQ).I (I.w 3).I)=_;rw[d2,h8,a01,uw (by omega)]
  have d5:bZ I rG= .D (mid+m-1:Nat):=by show Val.D (cr .sub .i64 (bZ I kF).I 1)=_;rw[d3,a01,Gm (by omega) (by omega)]
  have key: ∀(lo hi r:Nat) (va vb:Val) (er ee:SX),(mid<m/\lo=mid+m-b/\hi=mid\/m<=mid/\lo=a/\hi=m)->r=bs (λc=> !cU false (cg (I.w 0).L (mid+m-1-c)) (cg (I.w 0).L c)) (hi-lo) lo hi->bZ I er= .D r->(∀n:Nat,bZ I er= .D n->n<=mid+m->bZ I ee= .D (mid+m-n:Nat))->W5 (NO B er ee dQ) I=some (0,[.A (dv false (I.w 0).L a b)]):=λlo hi r va vb er ee hlh hr h1 h2=>by obtain⟨g1,g2,g3,g4,M,M2,b1,b2,p1,t1,t2,k1,k2,p2,u1,u2,x1,x2⟩:=ds4 (sec:=false) (l:=(I.w 0).L) ham hmb (by omega) s1 s2 hmid hlh hr;exact dy4 hf h6 hl w7 h8 w9 h1 (h2 r h1 (by omega)) d2 hbN g4 (by omega) (by omega) (by omega) e5 hlN oa b1 b2 p1 t1 t2 k1 k2 p2 u1 u2 x1 x2
  have hlp: ∀lo hi:Nat,(mid<m/\lo=mid+m-b/\hi=mid\/m<=mid/\lo=a/\hi=m)->cQ (λvs=>W5 AQ (I.U 2000 vs)) [.D lo,.D hi]=some (0,[.D (bs (λc=> !cU false (cg (I.w 0).L (mid+m-1-c)) (cg (I.w 0).L c)) (hi-lo) lo hi),.D (bs (λc=> !cU false (cg (I.w 0).L (mid+m-1-c)) (cg (I.w 0).L c)) (hi-lo) lo hi)]):=λlo hi hlh=>XR (T:=λc=> !cU false (cg (I.w 0).L (mid+m-1-c)) (cg (I.w 0).L c)) (va:= .D 0) (vb:= .D 0) (by omega) (λi j h1 h2 h3=>dx9 hf h7 h8 h9 h6 hl hlN oa hmid hbN ham hmb h2 (by omega) (by omega) (by omega)) (λi=>UT i)
  have hF2: ∀(lo hi:Nat) (va vb x y:Val),nt va=lo->nt vb=hi->F 466 [va,vb,I.w 1,I.w 0,I.w 2,I.w 3,I.w 4,x,y,.D (mid+m-1:Nat)]=cC (0,[.D (bs (λc=> !cU false (cg (I.w 0).L (mid+m-1-c)) (cg (I.w 0).L c)) (hi-lo) lo hi),.D (bs (λc=> !cU false (cg (I.w 0).L (mid+m-1-c)) (cg (I.w 0).L c)) (hi-lo) lo hi)]):=λlo hi va vb x y h1 h2=>by subst h1;subst h2;rfl
  by_cases c3:mid<m
  refine cD (by show decide ((bZ I dQ).I<(I.w 3).I)=true;grind[a01,decide_eq_true]) ?_;have hlh:mid<m/\mid+m-b=mid+m-b/\mid=mid\/m<=mid/\mid+m-b=a/\mid=m:= .inl ⟨c3,rfl,rfl⟩;have d4:bZ I An= .D (mid+m-b:Nat):=by show Val.D (cr .sub .i64 (bZ I kF).I (I.w 4).I)=_;rw[d3,h9,a01,mX (by omega) (by omega)]
  have e466:I.f 466 [bZ I An,bZ I dQ,I.w 1,I.w 0,I.w 2,I.w 3,I.w 4,bZ I dQ,bZ I kF,bZ I rG]=cC (0,[.D (bs (λc=> !cU false (cg (I.w 0).L (mid+m-1-c)) (cg (I.w 0).L c)) (mid-(mid+m-b)) (mid+m-b) mid),.D (bs (λc=> !cU false (cg (I.w 0).L (mid+m-1-c)) (cg (I.w 0).L c)) (mid-(mid+m-b)) (mid+m-b) mid)]):=by rw[hf,d5];exact hF2 (mid+m-b) mid _ _ _ _ (by rw[d4];rfl) (by rw[d2];rfl)
  refine Y3 (r:=(0,_)) ?_ e466 ?_;show cQ _ [bZ I An,bZ I dQ]=_;grind;refine key _ _ _ (.D 0) (.D 0) qW sI hlh rfl ?_ (λn h1 h2=> ?_);show ck (I.f 466 [bZ I An,bZ I dQ,I.w 1,I.w 0,I.w 2,I.w 3,I.w 4,bZ I dQ,bZ I kF,bZ I rG]).L 1 0=_;rw[e466];rfl;show Val.D (cr .sub .i64 (bZ I kF).I (bZ I qW).I)=_;rw[d3,h1,a01,a01,mX h2 (by omega)]
  refine Y9 (by show decide ((bZ I dQ).I<(I.w 3).I)=false;grind[a01,decide_eq_false]) ?_;have hlh:mid<m/\a=mid+m-b/\m=mid\/m<=mid/\a=a/\m=m:= .inr ⟨by omega,rfl,rfl⟩;have e466:I.f 466 [I.w 2,I.w 3,I.w 1,I.w 0,I.w 2,I.w 3,I.w 4,bZ I dQ,bZ I kF,bZ I rG]=cC (0,[.D (bs (λc=> !cU false (cg (I.w 0).L (mid+m-1-c)) (cg (I.w 0).L c)) (m-a) a m),.D (bs (λc=> !cU false (cg (I.w 0).L (mid+m-1-c)) (cg (I.w 0).L c)) (m-a) a m)]):=by grind[Gl]
  refine Y3 (r:=(0,_)) ?_ e466 ?_;show cQ _ [I.w 2,I.w 3]=_;grind;refine key _ _ _ (.D 0) (.D 0) sa sc hlh rfl ?_ (λn h1 h2=> ?_);show ck (I.f 466 [I.w 2,I.w 3,I.w 1,I.w 0,I.w 2,I.w 3,I.w 4,bZ I dQ,bZ I kF,bZ I rG]).L 1 0=_;rw[e466];rfl;show Val.D (cr .sub .i64 (bZ I kF).I (bZ I sa).I)=_;rw[d3,h1,a01,a01,mX h2 (by omega)]
def sym_vac{a b c d e:Val}(hn:(F 426 [a,b,c,d,e,.D 1]).Z=true):False:=by obtain⟨_,_,q2,q3,_,q5,_⟩:=XI.1 (show Hl [a,b,c,d,e,.D 1]=true from hn);have q2:c.I<d.I:=q2;have q3:d.I<e.I:=q3;have q5:e.I-c.I<=1:=q5;omega
variable{l:U0}
def SG{a b c d:Nat}(ha:a<=l.length)(hd:d<=a):cE (dv false l a b) c d=cE l c d:=by unfold cE dv;rw[T5 (by rw[l5];omega),Q5,C0 hd]
theorem dy5{a b c:Nat}(h:a<=b)(hb:b<=l.length)(hc:b<=c):(dv false l a b).drop c=l.drop c:=by unfold dv;rw[<-A8,N4,O4 (by rw[k7,l5,srt_len,nV hb];omega),List.nil_append,k7,l5,srt_len,nV hb,N5];grind
def dU3{a b c d:Nat}(h:a<=b)(hb:b<=l.length)(hc:b<=c):cE (dv false l a b) c d=cE l c d:=by grind[cE,List.drop_take,dy5]
theorem qf(B:Nat)(l:U0): ∀k,(eo B l k).length=l.length
 |0=>rfl
 |k+1=>by rw[eo,c45 false (by omega),qf B l k]
theorem HL(B:Nat)(l:U0): ∀k,(eo B l k).Perm l
 |0=> .refl _
 |k+1=>(Ih false (by omega)).trans (HL B l k)
def LD(B:Nat)(l:U0): ∀k,Cl false (eo B l k) l
 |0=>Cl.refl _ _
 |k+1=>(YH false (by omega)).trans (LD B l k)
theorem yB{B:Nat}{l:U0}: ∀{k c d:Nat},B*k<=l.length->B*k<=c->cE (eo B l k) c d=cE l c d
 |0,c,d,_,_=>rfl
 |k+1,c,d,hl,hc=>by rw[Nat.mul_succ]at hl hc;rw[eo,dU3 (by omega) (by grind[qf]) hc,yB (by omega) (by omega)]
def UG{B:Nat}{l:U0}: ∀{k j:Nat},j<k->B*k<=l.length->cE (eo B l k) (B*j) (B*j+B)=srt false (cE l (B*j) (B*j+B))
 |k+1,j,hj,hl=>by
  rw[Nat.mul_succ]at hl;rw[eo];by_cases h:j=k;subst h;rw[XH (by omega) (by grind[qf]),yB (by omega) (j5 _)]
  have hjk:j<k:=by omega
  have:B*j+B<=B*k:=by exact M9 _ hjk
  rw[SG (by rw[qf];omega) this,UG hjk (by omega)]
def Bk(B n:Nat)(l:U0):Prop:= ∀k,Sd false (cE l (B*k) (min (B*k+B) n))
theorem SB:Sd false []:=List.Pairwise.nil
def cK2{n:Nat}(hl:l.length=n):Bk 20 n (dv false (eo 20 l (n/20)) (20*(n/20)) n):=by
 have hq:20*(n/20)<=n:=N0 n 20;intro k;rcases G6 k (n/20)with h|h|h
 have h1:20*k+20<=20*(n/20):=by omega
 rw[C0 (by omega),SG (by rw[qf];omega) h1,UG h (by omega)];exact srt_sorted _ _;subst h;rw[Q0 (by omega),XH hq (by rw[qf];omega)];exact srt_sorted _ _;grind[WJ,SB]
def cK3{bs n:Nat}(h0:0<bs)(hl:l.length=n)(hb:Bk bs n l):Bk (2*bs) n (pass bs n l)/\Cl false (pass bs n l) l/\(pass bs n l).Perm l:=by
 have hq:2*bs*(n/(2*bs))<=n:=N0 n (2*bs);have hq2:n<2*bs*(n/(2*bs))+2*bs:=by have:=T6 n (show 0<2*bs by omega);omega
 have ev: ∀k,bs*(2*k)=2*bs*k:=λk=>by grind
 have hp:pass bs n l=if 2*bs*(n/(2*bs))+bs<n then dv false (eo (2*bs) l (n/(2*bs))) (2*bs*(n/(2*bs))) n else eo (2*bs) l (n/(2*bs)):=rfl
 generalize n/(2*bs)=q at hq hq2 hp;have hM: ∀k,k<q->Sd false (cE (eo (2*bs) l q) (2*bs*k) (min (2*bs*k+2*bs) n)):=λk hk=>by
  have:2*bs*k+2*bs<=2*bs*q:=by exact M9 _ hk
  rw[C0 (by omega),UG hk (by omega)];exact srt_sorted _ _
 have hgt: ∀k,q<k->n<=2*bs*k:=λk hk=>by have:2*bs*(q+1)<=2*bs*k:=M9 _ hk;grind
 by_cases hc:2*bs*q+bs<n;have e:(if 2*bs*q+bs<n then dv false (eo (2*bs) l q) (2*bs*q) n else eo (2*bs) l q)=dv false (eo (2*bs) l q) (2*bs*q) n:=c9 hc;refine⟨λk=> ?_,?_,?_⟩
 rw[hp,e];rcases G6 k q with h|h|h
 have:2*bs*k+2*bs<=2*bs*q:=by exact M9 _ h
 rw[SG (by rw[qf];omega) (by rw[C0 (by omega)];exact this)];exact hM k h;subst h;rw[Q0 (by omega),XH hq (by rw[qf];omega)];exact srt_sorted _ _;grind[WJ,SB];rw[hp,e];exact(YH false hq).trans (LD _ _ _);rw[hp,e];exact(Ih false hq).trans (HL _ _ _);have e:(if 2*bs*q+bs<n then dv false (eo (2*bs) l q) (2*bs*q) n else eo (2*bs) l q)=eo (2*bs) l q:=b9 hc;refine⟨λk=> ?_,?_,?_⟩
 rw[hp,e];rcases G6 k q with h|h|h
 exact hM k h;subst h;rw[Q0 (by omega),yB (by omega) (j5 _)];have:=hb (2*k);rw[ev,Q0 (by omega)]at this;exact this;rw[WJ (by have:=hgt k h;omega)];exact SB;rw[hp,e];exact LD _ _ _;grind[HL]
def c87{n:Nat}: ∀(f bs:Nat) (l:U0),0<bs->n<=bs*2^f->l.length=n->Bk bs n l->(pn n f bs l).2=srt false l
 |0,bs,l,h0,hn,hl,hb=>by rw[pn,By];have:=hb 0;grind[cE]
 |f+1,bs,l,h0,hn,hl,hb=>by rw[pn];by_cases h:bs<n;rw[c9 h];obtain⟨p1,p2,p3⟩:=cK3 h0 hl hb;rw[c87 f (2*bs) _ (by omega) (by grind) (by rw[p3.length_eq];exact hl) p1];exact srt_cl p2;rw[b9 h,By];have:=hb 0;grind[cE]
variable{I:Opq}{l:U0}{n:Nat}
theorem XU{x y:Nat}(h:x*y<=1000000):cr .mul .i64 (x:Int) (y:Int)=((x*y:Nat):Int):=by have:cr .mul .i64 (x:Int) (y:Int)=IntKind.i64.wrap ((x:Int)*(y:Int)):=rfl;grind[Int.natCast_mul,nL]
def cK4{M:U0}{n va vb:Val}{N a b:Nat}(ho:M.all okK=true)(hM:M.length=N)(hn:n.I=(N:Int))(hN:N<=400)(ha:va.I=(a:Int))(hb:vb.I=(b:Int))(h1:a<=b)(h2:b<=N):(F 424 [.A M,n,va,vb]).Z=true:=by show(mC (.A M) n&&decide (0<=va.I/\va.I<=vb.I/\vb.I<=n.I))=true;grind[and2,IC,decide_eq_true]
def OP{B:Nat}(h:l.all okK=true)(k:Nat):(eo B l k).all okK=true:=yT h (HL B l k)
theorem ee6(hf: ∀i a,I.f i a=F i a)(h1:(I.w 1).I=n)(h2:(I.w 2).I=n)(hl:l.length=n)(ho:l.all okK=true)(hn:n<=400):
 cQ (λvs=>W5 ei4 (I.U 2000 vs)) [.D 0,.D 20,.A l]=some (0,[.D (20*(n/20):Nat),.D (20*(n/20)+20:Nat),.A (eo 20 l (n/20))]):=by
 refine mE (λk=>[.D (20*k:Nat),.D (20*k+20:Nat),.A (eo 20 l k)]) (n:=n/20) rfl (λk hk=> ?_) ?_
 have hk2:20*k+20<=n:=by omega
 obtain⟨aa,ae⟩: ∃aa,aa=I.U 2000 [.D (20*k:Nat),.D (20*k+20:Nat),.A (eo 20 l k)]:=⟨_,rfl⟩;have v0:aa.w 2000= .D (20*k:Nat):=by rw[ae];rfl
 have v1:aa.w 2001= .D (20*k+20:Nat):=by rw[ae];rfl
 have v2:aa.w 2002= .A (eo 20 l k):=by rw[ae];rfl
 have u1:(aa.w 1).I=n:=by rw[ae];exact h1
 have u2:(aa.w 2).I=n:=by rw[ae];exact h2
 have hf': ∀i a,aa.f i a=F i a:=by rw[ae];exact hf
 rw[<-ae];refine cD (by show decide ((aa.w 2001).I<=(aa.w 2).I)=true;rw[v1,u2];exact i6 (by show((20*k+20:Nat):Int)<=(n:Int);omega)) (W6 ?_ ?_);show(aa.f 424 [aa.w 2002,aa.w 1,aa.w 2000,aa.w 2001]).Z=true;rw[hf',v0,v1,v2];exact cK4 (OP ho k) (by grind[qf]) u1 hn rfl rfl (by omega) hk2;show some (0,[aa.w 2001,Val.D (cr .add .i64 (aa.w 2001).I 20),aa.f 425 [aa.w 2002,aa.w 2000,aa.w 2001]])=_;rw[hf',v0,v1,v2,BP rfl rfl,a01,show(20:Int)=((20:Nat):Int)from rfl,uw (by omega)];rfl;refine Y9 ?_ rfl;show decide (((20*(n/20)+20:Nat):Int)<=(I.w 2).I)=false;grind
def ee7(hf: ∀i a,I.f i a=F i a){bs:Nat}(h1:(I.w 1).I=n)(h2:I.w 2= .D n)(h3:I.w 3000= .D bs)(h0:0<bs)(hl:l.length=n)(ho:l.all okK=true)(hn:n<=400)(hbs:bs<=1000)(hb:Bk bs n l):
 cQ (λvs=>W5 RA (I.U 4000 vs)) [.D 0,.D (2*bs:Nat),.A l]=some (0,[.D (2*bs*(n/(2*bs)):Nat),.D (2*bs*(n/(2*bs))+2*bs:Nat),.A (eo (2*bs) l (n/(2*bs)))]):=by
 have hq:2*bs*(n/(2*bs))<=n:=N0 n (2*bs);have hq2:n<2*bs*(n/(2*bs))+2*bs:=by have:=T6 n (show 0<2*bs by omega);omega
 have ev: ∀k,bs*(2*k)=2*bs*k:=λk=>by grind
 have od: ∀k,bs*(2*k+1)=2*bs*k+bs:=λk=>by grind
 generalize n/(2*bs)=q at hq hq2⊢;refine mE (λk=>[.D (2*bs*k:Nat),.D (2*bs*k+2*bs:Nat),.A (eo (2*bs) l k)]) (n:=q) (by rw[Nat.mul_zero,m9];rfl) (λk hk=> ?_) ?_
 have hk2:2*bs*k+2*bs<=n:=by have:2*bs*(k+1)<=2*bs*q:=M9 _ hk;grind
 obtain⟨aa,ae⟩: ∃aa,aa=I.U 4000 [.D (2*bs*k:Nat),.D (2*bs*k+2*bs:Nat),.A (eo (2*bs) l k)]:=⟨_,rfl⟩;have v0:aa.w 4000= .D (2*bs*k:Nat):=by rw[ae];rfl
 have v1:aa.w 4001= .D (2*bs*k+2*bs:Nat):=by rw[ae];rfl
 have v2:aa.w 4002= .A (eo (2*bs) l k):=by rw[ae];rfl
 have u1:(aa.w 1).I=n:=by rw[ae];exact h1
 have u2:aa.w 2= .D n:=by rw[ae];exact h2
 have u3:aa.w 3000= .D bs:=by rw[ae];exact h3
 have hf': ∀i a,aa.f i a=F i a:=by rw[ae];exact hf
 have a1:cr .add .i64 ((2*bs*k:Nat):Int) (bs:Int)=((2*bs*k+bs:Nat):Int):=uw (by omega);have a2:cr .mul .i64 2 (bs:Int)=((2*bs:Nat):Int):=XU (x:=2) (by omega);have a3:cr .add .i64 ((2*bs*k+2*bs:Nat):Int) ((2*bs:Nat):Int)=((2*bs*k+2*bs+2*bs:Nat):Int):=uw (by omega);have s1:=hb (2*k);rw[ev,C0 (by omega)]at s1;have s2:=hb (2*k+1);rw[<-ae];refine cD (by show decide ((aa.w 4001).I<=(aa.w 2).I)=true;rw[v1,u2];exact i6 (by show((2*bs*k+2*bs:Nat):Int)<=(n:Int);omega)) (W6 ?_ ?_);show(aa.f 426 [aa.w 4002,aa.w 1,aa.w 4000,Val.D (cr .add .i64 (aa.w 4000).I (aa.w 3000).I),aa.w 4001,.D 512]).Z=true;rw[hf',v0,v1,v2,u3,a01,a01,a1];exact LA (OP ho k) (by grind[qf]) u1 hn (by omega) (by omega) hk2 (by omega) (by rw[yB (by omega) (j5 _)];exact s1) (by grind[yB]);show some (0,[aa.w 4001,Val.D (cr .add .i64 (aa.w 4001).I (cr .mul .i64 2 (aa.w 3000).I)),aa.f 425 [aa.w 4002,aa.w 4000,aa.w 4001]])=_;rw[hf',v0,v1,v2,u3,BP rfl rfl,a01,a01,a2,a3,Nat.mul_succ];rfl;refine Y9 ?_ rfl;show decide (((2*bs*q+2*bs:Nat):Int)<=(I.w 2).I)=false;rw[h2];exact j7 (by show¬((2*bs*q+2*bs:Nat):Int)<=(n:Int);omega)
def Hv:SX:= .Q 469 [aM,.O (.ar .mul .i64) [bm,aY],bc,aO,bc,aS,aY]
def qb:SX:= zo Hv 0
def yR:SX:= zo Hv 2
def dy6:Ga= .J (zs aY aS) (.loop ⟨469,[aM,.O (.ar .mul .i64) [bm,aY],bc],4000,[aO,bc,aS,aY]⟩ RA [.J (zs (za qb aY) aS) (.N (.Q 426 [yR,aO,qb,za qb aY,aS,.C 512]) (.W 0 [.O (.ar .mul .i64) [aY,bm],.Q 425 [yR,qb,aS]])) (.W 0 [.O (.ar .mul .i64) [aY,bm],yR])]) (.W 1 [aY,bc]):=rfl
def dy7(hf: ∀i a,I.f i a=F i a){bs:Nat}(h1:(I.w 1).I=n)(h2:I.w 2= .D n)(h0:0<bs)(hlt:bs<n)(hl:l.length=n)(ho:l.all okK=true)(hn:n<=400)(hb:Bk bs n l):
 W5 Ga (I.U 3000 [.D bs,.A l])=some (0,[.D (2*bs:Nat),.A (pass bs n l)]):=by
 obtain⟨aa,ae⟩: ∃aa,aa=I.U 3000 [.D bs,.A l]:=⟨_,rfl⟩;have v0:aa.w 3000= .D bs:=by rw[ae];rfl
 have v1:aa.w 3001= .A l:=by rw[ae];rfl
 have u1:(aa.w 1).I=n:=by rw[ae];exact h1
 have u2:aa.w 2= .D n:=by rw[ae];exact h2
 have hf': ∀i a,aa.f i a=F i a:=by rw[ae];exact hf
 have a2:cr .mul .i64 2 (bs:Int)=((2*bs:Nat):Int):=XU (x:=2) (by omega);have a2':cr .mul .i64 (bs:Int) 2=((2*bs:Nat):Int):=by grind[Nat.mul_comm,XU]
 have it:=ee7 hf' (l:=l) u1 u2 v0 h0 hl ho hn (by omega) hb;have hp:pass bs n l=if 2*bs*(n/(2*bs))+bs<n then dv false (eo (2*bs) l (n/(2*bs))) (2*bs*(n/(2*bs))) n else eo (2*bs) l (n/(2*bs)):=rfl
 have hF: ∀x y:Val,F 469 [.D 0,.D (2*bs:Nat),.A l,x,y,.D n,.D bs]=cC (0,[.D (2*bs*(n/(2*bs)):Nat),.D (2*bs*(n/(2*bs))+2*bs:Nat),.A (eo (2*bs) l (n/(2*bs)))]):=λ_ _=>rfl
 have hq:2*bs*(n/(2*bs))<=n:=N0 n (2*bs);have hq2:n<2*bs*(n/(2*bs))+2*bs:=by have:=T6 n (show 0<2*bs by omega);omega
 generalize n/(2*bs)=q at it hp hF hq hq2;have e469:bZ aa Hv=cC (0,[.D (2*bs*q:Nat),.D (2*bs*q+2*bs:Nat),.A (eo (2*bs) l q)]):=by show aa.f 469 [.D 0,.D (cr .mul .i64 2 (aa.w 3000).I),aa.w 3001,aa.w 1,aa.w 3001,aa.w 2,aa.w 3000]=_;simp_all
 have ea:bZ aa qb= .D (2*bs*q:Nat):=by show ck (bZ aa Hv).L 1 0=_;rw[e469];rfl
 have el:bZ aa yR= .A (eo (2*bs) l q):=by show ck (bZ aa Hv).L 1 2=_;rw[e469];rfl
 have eb:bZ aa (za qb aY)= .D (2*bs*q+bs:Nat):=by show Val.D (cr .add .i64 (bZ aa qb).I (aa.w 3000).I)=_;rw[ea,v0,a01,a01,uw (by omega)]
 rw[<-ae,dy6];refine cD (by show decide ((aa.w 3000).I<(aa.w 2).I)=true;simp_all) (Y3 (r:=(0,[.D (2*bs*q:Nat),.D (2*bs*q+2*bs:Nat),.A (eo (2*bs) l q)])) ?_ e469 ?_);show cQ _ [.D 0,.D (cr .mul .i64 2 (aa.w 3000).I),aa.w 3001]=_;simp_all;by_cases hc:2*bs*q+bs<n;refine cD (by show decide ((bZ aa (za qb aY)).I<(aa.w 2).I)=true;rw[eb,u2];exact i6 (by show((2*bs*q+bs:Nat):Int)<(n:Int);omega)) (W6 ?_ ?_);show(aa.f 426 [bZ aa yR,aa.w 1,bZ aa qb,bZ aa (za qb aY),aa.w 2,.D 512]).Z=true;rw[hf',el,ea,eb,u2];have s1:=hb (2*q);rw[<-Nat.mul_assoc,K5 bs 2,C0 (by omega)]at s1;have s2:=hb (2*q+1);exact LA (OP ho q) (by grind[qf]) u1 hn (by omega) hc (j5 _) (by omega) (by simp_all[yB,j5]) (by grind[yB]);show some (0,[Val.D (cr .mul .i64 (aa.w 3000).I 2),aa.f 425 [bZ aa yR,bZ aa qb,aa.w 2]])=_;grind[a01,BP];refine Y9 (by show decide ((bZ aa (za qb aY)).I<(aa.w 2).I)=false;rw[eb,u2];exact j7 (by show¬((2*bs*q+bs:Nat):Int)<(n:Int);omega)) ?_;show some (0,[Val.D (cr .mul .i64 (aa.w 3000).I 2),bZ aa yR])=_;simp_all
def ee8(hf: ∀i a,I.f i a=F i a)(h1:(I.w 1).I=n)(h2:I.w 2= .D n)(hn:n<=400): ∀(f bs:Nat) (l:U0),0<bs->n<=bs*2^f->l.length=n->l.all okK=true->Bk bs n l->
 Iter (λvs=>W5 Ga (I.U 3000 vs)) [.D bs,.A l] 0 [.D (pn n f bs l).1,.A (pn n f bs l).2]:=by
 have out: ∀(bs:Nat) (l:U0),n<=bs->W5 Ga (I.U 3000 [.D bs,.A l])=some (1,[.D bs,.A l]):=λbs l h=>by refine Y9 ?_ rfl;show decide ((bs:Int)<(I.w 2).I)=false;simp_all
 intro f;induction f with
 |zero=>
  intro bs l h0 hb hl ho hbk;exact .out (out bs l (by omega))
 |succ f ih=>
  intro bs l h0 hb hl ho hbk;rw[pn];by_cases h:bs<n;rw[c9 h];obtain⟨p1,p2,p3⟩:=cK3 h0 hl hbk;exact .more (dy7 hf h1 h2 h0 h hl ho hn hbk) (ih (2*bs) _ (by omega) (by grind) (by rw[p3.length_eq];exact hl) (yT ho p3) p1);rw[b9 h];exact .out (out bs l (by omega))
def t_stab(hf: ∀i a,I.f i a=F i a)(hn:(F 428 [I.w 0,I.w 1,I.w 2]).Z=true):W5 db7 I=some (0,[F 425 [I.w 0,.D 0,I.w 2]]):=by
 obtain⟨ho,hd⟩:=W7 (show(mC (I.w 0) (I.w 1)&&(vC (I.w 2)&&decide ((I.w 2).I=(I.w 1).I)))=true from hn);obtain⟨i2,hd⟩:=W7 hd;obtain⟨e0,oa,h1,hl⟩:=GR ho;have q1:=j6 hd;generalize hL:(I.w 0).L=l at e0 oa h1 hl;obtain⟨n,hnn⟩: ∃n,l.length=n:=⟨_,rfl⟩;rw[hnn]at h1 hl;have w2:I.w 2= .D n:=(Pi i2).trans (congrArg Val.D (q1.trans h1));have h2:(I.w 2).I=n:=q1.trans h1;have hq:=N0 n 20;have e467:bZ I FM=cC (0,[.D (20*(n/20):Nat),.D (20*(n/20)+20:Nat),.A (eo 20 l (n/20))]):=by show I.f 467 [.D 0,.D 20,I.w 0,I.w 1,I.w 0,I.w 2]=_;rw[hf,e0,w2];rfl
 have d1:bZ I HK= .A (eo 20 l (n/20)):=by show ck (bZ I FM).L 1 2=_;rw[e467];rfl
 have d2:bZ I IP= .D (20*(n/20):Nat):=by show ck (bZ I FM).L 1 0=_;rw[e467];rfl
 have d3:bZ I tE= .A (dv false (eo 20 l (n/20)) (20*(n/20)) n):=by show I.f 425 [bZ I HK,bZ I IP,I.w 2]=_;rw[hf,d1,d2,w2,BP rfl rfl]
 have bk:=cK2 hnn;have pm:(dv false (eo 20 l (n/20)) (20*(n/20)) n).Perm l:=(Ih false hq).trans (HL _ _ _);have cl:Cl false (dv false (eo 20 l (n/20)) (20*(n/20)) n) l:=(YH false hq).trans (LD _ _ _);have bl:=qf 20 l (n/20);have ba:=OP (B:=20) oa (n/20);generalize dv false (eo 20 l (n/20)) (20*(n/20)) n=L at d3 bk pm cl;have hres:=c87 9 20 L (by omega) (by omega) (by rw[pm.length_eq];exact hnn) bk;rw[srt_cl cl]at hres;have e468:I.f 468 [.D 20,bZ I tE,I.w 1,bZ I tE,I.w 2]=cC (0,[.D (pn n 9 20 L).1,.A (pn n 9 20 L).2]):=by rw[hf,d3,w2];rfl
 have hF:F 425 [I.w 0,.D 0,I.w 2]= .A (srt false l):=by rw[e0,w2,show Val.D 0= .D ((0:Nat):Int)from rfl,BP rfl rfl,<-hnn,c48]
 rw[hF];refine Y3 (r:=(0,[.D (20*(n/20):Nat),.D (20*(n/20)+20:Nat),.A (eo 20 l (n/20))])) ?_ e467 (W6 ?_ ?_);show cQ _ [.D 0,.D 20,I.w 0]=_;grind[ee6];show(I.f 424 [bZ I HK,I.w 1,bZ I IP,I.w 2]).Z=true;rw[hf,d1,d2];exact cK4 ba (bl.trans hnn) h1 hl rfl h2 hq (j5 _);refine Y3 (r:=(0,[.D (pn n 9 20 L).1,.A (pn n 9 20 L).2])) ?_ e468 ?_;show cQ _ [.D 20,bZ I tE]=_;rw[d3,kK];exact ee8 hf h1 w2 hl 9 20 L (by omega) (by omega) (by rw[pm.length_eq];exact hnn) (yT oa pm) bk;show some (0,[ck (I.f 468 [.D 20,bZ I tE,I.w 1,bZ I tE,I.w 2]).L 1 1])=_;rw[e468,hres];rfl
variable{I:Opq}
def t_cmpR:W5 Nb I=some (0,[F 206 [I.w 0,I.w 1,I.w 2,I.w 7,I.w 8,I.w 9]]):=by show W5 Nb I=some (0,[Val.D (BX ⟨(I.w 0).S,(I.w 1).I,(I.w 2).I⟩ ⟨(I.w 7).S,(I.w 8).I,(I.w 9).I⟩)]);simp[Nb,Ph,uG,uo,Qc,W5,Y6,bZ,dB,cB,jV,jN,mS,a63,a29,a85,show∀a b,lC .lss a b=gC a b fromλ_ _=>rfl,show∀a b,lC .gtr a b=gC b a fromλ_ _=>rfl,BX,decide_eq_true_eq,a01];grind
def f431{v:Val}(h:(F 431 [v]).Z=true):v= .A v.L/\v.L.all okK=true:=by obtain⟨h1,h2⟩:=W7 (show(isL v&&v.L.all okK)=true from h);grind[isL_at]
def t_sstab(hf: ∀i a,I.f i a=F i a)(hn:(I.w 0).L.length<=400)(h:(F 431 [I.w 0]).Z=true):W5 cB1 I=some (0,[F 425 [I.w 0,.D 0,.D (I.w 0).L.length]]):=by obtain⟨e,ho⟩:=f431 h;refine W6 ?_ ?_;show(I.f 428 [I.w 0,.D (I.w 0).L.length,.D (I.w 0).L.length]).Z=true;rw[hf];refine and2 ?_ (and2 rfl (i6 rfl));rw[e];exact IC ho rfl rfl hn;show some (0,[I.f 425 [I.w 0,.D 0,.D (I.w 0).L.length]])=_;rw[hf]
def d58(v:Val):F 425 [v,.D 0,.D v.L.length]= .A (srt false v.L):=by show Val.A (dv false v.L 0 (nt (.D v.L.length)))=_;grind[nt,ee3,c48]
def t_aggSort(hf: ∀i a,I.f i a=F i a)(hn:(I.w 0).L.length<=400)(h:(F 431 [I.w 0]).Z=true):W5 bE3 I=some (0,[F 490 [I.w 0]]):=by
 have e1:bZ I (.Q 425 [aN,aM,zl 0])= .A (srt false (I.w 0).L):=by show I.f 425 [I.w 0,.D 0,.D (I.w 0).L.length]=_;rw[hf,d58]
 refine W6 ?_ (W6 ?_ ?_);show(decide (((I.w 0).L.length:Int)<=400)&&(I.f 431 [I.w 0]).Z)=true;grind;show decide (((I.w 0).L.length:Int)=((bZ I (.Q 425 [aN,aM,zl 0])).L.length:Int))=true;rw[e1];exact i6 (by show((I.w 0).L.length:Int)=((srt false (I.w 0).L).length:Int);rw[srt_len]);show some (0,[bZ I (.Q 425 [aN,aM,zl 0])])=_;rw[e1];rfl
def t_cloneR(hf: ∀i a,I.f i a=F i a)(hn:(I.w 0).L.length<=400)(h:(F 431 [I.w 0]).Z=true):W5 Ms I=some (0,[I.w 0]):=by
 obtain⟨e,ho⟩:=f431 h;have hb:decide (((I.w 0).L.length:Int)<=1000000)=true:=i6 (by omega);by_cases h0:0<(I.w 0).L.length;have h1:decide ((0:Int)<((I.w 0).L.length:Int))=true:=i6 (by omega);simp[Ms,LE,W5,Y6,bZ,dB,cB,h1,hb,h0,a63,a29,a37,show(I.w 0).L.length<=1000000 by omega]
 have h2:(I.w 0).L=[]:=C5.1 (by omega);have h3:I.w 0= .A []:=by rw[e,h2]
 simp[Ms,LE,W5,Y6,bZ,dB,cB,h3,a63,a29,a37]
end Go.Ev.S7
namespace Go.Ev
open Go
def GA:VT:= .J (zt aY 0) (.N (zn (zp (zm aY aZ)) (zs (zm aY aZ) (zL (zc aW (.O .row [zv 0 2001]))))) (.N (zs (zm aY aZ) (zl 3001)) (.N (zn (zp aY) (zs aY (zL (zc aW (.O .row [zv 0 2001]))))) (.N (zs aY (zl 3001)) (.J (.O (.scmp .neq) [cq bc (zm aY aZ) 0,zg 3001 3000 0]) (.J (.O (.scmp .lss) [cq bc (zm aY aZ) 0,zg 3001 3000 0]) (.W 1 [aY,bc]) (.N (zs aY (zL (.O .lset [bc,zm aY aZ,zv 3001 3000]))) (.W 0 [zm aY aZ,.O .lset [.O .lset [bc,zm aY aZ,zv 3001 3000],aY,.O .row [cq bc (zm aY aZ) 0,cq bc (zm aY aZ) 1,cq bc (zm aY aZ) 2,cq bc (zm aY aZ) 3,cq bc (zm aY aZ) 4,cq bc (zm aY aZ) 5,cq bc (zm aY aZ) 6]]]))) (.J (cX (cq bc (zm aY aZ) 2) (zg 3001 3000 2)) (.J (zs (cq bc (zm aY aZ) 2) (zg 3001 3000 2)) (.W 1 [aY,bc]) (.N (zs aY (zL (.O .lset [bc,zm aY aZ,zv 3001 3000]))) (.W 0 [zm aY aZ,.O .lset [.O .lset [bc,zm aY aZ,zv 3001 3000],aY,.O .row [cq bc (zm aY aZ) 0,cq bc (zm aY aZ) 1,cq bc (zm aY aZ) 2,cq bc (zm aY aZ) 3,cq bc (zm aY aZ) 4,cq bc (zm aY aZ) 5,cq bc (zm aY aZ) 6]]]))) (.J (zs (cq bc (zm aY aZ) 1) (zg 3001 3000 1)) (.W 1 [aY,bc]) (.J (dF (cq bc (zm aY aZ) 1) (zg 3001 3000 1)) (.N (zs aY (zL (.O .lset [bc,zm aY aZ,zv 3001 3000]))) (.W 0 [zm aY aZ,.O .lset [.O .lset [bc,zm aY aZ,zv 3001 3000],aY,.O .row [cq bc (zm aY aZ) 0,cq bc (zm aY aZ) 1,cq bc (zm aY aZ) 2,cq bc (zm aY aZ) 3,cq bc (zm aY aZ) 4,cq bc (zm aY aZ) 5,cq bc (zm aY aZ) 6]]])) (.W 1 [aY,bc]))))))))) (.W 1 [aY,bc])
def em1:VT:= .J (zs aR (zl 0)) (.N (zp aR) (.N (zn (cF aU (zl 2002)) (zb (zL (zc aW (.O .row [zv 0 2001]))) 1000000)) (.loop ⟨481,[aR,zc aW (.O .row [zv 0 2001])],3000,[aM,zl 0,aN,zL (zc aW (.O .row [zv 0 2001])),zc aW (.O .row [zv 0 2001]),aR]⟩ GA [.N (cF (zL (zc aW (.O .row [zv 0 2001]))) (zL (zo (.Q 481 [aR,zc aW (.O .row [zv 0 2001]),aM,zl 0,aN,zL (zc aW (.O .row [zv 0 2001])),zc aW (.O .row [zv 0 2001]),aR]) 1))) (.W 0 [zL (zo (.Q 481 [aR,zc aW (.O .row [zv 0 2001]),aM,zl 0,aN,zL (zc aW (.O .row [zv 0 2001])),zc aW (.O .row [zv 0 2001]),aR]) 1),zi aR,zo (.Q 481 [aR,zc aW (.O .row [zv 0 2001]),aM,zl 0,aN,zL (zc aW (.O .row [zv 0 2001])),zc aW (.O .row [zv 0 2001]),aR]) 1])]))) (.W 1 [aU,aR,aW])
def AW:SX:= .Q 480 [zL co,aM,co,aM,zl 0,aN]
def Im:SX:= zo AW 2
def cK5:VT:= .loop ⟨480,[zL co,aM,co],2000,[aM,zl 0,aN]⟩ em1 [.N (cF (zo AW 0) (zL Im)) (.W 0 [Im])]
def eu9:VT:= .J (zs aR (zl 0)) (.N (zp aR) (.N (zn (cF aU (zl 2002)) (zb (zL (zc aW (.O .row [zv 0 2001]))) 1000000)) (.W 0 [zL (zc aW (.O .row [zv 0 2001])),zi aR,zc aW (.O .row [zv 0 2001])]))) (.W 1 [aU,aR,aW])
def QO:SX:= .Q 874 [zL co,aM,co,aM,zl 0,aN]
def Nt:SX:= zo QO 2
def Tk:VT:= .loop ⟨874,[zL co,aM,co],2000,[aM,zl 0,aN]⟩ eu9 [.N (cF (zo QO 0) (zL Nt)) (.W 0 [Nt])]
end Go.Ev
namespace Go.Ev.S7
open Go Go.Ev
def oc:SX:= zc aW (.O .row [zv 0 2001])
def RP:SX:= .Q 481 [aR,oc,aM,zl 0,aN,zL oc,oc,aR]
def zr:SX:= zo RP 1
def cK6:em1= .J (zs aR (zl 0)) (.N (zp aR) (.N (zn (cF aU (zl 2002)) (zb (zL oc) 1000000)) (.loop ⟨481,[aR,oc],3000,[aM,zl 0,aN,zL oc,oc,aR]⟩ GA [.N (cF (zL oc) (zL zr)) (.W 0 [zL zr,zi aR,zr])]))) (.W 1 [aU,aR,aW]):=rfl
def d59(B A:Val):cU false B A=if(Y5 A 0).S=(Y5 B 0).S then decide ((Y5 B 2).I<(Y5 A 2).I)||decide ((Y5 B 2).I=(Y5 A 2).I)&&decide ((Y5 B 1).I<(Y5 A 1).I)else !gC (Y5 A 0).S (Y5 B 0).S:=by
 have h0:cU false B A=(gC (Y5 B 0).S (Y5 A 0).S||decide ((Y5 B 0).S=(Y5 A 0).S)&&(decide ((Y5 B 2).I<(Y5 A 2).I)||decide ((Y5 B 2).I=(Y5 A 2).I)&&decide ((Y5 B 1).I<(Y5 A 1).I))):=rfl;rw[h0];generalize (Y5 A 0).S=ka;generalize (Y5 B 0).S=kb;by_cases h:ka=kb;subst h;rw[c9 rfl,show gC ka ka=false from HI ka,i6 rfl];simp
 rw[b9 h,j7 (λe=>h e.symm),F8,G2];cases h1:gC ka kb with
 |true=>
  rw[B3,<-A2];intro h2;have:=VS (show ii ka kb=true from h1) (show ii kb ka=true from h2);rw[HI]at this;cases this
 |false=>
  cases h2:gC kb ka with
  |true=>rfl
  |false=>exact absurd (Ja (show ii ka kb=false from h1) (show ii kb ka=false from h2)) h
def dy9{I:Opq}{N k:Nat}{M:U0}(hc:(I.w 2002).L.length+1=N)(hM:M.length=N)(ho:M.all okK=true)(hk:k+1<N)(hN:N<=1000):
 W5 GA (I.U 3000 [.D (k+1:Nat),.A M])=some (if cU false (cg M (k+1)) (cg M k)then(0,[.D k,.A (jm M (k+1) k)])else(1,[.D (k+1:Nat),.A M])):=by
 have e1:=em0 (K:=k+1) (k:=k) rfl (by omega);have p0:(0:Int)<((k+1:Nat):Int):=by omega
 have p1:(0:Int)<=(k:Int):=by omega
 have p2:(k:Int)<N:=by omega
 have p3:(0:Int)<=((k+1:Nat):Int):=by omega
 have p4:((k+1:Nat):Int)<N:=by omega
 have hsw:(M.set k (cO (cg M (k+1)))).set (k+1) (cO (cg M k))=jm M (k+1) k:=by rw[MY ho (by omega),MY ho (by omega),Rt (by omega)];rfl
 rw[d59];unfold GA;simp only[W5,Y6,bZ,dB,cB,Y8,Nat.reduceLeDiff,Nat.reduceSub,if_true,if_false,y9,A0,a01,a41,a63,e1,a29,a37,a85,c54,c55,show∀a b,lC .lss a b=gC a b fromλ_ _=>rfl,p0,p1,p2,p3,p4,decide_true,A4,k7,List.length_cons,List.length_nil,m9,hc,hM,C1,gq,gp,gj,ix,iu,iq,io,wJ,Int.toNat_natCast,hsw];grind
def dU6{I:Opq}{N:Nat}(hc:(I.w 2002).L.length+1=N)(hN:N<=1000): ∀(k:Nat) (M:U0),k<N->M.length=N->M.all okK=true->
 Iter (λvs=>W5 GA (I.U 3000 vs)) [.D k,.A M] 0 [.D (bubA false 0 M k).1,.A (bubA false 0 M k).2]
 |0,M,hk,hM,ho=>by refine .out ?_;rfl
 |k+1,M,hk,hM,ho=>by
  have hs:=dy9 (I:=I) hc hM ho hk hN;unfold bubA;rw[m9];cases h:cU false (cg M (k+1)) (cg M k)with
  |true=>
   rw[h,c9 rfl]at hs;exact .more hs (dU6 hc hN k _ (by omega) (by grind[ID]) (Iu ho (by omega) (by omega)))
  |false=>
   rw[h,b9 (by simp)]at hs;exact .out hs
def d60{l:U0}(h:l.all okK=true):l.map cO=l:=by
 have: ∀x∈l,cO x=id x:=λx hx=>okK_at (k9.1 h x hx)
 rw[y6 this,F5]
def dz0(l:U0){i:Nat}(hi:i<l.length):(bubA false 0 (srt false (l.take i)++[cg l i]) i).2=srt false (l.take (i+1)):=by
 have hl:(jB false (l.take i)).length=i:=by have:=srt_len false (l.take i);unfold srt at this;rw[V3,l5]at this;omega
 have:=Sx false (cg l i) (P:=[]) (a:=0) rfl (jB false (l.take i)) [];rw[hl,List.nil_append,List.nil_append,o9]at this;unfold srt;rw[this,show l.take (i+1)=l.take i++[cg l i] by rw[P3,show l[i]?.toList=[cg l i] by simp[cg,k5,hi]],ZT]
def t_sort5{I:Opq}(hf: ∀i a,I.f i a=F i a)(hn:(I.w 0).L.length<=400)(h:(F 431 [I.w 0]).Z=true):W5 cK5 I=some (0,[F 490 [I.w 0]]):=by
 obtain⟨e,ho⟩:=f431 h;generalize hL:(I.w 0).L=l at e ho hn;have e480:bZ I AW=cC (0,[.D l.length,.D l.length,.A (srt false l)]):=by show I.f 480 [.D (0:Nat),.D 0,.A [],.D 0,.D (I.w 0).L.length,I.w 0]=_;rw[hf];show cC (0,[.D (I.w 0).L.length,.D (I.w 0).L.length,.A (srt false ((I.w 0).L.map cO))])=_;rw[hL,d60 ho]
 have d0:bZ I (zo AW 0)= .D l.length:=by show ck (bZ I AW).L 1 0=_;rw[e480];rfl
 have d1:bZ I Im= .A (srt false l):=by show ck (bZ I AW).L 1 2=_;rw[e480];rfl
 have hF:F 490 [I.w 0]= .A (srt false l):=by show Val.A (srt false (I.w 0).L)=_;rw[hL]
 rw[hF];refine Y3 (r:=(0,[.D l.length,.D l.length,.A (srt false l)])) ?_ e480 (W6 ?_ ?_);refine mE (λi=>[.D i,.D i,.A (srt false (l.take i))]) (n:=l.length) rfl (λi hi=> ?_) ?_
 have tl:(srt false (l.take i)).length=i:=by grind[srt_len,List.length_take]
 have ta:(srt false (l.take i)).all okK=true:=yT (k9.2 λv hv=>k9.1 ho v (J3 hv)) (srt_perm false _);have hb:=dz0 l hi;have hbl:(srt false (l.take (i+1))).length=i+1:=by grind[srt_len,List.length_take]
 generalize srt false (l.take i)=M0 at tl ta hb⊢;obtain⟨aa,ae⟩: ∃aa,aa=I.U 2000 [.D i,.D i,.A M0]:=⟨_,rfl⟩;have v0:aa.w 2000= .D i:=by rw[ae];rfl
 have v1:aa.w 2001= .D i:=by rw[ae];rfl
 have v2:aa.w 2002= .A M0:=by rw[ae];rfl
 have u0:aa.w 0= .A l:=by rw[ae];exact e
 have hf': ∀i a,aa.f i a=F i a:=by rw[ae];exact hf
 have xa:okK (cg l i)=true:=k9.1 ho _ (Hj hi);have dc:bZ aa oc= .A (M0++[cg l i]):=by show Val.A ((aa.w 2002).L++[cO (cg (aa.w 0).L (aa.w 2001).I.toNat)])=_;rw[v2,u0,v1];show Val.A (M0++[cO (cg l i)])=_;rw[okK_at xa]
 have ml:(M0++[cg l i]).length=i+1:=by grind
 have ma:(M0++[cg l i]).all okK=true:=by grind
 have de:bZ aa RP=cC (0,[.D (bubA false 0 (M0++[cg l i]) i).1,.A (srt false (l.take (i+1)))]):=by show aa.f 481 [aa.w 2001,bZ aa oc,.D 0,.D (aa.w 0).L.length,aa.w 0,.D (bZ aa oc).L.length,bZ aa oc,aa.w 2001]=_;rw[hf',dc,v1];show cC (0,[.D (bubA false 0 (M0++[cg l i]) i).1,.A (bubA false 0 (M0++[cg l i]) i).2])=_;rw[hb]
 have df:bZ aa zr= .A (srt false (l.take (i+1))):=by show ck (bZ aa RP).L 1 1=_;rw[de];rfl
 rw[<-ae,cK6];refine cD (by show decide ((aa.w 2001).I<((aa.w 0).L.length:Int))=true;simp_all) (W6 (by show decide ((0:Int)<=(aa.w 2001).I)=true;simp_all) (W6 ?_ (Y3 (r:=(0,[.D (bubA false 0 (M0++[cg l i]) i).1,.A (srt false (l.take (i+1)))])) ?_ de (W6 ?_ ?_))));show(decide ((aa.w 2000).I=((aa.w 2002).L.length:Int))&&decide (((bZ aa oc).L.length:Int)<=1000000))=true;rw[v0,v2,dc];exact and2 (i6 (by simp_all)) (i6 (by show((M0++[cg l i]).length:Int)<=1000000;omega));show cQ _ [aa.w 2001,bZ aa oc]=_;rw[v1,dc,kK,<-hb];exact dU6 (N:=i+1) (by simp_all) (by omega) i _ (by omega) ml ma;show decide (((bZ aa oc).L.length:Int)=((bZ aa zr).L.length:Int))=true;simp_all;show some (0,[Val.D ((bZ aa zr).L.length:Int),Val.D (cr .add .i64 (aa.w 2001).I 1),bZ aa zr])=_;rw[df,v1,a01,xd (by omega)];simp_all;rw[cK6,A6];refine Y9 ?_ rfl;show decide ((l.length:Int)<((I.w 0).L.length:Int))=false;grind;show decide ((bZ I (zo AW 0)).I=((bZ I Im).L.length:Int))=true;rw[d0,d1];exact i6 (by show(l.length:Int)=((srt false l).length:Int);rw[srt_len]);show some (0,[bZ I Im])=_;rw[d1]
end Go.Ev.S7
namespace Go.Ev
open Go
def em2:VT:= .J (zs aR (zl 0)) (.N (zp aR) (.N (zs aR (zl 1)) (.J (dR (zn (zn (.O (.scmp .eql) [zg 0 2001 0,zg 1 2001 0]) (zn (cF (zg 0 2001 1) (zg 1 2001 1)) (cF (zg 0 2001 2) (zg 1 2001 2)))) (zn (.O .beq [zg 0 2001 3,zg 1 2001 3]) (zn (cF (zg 0 2001 4) (zg 1 2001 4)) (zn (cF (zg 0 2001 5) (zg 1 2001 5)) (zn (cF (zg 0 2001 6) (zg 1 2001 6)) (cF (zg 0 2001 7) (zg 1 2001 7)))))))) (.W 2 [.cb false,aR]) (.W 0 [aU,zi aR])))) (.W 1 [aU,aR])
def Rg:VT:= .J (cX (zl 0) (zl 1)) (.W 0 [.cb false]) (.loop ⟨131,[.cb false,aM],2000,[aM,zl 0,aN,aM,zl 1,aO]⟩ em2 [.W 0 [.cb true],.W 0 [zo (.Q 131 [.cb false,aM,aM,zl 0,aN,aM,zl 1,aO]) 0]])
def em3:VT:= .J (zs aR (zl 0)) (.N (zp aR) (.N (zn (cF aU (zl 2002)) (zb (zL (zc aW (.O .row [zw 0 2001]))) 1000000)) (.W 0 [zL (zc aW (.O .row [zw 0 2001])),zi aR,zc aW (.O .row [zw 0 2001])]))) (.W 1 [aU,aR,aW])
def Yl:SX:= .Q 130 [zL co,aM,co,aM,zl 0,aN]
def VZ:SX:= zo Yl 2
def Yq:VT:= .loop ⟨130,[zL co,aM,co],2000,[aM,zl 0,aN]⟩ em3 [.N (cF (zo Yl 0) (zL VZ)) (.W 0 [VZ])]
def bh5:VT:=Yq
def DU:VT:= .J (zs bc aR) (.N (zn (zp bc) (zs bc (zl 0))) (.N (zn (zp aR) (zs aR (zl 0))) (.J (zn (.O (.scmp .eql) [zg 0 3001 0,zg 0 2001 0]) (zn (cF (zg 0 3001 1) (zg 0 2001 1)) (cF (zg 0 3001 2) (zg 0 2001 2)))) (.W 2 [.cb false,bc]) (.W 0 [aY,zi bc])))) (.W 1 [aY,bc])
def EO:VT:= .J (zs aR (zl 0)) (.N (zp aR) (.J (zn (ze (zg 0 2001 3) 0) (zn (ze (zg 0 2001 4) 0) (zn (ze (zg 0 2001 5) 0) (ze (zg 0 2001 6) 0)))) (.W 2 [.cb false,aR]) (.J (ze (zg 0 2001 3) 1) (.J (cF (zg 0 2001 4) (zg 0 2001 5)) (.J (cF (zg 0 2001 5) (zg 0 2001 6)) (.loop ⟨134,[aU,aM],3000,[aM,zl 0,aN,aR]⟩ DU [.W 0 [zo (.Q 134 [aU,aM,aM,zl 0,aN,aR]) 0,zi aR],.W 2 [zo (.Q 134 [aU,aM,aM,zl 0,aN,aR]) 0,aR]]) (.W 2 [.cb false,aR])) (.W 2 [.cb false,aR])) (.J (zt (zg 0 2001 3) 1) (.J (eE (zg 0 2001 5) (zg 0 2001 6)) (.loop ⟨134,[aU,aM],3000,[aM,zl 0,aN,aR]⟩ DU [.W 0 [zo (.Q 134 [aU,aM,aM,zl 0,aN,aR]) 0,zi aR],.W 2 [zo (.Q 134 [aU,aM,aM,zl 0,aN,aR]) 0,aR]]) (.W 2 [.cb false,aR])) (.W 2 [.cb false,aR]))))) (.W 1 [aU,aR])
def Xt:VT:= .loop ⟨133,[.cb false,aM],2000,[aM,zl 0,aN]⟩ EO [.W 0 [.cb true],.W 0 [zo (.Q 133 [.cb false,aM,aM,zl 0,aN]) 0]]
def em4:VT:= .J (zs aR (zl 0)) (.N (zp aR) (.J (zn (.O (.scmp .eql) [zg 0 2001 0,aO]) (zn (cF (zg 0 2001 1) aS) (cF (zg 0 2001 2) aV))) (.W 2 [.cb true,aR,zg 0 2001 3,zg 0 2001 4,zg 0 2001 5,zg 0 2001 6]) (.W 0 [aU,zi aR,aW,bj,bq,bv]))) (.W 1 [aU,aR,aW,bj,bq,bv])
def Dz:SX:= .Q 135 [.cb false,aM,aM,aM,aM,aM,aM,zl 0,aN,aO,aS,aV]
def Wc:VT:= .loop ⟨135,[.cb false,aM,aM,aM,aM,aM],2000,[aM,zl 0,aN,aO,aS,aV]⟩ em4 [.W 0 [aM,aM,aM,aM,.cb false],.W 0 [zo Dz 2,zo Dz 3,zo Dz 4,zo Dz 5,zo Dz 0]]
def Rb:VT:= .J (.O (.scmp .lss) [aN,aV]) (.W 0 [.cb true]) (.J (.O (.scmp .gtr) [aN,aV]) (.W 0 [.cb false]) (.J (zs aS bg) (.W 0 [.cb true]) (.J (dF aS bg) (.W 0 [.cb false]) (.J (zs aO aT) (.W 0 [.cb true]) (.J (dF aO aT) (.W 0 [.cb false]) (.W 0 [.cb false]))))))
def MU:SX:= zs aS bt
def uy:SX:= zs aO bp
def tw:SX:= dF aO bp
def Nw:SX:= dF aS bt
def Tr:VT:= .J (.O (.scmp .lss) [aN,bh]) (.J (MU) (.J (uy) (.W 0 [.C (-1)]) (.J (tw) (.W 0 [.C (-1)]) (.W 0 [.C (-1)]))) (.J (Nw) (.J (uy) (.W 0 [.C (-1)]) (.J (tw) (.W 0 [.C (-1)]) (.W 0 [.C (-1)]))) (.J (uy) (.W 0 [.C (-1)]) (.J (tw) (.W 0 [.C (-1)]) (.W 0 [.C (-1)]))))) (.J (.O (.scmp .gtr) [aN,bh]) (.J (MU) (.J (uy) (.W 0 [aZ]) (.J (tw) (.W 0 [aZ]) (.W 0 [aZ]))) (.J (Nw) (.J (uy) (.W 0 [aZ]) (.J (tw) (.W 0 [aZ]) (.W 0 [aZ]))) (.J (uy) (.W 0 [aZ]) (.J (tw) (.W 0 [aZ]) (.W 0 [aZ]))))) (.J (MU) (.J (uy) (.W 0 [.C (-1)]) (.J (tw) (.W 0 [.C (-1)]) (.W 0 [.C (-1)]))) (.J (Nw) (.J (uy) (.W 0 [aZ]) (.J (tw) (.W 0 [aZ]) (.W 0 [aZ]))) (.J (uy) (.W 0 [.C (-1)]) (.J (tw) (.W 0 [aZ]) (.W 0 [aM]))))))
def Bf:VT:= .J (zt aY 0) (.N (zn (zp aY) (zs aY (zL (zc aW (.O .row [zw 0 2001]))))) (.N (zs aY (zl 3001)) (.N (zn (zp (zm aY aZ)) (zs (zm aY aZ) (zL (zc aW (.O .row [zw 0 2001]))))) (.N (zs (zm aY aZ) (zl 3001)) (.J (.Q 205 [zg 3001 3000 0,zg 3001 3000 1,zg 3001 3000 2,cq bc (zm aY aZ) 0,cq bc (zm aY aZ) 1,cq bc (zm aY aZ) 2]) (.N (zs aY (zL (.O .lset [bc,zm aY aZ,zw 3001 3000]))) (.W 0 [zm aY aZ,.O .lset [.O .lset [bc,zm aY aZ,zw 3001 3000],aY,.O .row [cq bc (zm aY aZ) 0,cq bc (zm aY aZ) 1,cq bc (zm aY aZ) 2,cq bc (zm aY aZ) 3,cq bc (zm aY aZ) 4,cq bc (zm aY aZ) 5,cq bc (zm aY aZ) 6,cq bc (zm aY aZ) 7]]])) (.W 1 [aY,bc])))))) (.W 1 [aY,bc])
def Hk:VT:= .J (zs aR (zl 0)) (.N (zp aR) (.N (zn (cF aU (zl 2002)) (zb (zL (zc aW (.O .row [zw 0 2001]))) 1000000)) (.loop ⟨137,[aR,zc aW (.O .row [zw 0 2001])],3000,[aM,zl 0,aN,zL (zc aW (.O .row [zw 0 2001])),zc aW (.O .row [zw 0 2001]),aR]⟩ Bf [.N (cF (zL (zc aW (.O .row [zw 0 2001]))) (zL (zo (.Q 137 [aR,zc aW (.O .row [zw 0 2001]),aM,zl 0,aN,zL (zc aW (.O .row [zw 0 2001])),zc aW (.O .row [zw 0 2001]),aR]) 1))) (.W 0 [zL (zo (.Q 137 [aR,zc aW (.O .row [zw 0 2001]),aM,zl 0,aN,zL (zc aW (.O .row [zw 0 2001])),zc aW (.O .row [zw 0 2001]),aR]) 1),zi aR,zo (.Q 137 [aR,zc aW (.O .row [zw 0 2001]),aM,zl 0,aN,zL (zc aW (.O .row [zw 0 2001])),zc aW (.O .row [zw 0 2001]),aR]) 1])]))) (.W 1 [aU,aR,aW])
def XV:SX:= .Q 136 [zL co,aM,co,aM,zl 0,aN]
def Rc:SX:= zo XV 2
def Uk:VT:= .loop ⟨136,[zL co,aM,co],2000,[aM,zl 0,aN]⟩ Hk [.N (cF (zo XV 0) (zL Rc)) (.W 0 [Rc])]
def xq:VT:= .J (zs aU (zl 0)) (.N (zp aU) (.J (zs (.O (.mfind [.str,.int .i64,.int .i64]) [aR,zu 0 2000]) (zl 2001)) (.W 2 [aU,aR]) (.J (zn (ze (zg 0 2000 3) 0) (zn (ze (zg 0 2000 4) 0) (zn (ze (zg 0 2000 5) 0) (ze (zg 0 2000 6) 0)))) (.W 2 [aU,aR]) (.J (zt (zg 0 2000 3) 0) (.J (eE (zg 0 2000 5) (zg 0 2000 6)) (.J (zt (zg 0 2000 3) 1) (.W 0 [zi aU,.O .J [zs (.O (.mfind [.str,.int .i64,.int .i64]) [aR,zu 0 2000]) (zl 2001),.O .lset [aR,.O (.mfind [.str,.int .i64,.int .i64]) [aR,zu 0 2000],zv 0 2000],zc aR (.O .row [zv 0 2000])]]) (.J (dR (zn (ze (zg 0 2000 3) 1) (zn (cF (zg 0 2000 4) (zg 0 2000 4)) (zn (cF (zg 0 2000 5) (zg 0 2000 4)) (cF (zg 0 2000 6) (zg 0 2000 4)))))) (.W 2 [aU,aR]) (.W 0 [zi aU,.O .J [zs (.O (.mfind [.str,.int .i64,.int .i64]) [aR,zu 0 2000]) (zl 2001),.O .lset [aR,.O (.mfind [.str,.int .i64,.int .i64]) [aR,zu 0 2000],zv 0 2000],zc aR (.O .row [zv 0 2000])]]))) (.W 2 [aU,aR])) (.W 2 [aU,aR]))))) (.W 1 [aU,aR])
def sB:VT:= .J (zs aU (zl 1)) (.N (zp aU) (.J (zs (.O (.mfind [.str,.int .i64,.int .i64]) [aR,zu 1 2000]) (zl 2001)) (.W 2 [aU,aR]) (.J (zn (ze (zg 1 2000 3) 0) (zn (ze (zg 1 2000 4) 0) (zn (ze (zg 1 2000 5) 0) (ze (zg 1 2000 6) 0)))) (.W 2 [aU,aR]) (.J (zt (zg 1 2000 3) 0) (.J (eE (zg 1 2000 5) (zg 1 2000 6)) (.J (zt (zg 1 2000 3) 1) (.W 0 [zi aU,.O .J [zs (.O (.mfind [.str,.int .i64,.int .i64]) [aR,zu 1 2000]) (zl 2001),.O .lset [aR,.O (.mfind [.str,.int .i64,.int .i64]) [aR,zu 1 2000],zv 1 2000],zc aR (.O .row [zv 1 2000])]]) (.J (dR (zn (ze (zg 1 2000 3) 1) (zn (cF (zg 1 2000 4) (zg 1 2000 4)) (zn (cF (zg 1 2000 5) (zg 1 2000 4)) (cF (zg 1 2000 6) (zg 1 2000 4)))))) (.W 2 [aU,aR]) (.W 0 [zi aU,.O .J [zs (.O (.mfind [.str,.int .i64,.int .i64]) [aR,zu 1 2000]) (zl 2001),.O .lset [aR,.O (.mfind [.str,.int .i64,.int .i64]) [aR,zu 1 2000],zv 1 2000],zc aR (.O .row [zv 1 2000])]]))) (.W 2 [aU,aR])) (.W 2 [aU,aR]))))) (.W 1 [aU,aR])
def vt:SX:= zo (.Q 140 [aM,co,co,aM,zl 0,aN,zl 0]) 1
def FN:SX:= zo (.Q 140 [aM,co,co,aM,zl 1,aO,zl 1]) 1
def CG:VT:= .J (zs aR (zl 0)) (.N (zp aR) (.J (dR (zs (.O (.mfind [.str,.int .i64,.int .i64]) [zo (.Q 140 [aM,co,co,aM,zl 1,aO,zl 1]) 1,zu 0 2001]) (zL (zo (.Q 140 [aM,co,co,aM,zl 1,aO,zl 1]) 1)))) (.N (zn (cF aU (zl 2002)) (zb (zL (zc aW (.O .row [.O .row [zg 0 2001 0,zg 0 2001 1,zg 0 2001 2,.cb true,aM,aM,aM,aM]]))) 1000000)) (.W 0 [zL (zc aW (.O .row [.O .row [zg 0 2001 0,zg 0 2001 1,zg 0 2001 2,.cb true,aM,aM,aM,aM]])),zi aR,zc aW (.O .row [.O .row [zg 0 2001 0,zg 0 2001 1,zg 0 2001 2,.cb true,aM,aM,aM,aM]])])) (.W 0 [aU,zi aR,aW]))) (.W 1 [aU,aR,aW])
def Kr:SX:= .Q 141 [zL co,aM,co,aM,zl 1,aO,vt,FN,aM,zl 0,aN,zl 0]
def qF:SX:= zo Kr 2
def Ey:VT:= .J (zs aR (zl 1)) (.N (zp aR) (.J (dR (zs (.O (.mfind [.str,.int .i64,.int .i64]) [zo (.Q 140 [aM,co,co,aM,zl 0,aN,zl 0]) 1,zu 1 2001]) (zL (zo (.Q 140 [aM,co,co,aM,zl 0,aN,zl 0]) 1)))) (.N (zn (cF aU (zl 2002)) (zb (zL (zc aW (.O .row [.O .row [zg 1 2001 0,zg 1 2001 1,zg 1 2001 2,.cb false,zg 1 2001 3,zg 1 2001 4,zg 1 2001 5,zg 1 2001 6]]))) 1000000)) (.W 0 [zL (zc aW (.O .row [.O .row [zg 1 2001 0,zg 1 2001 1,zg 1 2001 2,.cb false,zg 1 2001 3,zg 1 2001 4,zg 1 2001 5,zg 1 2001 6]])),zi aR,zc aW (.O .row [.O .row [zg 1 2001 0,zg 1 2001 1,zg 1 2001 2,.cb false,zg 1 2001 3,zg 1 2001 4,zg 1 2001 5,zg 1 2001 6]])])) (.J (dR (zn (cF (.O .J [zs (.O (.mfind [.str,.int .i64,.int .i64]) [zo (.Q 140 [aM,co,co,aM,zl 0,aN,zl 0]) 1,zu 1 2001]) (zL (zo (.Q 140 [aM,co,co,aM,zl 0,aN,zl 0]) 1)),cq (zo (.Q 140 [aM,co,co,aM,zl 0,aN,zl 0]) 1) (.O (.mfind [.str,.int .i64,.int .i64]) [zo (.Q 140 [aM,co,co,aM,zl 0,aN,zl 0]) 1,zu 1 2001]) 3,aM]) (zg 1 2001 3)) (zn (cF (.O .J [zs (.O (.mfind [.str,.int .i64,.int .i64]) [zo (.Q 140 [aM,co,co,aM,zl 0,aN,zl 0]) 1,zu 1 2001]) (zL (zo (.Q 140 [aM,co,co,aM,zl 0,aN,zl 0]) 1)),cq (zo (.Q 140 [aM,co,co,aM,zl 0,aN,zl 0]) 1) (.O (.mfind [.str,.int .i64,.int .i64]) [zo (.Q 140 [aM,co,co,aM,zl 0,aN,zl 0]) 1,zu 1 2001]) 4,aM]) (zg 1 2001 4)) (zn (cF (.O .J [zs (.O (.mfind [.str,.int .i64,.int .i64]) [zo (.Q 140 [aM,co,co,aM,zl 0,aN,zl 0]) 1,zu 1 2001]) (zL (zo (.Q 140 [aM,co,co,aM,zl 0,aN,zl 0]) 1)),cq (zo (.Q 140 [aM,co,co,aM,zl 0,aN,zl 0]) 1) (.O (.mfind [.str,.int .i64,.int .i64]) [zo (.Q 140 [aM,co,co,aM,zl 0,aN,zl 0]) 1,zu 1 2001]) 5,aM]) (zg 1 2001 5)) (cF (.O .J [zs (.O (.mfind [.str,.int .i64,.int .i64]) [zo (.Q 140 [aM,co,co,aM,zl 0,aN,zl 0]) 1,zu 1 2001]) (zL (zo (.Q 140 [aM,co,co,aM,zl 0,aN,zl 0]) 1)),cq (zo (.Q 140 [aM,co,co,aM,zl 0,aN,zl 0]) 1) (.O (.mfind [.str,.int .i64,.int .i64]) [zo (.Q 140 [aM,co,co,aM,zl 0,aN,zl 0]) 1,zu 1 2001]) 6,aM]) (zg 1 2001 6)))))) (.N (zn (cF aU (zl 2002)) (zb (zL (zc aW (.O .row [.O .row [zg 1 2001 0,zg 1 2001 1,zg 1 2001 2,.cb false,zg 1 2001 3,zg 1 2001 4,zg 1 2001 5,zg 1 2001 6]]))) 1000000)) (.W 0 [zL (zc aW (.O .row [.O .row [zg 1 2001 0,zg 1 2001 1,zg 1 2001 2,.cb false,zg 1 2001 3,zg 1 2001 4,zg 1 2001 5,zg 1 2001 6]])),zi aR,zc aW (.O .row [.O .row [zg 1 2001 0,zg 1 2001 1,zg 1 2001 2,.cb false,zg 1 2001 3,zg 1 2001 4,zg 1 2001 5,zg 1 2001 6]])])) (.W 0 [aU,zi aR,aW])))) (.W 1 [aU,aR,aW])
def FA:SX:= .Q 142 [zL qF,aM,qF,vt,aM,zl 1,aO,zl 1]
def Gs:SX:= zo FA 0
def vJ:SX:= zo FA 2
def Rr:VT:= .loop ⟨140,[aM,co],2000,[co,aM,zl 0,aN,zl 0]⟩ xq [.loop ⟨140,[aM,co],2000,[co,aM,zl 1,aO,zl 1]⟩ sB [.loop ⟨141,[zL co,aM,co],2000,[aM,zl 1,aO,vt,FN,aM,zl 0,aN,zl 0]⟩ CG [.N (cF (zo Kr 0) (zL qF)) (.loop ⟨142,[zL qF,aM,qF],2000,[vt,aM,zl 1,aO,zl 1]⟩ Ey [.N (zn (cF Gs (zL vJ)) (zb (zL vJ) 1000000)) (.N (cF Gs (zL (.Q 211 [vJ]))) (.W 0 [aM,.Q 211 [vJ]]))])],.W 0 [bm,co]],.loop ⟨140,[aM,co],2000,[co,aM,zl 1,aO,zl 1]⟩ sB [.W 0 [bm,co],.W 0 [bm,co]]]
def DD:VT:= .J (zs aR (zl 0)) (.N (zp aR) (.N (zb (zl 1) 1000000) (.J (dR (.Q 204 [aO,zg 0 2001 0,zg 0 2001 1,zg 0 2001 2])) (.N (zn (cF aU (zl 2002)) (zb (zL (zc aW (.O .row [.O .row [zg 0 2001 0,zg 0 2001 1,zg 0 2001 2,.cb true,aM,aM,aM,aM]]))) 1000000)) (.W 0 [zL (zc aW (.O .row [.O .row [zg 0 2001 0,zg 0 2001 1,zg 0 2001 2,.cb true,aM,aM,aM,aM]])),zi aR,zc aW (.O .row [.O .row [zg 0 2001 0,zg 0 2001 1,zg 0 2001 2,.cb true,aM,aM,aM,aM]])])) (.W 0 [aU,zi aR,aW])))) (.W 1 [aU,aR,aW])
def Fx:SX:= .Q 143 [zL co,aM,co,aM,zl 0,aN,aM,zl 1,aO]
def rX:SX:= zo Fx 2
def EX:VT:= .J (zs aR (zl 1)) (.N (zp aR) (.N (zb (zl 0) 1000000) (.J (dR (.Q 204 [aN,zg 1 2001 0,zg 1 2001 1,zg 1 2001 2])) (.N (zn (cF aU (zl 2002)) (zb (zL (zc aW (.O .row [.O .row [zg 1 2001 0,zg 1 2001 1,zg 1 2001 2,.cb false,zg 1 2001 3,zg 1 2001 4,zg 1 2001 5,zg 1 2001 6]]))) 1000000)) (.W 0 [zL (zc aW (.O .row [.O .row [zg 1 2001 0,zg 1 2001 1,zg 1 2001 2,.cb false,zg 1 2001 3,zg 1 2001 4,zg 1 2001 5,zg 1 2001 6]])),zi aR,zc aW (.O .row [.O .row [zg 1 2001 0,zg 1 2001 1,zg 1 2001 2,.cb false,zg 1 2001 3,zg 1 2001 4,zg 1 2001 5,zg 1 2001 6]])])) (.J (dR (zn (cF (cq (.Q 203 [aN,zg 1 2001 0,zg 1 2001 1,zg 1 2001 2]) aM 0) (zg 1 2001 3)) (zn (cF (cq (.Q 203 [aN,zg 1 2001 0,zg 1 2001 1,zg 1 2001 2]) aM 1) (zg 1 2001 4)) (zn (cF (cq (.Q 203 [aN,zg 1 2001 0,zg 1 2001 1,zg 1 2001 2]) aM 2) (zg 1 2001 5)) (cF (cq (.Q 203 [aN,zg 1 2001 0,zg 1 2001 1,zg 1 2001 2]) aM 3) (zg 1 2001 6)))))) (.N (zn (cF aU (zl 2002)) (zb (zL (zc aW (.O .row [.O .row [zg 1 2001 0,zg 1 2001 1,zg 1 2001 2,.cb false,zg 1 2001 3,zg 1 2001 4,zg 1 2001 5,zg 1 2001 6]]))) 1000000)) (.W 0 [zL (zc aW (.O .row [.O .row [zg 1 2001 0,zg 1 2001 1,zg 1 2001 2,.cb false,zg 1 2001 3,zg 1 2001 4,zg 1 2001 5,zg 1 2001 6]])),zi aR,zc aW (.O .row [.O .row [zg 1 2001 0,zg 1 2001 1,zg 1 2001 2,.cb false,zg 1 2001 3,zg 1 2001 4,zg 1 2001 5,zg 1 2001 6]])])) (.W 0 [aU,zi aR,aW]))))) (.W 1 [aU,aR,aW])
def JF:SX:= .Q 144 [zL rX,aM,rX,aM,zl 0,aN,aM,zl 1,aO]
def yJ:SX:= zo JF 0
def Hr:SX:= zo JF 2
def Gv:SX:= .O .lsub [Hr,aM,yJ]
def WH:VT:= .N (zb (zl 0) 1000000) (.J (dR (.Q 202 [aN])) (.W 0 [bm,co]) (.N (zb (zl 1) 1000000) (.J (dR (.Q 202 [aO])) (.W 0 [bm,co]) (.loop ⟨143,[zL co,aM,co],2000,[aM,zl 0,aN,aM,zl 1,aO]⟩ DD [.N (cF (zo Fx 0) (zL rX)) (.loop ⟨144,[zL rX,aM,rX],2000,[aM,zl 0,aN,aM,zl 1,aO]⟩ EX [.N (zn (zn (zp yJ) (eE yJ (zL Hr))) (zb (zL Gv) 1000)) (.W 0 [aM,.Q 207 [Gv]])])]))))
def wrap_i64{x:Int}(h:0<=x)(h2:x<=10000000):IntKind.i64.wrap x=x:=by simp only[IntKind.wrap,IntKind.bits,IntKind.signed];simp;omega
def qj{step:U0->Option (Nat×U0)}{n:Nat}{a0:U0}{g:Nat->U0}(mk:Nat->U0->U0){s0 p:U0}(h0:s0=mk 0 a0)
 (h1: ∀i,i<n->step (mk i (a0++cw g i))=some (0,mk (i+1) (a0++cw g i++g i))) (h2:step (mk n (a0++cw g n))=some (1,p)):cQ step s0=some (0,p):=by
 have:=fD (step:=step) (st:=λi=>mk i (a0++cw g i)) (n:=n) (j:=0) (p:=p) (λi hi=>by show step (mk i (a0++cw g i))=some (0,mk (i+1) (a0++(cw g i++g i)));rw[h1 i hi,A8]) h2;rw[h0];simpa only[cw,o9]using this
def SW{α O:Type}(f:α->O): ∀l:List α,l.flatMap (λr=>[f r])=l.map f
 | []=>rfl
 |a::l=>by rw[B2,SW f l];rfl
def wJ(r:Val):Val.A [Y5 r 0,Y5 r 1,Y5 r 2,Y5 r 3,Y5 r 4,Y5 r 5,Y5 r 6]=cO r:=rfl
def mE{step:U0->Option (Nat×U0)}{n j:Nat}(st:Nat->U0){s0 p:U0}(h0:s0=st 0)(h1: ∀i,i<n->step (st i)=some (0,st (i+1)))(h2:step (st n)=some (j+1,p)):cQ step s0=some (j,p):=by rw[h0];exact fD h1 h2
def Bh(l:U0)(i:Nat):ck l (i:Int) 7=Y5 (cg l i) 7:=rfl
def cL1{I:Opq}(hf: ∀i a,I.f i a=F i a)(hn:(I.w 0).L.length<=1000):W5 Yq I=some (0,[F 200 [I.w 0]]):=by
 have hg: ∀i,(cw (λi=>[eR (cg (I.w 0).L i)]) i).length<=i:=λi=>by simpa using jz (g:=λi=>[eR (cg (I.w 0).L i)]) (m:=1) (λ_=>by simp) i
 have hr:cw (λi=>[eR (cg (I.w 0).L i)]) (I.w 0).L.length=(I.w 0).L.map eR:=by rw[nw,show(λi=>[eR (cg (I.w 0).L i)])=λi=>(λr=>[eR r]) ((I.w 0).L.getD i (.A []))from rfl,zW (λr=>[eR r]) (.A []) (I.w 0).L];exact SW _ _
 unfold Yq em3 VZ Yl;simp only[W5,iP,Y6,bZ,dB,cB,List.cons_append,List.nil_append];rw[qj (λi acc=>[.D acc.length,.D i,.A acc]) (a0:=[]) (g:=λi=>[eR (cg (I.w 0).L i)]) (n:=(I.w 0).L.length) (p:=[.D (iv [] (λr=>[eR r]) (I.w 0).L).length,.D (I.w 0).L.length,.A (iv [] (λr=>[eR r]) (I.w 0).L)]) (by simp)];simp[hf,F,F0,S9.FT,S9.FU,S9.FQ,S9.FE,lY,jV,jN,iv,iP,W5,bZ,Y6,dB,cB,cC,ck,hr]
 intro i hi;have:=hg i;have hb:((cw (λi=>[eR (cg (I.w 0).L i)]) i).length:Int)+1<=1000000:=by omega
 simp[hi,Y8,aa3 (show i<=10000000 by omega),gq,gp,gj,ix,iu,iq,io,Bh,Iw,hb];simp[Y8,iv]
def dz3{I:Opq}(hf: ∀i a,I.f i a=F i a)(hn:(I.w 0).L.length<=1000000):W5 Rg I=some (0,[F 201 [I.w 0,I.w 1]]):=by
 unfold Rg em2;simp only[W5,iP,Y6,bZ,dB,cB,List.cons_append,List.nil_append];by_cases hl:(I.w 0).L.length=(I.w 1).L.length
 have hl':((I.w 0).L.length:Int)=(I.w 1).L.length:=by rw[hl]
 rw[wH (bad:=λi=> !decide (pM (cg (I.w 0).L i)=pM (cg (I.w 1).L i))) (px:=λk=>[.B false,.D k]) (n:=(I.w 0).L.length)];simp only[hf,F,F0,S9.FT,S9.FU,S9.FQ,S9.FE,jV,jN,Po pM _ _ hl,XP pM _ _ hl,hl'];by_cases h:(I.w 0).L.map pM=(I.w 1).L.map pM<;>simp[iP,W5,h,bZ,Y6,cB,cC,ck,hf,F,F0,S9.FT,S9.FU,S9.FQ,S9.FE,jV,jN,hl',xw,Po pM _ _ hl,Pz]
 intro i hi hb;have hi':i<(I.w 1).L.length:=by omega
 simp only[Bool.not_eq_false',decide_eq_true_eq,c85]at hb;simp[hi,hi',Y8,aa3 (show i<=10000000 by omega),gq,gp,gj,ix,iu,iq,io,Bh,hb]
 intro i hi hb;have hi':i<(I.w 1).L.length:=by omega
 simp only[s8,decide_eq_false_iff_not,c85]at hb;simp[hi,hi',Y8,gq,gp,gj,ix,iu,iq,io,Bh];simpa using hb;simp[Y8]
 have hl': ¬((I.w 0).L.length:Int)=(I.w 1).L.length:=by omega
 simp[hl',F,F0,S9.FT,S9.FU,S9.FQ,S9.FE,jV,jN,Pz,xw,de2 _ hl,Y6,bZ]
def dU8{I:Opq}:W5 Rb I=some (0,[F 205 [I.w 0,I.w 1,I.w 2,I.w 3,I.w 4,I.w 5]]):=by
 simp only[Rb,W5,Y6,bZ,dB,cB,F,F0,S9.FT,S9.FU,S9.FQ,S9.FE,jV,jN,mS,a63,a29,a85,show∀a b,lC .lss a b=gC a b fromλ_ _=>rfl,show∀a b,lC .gtr a b=gC b a fromλ_ _=>rfl,fX];cases h1:gC (I.w 0).S (I.w 3).S with
 |true=>simp
 |false=>
  cases h2:gC (I.w 3).S (I.w 0).S with
  |true=>
   have: ¬(I.w 0).S=(I.w 3).S:=λh=>by rw[h]at h2;have:=HI (I.w 3).S;rw[show gC _ _=ii _ _ from rfl,this]at h2;cases h2
   simp[this]
  |false=>
   have:=Ja h1 h2;simp only[this,n9,if_false,decide_true,B0,B6];by_cases c1:(I.w 2).I<(I.w 5).I;simp[c1];by_cases c2:(I.w 5).I<(I.w 2).I
   have: ¬(I.w 2).I=(I.w 5).I:=by omega
   simp[c1,c2,this]
   have:(I.w 2).I=(I.w 5).I:=by omega
   by_cases c3:(I.w 1).I<(I.w 4).I<;>by_cases c4:(I.w 4).I<(I.w 1).I<;>simp[this,c3,c4]
def dU9{I:Opq}:W5 Tr I=some (0,[F 206 [I.w 0,I.w 1,I.w 2,I.w 8,I.w 9,I.w 10]]):=by simp only[Tr,MU,uy,tw,Nw,W5,Y6,bZ,dB,cB,F,F0,S9.FT,S9.FU,S9.FQ,S9.FE,jV,jN,mS,a63,a29,a85,show∀a b,lC .lss a b=gC a b fromλ_ _=>rfl,show∀a b,lC .gtr a b=gC b a fromλ_ _=>rfl,BX];by_cases h1:gC (I.w 0).S (I.w 8).S=true<;>by_cases h2:gC (I.w 8).S (I.w 0).S=true<;>by_cases c1:(I.w 2).I<(I.w 10).I<;>by_cases c2:(I.w 10).I<(I.w 2).I<;>by_cases c3:(I.w 1).I<(I.w 9).I<;>by_cases c4:(I.w 9).I<(I.w 1).I<;>simp[h1,h2,c1,c2,c3,c4]
def OD(m:U0)(k:U0):(m.findIdx λr=>gV [.str,.int .i64,.int .i64] r (.A k))=gM m (mS k 0):=by unfold gM;congr 1;funext r;rw[D6,decide_eq_true_iff];show(decide ((k.getD 0 default).S=(r.L.getD 0 default).S)&&(decide ((k.getD 1 default).I=(r.L.getD 1 default).I)&&(decide ((k.getD 2 default).I=(r.L.getD 2 default).I)&&true)))=true↔_;simp only[j8,decide_eq_true_eq,and_true,Y2,PaneM.mk.injEq,mS,ce,Y5];constructor<;>rintro⟨h1,h2,h3⟩<;>exact⟨h1.symm,h2.symm,h3.symm⟩
def bh7{l:U0}{p:PaneM}{k:Nat}(hk:k<gM l p): ¬Y2 (cg l k)=p:=by
 have h:=List.not_of_lt_findIdx hk;have hl:k<l.length:=A1 hk List.findIdx_le_length;simp only[decide_eq_false_iff_not]at h;have e:cg l k=l[k]:=by simp[cg,k5,hl]
 rw[e];simpa using h
def dV0{l:U0}{p:PaneM}(h:gM l p<l.length):Y2 (cg l (gM l p))=p:=by
 have:=List.findIdx_getElem (xs:=l) (p:=λr=>decide (Y2 r=p)) (w:=h);have e:cg l (gM l p)=l[gM l p]:=by simp[cg,k5,h]
 rw[e];exact j6 this
def dV1{I:Opq}(hf: ∀i a,I.f i a=F i a)(hn:(I.w 0).L.length<=1000000):W5 Wc I=some (0,[ck (F 203 [I.w 0,I.w 1,I.w 2,I.w 3]).L 0 0,ck (F 203 [I.w 0,I.w 1,I.w 2,I.w 3]).L 0 1,ck (F 203 [I.w 0,I.w 1,I.w 2,I.w 3]).L 0 2,ck (F 203 [I.w 0,I.w 1,I.w 2,I.w 3]).L 0 3,F 204 [I.w 0,I.w 1,I.w 2,I.w 3]]):=by
 unfold Wc em4 Dz;simp only[W5,iP,Y6,bZ,dB,cB,List.cons_append,List.nil_append];obtain⟨p,hp⟩: ∃p:PaneM,p=⟨(I.w 1).S,(I.w 2).I,(I.w 3).I⟩:=⟨_,rfl⟩;have hpan: ∀r:Val,Y2 r=p↔(Y5 r 0).S=(I.w 1).S/\(Y5 r 1).I=(I.w 2).I/\(Y5 r 2).I=(I.w 3).I:=λr=>by rw[hp];simp only[Y2,PaneM.mk.injEq]
 by_cases hh:gM (I.w 0).L p<(I.w 0).L.length;have hat:=(hpan _).1 (dV0 hh);rw[mE (λi=>[.B false,.D i,.D 0,.D 0,.D 0,.D 0]) (n:=gM (I.w 0).L p) (j:=1) (p:=(tC (I.w 0).L p).2) (by simp)];simp[hf,F,F0,S9.FT,S9.FU,S9.FQ,S9.FE,jV,jN,mS,<-hp,tC,fB,hh,iP,W5,bZ,Y6,cB,cC,ck];intro i hi;have hb:=(not_congr (hpan _)).1 (bh7 hi);simp[show i<(I.w 0).L.length by omega,Y8,aa3 (show i<=10000000 by omega),gq,gp,gj,ix,iu,iq,io];simpa using hb;simp[hh,Y8,gq,gp,gj,ix,iu,iq,io,hat,tC,fB];rw[mE (λi=>[.B false,.D i,.D 0,.D 0,.D 0,.D 0]) (n:=(I.w 0).L.length) (j:=0) (p:=(tC (I.w 0).L p).2) (by simp)];simp[hf,F,F0,S9.FT,S9.FU,S9.FQ,S9.FE,jV,jN,mS,<-hp,tC,fB,hh,iP,W5,bZ,Y6,cB,cC,ck];intro i hi;have hb:=(not_congr (hpan _)).1 (bh7 (l:=(I.w 0).L) (p:=p) (k:=i) (by omega));simp[hi,Y8,aa3 (show i<=10000000 by omega),gq,gp,gj,ix,iu,iq,io];simpa using hb;simp[Y8,tC,fB,hh]
def Y3{hd:LHd}{body:VT}{ks:abg}{I:Opq}{r:Nat×U0}{out:Option (Nat×U0)}(h1:cQ (λvs=>W5 body (I.U hd.v0 vs)) (Y6 I hd.s0)=some r)(h2:I.f hd.id (Y6 I (hd.s0++hd.fv))=cC r)(h3:iP ks r.1 I=out):W5 (.loop hd body ks) I=out:=by rw[W5.eq_5,h1];simp only;rw[c9 h2,h3]
def Xc:VT:= .loop ⟨134,[aU,aM],3000,[aM,zl 0,aN,aR]⟩ DU [.W 0 [zo (.Q 134 [aU,aM,aM,zl 0,aN,aR]) 0,zi aR],.W 2 [zo (.Q 134 [aU,aM,aM,zl 0,aN,aR]) 0,aR]]
def ef0{I:Opq}(hf: ∀i a,I.f i a=F i a){i:Nat}(h0:i<(I.w 0).L.length)(hn:(I.w 0).L.length<=1000000)(hx:I.w 2000= .B false)(hi:I.w 2001= .D i):
 W5 Xc I=some (if wE (I.w 0).L i then(2,[.B false,.D i])else(0,[.B false,.D (i+1:Nat)])):=by
 unfold Xc;refine Y3 (r:=gg (.B false) (λk=>[.B false,.D k]) (zU (I.w 0).L i) i) ?_ ?_ ?_;show cQ _ [I.w 2000,.D 0]=_;rw[hx];refine wH ?_ ?_ ?_;intro k hk hb;have hb: ¬Y2 (cg (I.w 0).L k)=Y2 (cg (I.w 0).L i):=of_decide_eq_false hb;rw[bG8]at hb;simp[DU,W5,Y6,bZ,dB,cB,hk,hi,h0,show k<(I.w 0).L.length by omega,Y8,aa3 (show k<=10000000 by omega),gq,gp,gj];simpa using hb;intro k hk hb;have hb:Y2 (cg (I.w 0).L k)=Y2 (cg (I.w 0).L i):=j6 hb;rw[bG8]at hb;simp[DU,W5,Y6,bZ,dB,cB,hk,hi,h0,show k<(I.w 0).L.length by omega,Y8,gq,gp,gj,hb];simp[DU,W5,Y6,bZ,dB,cB,hi,Y8];simp[hf,F,F0,S9.FT,S9.FU,S9.FQ,S9.FE,Y6,bZ,cB,jV,jN,hx,hi]
 have hF:F 134 [.B false,.D 0,.D 0,.D (I.w 0).L.length,I.w 0,.D i]=cC (gg (.B false) (λk=>[.B false,.D k]) (zU (I.w 0).L i) i):=by simp[F,F0,S9.FT,S9.FU,S9.FQ,S9.FE,jV,jN]
 rw[JP]at hF⊢;cases hd:wE (I.w 0).L i with
 |true=>
  have hd':(List.range i).any (zU (I.w 0).L i)=true:=hd;rw[hd',c9 rfl]at hF⊢;simp only[iP,W5,Y6,bZ,cB,hf,hx,hi,hF,a01,a41,if_true];rfl
 |false=>
  have hd':(List.range i).any (zU (I.w 0).L i)=false:=hd;rw[hd',b9 (by simp)]at hF⊢;simp only[iP,W5,Y6,bZ,cB,hf,hx,hi,hF,a01,a41,aa3 (show i<=10000000 by omega),n9,if_false];rfl
def d61{I:Opq}(hf: ∀i a,I.f i a=F i a)(hn:(I.w 0).L.length<=1000000):W5 Xt I=some (0,[F 202 [I.w 0]]):=by
 unfold Xt;have step: ∀i,i<(I.w 0).L.length->W5 EO (I.U 2000 [.B false,.D i])=some (if lg (I.w 0).L i then(2,[.B false,.D i])else(0,[.B false,.D (i+1:Nat)])):=by
  intro i hi;have hl:=ef0 (I:=I.U 2000 [.B false,.D i]) hf (i:=i) (by simpa[Y8]using hi) (by simpa[Y8]using hn) (by simp[Y8]) (by simp[Y8]);unfold Xc at hl;rw[show(I.U 2000 [.B false,.D i]).w 0=I.w 0 by simp[Y8]]at hl;unfold EO;simp only[W5.eq_2,W5.eq_3,W5.eq_4,hl];simp only[dB,Y6,bZ,cB,Y8,a01,a63,a41,aT0];simp[hi,ix,iu,iq,io,lg];cases hok:Ax (cg (I.w 0).L i)with
  |true=>
   rw[KQ]at hok;obtain⟨h1,h2⟩:=hok;cases wE (I.w 0).L i<;>simp<;>(repeat' split)<;>first|rfl|(exfalso;omega)|omega
  |false=>
   rw[TI]at hok;simp;intro hz
   (repeat' split)<;>first|rfl|(exfalso;omega)
 refine Y3 (r:=gg (.B false) (λk=>[.B false,.D k]) (lg (I.w 0).L) (I.w 0).L.length) ?_ ?_ ?_;refine wH (λi hi hb=> ?_) (λi hi hb=> ?_) ?_;show W5 EO (I.U 2000 [.B false,.D i])=_;rw[step i hi,hb];rfl;show W5 EO (I.U 2000 [.B false,.D i])=_;rw[step i hi,hb];rfl;simp[EO,W5.eq_2,W5.eq_4,dB,Y6,bZ,cB,Y8];simp[hf,F,F0,S9.FT,S9.FU,S9.FQ,S9.FE,Y6,bZ,cB,jV,jN]
 have hF:F 133 [.B false,.D 0,.D 0,.D (I.w 0).L.length,I.w 0]=cC (gg (.B false) (λk=>[.B false,.D k]) (lg (I.w 0).L) (I.w 0).L.length):=by simp[F,F0,S9.FT,S9.FU,S9.FQ,S9.FE,jV,jN]
 have h2:F 202 [I.w 0]= .B (!(List.range (I.w 0).L.length).any (lg (I.w 0).L)):=rfl;rw[h2];rw[JP]at hF⊢;cases hd:(List.range (I.w 0).L.length).any (lg (I.w 0).L)with
 |true=>
  rw[hd,c9 rfl]at hF;rw[c9 rfl];simp only[iP,W5,Y6,bZ,cB,hf,hF];rfl
 |false=>
  rw[b9 (by simp)];rfl
def dV2(n:Nat)(p:U0):ck (cC (n,p)).L 1 0=p.getD 0 default:=rfl
def dV3(n:Nat)(p:U0):ck (cC (n,p)).L 1 1=p.getD 1 default:=rfl
def dV4(n:Nat)(p:U0):ck (cC (n,p)).L 1 2=p.getD 2 default:=rfl
def d62{K k:Nat}(h:K=k+1)(h2:K<=10000000):cr .sub .i64 (K:Int) 1=(k:Int):=by simp only[cr];rw[show(K:Int)-1=(k:Int) by omega,wrap_i64]<;>omega
def dz5(a b:Val):F 205 [Y5 a 0,Y5 a 1,Y5 a 2,Y5 b 0,Y5 b 1,Y5 b 2]= .B (mD a b):=rfl
def dz6{I:Opq}(hf: ∀i a,I.f i a=F i a){i k K:Nat}(hK:K=k+1)(hKi:K<=i)(hi:i<=1000000)(hacc:(I.w 2002).L.length=i){l:U0}(hl:l.length=i+1):
 W5 Bf (I.U 3000 [.D K,.A l])=some (if mD (cg l K) (cg l k)then(0,[.D k,.A ((l.set k (eR (cg l K))).set K (eR (cg l k)))])else(1,[.D K,.A l])):=by
 have e1:=d62 hK (by omega);have p0:(0:Int)<K:=by omega
 have p1:(0:Int)<=K:=by omega
 have p2:(K:Int)<((i+1:Nat):Int):=by omega
 have p3:(0:Int)<=k:=by omega
 have p4:(k:Int)<((i+1:Nat):Int):=by omega
 unfold Bf;simp only[W5,Y6,bZ,dB,cB,Y8,show(3000<=3000)=True by simp,show(3000<=3001)=True by simp,if_true,show 3000-3000=0 from rfl,show 3001-3000=1 from rfl,y9,A0,show(3000<=2002)=False by simp,show(3000<=2001)=False by simp,show(3000<=0)=False by simp,if_false,a01,a41,a63,e1,gq,gp,gj,ix,iu,iq,io,Bh,fh,hf,dz5,Iw,a85,a37,a29,k7,List.length_cons,List.length_nil,hacc,hl,C1,p0,p1,p2,p3,p4,decide_true,A4,Int.toNat_natCast];cases mD (cg l K) (cg l k)<;>rfl
def dV5{I:Opq}(hf: ∀i a,I.f i a=F i a){i:Nat}(hi:i<=1000000)(hacc:(I.w 2002).L.length=i): ∀(k:Nat),k<=i-> ∀l:U0,l.length=i+1->
 cQ (λvs=>W5 Bf (I.U 3000 vs)) [.D k,.A l]=some (0,[.D (oK l k).1,.A (oK l k).2])
 |0,_,l,hl=>by rw[kK];refine .out ?_;show W5 Bf (I.U 3000 [.D 0,.A l])=_;simp[Bf,W5,Y6,bZ,dB,cB,Y8,oK]
 |k+1,hk,l,hl=>by
  have hs:=dz6 hf (K:=k+1) rfl hk hi hacc hl;rw[kK];cases hc:mD (cg l (k+1)) (cg l k)with
  |true=>
   rw[hc,c9 rfl]at hs;have ih:=dV5 hf hi hacc k (by omega) (Dn l k) (by rw[bC8,hl]);rw[kK]at ih;refine .more hs ?_;unfold oK;rw[hc,c9 rfl];exact ih
  |false=>
   rw[hc,b9 (by simp)]at hs;refine .out ?_;show W5 Bf (I.U 3000 [.D (k+1:Nat),.A l])=_;unfold oK;rw[hc,b9 (by simp),hs]
def dz7{I:Opq}(hf: ∀i a,I.f i a=F i a){i:Nat}(hi:i<(I.w 0).L.length)(hn:(I.w 0).L.length<=1000):
 W5 Hk (I.U 2000 [.D i,.D i,.A (mg (I.w 0).L i)])=some (0,[.D (i+1:Nat),.D (i+1:Nat),.A (mg (I.w 0).L (i+1))]):=by
 have hlen:=Oc (I.w 0).L i;have hlp:=dV5 (I:=I.U 2000 [.D i,.D i,.A (mg (I.w 0).L i)]) hf (i:=i) (by omega) (by simpa[Y8]using hlen) i (j5 _) (mg (I.w 0).L i++[eR (cg (I.w 0).L i)]) (by simp[hlen]);have hi1:(i:Int)<((I.w 0).L.length:Int):=by omega
 have hi0:(0:Int)<=(i:Int):=by omega
 have hb:((i+1:Nat):Int)<=1000000:=by omega
 unfold Hk;simp only[W5.eq_2,W5.eq_3,dB,bZ,Y6,cB,Y8,show(2000<=2000)=True by simp,show(2000<=2001)=True by simp,show(2000<=2002)=True by simp,if_true,show 2000-2000=0 from rfl,show 2001-2000=1 from rfl,show 2002-2000=2 from rfl,y9,A0,show(2000<=0)=False by simp,if_false,a01,a41,a63,a29,a37,aa0,hi1,hi0,k7,List.length_cons,List.length_nil,hlen,m9,decide_true,hb,A4];refine Y3 (r:=(0,[.D (oK (mg (I.w 0).L i++[eR (cg (I.w 0).L i)]) i).1,.A (mg (I.w 0).L (i+1))])) ?_ ?_ ?_;refine Eq.trans (congrArg (cQ _) ?_) hlp;simp[Y6,bZ,cB,Y8,gq,gp,gj,ix,iu,iq,io,Bh,Iw];simp[hf,F,F0,S9.FT,S9.FU,S9.FQ,S9.FE,Y6,bZ,cB,jV,jN,Y8,fh,gq,gp,gj,ix,iu,iq,io,Bh,Iw,mg];have h2:=Oc (I.w 0).L (i+1);simp[iP,W5,hf,F,F0,S9.FT,S9.FU,S9.FQ,S9.FE,Y6,bZ,dB,cB,jV,jN,Y8,fh,gq,gp,gj,ix,iu,iq,io,Bh,Iw,dV3,Vg,hlen,mg,aa3 (show i<=10000000 by omega)]
def cL2{I:Opq}(hf: ∀i a,I.f i a=F i a)(hn:(I.w 0).L.length<=1000):W5 Uk I=some (0,[F 207 [I.w 0]]):=by unfold Uk Rc XV;have hl:=Oc (I.w 0).L (I.w 0).L.length;refine Y3 (r:=(0,[.D (I.w 0).L.length,.D (I.w 0).L.length,.A (jM (I.w 0).L)])) ?_ ?_ ?_;refine mE (λi=>[.D i,.D i,.A (mg (I.w 0).L i)]) (n:=(I.w 0).L.length) ?_ (λi hi=>dz7 hf hi hn) ?_;simp[Y6,bZ,cB,mg];show W5 Hk (I.U 2000 [_,_,_])=_;simp[Hk,W5.eq_2,W5.eq_4,dB,Y6,bZ,cB,Y8,jM];simp[hf,F,F0,S9.FT,S9.FU,S9.FQ,S9.FE,Y6,bZ,cB,jV,jN];simp[iP,W5,hf,F,F0,S9.FT,S9.FU,S9.FQ,S9.FE,Y6,bZ,dB,cB,jV,jN,dV2,dV4,jM,hl]
def c90(l:U0)(p:PaneM):fB l p=l.any λr=>decide (Y2 r=p):=by unfold fB gM;rw[D6,decide_eq_true_iff,List.findIdx_lt_length,K2]
def g7(l:U0)(i:Nat):U0:=[cO (cg l i)]
def cL3(l:U0)(i:Nat)(p:PaneM):fB (cw (g7 l) i) p=(List.range i).any λk=>decide (Y2 (cg l k)=p):=by rw[c90,nw,List.any_flatMap];congr 1;funext k;simp[g7];rfl
def c91(l:U0)(i:Nat):fB (cw (g7 l) i) (Y2 (cg l i))=wE l i:=by rw[cL3];rfl
def cL4(l:U0):cw (g7 l) l.length=l.map cO:=by rw[nw];show(List.range l.length).flatMap (λi=>[cO (cg l i)])=_;rw[show(λi=>[cO (cg l i)])=λi=>(λr=>[cO r]) (l.getD i (.A []))from rfl,zW (λr=>[cO r]) (.A []) l];exact SW _ _
def NF(r:Val):mS [Y5 r 0,Y5 r 1,Y5 r 2] 0=Y2 r:=rfl
def de4{I:Opq}(hf: ∀i a,I.f i a=F i a){i:Nat}(hi:i<(I.w 0).L.length)(hn:(I.w 0).L.length<=1000000):
 W5 xq (I.U 2000 [.D i,.A (cw (g7 (I.w 0).L) i)])=some (if lg (I.w 0).L i then(2,[.D i,.A (cw (g7 (I.w 0).L) i)])else(0,[.D (i+1:Nat),.A (cw (g7 (I.w 0).L) (i+1))])):=by
 have hi1:(i:Int)<((I.w 0).L.length:Int):=by omega
 have hi0:(0:Int)<=(i:Int):=by omega
 have hd:=c91 (I.w 0).L i;unfold fB at hd;unfold xq;simp only[W5,Y6,bZ,dB,cB,Y8,show(2000<=2000)=True by simp,show(2000<=2001)=True by simp,if_true,show 2000-2000=0 from rfl,show 2001-2000=1 from rfl,y9,A0,show(2000<=0)=False by simp,if_false,a01,a41,a63,a29,a37,aa0,a85,hi1,hi0,decide_true,OD,gq,gp,gj,ix,iu,iq,io,NF,Ff,hd,wJ,aa3 (show i<=10000000 by omega),lg];rcases A9 (wE (I.w 0).L i)with hdup|hdup
 simp[hdup]
 rcases A9 (Ax (cg (I.w 0).L i))with hok|hok
 obtain⟨h1,h2⟩:=(KQ _).1 hok;simp only[hdup,hok,cw,g7,n9,if_false,cond_false,B3,G2,decide_eq_true_eq,j8,s8,I2,decide_eq_false_iff_not,Q1,false_or]
 (repeat' split)<;>first|rfl|(exfalso;omega)
 have h1:=(TI _).1 hok;simp only[hdup,hok,cw,g7,n9,if_false,cond_false,N3,G2,if_true,decide_eq_true_eq,j8,s8,I2,decide_eq_false_iff_not,Q1,false_or]
 (repeat' split)<;>first|rfl|(exfalso;omega)
def ev0{I:Opq}(hf: ∀i a,I.f i a=F i a)(hn:(I.w 0).L.length<=1000000):cQ (λvs=>W5 xq (I.U 2000 vs)) [.D 0,.A []]=some (tp (I.w 0).L):=by
 have st: ∀i,i<(I.w 0).L.length->lg (I.w 0).L i=false->W5 xq (I.U 2000 [.D i,.A (cw (g7 (I.w 0).L) i)])=some (0,[.D (i+1:Nat),.A (cw (g7 (I.w 0).L) (i+1))]):=λi hi hb=>by rw[de4 hf hi hn,hb];rfl
 unfold tp;split;rename_i k hk;obtain⟨a,b,c⟩:=pg hk;exact mE (λi=>[.D i,.A (cw (g7 (I.w 0).L) i)]) (n:=k) (by simp[cw]) (λi hi=>st i (by omega) (c i hi)) (by show W5 xq (I.U 2000 [.D k,.A (cw (g7 (I.w 0).L) k)])=_;rw[de4 hf a hn,b];rfl);rename_i hk;rw[K8]at hk;exact mE (λi=>[.D i,.A (cw (g7 (I.w 0).L) i)]) (n:=(I.w 0).L.length) (by simp[cw]) (λi hi=>st i hi (by simpa using hk i hi)) (by show W5 xq (I.U 2000 [.D (I.w 0).L.length,.A (cw (g7 (I.w 0).L) (I.w 0).L.length)])=_;simp[xq,W5.eq_2,W5.eq_4,dB,Y6,bZ,cB,Y8];rfl)
def de5{I:Opq}(hf: ∀i a,I.f i a=F i a){i:Nat}(hi:i<(I.w 1).L.length)(hn:(I.w 1).L.length<=1000000):
 W5 sB (I.U 2000 [.D i,.A (cw (g7 (I.w 1).L) i)])=some (if lg (I.w 1).L i then(2,[.D i,.A (cw (g7 (I.w 1).L) i)])else(0,[.D (i+1:Nat),.A (cw (g7 (I.w 1).L) (i+1))])):=by
 have hi1:(i:Int)<((I.w 1).L.length:Int):=by omega
 have hi0:(0:Int)<=(i:Int):=by omega
 have hd:=c91 (I.w 1).L i;unfold fB at hd;unfold sB;simp only[W5,Y6,bZ,dB,cB,Y8,show(2000<=2000)=True by simp,show(2000<=2001)=True by simp,if_true,show 2000-2000=0 from rfl,show 2001-2000=1 from rfl,y9,A0,show(2000<=1)=False by simp,if_false,a01,a41,a63,a29,a37,aa0,a85,hi1,hi0,decide_true,OD,gq,gp,gj,ix,iu,iq,io,NF,Ff,hd,wJ,aa3 (show i<=10000000 by omega),lg];rcases A9 (wE (I.w 1).L i)with hdup|hdup
 simp[hdup]
 rcases A9 (Ax (cg (I.w 1).L i))with hok|hok
 obtain⟨h1,h2⟩:=(KQ _).1 hok;simp only[hdup,hok,cw,g7,n9,if_false,cond_false,B3,G2,decide_eq_true_eq,j8,s8,I2,decide_eq_false_iff_not,Q1,false_or]
 (repeat' split)<;>first|rfl|(exfalso;omega)
 have h1:=(TI _).1 hok;simp only[hdup,hok,cw,g7,n9,if_false,cond_false,N3,G2,if_true,decide_eq_true_eq,j8,s8,I2,decide_eq_false_iff_not,Q1,false_or]
 (repeat' split)<;>first|rfl|(exfalso;omega)
def em5{I:Opq}(hf: ∀i a,I.f i a=F i a)(hn:(I.w 1).L.length<=1000000):cQ (λvs=>W5 sB (I.U 2000 vs)) [.D 0,.A []]=some (tp (I.w 1).L):=by
 have st: ∀i,i<(I.w 1).L.length->lg (I.w 1).L i=false->W5 sB (I.U 2000 [.D i,.A (cw (g7 (I.w 1).L) i)])=some (0,[.D (i+1:Nat),.A (cw (g7 (I.w 1).L) (i+1))]):=λi hi hb=>by rw[de5 hf hi hn,hb];rfl
 unfold tp;split;rename_i k hk;obtain⟨a,b,c⟩:=pg hk;exact mE (λi=>[.D i,.A (cw (g7 (I.w 1).L) i)]) (n:=k) (by simp[cw]) (λi hi=>st i (by omega) (c i hi)) (by show W5 sB (I.U 2000 [.D k,.A (cw (g7 (I.w 1).L) k)])=_;rw[de5 hf a hn,b];rfl);rename_i hk;rw[K8]at hk;exact mE (λi=>[.D i,.A (cw (g7 (I.w 1).L) i)]) (n:=(I.w 1).L.length) (by simp[cw]) (λi hi=>st i hi (by simpa using hk i hi)) (by show W5 sB (I.U 2000 [.D (I.w 1).L.length,.A (cw (g7 (I.w 1).L) (I.w 1).L.length)])=_;simp[sB,W5.eq_2,W5.eq_4,dB,Y6,bZ,cB,Y8];rfl)
def c92(l:U0)(p:PaneM):gM (l.map cO) p=gM l p:=by unfold gM;rw[List.findIdx_map];rfl
def c93(l:U0)(p:PaneM):fB (l.map cO) p=fB l p:=by unfold fB;rw[c92,k6]
def cL5(l:U0):fM (l.map cO)=fM l:=by funext r;unfold fM;rw[c93]
def d63{l:U0}{i:Nat}(h:i<l.length):cg (l.map cO) i=cO (cg l i):=by simp[cg,k5,h]
def d64(l:U0):fV (l.map cO)=fV l:=by
 funext r;unfold fV;rw[c93,c92];cases h:fB l (Y2 r)with
 |false=>rfl
 |true=>
  rw[d63 (j6 h)];rfl
def Ha(m:U0)(r:Val):(fM m r).length<=1:=by unfold fM;cases fB m (Y2 r)<;>simp
def Xh(m:U0)(r:Val):(fV m r).length<=1:=by unfold fV;cases (fB m (Y2 r)&&Ao (cg m (gM m (Y2 r))) r)<;>simp
def em6(a b c d e x g:Val):F 140 [a,b,c,d,e,x,g]=cC (tp x.L):=rfl
def Mw{l:U0}(h:ei l=true):tp l=(0,[.D l.length,.A (l.map cO)]):=by
 unfold tp;have:(List.range l.length).find? (lg l)=none:=by rw[K8];intro i hi;unfold ei at h;rw[s8,C9]at h;have:=h i (p7.2 hi);simpa using this
 rw[this];show(0,[Val.D l.length,Val.A (cw (g7 l) l.length)])=_;rw[cL4]
def Tv{l:U0}(h:ei l=false):(tp l).1=1:=by
 unfold tp;split;rfl
 rename_i hk;rw[K8]at hk;have h2:(List.range l.length).any (lg l)=true:=by unfold ei at h;simpa using h
 rw[K2]at h2;obtain⟨i,h3,h4⟩:=h2;have:=hk i (p7.1 h3);rw[h4]at this;cases this
def cL6(r:Val):Val.A [Y5 r 0,Y5 r 1,Y5 r 2,.B true,.D 0,.D 0,.D 0,.D 0]=JX r:=rfl
def de6(r:Val):Val.A [Y5 r 0,Y5 r 1,Y5 r 2,.B false,Y5 r 3,Y5 r 4,Y5 r 5,Y5 r 6]=KT r:=rfl
def LO{l:U0}(h:ei l=true):ck (cC (tp l)).L 1 1= .A (l.map cO):=by rw[Mw h];rfl
def dz8{I:Opq}(hf: ∀i a,I.f i a=F i a)(ok:ei (I.w 1).L=true){i:Nat}(hi:i<(I.w 0).L.length)(hn:(I.w 0).L.length<=400){acc:U0}(ha:acc.length<=1000):
 W5 CG (I.U 2000 [.D acc.length,.D i,.A acc])=some (0,[.D (acc++fM ((I.w 1).L.map cO) (cg (I.w 0).L i)).length,.D (i+1:Nat),.A (acc++fM ((I.w 1).L.map cO) (cg (I.w 0).L i))]):=by
 have hi1:(i:Int)<((I.w 0).L.length:Int):=by omega
 have hi0:(0:Int)<=(i:Int):=by omega
 have hb:((acc.length+1:Nat):Int)<=1000000:=by omega
 unfold CG;simp only[W5,Y6,bZ,dB,cB,Y8,show(2000<=2000)=True by simp,show(2000<=2001)=True by simp,show(2000<=2002)=True by simp,if_true,show 2000-2000=0 from rfl,show 2001-2000=1 from rfl,show 2002-2000=2 from rfl,y9,A0,show(2000<=0)=False by simp,show(2000<=1)=False by simp,if_false,a01,a41,a63,a29,a37,aa0,a85,hi1,hi0,decide_true,fh,hf,em6,LO ok,OD,gq,gp,gj,ix,iu,iq,io,NF,Ff,cL6,aa3 (show i<=10000000 by omega),k7,List.length_cons,List.length_nil,m9,hb,A4,fM];rcases A9 (fB ((I.w 1).L.map cO) (Y2 (cg (I.w 0).L i)))with hh|hh
 have h2:=j6 hh;rw[k6]at h2;simp[hh,h2];have h2:=of_decide_eq_false hh;rw[k6]at h2;simp[hh,h2];try omega
def dz9{I:Opq}(hf: ∀i a,I.f i a=F i a)(ok:ei (I.w 0).L=true){i:Nat}(hi:i<(I.w 1).L.length)(hn:(I.w 1).L.length<=400){acc:U0}(ha:acc.length<=1000):
 W5 Ey (I.U 2000 [.D acc.length,.D i,.A acc])=some (0,[.D (acc++fV ((I.w 0).L.map cO) (cg (I.w 1).L i)).length,.D (i+1:Nat),.A (acc++fV ((I.w 0).L.map cO) (cg (I.w 1).L i))]):=by
 have hi1:(i:Int)<((I.w 1).L.length:Int):=by omega
 have hi0:(0:Int)<=(i:Int):=by omega
 have hb:((acc.length+1:Nat):Int)<=1000000:=by omega
 unfold Ey;simp only[W5,Y6,bZ,dB,cB,Y8,show(2000<=2000)=True by simp,show(2000<=2001)=True by simp,show(2000<=2002)=True by simp,if_true,show 2000-2000=0 from rfl,show 2001-2000=1 from rfl,show 2002-2000=2 from rfl,y9,A0,show(2000<=0)=False by simp,show(2000<=1)=False by simp,if_false,a01,a41,a63,a29,a37,aa0,a85,hi1,hi0,decide_true,fh,hf,em6,LO ok,OD,gq,gp,gj,ix,iu,iq,io,NF,Ff,de6,aa3 (show i<=10000000 by omega),k7,List.length_cons,List.length_nil,m9,hb,A4,fV];rcases A9 (fB ((I.w 0).L.map cO) (Y2 (cg (I.w 1).L i)))with hh|hh
 have h2:=j6 hh;rcases A9 (Ao (cg ((I.w 0).L.map cO) (gM ((I.w 0).L.map cO) (Y2 (cg (I.w 1).L i)))) (cg (I.w 1).L i))with ha'|ha'
 have h3:=j6 ha';simp only[hh,h2,ha',h3,decide_true,B3,n9,if_false,cond_true,A4,R4,o9];rfl;have h3:=of_decide_eq_false ha';simp only[hh,h2,ha',decide_true,B3,n9,if_false,cond_true,cond_false,M5];rw[c9 (by rw[s8,<-A2];intro hcc;exact h3 (by simpa using hcc))];simp;have h2:=of_decide_eq_false hh;rw[k6]at h2;simp[hh,h2];try omega
def Pq{g:Nat->U0}(hg: ∀i,(g i).length<=1)(a0:U0){i n:Nat}(hi:i<=n):(a0++cw g i).length<=a0.length+n:=by have:=jz (m:=1) hg i;rw[k7];omega
def dA0{I:Opq}(hf: ∀i a,I.f i a=F i a)(ok:ei (I.w 1).L=true)(hn:(I.w 0).L.length<=400){d:U0}(hd:d=iv [] (fM ((I.w 1).L.map cO)) (I.w 0).L):
 cQ (λvs=>W5 CG (I.U 2000 vs)) [.D 0,.D 0,.A []]=some (0,[.D d.length,.D (I.w 0).L.length,.A d]):=by
 subst hd;refine qj (λi acc=>[.D acc.length,.D i,.A acc]) (a0:=[]) (g:=λi=>fM ((I.w 1).L.map cO) (cg (I.w 0).L i)) (n:=(I.w 0).L.length) rfl (λi hi=> ?_) ?_;exact dz8 hf ok hi hn (l7 (Pq (λ_=>Ha _ _) [] (M6 hi)) (by simp;omega));show W5 CG (I.U 2000 [_,_,_])=_;simp[CG,W5.eq_2,W5.eq_4,dB,Y6,bZ,cB,Y8,iv]
def dA1{I:Opq}(hf: ∀i a,I.f i a=F i a)(ok:ei (I.w 0).L=true)(hn:(I.w 1).L.length<=400){d0 d:U0}(h0:d0.length<=400)(hd:d=iv d0 (fV ((I.w 0).L.map cO)) (I.w 1).L):
 cQ (λvs=>W5 Ey (I.U 2000 vs)) [.D d0.length,.D 0,.A d0]=some (0,[.D d.length,.D (I.w 1).L.length,.A d]):=by
 subst hd;refine qj (λi acc=>[.D acc.length,.D i,.A acc]) (a0:=d0) (g:=λi=>fV ((I.w 0).L.map cO) (cg (I.w 1).L i)) (n:=(I.w 1).L.length) rfl (λi hi=> ?_) ?_;exact dz9 hf ok hi hn (l7 (Pq (λ_=>Xh _ _) d0 (M6 hi)) (by omega));show W5 Ey (I.U 2000 [_,_,_])=_;simp[Ey,W5.eq_2,W5.eq_4,dB,Y6,bZ,cB,Y8,iv]
def KG(a0:U0)(g:Val->U0)(l:U0):iv a0 g l=a0++l.flatMap g:=by unfold iv;rw[nw];congr 1;exact zW g (.A []) l
def IN{g:Val->U0}(hg: ∀r,(g r).length<=1): ∀l:U0,(l.flatMap g).length<=l.length
 | []=>j5 _
 |a::l=>by have:=IN hg l;have:=hg a;rw[B2,k7,List.length_cons];omega
def Wx(a b:U0):(lc a b).length<=a.length+b.length:=by have h1:=IN (Ha b) a;have h2:=IN (Xh a) b;unfold lc;rw[k7];omega
def aT3{l:U0}(h:ei l=true):(l.map Y2).Nodup:=by
 unfold ei at h;rw[s8,C9]at h;rw[List.Nodup,K6];intro i j hi hj hij;simp only[k6]at hi hj;have:=h j (p7.2 hj);rw[A2,lg,O6]at this;have hd:=this.2;unfold wE at hd;rw[C9]at hd;have:=hd i (p7.2 hij);have e1:cg l i=l[i]:=by simp[cg,k5,hi]
 have e2:cg l j=l[j]:=by simp[cg,k5,hj]
 rw[A2,zU,decide_eq_false_iff_not,e1,e2]at this;simpa using this
def JI{g:Val->U0}(hg: ∀r,g r=[]\/ ∃x,g r=[x]/\Y2 x=Y2 r): ∀l:U0,((l.flatMap g).map Y2).Sublist (l.map Y2)
 | []=> .refl _
 |a::l=>by
  rw[B2,r9,m8];rcases hg a with h|⟨x,h,hp⟩
  rw[h];exact(JI hg l).cons _;rw[h,m8,hp];exact(JI hg l).cons_cons _
def bU2(b:U0)(r:Val):fM b r=[]\/ ∃x,fM b r=[x]/\Y2 x=Y2 r:=by
 unfold fM;cases fB b (Y2 r)with
 |true=>exact .inl rfl
 |false=>exact .inr ⟨_,rfl,rfl⟩
def bh8(a:U0)(r:Val):fV a r=[]\/ ∃x,fV a r=[x]/\Y2 x=Y2 r:=by
 unfold fV;cases (fB a (Y2 r)&&Ao (cg a (gM a (Y2 r))) r)with
 |true=>exact .inl rfl
 |false=>exact .inr ⟨_,rfl,rfl⟩
def bU3{a b:U0}(ha:ei a=true)(hb:ei b=true):((lc a b).map Y2).Nodup:=by
 unfold lc;rw[r9,O9];refine⟨(JI (bU2 b) a).nodup (aT3 ha),(JI (bh8 a) b).nodup (aT3 hb),?_⟩;intro p hp q hq;rw[j9]at hp;obtain⟨x,hx,rfl⟩:=hp;rw[A7]at hx;obtain⟨r,hr,hx⟩:=hx;have hq2:=(JI (bh8 a) b).subset hq;rw[j9]at hq2;obtain⟨y,hy,rfl⟩:=hq2;unfold fM at hx;cases hh:fB b (Y2 r)with
 |true=>rw[hh]at hx;cases hx
 |false=>
  rw[hh]at hx;have hx:x=JX r:=by simpa using hx
  intro e;rw[c90,C9]at hh;have:=hh y hy;rw[A2,decide_eq_false_iff_not]at this;exact this (e.symm.trans (by rw[hx];rfl))
def bh9(a b:U0): ∀x∈lc a b,eR x=x:=by
 intro x hx;unfold lc at hx;rw[x6,A7,A7]at hx;rcases hx with⟨r,_,hx⟩|⟨r,_,hx⟩
 unfold fM at hx;cases h:fB b (Y2 r)with
 |true=>rw[h]at hx;cases hx
 |false=>
  rw[h]at hx;have hx:x=JX r:=by simpa using hx
  rw[hx];rfl
 .unfold fV at hx;cases h:(fB a (Y2 r)&&Ao (cg a (gM a (Y2 r))) r)with
  |true=>rw[h]at hx;cases hx
  |false=>
   rw[h]at hx;have hx:x=KT r:=by simpa using hx
   rw[hx];rfl
def ch7{a b:U0}(ha:ei a=true)(hb:ei b=true):gn vw (lc a b)=jM (lc a b):=bO8 (bh9 a b) (bU3 ha hb)
def em7(a b c d e x m m1 y z v w:Val):F 141 [a,b,c,d,e,x,m,m1,y,z,v,w]=lY [] (fM m1.L) v.L:=rfl
def em8(a b c m d e x y:Val):F 142 [a,b,c,m,d,e,x,y]=lY c.L (fV m.L) x.L:=rfl
def em9(a b c d e v x y m:Val):F 143 [a,b,c,d,e,v,x,y,m]=lY [] (fM m.L) v.L:=rfl
def en1(a b c d e m x y v:Val):F 144 [a,b,c,d,e,m,x,y,v]=lY c.L (fV m.L) v.L:=rfl
def KU(a0:U0)(g:Val->U0)(l:U0):ck (lY a0 g l).L 1 2= .A (iv a0 g l):=rfl
def PZ(a0:U0)(g:Val->U0)(l:U0):ck (lY a0 g l).L 1 0= .D (iv a0 g l).length:=rfl
def bi0(a b:U0):iv (iv [] (fM b) a) (fV a) b=lc a b:=by rw[KG,KG,List.nil_append];rfl
def dV6{I:Opq}(hf: ∀i a,I.f i a=F i a)(hn0:(I.w 0).L.length<=400)(hn1:(I.w 1).L.length<=400):W5 Rr I=some (0,[F 209 [I.w 0,I.w 1],F 208 [I.w 0,I.w 1]]):=by
 have h209:F 209 [I.w 0,I.w 1]= .D (bif ei (I.w 0).L&&ei (I.w 1).L then 0 else 2):=rfl;have h208:F 208 [I.w 0,I.w 1]= .A (bif ei (I.w 0).L&&ei (I.w 1).L then jM (lc (I.w 0).L (I.w 1).L)else []):=rfl;rw[h209,h208];unfold Rr;refine Y3 (ev0 hf (by omega)) (by rw[hf];rfl) ?_;rcases A9 (ei (I.w 0).L)with k0|k0
 rw[Mw k0,k0,B0];show W5 (.loop _ sB _) I=_;refine Y3 (em5 hf (by omega)) (by rw[hf];rfl) ?_;rcases A9 (ei (I.w 1).L)with k1|k1
 rw[Mw k1,k1];show W5 (.loop _ CG _) I=_;have e0:bZ I vt= .A ((I.w 0).L.map cO):=by show ck (I.f 140 _).L 1 1=_;rw[hf];exact LO k0
 have e1:bZ I FN= .A ((I.w 1).L.map cO):=by show ck (I.f 140 _).L 1 1=_;rw[hf];exact LO k1
 obtain⟨d,hd⟩: ∃d,d=iv [] (fM ((I.w 1).L.map cO)) (I.w 0).L:=⟨_,rfl⟩;have e2:bZ I Kr=lY [] (fM ((I.w 1).L.map cO)) (I.w 0).L:=by show I.f 141 [_,_,_,_,_,_,bZ I vt,bZ I FN,_,_,_,_]=_;rw[hf,em7,e1];rfl
 have e3:bZ I qF= .A d:=by show ck (bZ I Kr).L 1 2=_;rw[e2,KU,hd]
 have dl:d.length<=400:=by rw[hd,KG,List.nil_append];have:=IN (Ha ((I.w 1).L.map cO)) (I.w 0).L;omega
 refine Y3 (dA0 hf k1 hn0 hd) (by show I.f 141 [_,_,_,_,_,_,bZ I vt,bZ I FN,_,_,_,_]=_;rw[hf,em7,e1,hd];rfl) ?_;show W5 (.N _ _) I=_;rw[W5.eq_3,c9 (by show decide ((ck (bZ I Kr).L 1 0).I=((bZ I qF).L.length:Int))=true;rw[e2,e3,PZ,hd];simp)]
 obtain⟨q,hq⟩: ∃q,q=iv d (fV ((I.w 0).L.map cO)) (I.w 1).L:=⟨_,rfl⟩;have hqd:q=lc (I.w 0).L (I.w 1).L:=by rw[hq,hd,d64,cL5,bi0]
 have e4:bZ I FA=lY d (fV ((I.w 0).L.map cO)) (I.w 1).L:=by show I.f 142 [_,_,bZ I qF,bZ I vt,_,_,_,_]=_;rw[hf,em8,e3,e0];rfl
 have e5:bZ I Gs= .D q.length:=by show ck (bZ I FA).L 1 0=_;rw[e4,PZ,hq]
 have e6:bZ I vJ= .A q:=by show ck (bZ I FA).L 1 2=_;rw[e4,KU,hq]
 have ql:q.length<=800:=by have:=Wx (I.w 0).L (I.w 1).L;rw[hqd];omega
 have hs:I.f 211 [.A q]= .A (jM q):=by rw[hf];show Val.A (gn vw q)=_;rw[hqd,ch7 k0 k1]
 refine Y3 (r:=(0,[.D q.length,.D (I.w 1).L.length,.A q])) (by
  show cQ _ [.D (bZ I qF).L.length,.D 0,bZ I qF]=_;rw[e3];exact dA1 hf k0 hn1 dl hq) (by
  show I.f 142 [_,_,bZ I qF,bZ I vt,_,_,_,_]=_;rw[hf,em8,e3,e0,hq];rfl) ?_
 show W5 (.N _ _) I=_;rw[W5.eq_3,c9 (by
  show(decide ((bZ I Gs).I=((bZ I vJ).L.length:Int))&&decide (((bZ I vJ).L.length:Int)<=1000000))=true;rw[e5,e6,j8];exact⟨i6 rfl,i6 (by show(q.length:Int)<=1000000;omega)⟩),W5.eq_3,c9 (by
  show decide ((bZ I Gs).I=((I.f 211 [bZ I vJ]).L.length:Int))=true;rw[e5,e6,hs];have:=(OW q).length_eq;rw[k6]at this;simp[this])]
 show some (0,[Val.D 0,I.f 211 [bZ I vJ]])=_;rw[e6,hs,hqd];rfl;have:=Tv k1;rw[this,k1];rfl
 have:=Tv k0;rw[this,k0];show W5 (.loop _ sB _) I=_;refine Y3 (em5 hf (by omega)) (by rw[hf];rfl) ?_;rcases A9 (ei (I.w 1).L)with k1|k1
 rw[Mw k1];rfl;rw[Tv k1];rfl
def en2(m r:Val):F 204 [m,Y5 r 0,Y5 r 1,Y5 r 2]= .B (fB m.L (Y2 r)):=rfl
def ev1(m r:Val):F 203 [m,Y5 r 0,Y5 r 1,Y5 r 2]= .A [.A ((tC m.L (Y2 r)).2.drop 2)]:=rfl
def dA2{I:Opq}(hf: ∀i a,I.f i a=F i a){i:Nat}(hi:i<(I.w 0).L.length)(hn:(I.w 0).L.length<=400)(hm:(I.w 1).L.length<=400){acc:U0}(ha:acc.length<=1000):
 W5 DD (I.U 2000 [.D acc.length,.D i,.A acc])=some (0,[.D (acc++fM (I.w 1).L (cg (I.w 0).L i)).length,.D (i+1:Nat),.A (acc++fM (I.w 1).L (cg (I.w 0).L i))]):=by
 have hi1:(i:Int)<((I.w 0).L.length:Int):=by omega
 have hi0:(0:Int)<=(i:Int):=by omega
 have hb:((acc.length+1:Nat):Int)<=1000000:=by omega
 have hm1:((I.w 1).L.length:Int)<=1000000:=by omega
 unfold DD;simp only[W5,Y6,bZ,dB,cB,Y8,show(2000<=2000)=True by simp,show(2000<=2001)=True by simp,show(2000<=2002)=True by simp,if_true,show 2000-2000=0 from rfl,show 2001-2000=1 from rfl,show 2002-2000=2 from rfl,y9,A0,show(2000<=0)=False by simp,show(2000<=1)=False by simp,if_false,a01,a41,a63,a29,a37,aa0,a85,hi1,hi0,hm1,decide_true,fh,hf,en2,gq,gp,gj,ix,iu,iq,io,Ff,cL6,aa3 (show i<=10000000 by omega),k7,List.length_cons,List.length_nil,m9,hb,A4,fM];rcases A9 (fB (I.w 1).L (Y2 (cg (I.w 0).L i)))with hh|hh<;>simp[hh]
def dA3(x:Val)(l:U0):ck [.A (x::l)] 0 0=x:=rfl
def dA4(x y:Val)(l:U0):ck [.A (x::y::l)] 0 1=y:=rfl
def dA5(x y z:Val)(l:U0):ck [.A (x::y::z::l)] 0 2=z:=rfl
def dA6(x y z w:Val)(l:U0):ck [.A (x::y::z::w::l)] 0 3=w:=rfl
def dA7{I:Opq}(hf: ∀i a,I.f i a=F i a){i:Nat}(hi:i<(I.w 1).L.length)(hn:(I.w 1).L.length<=400)(hm:(I.w 0).L.length<=400){acc:U0}(ha:acc.length<=1000):
 W5 EX (I.U 2000 [.D acc.length,.D i,.A acc])=some (0,[.D (acc++fV (I.w 0).L (cg (I.w 1).L i)).length,.D (i+1:Nat),.A (acc++fV (I.w 0).L (cg (I.w 1).L i))]):=by
 have hi1:(i:Int)<((I.w 1).L.length:Int):=by omega
 have hi0:(0:Int)<=(i:Int):=by omega
 have hb:((acc.length+1:Nat):Int)<=1000000:=by omega
 have hm1:((I.w 0).L.length:Int)<=1000000:=by omega
 unfold EX;simp only[W5,Y6,bZ,dB,cB,Y8,show(2000<=2000)=True by simp,show(2000<=2001)=True by simp,show(2000<=2002)=True by simp,if_true,show 2000-2000=0 from rfl,show 2001-2000=1 from rfl,show 2002-2000=2 from rfl,y9,A0,show(2000<=0)=False by simp,show(2000<=1)=False by simp,if_false,a01,a41,a63,a29,a37,aa0,a85,hi1,hi0,hm1,decide_true,fh,hf,en2,ev1,gq,gp,gj,ix,iu,iq,io,Ff,de6,aa3 (show i<=10000000 by omega),k7,List.length_cons,List.length_nil,m9,hb,A4,fV];rcases A9 (fB (I.w 0).L (Y2 (cg (I.w 1).L i)))with hh|hh
 simp only[tC,hh,cond_true,List.drop_succ_cons,G1,dA3,dA4,dA5,dA6];rcases A9 (Ao (cg (I.w 0).L (gM (I.w 0).L (Y2 (cg (I.w 1).L i)))) (cg (I.w 1).L i))with ha'|ha'
 have h3:=j6 ha';simp only[ha',h3,decide_true,B3,n9,if_false,cond_true,A4,R4,o9];rfl;have h3:=of_decide_eq_false ha';simp only[ha',decide_true,B3,n9,if_false,cond_true,cond_false,M5];rw[c9 (by rw[s8,<-A2];intro hcc;exact h3 (by simpa using hcc))];simp;simp[hh]
def dA8{I:Opq}(hf: ∀i a,I.f i a=F i a)(hn:(I.w 0).L.length<=400)(hm:(I.w 1).L.length<=400){d:U0}(hd:d=iv [] (fM (I.w 1).L) (I.w 0).L):
 cQ (λvs=>W5 DD (I.U 2000 vs)) [.D 0,.D 0,.A []]=some (0,[.D d.length,.D (I.w 0).L.length,.A d]):=by
 subst hd;refine qj (λi acc=>[.D acc.length,.D i,.A acc]) (a0:=[]) (g:=λi=>fM (I.w 1).L (cg (I.w 0).L i)) (n:=(I.w 0).L.length) rfl (λi hi=> ?_) ?_;exact dA2 hf hi hn hm (l7 (Pq (λ_=>Ha _ _) [] (M6 hi)) (by simp;omega));show W5 DD (I.U 2000 [_,_,_])=_;simp[DD,W5.eq_2,W5.eq_4,dB,Y6,bZ,cB,Y8,iv]
def dA9{I:Opq}(hf: ∀i a,I.f i a=F i a)(hn:(I.w 1).L.length<=400)(hm:(I.w 0).L.length<=400){d0 d:U0}(h0:d0.length<=400)(hd:d=iv d0 (fV (I.w 0).L) (I.w 1).L):
 cQ (λvs=>W5 EX (I.U 2000 vs)) [.D d0.length,.D 0,.A d0]=some (0,[.D d.length,.D (I.w 1).L.length,.A d]):=by
 subst hd;refine qj (λi acc=>[.D acc.length,.D i,.A acc]) (a0:=d0) (g:=λi=>fV (I.w 0).L (cg (I.w 1).L i)) (n:=(I.w 1).L.length) rfl (λi hi=> ?_) ?_;exact dA7 hf hi hn hm (l7 (Pq (λ_=>Xh _ _) d0 (M6 hi)) (by omega));show W5 EX (I.U 2000 [_,_,_])=_;simp[EX,W5.eq_2,W5.eq_4,dB,Y6,bZ,cB,Y8,iv]
def dB0{I:Opq}(hf: ∀i a,I.f i a=F i a)(hn0:(I.w 0).L.length<=400)(hn1:(I.w 1).L.length<=400):W5 WH I=some (0,[F 209 [I.w 0,I.w 1],F 208 [I.w 0,I.w 1]]):=by
 have h209:F 209 [I.w 0,I.w 1]= .D (bif ei (I.w 0).L&&ei (I.w 1).L then 0 else 2):=rfl;have h208:F 208 [I.w 0,I.w 1]= .A (bif ei (I.w 0).L&&ei (I.w 1).L then jM (lc (I.w 0).L (I.w 1).L)else []):=rfl;rw[h209,h208];unfold WH;have f0:I.f 202 [I.w 0]= .B (ei (I.w 0).L):=by rw[hf];rfl
 have f1:I.f 202 [I.w 1]= .B (ei (I.w 1).L):=by rw[hf];rfl
 rw[W5.eq_3,c9 (by show decide (((I.w 0).L.length:Int)<=1000000)=true;exact i6 (by omega)),W5.eq_2];rw[show dB I (dR (.Q 202 [aN]))= !ei (I.w 0).L by show(!(I.f 202 [I.w 0]).Z)=_;rw[f0];rfl];rcases A9 (ei (I.w 0).L)with k0|k0
 rw[k0,B0,b9 (by simp),W5.eq_3,c9 (by show decide (((I.w 1).L.length:Int)<=1000000)=true;exact i6 (by omega)),W5.eq_2];rw[show dB I (dR (.Q 202 [aO]))= !ei (I.w 1).L by show(!(I.f 202 [I.w 1]).Z)=_;rw[f1];rfl];rcases A9 (ei (I.w 1).L)with k1|k1
 rw[k1,b9 (by simp)];obtain⟨d,hd⟩: ∃d,d=iv [] (fM (I.w 1).L) (I.w 0).L:=⟨_,rfl⟩;have e2:bZ I Fx=lY [] (fM (I.w 1).L) (I.w 0).L:=by show I.f 143 [_,_,_,_,_,_,_,_,_]=_;rw[hf,em9];rfl
 have e3:bZ I rX= .A d:=by show ck (bZ I Fx).L 1 2=_;rw[e2,KU,hd]
 have dl:d.length<=400:=by rw[hd,KG,List.nil_append];have:=IN (Ha (I.w 1).L) (I.w 0).L;omega
 refine Y3 (dA8 hf hn0 hn1 hd) (by show I.f 143 [_,_,_,_,_,_,_,_,_]=_;rw[hf,em9,hd];rfl) ?_;show W5 (.N _ _) I=_;rw[W5.eq_3,c9 (by show decide ((ck (bZ I Fx).L 1 0).I=((bZ I rX).L.length:Int))=true;rw[e2,e3,PZ,hd];simp)]
 obtain⟨q,hq⟩: ∃q,q=iv d (fV (I.w 0).L) (I.w 1).L:=⟨_,rfl⟩;have hqd:q=lc (I.w 0).L (I.w 1).L:=by rw[hq,hd,bi0]
 have e4:bZ I JF=lY d (fV (I.w 0).L) (I.w 1).L:=by show I.f 144 [_,_,bZ I rX,_,_,_,_,_,_]=_;rw[hf,en1,e3];rfl
 have e5:bZ I yJ= .D q.length:=by show ck (bZ I JF).L 1 0=_;rw[e4,PZ,hq]
 have e6:bZ I Hr= .A q:=by show ck (bZ I JF).L 1 2=_;rw[e4,KU,hq]
 have e7:bZ I Gv= .A q:=by show cB .lsub [bZ I Hr,.D 0,bZ I yJ]=_;rw[e5,e6];simp[cB]
 have ql:q.length<=800:=by have:=Wx (I.w 0).L (I.w 1).L;rw[hqd];omega
 refine Y3 (r:=(0,[.D q.length,.D (I.w 1).L.length,.A q])) (by
  show cQ _ [.D (bZ I rX).L.length,.D 0,bZ I rX]=_;rw[e3];exact dA9 hf hn1 hn0 dl hq) (by
  show I.f 144 [_,_,bZ I rX,_,_,_,_,_,_]=_;rw[hf,en1,e3,hq];rfl) ?_
 show W5 (.N _ _) I=_;rw[W5.eq_3,c9 (by show((decide ((0:Int)<=(bZ I yJ).I)&&decide ((bZ I yJ).I<=((bZ I Hr).L.length:Int)))&&decide (((bZ I Gv).L.length:Int)<=1000))=true;rw[e5,e6,e7,j8,j8];exact⟨⟨i6 (by show(0:Int)<=(q.length:Int);omega),i6 (y8 _)⟩,i6 (by show(q.length:Int)<=1000;omega)⟩)];show some (0,[Val.D 0,I.f 207 [bZ I Gv]])=_;rw[e7,hf];show some (0,[Val.D 0,Val.A (jM q)])=_;rw[hqd];rfl;rw[k1];rfl;rw[k0];rfl
def dB1{r:Val}(h:S7.okK8 r=true):eR r=r:=by unfold S7.okK8 at h;split at h;rfl;cases h
def ev2{v:Val}(h:(F 433 [v]).Z=true):v= .A v.L/\v.L.all S7.okK8=true:=by obtain⟨h1,h2⟩:=W7 (show(S7.isL v&&v.L.all S7.okK8)=true from h);exact⟨S7.isL_at h1,h2⟩
def cL7{l:U0}(h:l.all S7.okK8=true):l.map eR=l:=by rw[k9]at h;exact(y6 λx hx=>dB1 (h x hx)).trans (F5 l)
def ch8{I:Opq}(hf: ∀i a,I.f i a=F i a)(hn:(I.w 0).L.length<=1000)(h:(F 433 [I.w 0]).Z=true):W5 bh5 I=some (0,[I.w 0]):=by refine(cL1 hf hn).trans ?_;obtain⟨e,h2⟩:=ev2 h;rw[show F 200 [I.w 0]= .A ((I.w 0).L.map eR)from rfl,cL7 h2,<-e]
def d65(a b:Val):(F 208 [a,b]).L.length<=a.L.length+b.L.length:=by
 have:F 208 [a,b]= .A (bif ei a.L&&ei b.L then jM (lc a.L b.L)else []):=rfl;rw[this];cases ei a.L&&ei b.L with
 |false=>exact p8 _
 |true=>
  show(jM _).length<=_;have:=(OW (lc a.L b.L)).length_eq;rw[k6]at this;have:=Wx a.L b.L;omega
def d66{r:Val}(h:S7.okK r=true):S7.okK8 (JX r)=true:=by unfold S7.okK at h;split at h;rfl;cases h
def dB2{r:Val}(h:S7.okK r=true):S7.okK8 (KT r)=true:=by unfold S7.okK at h;split at h;rfl;cases h
def dB3{a b:Val}(h0:(F 431 [a]).Z=true)(h1:(F 431 [b]).Z=true):(F 433 [F 208 [a,b]]).Z=true:=by
 have:F 208 [a,b]= .A (bif ei a.L&&ei b.L then jM (lc a.L b.L)else []):=rfl;rw[this];refine W4.2 ⟨rfl,?_⟩;cases ei a.L&&ei b.L with
 |false=>rfl
 |true=>
  have g0:=k9.1 (S7.f431 h0).2;have g1:=k9.1 (S7.f431 h1).2;show(jM _).all S7.okK8=true;rw[k9];intro x hx;have hx:=(OW (lc a.L b.L)).mem_iff.1 hx;obtain⟨y,hy,rfl⟩:=j9.1 hx;rw[bh9 _ _ y hy];rcases x6.1 hy with hy|hy
  obtain⟨r,hr,hy⟩:=A7.1 hy;unfold fM at hy;cases hh:fB b.L (Y2 r)with
  |true=>rw[hh]at hy;cases hy
  |false=>rw[hh]at hy;rw[o7.1 hy];exact d66 (g0 r hr)
  .obtain⟨r,hr,hy⟩:=A7.1 hy;unfold fV at hy;cases hh:(fB a.L (Y2 r)&&Ao (cg a.L (gM a.L (Y2 r))) r)with
   |true=>rw[hh]at hy;cases hy
   |false=>rw[hh]at hy;rw[o7.1 hy];exact dB2 (g1 r hr)
