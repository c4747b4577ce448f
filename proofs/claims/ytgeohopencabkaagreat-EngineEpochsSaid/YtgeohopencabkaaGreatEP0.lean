import Derived.Test.YtgeohopencabkaaGreatEL19
set_option linter.all false
namespace Go.Ev.S9
open Go Go.Ev
def X19:SX:= zs aW (zl 4)
def iG:SX:= zL (.Q 490 [aS])
def vJ:SX:= zo (.Q 763 [aM,aM,iG,.Q 490 [aS],bd,iG]) 0
def ED:SX:= zi vJ
def HD:SX:= .Q 764 [vJ,ED,.Q 490 [aS],iG,.Q 490 [aS],bd]
def nw:SX:= zo HD 0
def NZ:SX:= zp nw
def wY:SX:= .O .isub [iG,nw]
def Jd:SX:= .O .iadd [nw,wY]
def ws:SX:= zo HD 2
def Ir:SX:= zc (.O .lsub [ws,aM,nw]) (zc (.O .lrep [wY,.O .row [.cs [],aM,aM,aM,aM,aM,aM]]) (.O .lsub [ws,Jd,zL ws]))
def UG:VT:= .J (zs aR iG) (.N (zp aR) (.J (dO (cr (.Q 490 [aS]) aR 2) bd) (.W 2 [aR,aR]) (.W 0 [aV,zi aR]))) (.W 1 [aV,aR])
def Uo:VT:= .J (zs aR iG) (.N (zp aR) (.N (zs aR (zl 2002)) (.J (cY (dO (zg 2002 2001 2) bd)) (.N (zn (zp aV) (zs aV iG)) (.N (zs aV (zl 2002)) (.W 0 [zi aV,zi aR,.O .lset [aW,aV,zv 2002 2001]]))) (.W 0 [aV,zi aR,aW])))) (.W 1 [aV,aR,aW])
def T_fired:VT:= .N (zn (zn (zb (zl 4) 400) (.Q 431 [aS])) (.Q 491 [aS])) (.loop ⟨763,[aM,aM],2000,[iG,.Q 490 [aS],bd,iG]⟩ UG [.W 0 [.Q 490 [aS]],.J (cG vJ (.C (-1))) (.W 0 [.Q 490 [aS]]) (.loop ⟨764,[vJ,ED,.Q 490 [aS]],2000,[iG,.Q 490 [aS],bd]⟩ Uo [.N (zn NZ (fW nw iG)) (.N (zn (zn NZ (zp wY)) (zn (zb wY 1000000) (fW Jd (zL ws)))) (.N (fW nw (zL Ir)) (.W 0 [.O .lsub [Ir,aM,nw]])))])])
def WZ:SX:= cY (.Q 700 [aN,aO,aT,aU])
def tL:SX:= .Q 872 [aM,.C (-2199023255552),aM,ck,aN,aO,aT,aU,ck,aM,zl 4,aS,zl 4]
def wT:SX:= zo tL 3
def Jh:SX:= .Q 701 [zg 4 2002 0,zg 4 2002 1,zg 4 2002 2,zg 4 2002 3]
def Kp:SX:= .Q 732 [aN,aO,aT,aU,bD,zg 4 2002 0,zg 4 2002 1,zg 4 2002 2,zg 4 2002 3]
def HG:SX:= .Q 733 [aN,aO,aT,aU,bD,zg 4 2002 0,zg 4 2002 1,zg 4 2002 2,zg 4 2002 3]
def Pf:VT:= .J X19 (.N (zp aW) (.J (ew Jh aM) (.W 2 [Jh,aR,aW,bD]) (.J (ze (zg 4 2002 0) 2) (.W 0 [aV,zg 4 2002 2,zi aW,bD]) (.N (zn (zn (zn (zb (zl 2003) 400) (.Q 431 [bD])) (.Q 491 [bD])) (.Q 739 [aN,bD,zg 4 2002 1])) (.J (ew Kp aM) (.W 2 [Kp,aR,aW,HG]) (.W 0 [aV,aR,zi aW,HG])))))) (.W 1 [aV,aR,aW,bD])
def T_engT:VT:= .J WZ (.W 0 [bC,ck]) (.loop ⟨872,[aM,.C (-2199023255552),aM,ck],2000,[aN,aO,aT,aU,ck,aM,zl 4,aS,zl 4]⟩ Pf [.N (zn (zn (zb (zL wT) 400) (.Q 431 [wT])) (.Q 491 [wT])) (.W 0 [aM,.Q 726 [wT,zo tL 1]]),.W 0 [zo tL 0,ck]])
variable{I:Opq}{n v0:Nat}
def Xr(l:U7)(mark:Int)(i:Nat):U7:=bif decide (ci (cg l i) 2<=mark)then [X8 (cg l i)]else []
def Ht(l:U7)(mark:Int):U7:=cw (Xr l mark) l.length
def xy(l:U7)(i:Nat):U7:=bif decide (ci (cg l i) 0=1)then [yQ (cg l i)]else []
def tw(l:U7):U7:=cw (xy l) l.length
def ef0(l:U7):U7:=cw (λi=>[yQ (cg l i)]) l.length
def ef1(l:U7)(key:zR)(i:Nat):U7:=bif decide ((X1 (cg l i) 1).toS=key)then [.A [X1 (cg l i) 2]]else []
def sj(l:U7)(key:zR):U7:=cw (ef1 l key) l.length
def rmR(l:U7):Nat->Nat×U7
 |0=>(0,[.D 0,.D (-1)])
 |k+1=>if ci (cg l k) 0=2 then(1,[X1 (cg l k) 2,.D k])else rmR l k
def iz(l:U7):Nat->Val
 |0=> .D (-2199023255552)
 |k+1=>if ci (cg l k) 0=2 then X1 (cg l k) 2 else iz l k
def ej8(l:U7)(p:PaneM)(i:Nat):Bool:=decide (W7 (cg l i)=p)
def QO(n:Int):Int:=cq .and .i64 n 4294967295
def Iy(n:Int):Int:=cq .add .i64 (cq .shr .i64 n 32) (cq .shr .i64 (QO n) 32)
def LW(n:Int):Int:=cq .add .i64 0 (cq .shr .i64 (Iy n) 32)
def tj(n:Int):aaE:=[cq .and .i64 (QO n) 4294967295,cq .and .i64 (Iy n) 4294967295,cq .and .i64 (LW n) 4294967295,cq .add .i64 0 (cq .shr .i64 (LW n) 32)]
def Rc(x y:aaE):Int:=cq .add .i64 (x.getD 0 0) (y.getD 0 0)
def NS(x y:aaE):Int:=cq .add .i64 (cq .add .i64 (x.getD 1 0) (y.getD 1 0)) (cq .shr .i64 (Rc x y) 32)
def Lg(x y:aaE):Int:=cq .add .i64 (cq .add .i64 (x.getD 2 0) (y.getD 2 0)) (cq .shr .i64 (NS x y) 32)
def xO(x y:aaE):aaE:=[cq .and .i64 (Rc x y) 4294967295,cq .and .i64 (NS x y) 4294967295,cq .and .i64 (Lg x y) 4294967295,cq .add .i64 (cq .add .i64 (x.getD 3 0) (y.getD 3 0)) (cq .shr .i64 (Lg x y) 32)]
def bk(a b:Int):Int:=cq .or .i64 (cq .shl .i64 b 32) a
def yy(w:aaE):Bool:=decide (tj (bk (w.getD 0 0) (w.getD 1 0))=[w.getD 0 0,w.getD 1 0,w.getD 2 0,w.getD 3 0])
def tZ(l:U7):Nat->aaE
 |0=>[0,0,0,0]
 |k+1=>xO (tZ l k) (tj (ci (cg l k) 0))
def vI(l:aaE):U7:=l.map .D
def Mr(a:U7)(i:Nat):aaE:=[(ce a i).I,(ce a (i+1)).I,(ce a (i+2)).I,(ce a (i+3)).I]
def uc(l:U7):Nat->Val×Val
 |0=>(.D 0,.D 0)
 |k+1=>if k=0 then(X1 (cg l k) 0,X1 (cg l k) 0)else(if ci (cg l k) 0<(uc l k).1.I then X1 (cg l k) 0 else(uc l k).1,if(uc l k).2.I<ci (cg l k) 0 then X1 (cg l k) 0 else(uc l k).2)
def Ye(I:Opq)(v0:Nat)(a b c:Val):(I.U v0 [a,b,c]).w v0=a:=by rw[cT];simp
def Zi(I:Opq)(v0:Nat)(a b c:Val):(I.U v0 [a,b,c]).w (v0+1)=b:=by rw[cT];simp
def up2(I:Opq)(v0:Nat)(a b c:Val):(I.U v0 [a,b,c]).w (v0+2)=c:=by rw[cT];simp
theorem kl(I:Opq)(v0:Nat)(l:U7)(h:n<v0):(I.U v0 l).w n=I.w n:=by simp_all[cT,b9]
def pA(g:U7)(n:Nat):Val:=cx (0,[.D g.length,.D n,.A g])
def ej9(a:U7):Val:=pA (tw (ce a 5).L) (ce a 5).L.length
def ek0(a:U7):Val:=pA (Ht (ce a 5).L (ce a 6).I) (ce a 5).L.length
def ek1(a:U7):Val:=pA (ef0 (ce a 5).L) (ce a 5).L.length
def ek2(a:U7):Val:=cx (rmR (ce a 4).L (ce a 4).L.length)
def ek3(a:U7):Val:=cx (il (.B false) (λk=>[.B true,.D k]) (ej8 (ce a 4).L ⟨(ce a 5).toS,(ce a 6).I,(ce a 7).I⟩) (ce a 4).L.length)
variable{I:Opq}
variable{I:Opq}
def sE(l:U7):Int:=if yy (tZ l l.length)=true then 0 else 30
def sR(l:U7):Int:=if yy (tZ l l.length)=true then bk ((tZ l l.length).getD 0 0) ((tZ l l.length).getD 1 0)else 0
def aA(l:U7):U7:=if sE l≠0 then [.D 0,.D 0,.D 0,.D 0]else [.D l.length,.D (sR l),(uc l l.length).1,(uc l l.length).2]
def ek4(a:U7):Val:= .A [.A (vI (tj (ce a 0).I))]
def ek5(a:U7):Val:= .A [.A (vI (xO (Mr a 0) (Mr a 4)))]
def ek6(a:U7):Val:= .D (if yy (Mr a 0)=true then bk (ce a 0).I (ce a 1).I else 0)
def ek7(a:U7):Val:= .B (yy (Mr a 0))
def ek8(a:U7):Val:=cx (0,.D (ce a 7).L.length::vI (tZ (ce a 7).L (ce a 7).L.length))
def ek9(a:U7):Val:=cx (0,[.D (ce a 11).L.length,.D 0,.D 0,.D 0,.D 0,.D 0,.D 0,(uc (ce a 11).L (ce a 11).L.length).1,(uc (ce a 11).L (ce a 11).L.length).2])
variable{I:Opq}
variable{I:Opq}
theorem DP(x:Int):cq .and .i64 x 4294967295=x % 4294967296:=by
 show IntKind.i64.wrap (((BitVec.ofInt 64 x&&&BitVec.ofInt 64 4294967295).toNat:Nat):Int)=_;have h:(BitVec.ofInt 64 x&&&BitVec.ofInt 64 4294967295).toNat=(x % 18446744073709551616).toNat % 4294967296:=by rw[BitVec.toNat_and];have h2:(BitVec.ofInt 64 4294967295).toNat=2^32-1:=rfl;rw[h2,Nat.and_two_pow_sub_one_eq_mod,BitVec.toNat_ofInt];rfl
 grind[mQ]
theorem xH(x:Int):cq .shr .i64 x 32=x/4294967296:=by show x.fdiv (2^(min (32:Int).toNat 64))=_;grind
def e85{a b n:Int}(h:inI n)(h0:a=n % 4294967296)(h1:b=n/4294967296 % 4294967296):bk a b=n:=by
 unfold bk;have e1:cq .shl .i64 b 32=n/4294967296*4294967296:=by show IntKind.i64.wrap (b*2^(min (32:Int).toNat 64))=_;unfold inI at h;simp only[IntKind.wrap,IntKind.bits,IntKind.signed];simp;omega
 rw[e1];show IntKind.i64.wrap (((BitVec.ofInt 64 (n/4294967296*4294967296)|||BitVec.ofInt 64 a).toNat:Nat):Int)=_;have h2:(BitVec.ofInt 64 (n/4294967296*4294967296)|||BitVec.ofInt 64 a).toNat=(n % 18446744073709551616).toNat:=by
  rw[BitVec.toNat_or,BitVec.toNat_ofInt,BitVec.toNat_ofInt];have e2:(n/4294967296*4294967296 % (2^64:Nat)).toNat=2^32*((n % 18446744073709551616).toNat/4294967296):=by omega
  have e3:(a % (2^64:Nat)).toNat=(n % 18446744073709551616).toNat % 4294967296:=by omega
  have hlt:(n % 18446744073709551616).toNat % 4294967296<2^32:=N8 _ (by decide);rw[e2,e3,<-Nat.two_pow_add_eq_or_of_lt hlt];omega
 grind[inI,IntKind.wrap,IntKind.bits,IntKind.signed]
def pf(w:aaE):Int:=w.getD 0 0+w.getD 1 0*4294967296+w.getD 2 0*18446744073709551616+w.getD 3 0*79228162514264337593543950336
def Bd(w:aaE)(k:Int):Prop:= ∃a b c d,w=[a,b,c,d]/\0<=a/\a<4294967296/\0<=b/\b<4294967296/\0<=c/\c<4294967296/\ -k<=d/\d<=k
def de9{n:Int}(h:inI n):tj n=[n % 4294967296,n/4294967296 % 4294967296,(if 0<=n then 0 else 4294967295),(if 0<=n then 0 else-1)]:=by
 unfold inI at h;have e0:QO n=n % 4294967296:=DP n;have e1:Iy n=n/4294967296:=by unfold Iy;rw[xH,xH,e0,ij (by omega) (by omega)];omega
 have e2:LW n=if 0<=n then 0 else-1:=by unfold LW;rw[xH,e1,ij (by omega) (by omega)];split<;>omega
 unfold tj;rw[DP,DP,DP,xH,e0,e1,e2];by_cases c:0<=n;rw[i6 c,i6 c,ij (by omega) (by omega)];congr 1;omega;simp_all[b9,ij]
def Zy{n:Int}(h:inI n):Bd (tj n) 1/\pf (tj n)=n:=by rw[de9 h];refine⟨⟨_,_,_,_,rfl,by omega,by omega,by omega,by omega,by split<;>omega,by split<;>omega,by split<;>omega,by split<;>omega⟩,?_⟩;show n % 4294967296+n/4294967296 % 4294967296*4294967296+(if 0<=n then 0 else 4294967295)*18446744073709551616+(if 0<=n then 0 else-1)*79228162514264337593543950336=n;grind[inI]
def dQ9{x y:aaE}{k:Int}(hk:0<=k)(hk2:k<=1000000)(hx:Bd x k)(hy:Bd y 1):Bd (xO x y) (k+2)/\pf (xO x y)=pf x+pf y:=by
 obtain⟨a,b,c,d,rfl,a1,a2,b1,b2,c1,c2,d1,d2⟩:=hx;obtain⟨a',b',c',d',rfl,a1',a2',b1',b2',c1',c2',d1',d2'⟩:=hy;have e0:Rc [a,b,c,d] [a',b',c',d']=a+a':=by show cq .add .i64 a a'=_;grind[ij]
 have e1:NS [a,b,c,d] [a',b',c',d']=b+b'+(a+a')/4294967296:=by grind[NS,xH,cq,ij]
 have e2:Lg [a,b,c,d] [a',b',c',d']=c+c'+(b+b'+(a+a')/4294967296)/4294967296:=by grind[Lg,xH,cq,ij]
 have e3:xO [a,b,c,d] [a',b',c',d']=[(a+a') % 4294967296,(b+b'+(a+a')/4294967296) % 4294967296,(c+c'+(b+b'+(a+a')/4294967296)/4294967296) % 4294967296,d+d'+(c+c'+(b+b'+(a+a')/4294967296)/4294967296)/4294967296]:=by unfold xO;grind[DP,xH,cq,ij]
 rw[e3];refine⟨⟨_,_,_,_,rfl,by omega,by omega,by omega,by omega,by omega,by omega,by omega,by omega⟩,?_⟩;show(a+a') % 4294967296+(b+b'+(a+a')/4294967296) % 4294967296*4294967296+(c+c'+(b+b'+(a+a')/4294967296)/4294967296) % 4294967296*18446744073709551616+(d+d'+(c+c'+(b+b'+(a+a')/4294967296)/4294967296)/4294967296)*79228162514264337593543950336=(a+b*4294967296+c*18446744073709551616+d*79228162514264337593543950336)+(a'+b'*4294967296+c'*18446744073709551616+d'*79228162514264337593543950336);omega
def d47{w:aaE}{k:Int}(h:Bd w k):(yy w=true↔inI (pf w))/\(yy w=true->bk (w.getD 0 0) (w.getD 1 0)=pf w):=by
 obtain⟨a,b,c,d,rfl,a1,a2,b1,b2,c1,c2,d1,d2⟩:=h;have hb:inI (bk a b):=by have:=c29 (x:=((BitVec.ofInt 64 (cq .shl .i64 b 32)|||BitVec.ofInt 64 a).toNat:Nat)) (by omega) (by omega);exact this.1
 have key:yy [a,b,c,d]=true->inI (pf [a,b,c,d])/\bk a b=pf [a,b,c,d]:=λhf=>by have hf:tj (bk a b)=[a,b,c,d]:=j7 hf;have:=(Zy hb).2;rw[hf]at this;rw[this];exact⟨hb,rfl⟩
 refine⟨⟨λhf=>(key hf).1,λhi=> ?_⟩,λhf=>(key hf).2⟩;have hv:pf [a,b,c,d]=a+b*4294967296+c*18446744073709551616+d*79228162514264337593543950336:=rfl;have hn:inI (a+b*4294967296+c*18446744073709551616+d*79228162514264337593543950336):=by exact hi
 have hbk:bk a b=a+b*4294967296+c*18446744073709551616+d*79228162514264337593543950336:=e85 hn (by omega) (by omega);show decide (tj (bk a b)=[a,b,c,d])=true;rw[hbk,de9 hn];unfold inI at hn;grind
def cG6{l:U7}(hl: ∀k,inI (ci (cg l k) 0)): ∀k,k<=400000->Bd (tZ l k) (2*k)/\pf (tZ l k)=rC (λk=>ci (cg l k) 0) k
 |0,_=>⟨⟨0,0,0,0,rfl,by omega,by omega,by omega,by omega,by omega,by omega,by omega,by omega⟩,rfl⟩
 |k+1,h=>by obtain⟨h1,h2⟩:=cG6 hl k (by omega);obtain⟨h3,h4⟩:=Zy (hl k);obtain⟨h5,h6⟩:=dQ9 (by omega) (by omega) h1 h3;refine⟨?_,?_⟩;obtain⟨a,b,c,d,e,r⟩:=h5;refine⟨a,b,c,d,e,?_⟩;obtain⟨r1,r2,r3,r4,r5,r6,r7,r8⟩:=r;exact⟨r1,r2,r3,r4,r5,r6,by omega,by omega⟩;grind[pf,xO,tZ,tj,ci,cg,rC]
def e86{l:U7}(hl: ∀r∈l,inI (ci r 0))(hn:l.length<=400000):(sE l=0↔inI (rC (λk=>ci (cg l k) 0) l.length))/\(sE l=0->sR l=rC (λk=>ci (cg l k) 0) l.length):=by
 have hg: ∀k,inI (ci (cg l k) 0):=λk=>by
  by_cases c:k<l.length;exact hl _ (lZ c)
  have e:cg l k= .A []:=by simp[cg,k5,v8 (E6.1 c)]
  rw[e];exact Oq
 obtain⟨h1,h2⟩:=cG6 hg l.length hn;obtain⟨h3,h4⟩:=d47 h1;unfold sE sR;grind
def rfG(b d s t:Int)(i:Nat):U7:=bif decide (t<b+i*d+s)then [.A [.D (b+i*d),.D (b+i*d+s)]]else []
def PI(b d t:Int):Nat:=((t-b)/d+1).toNat
def rfV(b d s t:Int):U7:=[.D (cw (rfG b d s t) (PI b d t)).length,.D (b+PI b d t*d),.A (cw (rfG b d s t) (PI b d t))]
def el0(a:U7):Val:=cx (0,rfV (ce a 1).I (dY (ce a 4).I (ce a 5).I (ce a 6).I) (ce a 5).I (ce a 3).I)
variable{I:Opq}
variable{I:Opq}
def Ep(g:Int)(l:U7)(i:Nat):U7:=[.A [X1 (cg l i) 0,.D (cq .add .i64 (ci (cg l i) 0) g)]]
def Nh(l:U7)(i:Nat):Bool:= !ei (ci (cg l i) 0)
def el1(g:Int)(l:U7):Nat×U7:=match(List.range l.length).find? (Nh l)with
 |some i=>(1,[.D 2,.D (cw (Ep g l) i).length,.D i,.A (cw (Ep g l) i)])
 |none=>(0,[.D 0,.D (cw (Ep g l) l.length).length,.D l.length,.A (cw (Ep g l) l.length)])
def el2(a:U7):Val:=cx (el1 (ce a 4).I (ce a 7).L)
def tU(l:U7)(i j k:Nat):U7:=if k=i\/k=j then []else [fX (cg l k)]
def Hg(l:U7)(i j:Nat):Val:= .A [.D (min (ci (cg l i) 0) (ci (cg l j) 0)),.D (max (ci (cg l i) 1) (ci (cg l j) 1))]
def nQ(l:U7)(i j:Nat):U7:=[Hg l i j]++cw (tU l i j) l.length
def el3(a:U7):Val:=cx (0,[.D (nQ (ce a 4).L (ce a 5).I.toNat (ce a 6).I.toNat).length,.D (ce a 4).L.length,.A (nQ (ce a 4).L (ce a 5).I.toNat (ce a 6).I.toNat)])
def xX(l:U7)(i j:Nat):Bool:=decide (ci (cg l i) 0<ci (cg l j) 1)&&decide (ci (cg l j) 0<ci (cg l i) 1)
def sH(l:U7)(i:Nat):mB:=(List.range l.length).find? λj=>decide (i<j)&&xX l i j
def el4(x:Val)(l:U7)(i:Nat):Nat×U7:=match sH l i with
 |some j=>(1,[.D (nQ l i j).length,.B true,.D j,.A (nQ l i j)])
 |none=>(0,[x,.D l.length])
def el5(a:U7):Val:=cx (el4 (ce a 0) (ce a 3).L (ce a 4).I.toNat)
variable{I:Opq}
variable{l:U7}
variable{I:Opq}
def d5{x:Val}{j:Nat}:(I.U 5000 [x,.D j]).w 5000=x/\(I.U 5000 [x,.D j]).w 5001= .D j:=⟨by rfl,by rfl⟩
