import Derived.Test.YtgeohopencabkaaGreatEG3
import Derived.Test.YtgeohopencabkaaGreatEO1
import Derived.Test.YtgeohopencabkaaGreatEU0
import Derived.Test.YtgeohopencabkaaGreatEP34
set_option linter.all false
namespace Go.Ev
open Go
def X2{I:Opq}{e:SX}{x:VT}{r:Option (Nat×U7)}(h:dB I e=true)(h2:W6 x I=r):W6 (.N e x) I=r:=by rw[W6.eq_3,i6 h,h2]
def Y4{I:Opq}{e:SX}{x y:VT}{r:Option (Nat×U7)}(h:dB I e=true)(h2:W6 x I=r):W6 (.J e x y) I=r:=by rw[W6.eq_2,i6 h,h2]
def Y0{I:Opq}{e:SX}{x y:VT}{r:Option (Nat×U7)}(h:dB I e=false)(h2:W6 y I=r):W6 (.J e x y) I=r:=by rw[W6.eq_2,b9 (by rw[h];simp),h2]
theorem and2{a b:Bool}(h:a=true)(h2:b=true):(a&&b)=true:=by rw[h,h2];rfl
def dU4(r:Val):X1 (fV r) 0=X1 r 0/\X1 (fV r) 1=X1 r 1/\X1 (fV r) 2=X1 r 2/\X1 (fV r) 3=X1 r 4/\X1 (fV r) 4=X1 r 5/\X1 (fV r) 5=X1 r 6/\X1 (fV r) 6=X1 r 7:=⟨rfl,rfl,rfl,rfl,rfl,rfl,rfl⟩
def eb2(r:Val):jF (fV r)=true↔ ¬((X1 r 4).I=0/\(X1 r 5).I=0/\(X1 r 6).I=0/\(X1 r 7).I=0)/\((X1 r 4).I=1/\(X1 r 5).I=(X1 r 6).I/\(X1 r 6).I=(X1 r 7).I\/1<(X1 r 4).I/\(X1 r 6).I<=(X1 r 7).I):=by have:=GN (fV r);obtain⟨e0,e1,e2,e3,e4,e5,e6⟩:=dU4 r;rw[e3,e4,e5,e6]at this;rw[this]
def d73{r:Val}(h:S7.okK r=true):S7.okK (X8 r)=true:=by rw[S7.okK_at h];exact h
def dB8{r:Val}(h:S7.okK8 r=true):S7.okK (fV r)=true:=by unfold S7.okK8 at h;split at h;rfl;cases h
def cL2{rows l:U7}(h0:rows.all S7.okK=true)(h1:l.all S7.okK8=true):(mD rows l).all S7.okK=true:=by
 rw[l5]at*
 intro x hx;rcases t8.1 hx with hx|hx
 obtain⟨r,hr,hx⟩:=x7.1 hx;unfold EM at hx;cases ht:kH l r with
 |true=>rw[ht]at hx;cases hx
 |false=>
  rw[ht]at hx;obtain rfl:=m9.1 hx;exact d73 (h0 r hr)
 .obtain⟨r,hr,hx⟩:=x7.1 hx;unfold oR at hx;cases ht:fC r with
  |true=>rw[ht]at hx;cases hx
  |false=>
   rw[ht]at hx;obtain rfl:=m9.1 hx;exact dB8 (h1 r hr)
def Xs:xB= .J (zs aR (zl 1)) (.N (zp aR) (.N (zn (zp kX) (zs kX (zL bX))) (.J CS TB (.J (zt (zg 1 2001 4) 0) (.J (fW (zg 1 2001 6) (zg 1 2001 7)) (.J (zt (zg 1 2001 4) 1) TB (.J (zn (ze (zg 1 2001 4) 1) (zn (cG (zg 1 2001 5) (zg 1 2001 5)) (zn (cG (zg 1 2001 6) (zg 1 2001 5)) (cG (zg 1 2001 7) (zg 1 2001 5))))) TB RB)) RB) RB)))) (.W 1 [aV,aR,aW,bD]):=rfl
def TN{m:U7}{p:PaneM}{k:Nat}(h1:k<m.length)(h2:W7 (cg m k)=p)(h3: ∀j,j<k-> ¬W7 (cg m j)=p):cL m p=k:=by
 unfold cL;rw[List.findIdx_eq h1];have e: ∀j (hj:j<m.length),cg m j=m[j]:=λj hj=>by simp[cg,k5,hj]
 refine⟨by rw[<-e k h1];exact j0 h2,λj hj=> ?_⟩;rw[<-e j (by omega)];exact j9 (h3 j hj)
def c64{m:U7}{p:PaneM}(h: ∀j,j<m.length-> ¬W7 (cg m j)=p):cL m p=m.length:=by unfold cL;rw[List.findIdx_eq_length];intro x hx;obtain⟨j,hj,rfl⟩:=B4 hx;have:=h j hj;rw[show cg m j=m[j] by simp[cg,k5,hj]]at this;exact j9 this
def js(l:U7): ∀i,(sN l i).length=i
 |0=>rfl
 |i+1=>by show(sN l i++[LN (cg l i)]).length=_;rw[k9,js l i];rfl
def VP{a b:U7}{k:Nat}(h:k<a.length):cg (a++b) k=cg a k:=by unfold cg;rw[k5,k5,y5 h]
def Ns{a:U7}{x:Val}{k:Nat}(h:k=a.length):cg (a++[x]) k=x:=by subst h;unfold cg;rw[k5,s9 (j6 _),F5];rfl
def Ax(l:U7): ∀{i k:Nat},k<i->cg (sN l i) k=LN (cg l k)
 |i+1,k,h=>by show cg (sN l i++[LN (cg l i)]) k=_;by_cases hk:k=i;subst hk;exact Ns (js l k).symm;rw[VP (by rw[js];omega),Ax l (by omega)]
def Lw{l:U7}{i:Nat}:iA l i=true↔ ∃k,k<i/\W7 (cg l k)=W7 (cg l i):=by unfold iA Kb;rw[A3];constructor;rintro⟨k,hk,h⟩;exact⟨k,o7.1 hk,j7 h⟩;rintro⟨k,hk,h⟩;exact⟨k,o7.2 hk,j0 h⟩
def be3{m:U7}{k:Nat}{x:Val}(h:k<m.length):cg (m.set k x) k=x:=by unfold cg;rw[k5,List.getElem?_set,i6 rfl,i6 h];rfl
def cf6{m:U7}{k j:Nat}{x:Val}(h:k≠j):cg (m.set k x) j=cg m j:=by unfold cg;rw[k5,k5,List.getElem?_set,b9 h]
def dh6{l:U7}{i:Nat}(h:iA l i=false):cL (sN l i) (W7 (cg l i))=i/\iN (sN l i) (cg l i)=sN l (i+1)/\cL (sN l (i+1)) (W7 (cg l i))=i:=by
 have hno: ∀j,j<i-> ¬W7 (cg l j)=W7 (cg l i):=λj hj e=>by rw[<-v7]at h;exact h (Lw.2 ⟨j,hj,e⟩)
 have e1:cL (sN l i) (W7 (cg l i))=i:=by have:=c64 (m:=sN l i) (p:=W7 (cg l i)) (λj hj=>by rw[js]at hj;rw[Ax l hj];exact hno j hj);rw[this,js]
 have e2:ni (sN l i) (cg l i)=sN l i++[.A [X1 (cg l i) 0,X1 (cg l i) 1,X1 (cg l i) 2,.D 0]]:=by unfold ni;rw[e1,js,if_neg (Nat.lt_irrefl _)]
 have e3:zD (sN l i) (cg l i)=0:=by unfold zD;rw[e1,js,if_neg (Nat.lt_irrefl _)]
 refine⟨e1,?_,?_⟩;unfold iN;rw[e1,e2,e3,Ns (js l i).symm,List.set_append,b9 (by rw[js];omega),js,F5];rfl;refine TN (by rw[js];omega) (by rw[Ax l (by omega)];rfl) (λj hj=> ?_);rw[Ax l (by omega)];exact hno j hj
def dh7{l:U7}{i:Nat}(h:iA l i=true): ∃k,k<i/\cL (sN l i) (W7 (cg l i))=k/\ni (sN l i) (cg l i)=sN l i/\(iN (sN l i) (cg l i)).length=i/\cL (iN (sN l i) (cg l i)) (W7 (cg l i))=k/\X1 (cg (iN (sN l i) (cg l i)) k) 3= .D 2:=by
 obtain⟨j,hj,hp⟩:=Lw.1 h;have hex:cL (sN l i) (W7 (cg l i))<(sN l i).length:=by unfold cL;rw[W3];refine⟨cg (sN l i) j,?_,?_⟩;rw[show cg (sN l i) j=(sN l i)[j]'(by rw[js];exact hj) by simp[cg,k5,js,hj]];exact B6 _;rw[Ax l hj];exact j0 hp
 have hat:=dT6 hex;have hbf: ∀j',j'<cL (sN l i) (W7 (cg l i))-> ¬W7 (cg (sN l i) j')=W7 (cg l i):=λj' hj'=>cf3 hj'
 have e2:ni (sN l i) (cg l i)=sN l i:=by unfold ni;rw[if_pos hex]
 have e3:zD (sN l i) (cg l i)=(X1 (cg (sN l i) (cL (sN l i) (W7 (cg l i)))) 3).I:=by unfold zD;rw[if_pos hex]
 have e4:iN (sN l i) (cg l i)=(sN l i).set (cL (sN l i) (W7 (cg l i))) (.A [X1 (cg (sN l i) (cL (sN l i) (W7 (cg l i)))) 0,X1 (cg (sN l i) (cL (sN l i) (W7 (cg l i)))) 1,X1 (cg (sN l i) (cL (sN l i) (W7 (cg l i)))) 2,.D (cq .add .i64 (X1 (cg (sN l i) (cL (sN l i) (W7 (cg l i)))) 3).I 1)]):=by unfold iN;rw[e2,e3]
 generalize cL (sN l i) (W7 (cg l i))=k at hex hat hbf e4;have hk:k<i:=by rw[js]at hex;exact hex
 refine⟨k,hk,rfl,e2,?_,?_,?_⟩;rw[e4,C6,js];rw[e4];refine TN (by rw[C6];exact hex) ?_ (λj' hj'=> ?_)
 rw[be3 hex];exact hat
 rw[cf6 (by omega)];exact hbf j' hj';rw[e4,be3 hex,Ax l hk];rfl
section
variable{I:Opq}{l s:U7}{i:Nat}
def dU5(h1:(I.w 1).L=l)(hi:I.w 2001= .D i):bZ I vq= .A [X1 (cg l i) 0,X1 (cg l i) 1,X1 (cg l i) 2]:=by show Val.A [Y3 (I.w 1).L (I.w 2001).I 0,Y3 (I.w 1).L (I.w 2001).I 1,Y3 (I.w 1).L (I.w 2001).I 2]=_;rw[h1,hi];rfl
def Rn(h1:(I.w 1).L=l)(hi:I.w 2001= .D i)(m:U7):(m.findIdx λx=>eF [.str,.int .i64,.int .i64] x (bZ I vq))=cL m (W7 (cg l i)):=by rw[dU5 h1 hi,BZ,CP]
def Mw(h1:(I.w 1).L=l)(hi:I.w 2001= .D i)(hs:I.w 2003= .A s):bZ I kX= .D (cL s (W7 (cg l i))):=by show Val.D (((I.w 2003).L.findIdx λx=>eF [.str,.int .i64,.int .i64] x (bZ I vq):Nat):Int)=_;rw[Rn h1 hi,hs];rfl
def dU6(h1:(I.w 1).L=l)(hi:I.w 2001= .D i)(hs:I.w 2003= .A s):dB I (zs kX (zl 2003))=decide (cL s (W7 (cg l i))<s.length):=by show decide ((bZ I kX).I<((I.w 2003).L.length:Int))=_;rw[Mw h1 hi hs,hs];exact Aq _ _
def dh8(h1:(I.w 1).L=l)(hi:I.w 2001= .D i)(hs:I.w 2003= .A s):bZ I bX= .A (ni s (cg l i)):=by unfold bX ni;rw[kN,dU6 h1 hi hs];by_cases h:cL s (W7 (cg l i))<s.length;rw[j0 h,i6 h,cond_true];exact hs;rw[j9 h,b9 h,cond_false];show Val.A ((I.w 2003).L++[.A [Y3 (I.w 1).L (I.w 2001).I 0,Y3 (I.w 1).L (I.w 2001).I 1,Y3 (I.w 1).L (I.w 2001).I 2,.D 0]])=_;rw[hs,h1,hi];rfl
def dU7(h1:(I.w 1).L=l)(hi:I.w 2001= .D i)(hs:I.w 2003= .A s):(bZ I nX).I=zD s (cg l i):=by unfold nX zD;rw[kN,dU6 h1 hi hs];by_cases h:cL s (W7 (cg l i))<s.length;rw[j0 h,i6 h,cond_true];show(Y3 (I.w 2003).L (bZ I kX).I 3).I=_;rw[hs,Mw h1 hi hs];rfl;rw[j9 h,b9 h,cond_false];rfl
def Ms(h1:(I.w 1).L=l)(hi:I.w 2001= .D i)(hs:I.w 2003= .A s):bZ I sX= .A (iN s (cg l i)):=by show Val.A ((bZ I bX).L.set (bZ I kX).I.toNat (.A [Y3 (bZ I bX).L (bZ I kX).I 0,Y3 (bZ I bX).L (bZ I kX).I 1,Y3 (bZ I bX).L (bZ I kX).I 2,.D (cq .add .i64 (bZ I nX).I 1)]))=_;rw[dh8 h1 hi hs,Mw h1 hi hs,dU7 h1 hi hs];rfl
def dh9(h1:(I.w 1).L=l)(hi:I.w 2001= .D i)(hs:I.w 2003= .A s)(hk:cL (iN s (cg l i)) (W7 (cg l i))<(iN s (cg l i)).length):(bZ I cX).I=(X1 (cg (iN s (cg l i)) (cL (iN s (cg l i)) (W7 (cg l i)))) 3).I:=by
 have hk2:bZ I Bs= .D (cL (iN s (cg l i)) (W7 (cg l i))):=by show Val.D (((bZ I sX).L.findIdx λx=>eF [.str,.int .i64,.int .i64] x (bZ I vq):Nat):Int)=_;rw[Rn h1 hi,Ms h1 hi hs];rfl
 unfold cX;rw[kN];rw[show dB I (zs Bs (zL sX))=true by show decide ((bZ I Bs).I<((bZ I sX).L.length:Int))=true;rw[hk2,Ms h1 hi hs];exact j0 (by show((_:Nat):Int)<((_:Nat):Int);exact Int.ofNat_lt.2 hk)];rw[cond_true];show(Y3 (bZ I sX).L (bZ I Bs).I 3).I=_;rw[Ms h1 hi hs,hk2];rfl
def eb3(h1:(I.w 1).L=l)(hi:I.w 2001= .D i){had:U7}(hh:(I.w 2002).L=had):dB I hX=eC had (W7 (cg l i)):=by show decide ((((I.w 2002).L.findIdx λx=>eF [.str,.int .i64,.int .i64] x (bZ I vq):Nat):Int)<((I.w 2002).L.length:Int))=_;rw[Rn h1 hi,hh];exact Aq _ _
end
def XO{I:Opq}{l:U7}{had:Val}(h1:(I.w 1).L=l){i:Nat}(hi:i<l.length)(hl:l.length<=1000):
 W6 xB (I.U 2000 [.D 0,.D i,had,.A (sN l i)])=some (if oJ l had.L i then(2,[.D i,.D i,had,.A (iN (sN l i) (cg l i))])else(0,[.D 0,.D (i+1:Nat),had,.A (sN l (i+1))])):=by
 obtain⟨aa,ae⟩: ∃aa,aa=I.U 2000 [.D 0,.D i,had,.A (sN l i)]:=⟨_,rfl⟩;have v0:aa.w 2000= .D 0:=by rw[ae];rfl
 have v1:aa.w 2001= .D i:=by rw[ae];rfl
 have v2:aa.w 2002=had:=by rw[ae];rfl
 have v3:aa.w 2003= .A (sN l i):=by rw[ae];rfl
 have u1:(aa.w 1).L=l:=by rw[ae];exact h1
 have ds:=Ms u1 v1 v3;have dk:=Mw u1 v1 v3;have db:=dh8 u1 v1 v3;have dh:=eb3 u1 v1 (had:=had.L) (by rw[v2]);have a1:cq .add .i64 (i:Int) 1=((i+1:Nat):Int):=am6 (by omega);have hRB:W6 RB aa=some (2,[.D i,.D i,had,.A (iN (sN l i) (cg l i))]):=by show some (2,[aa.w 2001,aa.w 2001,aa.w 2002,bZ aa sX])=_;rw[v1,v2,ds]
 have hRG:W6 RG aa=some (0,[.D 0,.D (i+1:Nat),had,.A (iN (sN l i) (cg l i))]):=by show some (0,[aa.w 2000,Val.D (cq .add .i64 (aa.w 2001).I 1),aa.w 2002,bZ aa sX])=_;rw[v0,v1,v2,ds,Y1,a1]
 have hcol: ∀j:Nat,bZ aa (.O .G [aO,aR,.C j])=X1 (cg l i) j:=λj=>by show Y3 (aa.w 1).L (aa.w 2001).I j=_;rw[u1,v1];rfl
 have hd3:dB aa (zg 1 2001 3)=fC (cg l i):=congrArg Val.Z (hcol 3);have hbl:dB aa CS=pq (cg l i):=by show(decide ((bZ aa (zg 1 2001 4)).I=0)&&(decide ((bZ aa (zg 1 2001 5)).I=0)&&(decide ((bZ aa (zg 1 2001 6)).I=0)&&decide ((bZ aa (zg 1 2001 7)).I=0))))=_;rw[show bZ aa (zg 1 2001 4)=_ from hcol 4,show bZ aa (zg 1 2001 5)=_ from hcol 5,show bZ aa (zg 1 2001 6)=_ from hcol 6,show bZ aa (zg 1 2001 7)=_ from hcol 7];rfl
 have hTB:W6 TB aa=some (if(fC (cg l i) !=pq (cg l i))||(iA l i||fC (cg l i)&& !eC had.L (W7 (cg l i)))then(2,[.D i,.D i,had,.A (iN (sN l i) (cg l i))])else(0,[.D 0,.D (i+1:Nat),had,.A (sN l (i+1))])):=by
  have hne:dB aa (cY (.O .beq [zg 1 2001 3,CS]))=(fC (cg l i) !=pq (cg l i)):=by show(!(dB aa (zg 1 2001 3)==dB aa CS))=_;rw[hd3,hbl];rfl
  unfold TB;cases hb:(fC (cg l i) !=pq (cg l i))with
  |true=>exact Y4 (by rw[hne,hb]) hRB
  |false=>
   refine Y0 (by rw[hne,hb]) ?_;unfold TC;cases hdup:iA l i with
   |true=>
    obtain⟨k,q1,q2,q3,q4,q5,q6⟩:=dh7 hdup;have hc:=dh9 u1 v1 v3 (by rw[q5,q4];exact q1);rw[q5,q6]at hc;exact Y4 (by show decide ((1:Int)<(bZ aa cX).I)=true;rw[hc];rfl) hRB
   |false=>
    obtain⟨q1,q2,q3⟩:=dh6 hdup;have hc:=dh9 u1 v1 v3 (by rw[q2,q3,js];omega);rw[q2,q3,Ax l (by omega)]at hc;refine Y0 (by show decide ((1:Int)<(bZ aa cX).I)=false;rw[hc];rfl) ?_;rw[q2]at hRG;unfold TD;cases hdd:fC (cg l i)with
    |false=>
     refine Y0 (by rw[hd3,hdd]) ?_;rw[hRG];rfl
    |true=>
     refine Y4 (by rw[hd3,hdd]) ?_;cases hhv:eC had.L (W7 (cg l i))with
     |true=>
      refine Y0 (by show(!(dB aa hX))=false;rw[dh,hhv];rfl) ?_;rw[hRG];rfl
     |false=>
      refine Y4 (by show(!(dB aa hX))=true;rw[dh,hhv];rfl) ?_;rw[hRB];rfl
 rw[<-ae,Xs];refine Y4 (by show decide ((aa.w 2001).I<((aa.w 1).L.length:Int))=true;rw[v1,u1];exact j0 (by show(i:Int)<(l.length:Int);omega)) (X2 (by show decide ((0:Int)<=(aa.w 2001).I)=true;rw[v1];exact j0 (by show(0:Int)<=(i:Int);omega)) (X2 ?_ ?_))
 show(decide ((0:Int)<=(bZ aa kX).I)&&decide ((bZ aa kX).I<((bZ aa bX).L.length:Int)))=true;rw[dk,db];refine and2 (j0 (by show(0:Int)<=((cL (sN l i) (W7 (cg l i)):Nat):Int);omega)) (j0 ?_);show((cL (sN l i) (W7 (cg l i)):Nat):Int)<((ni (sN l i) (cg l i)).length:Int);cases hdup:iA l i with
 |true=>
  obtain⟨k,q1,q2,q3,_⟩:=dh7 hdup;rw[q2,q3,js];omega
 |false=>
  obtain⟨q1,q2,q3⟩:=dh6 hdup;unfold ni;rw[q1,js,b9 (J4 _),k9,js];show(i:Int)<((i+1:Nat):Int);omega
 .
  have hbad:oJ l had.L i=(!mE (cg l i)||(iA l i||fC (cg l i)&& !eC had.L (W7 (cg l i)))):=by unfold oJ AU;rw[Bool.or_assoc]
  have e4: ∀(op:BinOp) (a b:SX),True:=λ_ _ _=>trivial
  have g4:dB aa (zt (zg 1 2001 4) 0)=decide (0<(X1 (cg l i) 4).I):=by show decide ((0:Int)<(bZ aa (zg 1 2001 4)).I)=_;rw[show bZ aa (zg 1 2001 4)=_ from hcol 4]
  have g41:dB aa (zt (zg 1 2001 4) 1)=decide (1<(X1 (cg l i) 4).I):=by show decide ((1:Int)<(bZ aa (zg 1 2001 4)).I)=_;rw[show bZ aa (zg 1 2001 4)=_ from hcol 4]
  have g67:dB aa (fW (zg 1 2001 6) (zg 1 2001 7))=decide ((X1 (cg l i) 6).I<=(X1 (cg l i) 7).I):=by show decide ((bZ aa (zg 1 2001 6)).I<=(bZ aa (zg 1 2001 7)).I)=_;rw[show bZ aa (zg 1 2001 6)=_ from hcol 6,show bZ aa (zg 1 2001 7)=_ from hcol 7]
  have gone:dB aa (zn (ze (zg 1 2001 4) 1) (zn (cG (zg 1 2001 5) (zg 1 2001 5)) (zn (cG (zg 1 2001 6) (zg 1 2001 5)) (cG (zg 1 2001 7) (zg 1 2001 5)))))=decide ((X1 (cg l i) 4).I=1/\(X1 (cg l i) 6).I=(X1 (cg l i) 5).I/\(X1 (cg l i) 7).I=(X1 (cg l i) 5).I):=by show(decide ((bZ aa (zg 1 2001 4)).I=1)&&(decide ((bZ aa (zg 1 2001 5)).I=(bZ aa (zg 1 2001 5)).I)&&(decide ((bZ aa (zg 1 2001 6)).I=(bZ aa (zg 1 2001 5)).I)&&decide ((bZ aa (zg 1 2001 7)).I=(bZ aa (zg 1 2001 5)).I))))=_;rw[show bZ aa (zg 1 2001 4)=_ from hcol 4,show bZ aa (zg 1 2001 5)=_ from hcol 5,show bZ aa (zg 1 2001 6)=_ from hcol 6,show bZ aa (zg 1 2001 7)=_ from hcol 7];rw[A9];simp
  rw[hbad];have hokt:=eb2 (cg l i);have hbk:pq (cg l i)=true↔(X1 (cg l i) 4).I=0/\(X1 (cg l i) 5).I=0/\(X1 (cg l i) 6).I=0/\(X1 (cg l i) 7).I=0:=by unfold pq;simp only[Bool.and_eq_true,decide_eq_true_eq]
  have hok:mE (cg l i)=bif fC (cg l i)then pq (cg l i)else jF (fV (cg l i)):=rfl
  generalize (iA l i||fC (cg l i)&& !eC had.L (W7 (cg l i)))=rest at hTB⊢;generalize fC (cg l i)=dd at hTB hok;have fail:mE (cg l i)=false->W6 RB aa=some (if !mE (cg l i)||rest then(2,[.D i,.D i,had,.A (iN (sN l i) (cg l i))])else(0,[.D 0,.D (i+1:Nat),had,.A (sN l (i+1))])):=λh=>by rw[hRB,h];rfl
  have pass:(!mE (cg l i))=(dd !=pq (cg l i))->W6 TB aa=some (if !mE (cg l i)||rest then(2,[.D i,.D i,had,.A (iN (sN l i) (cg l i))])else(0,[.D 0,.D (i+1:Nat),had,.A (sN l (i+1))])):=λh=>by rw[hTB,h]
  cases hbv:pq (cg l i)with
  |true=>
   refine Y4 (by rw[hbl,hbv]) (pass ?_);have hz:=hbk.1 hbv;have hv:jF (fV (cg l i))=false:=by rw[<-v7];exactλh=>(hokt.1 h).1 hz
   rw[hok,hbv,hv];cases dd<;>rfl
  |false=>
   refine Y0 (by rw[hbl,hbv]) ?_;have hz: ¬_:=λh=>by rw[hbk.2 h]at hbv;cases hbv
   have nok:jF (fV (cg l i))=false->mE (cg l i)=false:=λh=>by rw[hok,hbv,h];cases dd<;>rfl
   have yok:jF (fV (cg l i))=true->(!mE (cg l i))=(dd !=pq (cg l i)):=λh=>by rw[hok,hbv,h];cases dd<;>rfl
   have nv: ¬((X1 (cg l i) 4).I=1/\(X1 (cg l i) 5).I=(X1 (cg l i) 6).I/\(X1 (cg l i) 6).I=(X1 (cg l i) 7).I\/1<(X1 (cg l i) 4).I/\(X1 (cg l i) 6).I<=(X1 (cg l i) 7).I)->jF (fV (cg l i))=false:=λh=>by rw[<-v7];exactλh2=>h (hokt.1 h2).2
   by_cases c4:0<(X1 (cg l i) 4).I;refine Y4 (by rw[g4];exact j0 c4) ?_;by_cases c67:(X1 (cg l i) 6).I<=(X1 (cg l i) 7).I;refine Y4 (by rw[g67];exact j0 c67) ?_;by_cases c41:1<(X1 (cg l i) 4).I;exact Y4 (by rw[g41];exact j0 c41) (pass (yok (hokt.2 ⟨hz,.inr ⟨c41,c67⟩⟩)));refine Y0 (by rw[g41];exact j9 c41) ?_;by_cases c5:(X1 (cg l i) 4).I=1/\(X1 (cg l i) 6).I=(X1 (cg l i) 5).I/\(X1 (cg l i) 7).I=(X1 (cg l i) 5).I;exact Y4 (by rw[gone];exact j0 c5) (pass (yok (hokt.2 ⟨hz,.inl ⟨c5.1,by omega,by omega⟩⟩)));exact Y0 (by rw[gone];exact j9 c5) (fail (nok (nv (by omega))));exact Y0 (by rw[g67];exact j9 c67) (fail (nok (nv (by omega))));exact Y0 (by rw[g4];exact j9 c4) (fail (nok (nv (by omega))))
def eb4{I:Opq}{l:U7}{had:Val}(h1:(I.w 1).L=l)(hl:l.length<=1000):Y9 (λvs=>W6 xB (I.U 2000 vs)) [.D 0,.D 0,had,.A []]=some (ud l had):=by
 have st: ∀i,i<l.length->oJ l had.L i=false->W6 xB (I.U 2000 [.D 0,.D i,had,.A (sN l i)])=some (0,[.D 0,.D (i+1:Nat),had,.A (sN l (i+1))]):=λi hi hb=>by rw[XO h1 hi hl,hb];rfl
 unfold ud;split;rename_i k hk;obtain⟨a,b,c⟩:=rS hk;exact mC (λi=>[.D 0,.D i,had,.A (sN l i)]) (n:=k) rfl (λi hi=>st i (by omega) (c i hi)) (by show W6 xB (I.U 2000 [.D 0,.D k,had,.A (sN l k)])=_;rw[XO h1 a hl,b];rfl);rename_i hk;rw[J3]at hk;exact mC (λi=>[.D 0,.D i,had,.A (sN l i)]) (n:=l.length) rfl (λi hi=>st i hi (by simpa using hk i hi)) (by show W6 xB (I.U 2000 [.D 0,.D l.length,had,.A (sN l l.length)])=_;rw[Xs];refine Y0 ?_ rfl;show decide ((l.length:Int)<((I.w 1).L.length:Int))=false;rw[h1];exact j9 (by omega))
def dU8(f g:Nat->Bool)(n:Nat):((List.range n).any λi=>f i||g i)=((List.range n).any f||(List.range n).any g):=by
 rw[A9,t7,A3,A3,A3];constructor
 rintro⟨i,hi,h⟩;rcases t7 _ _|>.mp h with h|h
 exact .inl ⟨i,hi,h⟩;exact .inr ⟨i,hi,h⟩;rintro(⟨i,hi,h⟩|⟨i,hi,h⟩);exact⟨i,hi,by rw[h];rfl⟩;exact⟨i,hi,by rw[h];simp⟩
def cf7(rows l:U7):((List.range l.length).any (oJ l (rows.map X8)))= !(rq l&& !(List.range l.length).any (oN rows l)):=by
 have:oJ l (rows.map X8)=λi=>AU l i||oN rows l i:=by funext i;unfold oJ oN;rw[Qu]
 rw[this,dU8];unfold rq;cases (List.range l.length).any (AU l)<;>cases (List.range l.length).any (oN rows l)<;>rfl
def c68{l:U7}(h:Y5 l=true):jV l=(0,[.D l.length,.A (l.map X8)]):=by
 unfold Y5 at h;have h2:(List.range l.length).find? (jZ l)=none:=by rw[A8];intro i hi hb;have:(List.range l.length).any (jZ l)=true:=A3.2 ⟨i,hi,hb⟩;rw[this]at h;cases h
 unfold jV;rw[h2];show(0,[Val.D l.length,Val.A (cw (g7 l) l.length)])=_;rw[bC2]
def cL7{l:U7}(h:Y5 l=false): ∃p,jV l=(1,p):=by
 unfold Y5 at h;unfold jV;split;exact⟨_,rfl⟩
 rename_i hk;rw[A8]at hk;have:(List.range l.length).any (jZ l)=true:=by simpa using h
 obtain⟨i,hi,hb⟩:=A3.1 this;exact absurd hb (hk i hi)
def dB9{I:Opq}(hf: ∀i a,I.f i a=F i a)(hn0:(I.w 0).L.length<=400)(hn1:(I.w 1).L.length<=800):W6 Oz I=some (0,[F 220 [I.w 0,I.w 1]]):=by
 have h220:F 220 [I.w 0,I.w 1]= .B (Y5 (I.w 0).L&&(rq (I.w 1).L&& !(List.range (I.w 1).L.length).any (oN (I.w 0).L (I.w 1).L))):=rfl;have e140:I.f 140 [.D 0,.A [],.A [],.D 0,.D (I.w 0).L.length,I.w 0,.D (I.w 0).L.length]=cx (jV (I.w 0).L):=by rw[hf];rfl
 rw[h220];unfold Oz;cases hr:Y5 (I.w 0).L with
 |false=>
  obtain⟨p,hp⟩:=cL7 hr;have lp:=KR hf (I:=I) (by omega);rw[hp]at lp e140;refine X7 lp e140 rfl
 |true=>
  have hp:=c68 hr;have lp:=KR hf (I:=I) (by omega);rw[hp]at lp e140;have d0:bZ I sT= .A ((I.w 0).L.map X8):=by show Y3 (I.f 140 [.D 0,.A [],.A [],.D 0,.D (I.w 0).L.length,I.w 0,.D (I.w 0).L.length]).L 1 1=_;rw[e140];rfl
  have lp2:=eb4 (I:=I) (l:=(I.w 1).L) (had:= .A ((I.w 0).L.map X8)) rfl (by omega);have e221:I.f 221 [.D 0,.D 0,bZ I sT,.A [],.D 0,.D (I.w 1).L.length,I.w 1,bZ I sT,.A [],.D (I.w 1).L.length]=cx (ud (I.w 1).L (.A ((I.w 0).L.map X8))):=by rw[hf,d0];rfl
  have hany:=cf7 (I.w 0).L (I.w 1).L;refine X7 lp e140 (X7 (r:=ud (I.w 1).L (.A ((I.w 0).L.map X8))) ?_ e221 ?_);show Y9 _ [.D 0,.D 0,bZ I sT,.A []]=_;rw[d0];exact lp2
  cases hb:(List.range (I.w 1).L.length).any (oJ (I.w 1).L ((I.w 0).L.map X8))with
  |false=>
   have hfi:(List.range (I.w 1).L.length).find? (oJ (I.w 1).L ((I.w 0).L.map X8))=none:=by rw[A8];intro i hi hbi;rw[A3.2 ⟨i,hi,hbi⟩]at hb;cases hb
   rw[hb]at hany;have hg:(rq (I.w 1).L&& !(List.range (I.w 1).L.length).any (oN (I.w 0).L (I.w 1).L))=true:=by
    cases hq:(rq (I.w 1).L&& !(List.range (I.w 1).L.length).any (oN (I.w 0).L (I.w 1).L))with
    |true=>rfl
    |false=>rw[hq]at hany;cases hany
   rw[hg];have:ud (I.w 1).L (.A ((I.w 0).L.map X8))=(0,[.D 0,.D (I.w 1).L.length,.A ((I.w 0).L.map X8),.A (sN (I.w 1).L (I.w 1).L.length)]):=by unfold ud;rw[show(Val.A ((I.w 0).L.map X8)).L=(I.w 0).L.map X8 from rfl,hfi]
   rw[this];rfl
  |true=>
   rw[hb]at hany;have hg:(rq (I.w 1).L&& !(List.range (I.w 1).L.length).any (oN (I.w 0).L (I.w 1).L))=false:=by
    cases hq:(rq (I.w 1).L&& !(List.range (I.w 1).L.length).any (oN (I.w 0).L (I.w 1).L))with
    |false=>rfl
    |true=>rw[hq]at hany;cases hany
   rw[hg];obtain⟨k,hk⟩: ∃k,(List.range (I.w 1).L.length).find? (oJ (I.w 1).L ((I.w 0).L.map X8))=some k:=by
    cases hq:(List.range (I.w 1).L.length).find? (oJ (I.w 1).L ((I.w 0).L.map X8))with
    |some k=>exact⟨k,rfl⟩
    |none=>
     obtain⟨i,hi,hbi⟩:=A3.1 hb;exact absurd hbi (A8.1 hq i hi)
   have hres: ∃x y,ud (I.w 1).L (.A ((I.w 0).L.map X8))=(1,[.D k,.D k,x,y]):=by unfold ud;rw[show(Val.A ((I.w 0).L.map X8)).L=(I.w 0).L.map X8 from rfl,hk];exact⟨_,_,rfl⟩
   obtain⟨x,y,hres⟩:=hres;rw[hres]at e221⊢;show some (0,[Val.B (!decide ((0:Int)<=(Y3 (I.f 221 [.D 0,.D 0,bZ I sT,.A [],.D 0,.D (I.w 1).L.length,I.w 1,bZ I sT,.A [],.D (I.w 1).L.length]).L 1 0).I))])=_;rw[e221];show some (0,[Val.B (!decide ((0:Int)<=(k:Int)))])=_;rw[j0 (by omega)];rfl
def XH{l:U7}{i:Nat}(hi:i<l.length):l.take (i+1)=l.take i++[cg l i]:=by rw[O8];simp[cg,k5,hi]
def dU9{l:U7}(h: ∀i,i<l.length->iA l i=false):ND l:=by
 unfold ND;rw[G7,F7,G4];intro i j hi hj hij e;have e1: ∀k (hk:k<l.length),cg l k=l[k]:=λk hk=>by simp[cg,k5,hk]
 have:=Lw.2 ⟨i,hij,by rw[e1 i hi,e1 j hj];exact e⟩;rw[h j hj]at this;cases this
def di0{A B:U7}{x:Val}(h:ND (A++x::B)): ∀y,y∈A++B-> ¬W7 y=W7 x:=by
 unfold ND at h;rw[s6,m8,J0]at h;obtain⟨h1,h2,h3⟩:=h;rw[E4]at h2;intro y hy e;rcases t8.1 hy with hy|hy
 exact h3 _ (R3 hy) _ A7 e;exact h2.1 (by rw[<-e];exact R3 hy)
def VY{A B:U7}{x:Val}{p:PaneM}(h: ∀y,y∈A-> ¬W7 y=p)(hx:W7 x=p):cL (A++x::B) p=A.length:=by refine TN (by simp) (by rw[S7.atV_mid rfl];exact hx) (λj hj=> ?_);rw[VP hj];exact h _ (S7.atV_mem hj)
def dC0{m:U7}{p:PaneM}(h: ∀y,y∈m-> ¬W7 y=p):cL m p=m.length:=
 c64 λj hj=>h _ (S7.atV_mem hj)
def Yv{A B:U7}{x:Val}:(A++x::B).eraseIdx A.length=A++B:=by rw[List.eraseIdx_append_of_length_le (j6 _),F5];rfl
def MX{m:U7}{p:PaneM}(h: ∀y,y∈m-> ¬W7 y=p):m.filter (λr=> !decide (W7 r=p))=m:=by rw[P7];intro y hy;rw[j9 (h y hy)];rfl
def c70{m:U7}{c:Val}(h:ND m):(wN m c).Perm (m.filter (λr=> !decide (W7 r=W7 c))++oR c):=by
 have hr:W7 (fV c)=W7 c:=rfl;by_cases hex: ∃x,x∈m/\W7 x=W7 c
 obtain⟨x,hx,hp⟩:=hex;obtain⟨A,B,rfl⟩:=List.append_of_mem hx;have hmid:=di0 h;rw[hp]at hmid;have hA: ∀y,y∈A-> ¬W7 y=W7 c:=λy hy=>hmid y (F6 _ hy)
 have hB: ∀y,y∈B-> ¬W7 y=W7 c:=λy hy=>hmid y (O4 _ hy)
 have hs:tG (A++x::B) c=A++fV c::B:=by unfold tG;rw[VY hA hp,i6 (by simp),S7.set_mid rfl]
 have hf:(A++x::B).filter (λr=> !decide (W7 r=W7 c))=A++B:=by rw[C4,MX hA,P6 (by rw[j0 hp];simp),MX hB]
 rw[hf];unfold wN oR;rw[hs];cases fC c with
 |true=>rw[cond_true,cond_true,VY hA hr,Yv,x5]
 |false=>
  rw[cond_false,cond_false];refine(S5).trans ?_;exact(S1 _ _).symm
 .have hA: ∀y,y∈m-> ¬W7 y=W7 c:=λy hy e=>hex ⟨y,hy,e⟩
  have hs:tG m c=m++[fV c]:=by unfold tG;rw[dC0 hA,b9 (J4 _)]
  rw[MX hA];unfold wN oR;rw[hs];cases fC c with
  |true=>rw[cond_true,cond_true,VY hA hr,Yv]
  |false=>exact G5 _
def WL{c x:Val}(h:x∈oR c):W7 x=W7 c:=by
 unfold oR at h;cases hd:fC c with
 |true=>rw[hd]at h;cases h
 |false=>rw[hd]at h;rw[m9.1 h];rfl
def dV0{m:U7}{c:Val}(h:ND m):ND (wN m c):=by refine AE (c70 h) ?_;unfold ND at h⊢;rw[s6,J0];refine⟨h.sublist (E5.map _),?_,?_⟩;unfold oR;cases fC c<;>simp;intro p hp q hq e;obtain⟨x,hx,rfl⟩:=k6.1 hp;obtain⟨y,hy,rfl⟩:=k6.1 hq;have:=(l7.1 hx).2;rw[j0 (by rw[e];exact WL hy)]at this;cases this
def JJ{m:U7}(l:U7)(h:ND m): ∀i,ND (mY m l i)
 |0=>h
 |i+1=>dV0 (JJ l h i)
def cf8(a:U7)(c r:Val):kH (a++[c]) r=(kH a r||decide (W7 c=W7 r)):=by unfold kH;rw[List.any_append];simp
def bC5{m l:U7}(hm:ND m)(hl:ND l): ∀i,i<=l.length->(mY m l i).Perm (m.filter (λr=> !kH (l.take i) r)++(l.take i).flatMap oR)
 |0,_=>by show m.Perm _;rw[List.take_zero];show m.Perm (m.filter (λr=> !kH [] r)++[]);rw[x5,show m.filter (λr=> !kH [] r)=m from P7.2 (λr _=>rfl)]
 |i+1,hi=>by
  have ih:=bC5 hm hl i (by omega);refine(c70 (JJ l hm i)).trans ?_;rw[XH (by omega)];have hd: ∀y,y∈(l.take i).flatMap oR-> ¬W7 y=W7 (cg l i):=by
   intro y hy e;obtain⟨c,hc,hy⟩:=x7.1 hy;have hs:ND (l.take i++cg l i::l.drop (i+1)):=by rw[show l.take i++cg l i::l.drop (i+1)=l by rw[show cg l i::l.drop (i+1)=[cg l i]++l.drop (i+1)from rfl,<-A0,<-XH (by omega),y8]];exact hl
   exact di0 hs c (F6 _ hc) (by rw[<-WL hy];exact e)
  rw[K2];have hp:((mY m l i).filter (λr=> !decide (W7 r=W7 (cg l i)))).Perm (m.filter (λr=> !kH (l.take i++[cg l i]) r)++(l.take i).flatMap oR):=by refine(ih.filter _).trans ?_;rw[C4,MX hd,List.filter_filter];refine List.Perm.append_right _ ?_;refine List.Perm.of_eq (List.filter_congr λr _=> ?_);rw[cf8,Bool.not_or,Bool.and_comm];congr 2;exact A9.2 ⟨λh=>j0 (j7 h).symm,λh=>j0 (j7 h).symm⟩
  refine(hp.append_right _).trans ?_;rw[A0];refine List.Perm.of_eq ?_;simp
def bC6(l:U7): ∀rows:U7,(rows.map X8).filter (λr=> !kH l r)=rows.flatMap (EM l)
 | []=>rfl
 |r::rows=>by
  have ht:kH l (X8 r)=kH l r:=rfl;rw[m8,A5,<-bC6 l rows];unfold EM;cases hh:kH l r with
  |true=>rw[P6 (by rw[ht,hh];simp)];rfl
  |false=>rw[T8 (by rw[ht,hh];rfl)];rfl
def WD{rows l:U7}(hr:ND rows)(hl:ND l):(mY (rows.map X8) l l.length).Perm (mD rows l):=by
 have hm:ND (rows.map X8):=by unfold ND at hr⊢;rw[o9];exact hr
 have:=bC5 hm hl l.length (j6 _);rw[B1,bC6]at this;exact this
def Bu:SX:= zu 1 2000
def Bq:SX:= .O (.mfind [.str,.int .i64,.int .i64]) [aR,Bu]
def Gb:SX:= .O .row [zg 1 2000 0,zg 1 2000 1,zg 1 2000 2,zg 1 2000 4,zg 1 2000 5,zg 1 2000 6,zg 1 2000 7]
def wS:SX:= .O .J [zs Bq (zl 2001),.O .lset [aR,Bq,Gb],zc aR (.O .row [Gb])]
def cL9:FA= .J (zs aV (zl 1)) (.N (zp aV) (.J (zg 1 2000 3) (.W 0 [zi aV,.O (.mdel [.str,.int .i64,.int .i64]) [wS,Bu]]) (.W 0 [zi aV,wS]))) (.W 1 [aV,aR]):=rfl
def dC1{I:Opq}{l m:U7}(h1:(I.w 1).L=l){i:Nat}(hi:i<l.length)(hl:l.length<=1000):
 W6 FA (I.U 2000 [.D i,.A m])=some (0,[.D (i+1:Nat),.A (wN m (cg l i))]):=by
 obtain⟨aa,ae⟩: ∃aa,aa=I.U 2000 [.D i,.A m]:=⟨_,rfl⟩;have v0:aa.w 2000= .D i:=by rw[ae];rfl
 have v1:aa.w 2001= .A m:=by rw[ae];rfl
 have u1:(aa.w 1).L=l:=by rw[ae];exact h1
 have a1:cq .add .i64 (i:Int) 1=((i+1:Nat):Int):=am6 (by omega);have dky:bZ aa Bu= .A [X1 (cg l i) 0,X1 (cg l i) 1,X1 (cg l i) 2]:=by show Val.A [Y3 (aa.w 1).L (aa.w 2000).I 0,Y3 (aa.w 1).L (aa.w 2000).I 1,Y3 (aa.w 1).L (aa.w 2000).I 2]=_;rw[u1,v0];rfl
 have fky: ∀m:U7,(m.findIdx λx=>eF [.str,.int .i64,.int .i64] x (bZ aa Bu))=cL m (W7 (cg l i)):=λm=>by rw[dky,BZ,CP]
 have dk:bZ aa Bq= .D (cL m (W7 (cg l i))):=by show Val.D (((aa.w 2001).L.findIdx λx=>eF [.str,.int .i64,.int .i64] x (bZ aa Bu):Nat):Int)=_;rw[fky,v1];rfl
 have dr:bZ aa Gb=fV (cg l i):=by show Val.A [Y3 (aa.w 1).L (aa.w 2000).I 0,Y3 (aa.w 1).L (aa.w 2000).I 1,Y3 (aa.w 1).L (aa.w 2000).I 2,Y3 (aa.w 1).L (aa.w 2000).I 4,Y3 (aa.w 1).L (aa.w 2000).I 5,Y3 (aa.w 1).L (aa.w 2000).I 6,Y3 (aa.w 1).L (aa.w 2000).I 7]=_;rw[u1,v0];rfl
 have ds:bZ aa wS= .A (tG m (cg l i)):=by unfold wS tG;rw[kN];rw[show dB aa (zs Bq (zl 2001))=decide (cL m (W7 (cg l i))<m.length) by show decide ((bZ aa Bq).I<((aa.w 2001).L.length:Int))=_;rw[dk,v1];exact Aq _ _];by_cases h:cL m (W7 (cg l i))<m.length;rw[j0 h,i6 h,cond_true];show Val.A ((aa.w 2001).L.set (bZ aa Bq).I.toNat (bZ aa Gb))=_;rw[dk,v1,dr];rfl;rw[j9 h,b9 h,cond_false];show Val.A ((aa.w 2001).L++[bZ aa Gb])=_;rw[v1,dr];rfl
 have hd:dB aa (zg 1 2000 3)=fC (cg l i):=by show(Y3 (aa.w 1).L (aa.w 2000).I 3).Z=_;rw[v0,u1];rfl
 rw[<-ae,cL9];refine Y4 (by show decide ((aa.w 2000).I<((aa.w 1).L.length:Int))=true;rw[v0,u1];exact j0 (by show(i:Int)<(l.length:Int);omega)) (X2 (by show decide ((0:Int)<=(aa.w 2000).I)=true;rw[v0];exact j0 (by show(0:Int)<=(i:Int);omega)) ?_);unfold wN;cases hb:fC (cg l i)with
 |true=>
  refine Y4 (by rw[hd,hb]) ?_;show some (0,[Val.D (cq .add .i64 (aa.w 2000).I 1),.A ((bZ aa wS).L.eraseIdx ((bZ aa wS).L.findIdx λx=>eF [.str,.int .i64,.int .i64] x (bZ aa Bu)))])=_;rw[fky,ds,v0,Y1,a1];rfl
 |false=>
  refine Y0 (by rw[hd,hb]) ?_;show some (0,[Val.D (cq .add .i64 (aa.w 2000).I 1),bZ aa wS])=_;rw[ds,v0,Y1,a1];rfl
def eb5{I:Opq}{l m:U7}(h1:(I.w 1).L=l)(hl:l.length<=1000):Y9 (λvs=>W6 FA (I.U 2000 vs)) [.D 0,.A m]=some (0,[.D l.length,.A (mY m l l.length)]):=by refine mC (λi=>[.D i,.A (mY m l i)]) (n:=l.length) rfl (λi hi=>dC1 h1 hi hl) ?_;show W6 FA (I.U 2000 [.D l.length,.A (mY m l l.length)])=_;rw[cL9];refine Y0 ?_ rfl;show decide ((l.length:Int)<((I.w 1).L.length:Int))=false;rw[h1];exact j9 (by omega)
def Nc{I:Opq}{hd:LHd}{l:SX}{b k:VT}{ks:abd}{D:U7}{x:Option (Nat×U7)}(h1:tK (λvs=>W6 b (I.U hd.v0 vs)) (dL I l).length (X4 I hd.s0) D)(h2:I.f hd.id (X4 I (hd.s0++hd.fv))=cx (0,[.D D.length,.A D]))(h3:W6 k I=x):W6 (.mloop hd l b (k::ks)) I=x:=by rw[W6,i6 ⟨D,h1,h2⟩];exact h3
def AM:SX:= zc aR (.O .row [.O .row [cr gj aW 0,cr gj aW 1,cr gj aW 2,cr gj aW 3,cr gj aW 4,cr gj aW 5,cr gj aW 6]])
def dC3:BV= .N (zn (cG aV (zl 2001)) (zb (zL AM) 1000000)) (.W 0 [zL AM,AM]):=rfl
def dC4{I:Opq}{N A:U7}{i:Nat}(hN: ∀vs,bZ (I.U 2000 vs) gj= .A N)(hA:A.length<1000000):
 W6 BV (I.U 2000 [.D A.length,.A A,.D i])=some (0,[.D (A++[X8 (cg N i)]).length,.A (A++[X8 (cg N i)])]):=by
 obtain⟨aa,ae⟩: ∃aa,aa=I.U 2000 [.D A.length,.A A,.D i]:=⟨_,rfl⟩;have v0:aa.w 2000= .D A.length:=by rw[ae];rfl
 have v1:aa.w 2001= .A A:=by rw[ae];rfl
 have v2:aa.w 2002= .D i:=by rw[ae];rfl
 have vN:bZ aa gj= .A N:=by rw[ae];exact hN _
 have dc:bZ aa AM= .A (A++[X8 (cg N i)]):=by show Val.A ((aa.w 2001).L++[.A [Y3 (bZ aa gj).L (aa.w 2002).I 0,Y3 (bZ aa gj).L (aa.w 2002).I 1,Y3 (bZ aa gj).L (aa.w 2002).I 2,Y3 (bZ aa gj).L (aa.w 2002).I 3,Y3 (bZ aa gj).L (aa.w 2002).I 4,Y3 (bZ aa gj).L (aa.w 2002).I 5,Y3 (bZ aa gj).L (aa.w 2002).I 6]])=_;rw[v1,v2,vN];rfl
 rw[<-ae,dC3];refine X2 ?_ ?_;show(decide ((aa.w 2000).I=((aa.w 2001).L.length:Int))&&decide (((bZ aa AM).L.length:Int)<=1000000))=true;rw[v0,v1,dc];exact and2 (j0 rfl) (j0 (by show((A++[_]).length:Int)<=1000000;rw[k9];show((A.length+1:Nat):Int)<=1000000;omega));show some (0,[Val.D ((bZ aa AM).L.length:Int),bZ aa AM])=_;rw[dc];rfl
def Rh{I:Opq}{N:U7}(hN: ∀vs,bZ (I.U 2000 vs) gj= .A N): ∀(p:uq) (A:U7),A.length+p.length<=1000000->
 gd (λvs=>W6 BV (I.U 2000 vs)) p [.D A.length,.A A]=some [.D (A++p.map λi=>X8 (cg N i)).length,.A (A++p.map λi=>X8 (cg N i))]
 | [],A,_=>by rw[I7,x5];rfl
 |i::p,A,h=>by rw[List.length_cons]at h;have ih:=Rh hN p (A++[X8 (cg N i)]) (by rw[k9];show A.length+1+p.length<=_;omega);rw[gd,dC4 hN (by omega)];show gd _ p [.D (A++[X8 (cg N i)]).length,.A (A++[X8 (cg N i)])]=_;rw[ih,A0];rfl
def bC7(N:U7):(List.range N.length).map (λi=>X8 (cg N i))=N.map X8:=by
 refine I1 (by simp) (λi h1 h2=> ?_);have hi:i<N.length:=by simpa using h1
 simp[cg,k5,hi]
def dV1{I:Opq}{N:U7}(hN: ∀vs,bZ (I.U 2000 vs) gj= .A N)(hl:N.length<=1000000):tK (λvs=>W6 BV (I.U 2000 vs)) N.length [.D (0:Nat),.A []] (N.map X8):=by constructor;have:=Rh hN (List.range N.length) [] (by simpa using hl);rw[bC7]at this;exact this;intro p hp;have:=Rh hN p [] (by rw[hp.length_eq];simpa using hl);refine⟨_,this,?_⟩;rw[<-bC7];exact hp.map _
def Ka{a b c:Bool}(h1:a=true)(h2:b=true)(h3:c=true):(a&&(b&&c))=true:=by rw[h1,h2,h3];rfl
def Wz{l:U7}{bad:Nat->Bool}(h:(!(List.range l.length).any λi=>bad i||iA l i)=true): ∀i,i<l.length->iA l i=false:=by
 intro i hi;cases hd:iA l i with
 |false=>rfl
 |true=>
  have:((List.range l.length).any λi=>bad i||iA l i)=true:=A3.2 ⟨i,o7.2 hi,by rw[hd,S4]⟩;rw[this]at h;cases h
def d74{I:Opq}(hf: ∀i a,I.f i a=F i a)(hn0:(I.w 0).L.length<=400)(hn1:(I.w 1).L.length<=800)(k0:(F 431 [I.w 0]).Z=true)(k1:(F 433 [I.w 1]).Z=true)(k2:(F 233 [I.w 0,I.w 1]).Z=true):
 W6 SS I=some (0,[F 232 [I.w 0,I.w 1],F 222 [I.w 0,I.w 1]]):=by
 have h232:F 232 [I.w 0,I.w 1]= .D (bif nV (I.w 0).L (I.w 1).L then 0 else 2):=rfl;have h222:F 222 [I.w 0,I.w 1]= .A (bif nV (I.w 0).L (I.w 1).L then S7.srt false (mD (I.w 0).L (I.w 1).L)else []):=rfl;have h220:I.f 220 [I.w 0,I.w 1]= .B (nV (I.w 0).L (I.w 1).L):=by rw[hf];rfl
 rw[h232,h222];unfold SS;refine X2 (by show(decide (((I.w 0).L.length:Int)<=400)&&decide (((I.w 1).L.length:Int)<=800))=true;exact and2 (j0 (by omega)) (j0 (by omega))) ?_;cases hr:nV (I.w 0).L (I.w 1).L with
 |false=>exact Y4 (by show(!(I.f 220 [I.w 0,I.w 1]).Z)=true;rw[h220,hr];rfl) rfl
 |true=>
  refine Y0 (by show(!(I.f 220 [I.w 0,I.w 1]).Z)=false;rw[h220,hr];rfl) ?_;have hro:=cL2 (S7.f431 k0).2 (er2 k1).2;obtain⟨r1,r2⟩:=W4 (show(Y5 (I.w 0).L&&(rq (I.w 1).L&& !(List.range (I.w 1).L.length).any (oN (I.w 0).L (I.w 1).L)))=true from hr);obtain⟨r2,_⟩:=W4 r2;have n0:ND (I.w 0).L:=dU9 (Wz (bad:=λi=> !jF (cg (I.w 0).L i)) r1);have n1:ND (I.w 1).L:=dU9 (Wz (bad:=λi=> !mE (cg (I.w 1).L i)) r2);have hp:=WD n0 n1;have hlr:(mD (I.w 0).L (I.w 1).L).length<=400:=j7 k2;have nN:ND (mY ((I.w 0).L.map X8) (I.w 1).L (I.w 1).L.length):=JJ _ (by unfold ND at n0⊢;rw[List.map_map];exact n0) _;have h0:=c68 r1;have lp:=KR hf (I:=I) (by omega);have e140:I.f 140 [.D 0,.A [],.A [],.D 0,.D (I.w 0).L.length,I.w 0,.D (I.w 0).L.length]=cx (jV (I.w 0).L):=by rw[hf];rfl
  rw[h0]at lp e140;have d0:bZ I ny= .A ((I.w 0).L.map X8):=by show Y3 (I.f 140 [.D 0,.A [],.A [],.D 0,.D (I.w 0).L.length,I.w 0,.D (I.w 0).L.length]).L 1 1=_;rw[e140];rfl
  have lp2:=eb5 (I:=I) (l:=(I.w 1).L) (m:=(I.w 0).L.map X8) rfl (by omega);have e223:I.f 223 [.D 0,bZ I ny,bZ I ny,.D 0,.D (I.w 1).L.length,I.w 1,.D (I.w 1).L.length]=cx (0,[.D (I.w 1).L.length,.A (mY ((I.w 0).L.map X8) (I.w 1).L (I.w 1).L.length)]):=by rw[hf,d0];rfl
  have d0': ∀vs,bZ (I.U 2000 vs) ny= .A ((I.w 0).L.map X8):=λvs=>d0
  have d1': ∀vs,bZ (I.U 2000 vs) gj= .A (mY ((I.w 0).L.map X8) (I.w 1).L (I.w 1).L.length):=λvs=>by show Y3 (I.f 223 [.D 0,bZ I ny,bZ I ny,.D 0,.D (I.w 1).L.length,I.w 1,.D (I.w 1).L.length]).L 1 1=_;rw[e223];rfl
  have d1:bZ I gj= .A (mY ((I.w 0).L.map X8) (I.w 1).L (I.w 1).L.length):=by show Y3 (I.f 223 [.D 0,bZ I ny,bZ I ny,.D 0,.D (I.w 1).L.length,I.w 1,.D (I.w 1).L.length]).L 1 1=_;rw[e223];rfl
  generalize mY ((I.w 0).L.map X8) (I.w 1).L (I.w 1).L.length=N at*
  have hlen:N.length<=400:=by rw[hp.length_eq];omega
  have hok:N.all S7.okK=true:=by rw[l5]at hro⊢;exactλx hx=>hro x (hp.mem_iff.1 hx)
  have hNN:N.map X8=N:=S7.map_norm hok;have mp:=dV1 d1' (by omega);rw[hNN]at mp;have d2:bZ I Gg=cx (0,[.D N.length,.A N]):=by show I.f 224 [.D (0:Nat),.A [],bZ I gj]=_;rw[hf,d1];show cx (0,[.D N.length,.A (N.map X8)])=_;rw[hNN]
  have d3:bZ I rH= .A N:=by show Y3 (bZ I Gg).L 1 1=_;rw[d2];rfl
  refine X7 lp e140 (X7 (r:=(0,[.D (I.w 1).L.length,.A N])) ?_ e223 (Nc (D:=N) ?_ d2 (X2 ?_ ?_)));show Y9 _ [.D 0,bZ I ny]=_;rw[d0];exact lp2;show tK (λvs=>W6 BV (I.U 2000 vs)) (bZ I gj).L.length [.D (0:Nat),.A []] N;rw[d1];exact mp;show(decide ((Y3 (bZ I Gg).L 1 0).I=((bZ I rH).L.length:Int))&&((decide (((bZ I rH).L.length:Int)<=400)&&(I.f 431 [bZ I rH]).Z)&&(I.f 491 [bZ I rH]).Z))=true;rw[d3,d2,hf,hf];refine Ka (j0 rfl) (and2 (j0 (by show(N.length:Int)<=400;omega)) ?_) ?_;show(S7.isL (.A N)&&N.all S7.okK)=true;exact and2 rfl hok;exact j0 nN;show some (0,[.D 0,I.f 490 [bZ I rH]])=_;rw[hf,d3];show some (0,[Val.D 0,.A (S7.srt false N)])=_;rw[KN hp nN];rfl
def NK(l:U7):Prop:= ∀r∈l,S7.okK r=true
def Er{r:Val}(h:S7.okK r=true):X8 r=r:=S7.okK_at h
def dC5{r s:Val}(hr:S7.okK r=true)(hs:S7.okK s=true)(h:gH r=gH s):r=s:=by unfold S7.okK at hr hs;split at hr;split at hs;rename_i a1 a2 a3 a4 a5 a6 a7 _ b1 b2 b3 b4 b5 b6 b7;have h:RowM.mk a1 a2 a3 a4 a5 a6 a7=RowM.mk b1 b2 b3 b4 b5 b6 b7:=h;cases h;rfl;cases hs;cases hr
def Lt{l:U7}{i:Nat}(h:i<l.length):cg l i∈l:=S7.atV_mem h
def ZU{l:U7}(h:ND l): ∀i,i<l.length->iA l i=false:=by
 intro i hi;rw[<-v7,Lw];rintro⟨k,hk,e⟩;unfold ND at h;rw[List.Nodup,G4]at h;have:=h k i (by rw[k7];omega) (by rw[k7];exact hi) hk;have e1:cg l k=l[k]'(by omega):=by simp[cg,k5,show k<l.length by omega]
 have e2:cg l i=l[i]:=by simp[cg,k5,hi]
 rw[e1,e2]at e;simp only[G8]at this;exact this e
def Aj{l:U7}:Y5 l=true↔(∀r∈l,jF r=true)/\ND l:=by constructor;intro h;refine⟨λr hr=> ?_,PE h⟩;unfold Y5 at h;rw[s7,A4]at h;obtain⟨k,hk,rfl⟩:=S7.mem_atV hr;have:=h k (o7.2 hk);rw[v7,jZ,M4]at this;simpa using this.1;rintro⟨h1,h2⟩;unfold Y5;rw[s7,A4];intro i hi;rw[o7]at hi;rw[v7,jZ,h1 _ (Lt hi),ZU h2 i hi];rfl
def d75{l:U7}(h1: ∀c∈l,mE c=true)(h2:ND l):rq l=true:=by unfold rq;rw[s7,A4];intro i hi;rw[o7]at hi;rw[v7,AU,h1 _ (Lt hi),ZU h2 i hi];rfl
def d76{rows l:U7}(h0:Y5 rows=true)(h1: ∀c∈l,mE c=true)(h2:ND l)(h3: ∀c∈l,fC c=true->eC rows (W7 c)=true):nV rows l=true:=by
 unfold nV;refine Ka h0 (d75 h1 h2) ?_;rw[s7,A4];intro i hi;rw[o7]at hi;rw[v7];unfold oN;cases hd:fC (cg l i)with
 |false=>rfl
 |true=>rw[h3 _ (Lt hi) hd];rfl
def La{l:U7}{p:PaneM}:eC l p=true↔ ∃r∈l,W7 r=p:=by rw[VV,A3];simp only[decide_eq_true_eq]
def di2{l:U7}{p:PaneM}(h:eC l p=true):cg l (cL l p)∈l/\W7 (cg l (cL l p))=p:=by
 have hl:cL l p<l.length:=j7 h;refine⟨Lt hl,?_⟩;have:=W2 (w:=hl);have e:cg l (cL l p)=l[cL l p]:=by simp[cg,k5,hl]
 rw[e];exact j7 this
def cM1{r s:Val}(hp:W7 r=W7 s):uM r s=true↔gH r=gH s:=by unfold uM;rw[decide_eq_true_eq,KO];rw[cI2]at hp;exact⟨λh=>⟨hp,h⟩,λh=>h.2⟩
def Od{a b:U7}(ka:NK a)(kb:NK b)(na:ND a){c:Val}:c∈dN a b↔(∃r∈a,(∀s∈b,¬W7 s=W7 r)/\c=sQ r)\/(∃r∈b,¬r∈a/\c=nm r):=by
 unfold dN;rw[t8,x7,x7];refine or_congr ?_ ?_
 refine exists_congr λr=>and_congr_right λhr=> ?_
 unfold ii;cases h:eC b (W7 r)with
 |true=>
  obtain⟨s,hs,e⟩:=La.1 h;simp only[cond_true,D9,false_iff,not_and];exactλh2=>absurd e (h2 s hs)
 |false=>
  have: ∀s∈b,¬W7 s=W7 r:=λs hs e=>by rw[La.2 ⟨s,hs,e⟩]at h;cases h
  simp only[cond_false,m9];exact⟨λe=>⟨this,e⟩,λe=>e.2⟩
 .refine exists_congr λr=>and_congr_right λhr=> ?_
  have key:(eC a (W7 r)&&uM (cg a (cL a (W7 r))) r)=true↔r∈a:=by constructor;intro h;obtain⟨h1,h2⟩:=W4 h;obtain⟨m1,m2⟩:=di2 h1;rw[<-dC5 (ka _ m1) (kb r hr) ((cM1 m2).1 h2)];exact m1;intro h;have h1:=La.2 ⟨r,h,rfl⟩;obtain⟨m1,m2⟩:=di2 h1;rw[h1,yA na m1 h m2];exact(cM1 rfl).2 rfl
  unfold ip;cases h:(eC a (W7 r)&&uM (cg a (cL a (W7 r))) r)with
  |true=>
   rw[h]at key;have:=key.1 rfl;simp only[cond_true,D9,false_iff,not_and];exactλh2=>absurd this h2
  |false=>
   rw[h]at key;have: ¬r∈a:=λh2=>by have:=key.2 h2;cases this
   simp only[cond_false,m9];exact⟨λe=>⟨this,e⟩,λe=>e.2⟩
def ZO(r:Val):W7 (nm r)=W7 r:=rfl
def cM2(r:Val):fC (sQ r)=true:=rfl
def d77(r:Val):fC (nm r)=false:=rfl
def Pj(r:Val):fV (nm r)=X8 r:=rfl
def d78(r:Val):mE (sQ r)=true:=rfl
def dC6{r:Val}(h:S7.okK r=true)(h2:jF r=true):mE (nm r)=true:=by show jF (fV (nm r))=true;rw[Pj,Er h];exact h2
def cM3{r:Val}(h:S7.okK r=true):S7.okK8 (sQ r)=true:=by unfold S7.okK at h;split at h;rfl;cases h
def d79{r:Val}(h:S7.okK r=true):S7.okK8 (nm r)=true:=by unfold S7.okK at h;split at h;rfl;cases h
def cM4{a b:U7}(ka:NK a)(kb:NK b)(na:ND a): ∀c∈dN a b,S7.okK8 c=true:=by
 intro c hc;rcases(Od ka kb na).1 hc with⟨r,hr,_,rfl⟩|⟨r,hr,_,rfl⟩
 exact cM3 (ka r hr);exact d79 (kb r hr)
def cM5{l:U7}(hn: ∀x∈l,jw x=x):(eu l).Perm l:=by have:=In l;rwa[A1 hn,List.map_id']at this
def c73{l:U7}(h:ND l):l.Nodup:=(F7.1 h).imp λh e=>h (congrArg W7 e)
def dC7{l m:U7}(hl:ND l)(hm:ND m)(h: ∀x,x∈l↔x∈m):l.Perm m:=(G3 (c73 hl) (c73 hm)).2 h
def dC8{l m:U7}(h:l.Perm m)(k:NK m):NK l:=λr hr=>k r (h.mem_iff.1 hr)
def cf9{b b':U7}(hb:b'.Perm b)(kb:NK b)(ob:Y5 b=true):dN b b'=[]:=by
 rw[V0];intro c hc;rcases(Od kb (dC8 hb kb) (Aj.1 ob).2).1 hc with⟨r,hr,h,_⟩|⟨r,hr,h,_⟩
 exact h r (hb.mem_iff.2 hr) rfl;exact h (hb.mem_iff.1 hr)
def bC8{l:U7}{r:Val}:kH l r=true↔ ∃c∈l,W7 c=W7 r:=by unfold kH;rw[A3];simp only[decide_eq_true_eq]
def cg0{rows l:U7}{x:Val}:x∈mD rows l↔(∃r∈rows,(∀c∈l,¬W7 c=W7 r)/\x=X8 r)\/(∃c∈l,fC c=false/\x=fV c):=by
 unfold mD;rw[t8,x7,x7];refine or_congr ?_ ?_
 refine exists_congr λr=>and_congr_right λhr=> ?_
 unfold EM;cases h:kH l r with
 |true=>
  obtain⟨c,hc,e⟩:=bC8.1 h;simp only[cond_true,D9,false_iff,not_and];exactλh2=>absurd e (h2 c hc)
 |false=>
  have: ∀c∈l,¬W7 c=W7 r:=λc hc e=>by rw[bC8.2 ⟨c,hc,e⟩]at h;cases h
  simp only[cond_false,m9];exact⟨λe=>⟨this,e⟩,λe=>e.2⟩
 .refine exists_congr λc=>and_congr_right λhc=> ?_
  unfold oR;cases h:fC c with
  |true=>simp
  |false=>simp
def cM6{rows l:U7}(h0:ND rows)(h1:ND l):ND (mD rows l):=by refine AE (WD h0 h1).symm (JJ l ?_ l.length);unfold ND at h0⊢;rw[o9];exact h0
def eb6{a b a' L:U7}(Q:PaneM->Bool)(ka:NK a)(kb:NK b)(oa:Y5 a=true)(ob:Y5 b=true)
 (pa:a'.Perm (a.filter λr=>Q (W7 r))) (pL:L.Perm ((dN a b).filter λc=>Q (W7 c))):
 nV a' L=true/\(mD a' L).Perm (b.filter λr=>Q (W7 r)):=by
 obtain⟨va,na⟩:=Aj.1 oa;obtain⟨vb,nb⟩:=Aj.1 ob;have fa:ND (a.filter λr=>Q (W7 r)):=na.sublist (E5.map _);have fb:ND (b.filter λr=>Q (W7 r)):=nb.sublist (E5.map _);have na':=AE pa fa;have nL:ND L:=AE pL ((b66 oa ob).sublist (E5.map _));have ma: ∀r,r∈a'↔r∈a/\Q (W7 r)=true:=λr=>by rw[pa.mem_iff,l7]
 have mL: ∀c,c∈L↔((∃r∈a,(∀s∈b,¬W7 s=W7 r)/\c=sQ r)\/(∃r∈b,¬r∈a/\c=nm r))/\Q (W7 c)=true:=λc=>by rw[pL.mem_iff,l7,Od ka kb na]
 constructor;refine d76 (Aj.2 ⟨λr hr=>va r ((ma r).1 hr).1,na'⟩) (λc hc=> ?_) nL (λc hc hd=> ?_)
 rcases((mL c).1 hc).1 with⟨r,hr,_,rfl⟩|⟨r,hr,_,rfl⟩
 exact d78 r;exact dC6 (kb r hr) (vb r hr)
 obtain⟨h,hq⟩:=(mL c).1 hc;rcases h with⟨r,hr,_,rfl⟩|⟨r,hr,_,rfl⟩
 exact La.2 ⟨r,(ma r).2 ⟨hr,hq⟩,rfl⟩;rw[d77]at hd;cases hd
 refine dC7 (cM6 na' nL) fb λx=> ?_
 rw[cg0,l7];constructor;rintro(⟨r,hr,hc,rfl⟩|⟨c,hc,hd,rfl⟩)
 obtain⟨hr,hq⟩:=(ma r).1 hr;rw[Er (ka r hr)];refine⟨?_,hq⟩;rcases Classical.em (∃s∈b,W7 s=W7 r)with⟨s,hs,e⟩|h
 rcases Classical.em (s∈a)with h|h
 rw[<-yA na h hr e];exact hs;exact absurd (by rw[ZO];exact e) (hc (nm s) ((mL _).2 ⟨.inr ⟨s,hs,h,rfl⟩,by rw[ZO,e];exact hq⟩));exact absurd rfl (hc (sQ r) ((mL _).2 ⟨.inl ⟨r,hr,λs hs e=>h ⟨s,hs,e⟩,rfl⟩,hq⟩))
 obtain⟨h,hq⟩:=(mL c).1 hc;rcases h with⟨r,hr,_,rfl⟩|⟨r,hr,_,rfl⟩
 rw[cM2]at hd;cases hd;rw[Pj,Er (kb r hr)];exact⟨hr,hq⟩
 rintro⟨hx,hq⟩;rcases Classical.em (x∈a)with h|h
 refine .inl ⟨x,(ma x).2 ⟨h,hq⟩,λc hc e=> ?_,(Er (ka x h)).symm⟩;rcases((mL c).1 hc).1 with⟨r,hr,h2,rfl⟩|⟨r,hr,h2,rfl⟩
 exact h2 x hx e.symm;rw[yA nb hr hx e]at h2;exact h2 h;exact .inr ⟨nm x,(mL _).2 ⟨.inr ⟨x,hx,h,rfl⟩,hq⟩,rfl,by rw[Pj,Er (kb x hx)]⟩
def SB(l:U7):(l.filter λr=>(λ_:PaneM=>true) (W7 r))=l:=by simp
def dC9{I:Opq}(hf: ∀i a,I.f i a=F i a)(hn:(I.w 0).L.length<=1000000):W6 QU I=some (0,[F 201 [I.w 0,I.w 1]]):=by
 unfold QU eg8;simp only[W6,kE,X4,bZ,dB,cD,List.cons_append,List.nil_append];by_cases hl:(I.w 0).L.length=(I.w 1).L.length
 have hl':((I.w 0).L.length:Int)=(I.w 1).L.length:=by rw[hl]
 rw[HX (bad:=λi=> !decide (ot (cg (I.w 0).L i)=ot (cg (I.w 1).L i))) (px:=λk=>[.B false,.D k]) (n:=(I.w 0).L.length)];simp only[hf,F,F0,S9.FT,S9.FV,S9.FU,S9.FQ,S9.FE,wh,vB,LO ot _ _ hl,Uc ot _ _ hl,hl'];by_cases h:(I.w 0).L.map ot=(I.w 1).L.map ot<;>simp[kE,W6,h,bZ,X4,cD,cx,Y3,hf,F,F0,S9.FT,S9.FV,S9.FU,S9.FQ,S9.FE,wh,vB,hl',uj,LO ot _ _ hl,Ml]
 intro i hi hb;have hi':i<(I.w 1).L.length:=by omega
 simp only[Bool.not_eq_false',decide_eq_true_eq,c49]at hb;simp[hi,hi',cT,am6 (show i<=10000000 by omega),lU,lg,lB,oi,oI,oA,oj,Wt,hb]
 intro i hi hb;have hi':i<(I.w 1).L.length:=by omega
 simp only[s7,decide_eq_false_iff_not,c49]at hb;simp[hi,hi',cT,lU,lg,lB,oi,oI,oA,oj,Wt];simpa using hb;simp[cT]
 have hl': ¬((I.w 0).L.length:Int)=(I.w 1).L.length:=by omega
 simp[hl',F,F0,S9.FT,S9.FV,S9.FU,S9.FQ,S9.FE,wh,vB,Ml,uj,Xt _ hl,X4,bZ]
end Go.Ev
namespace Go.Ev.S9
open Go Go.Ev
section
variable{I:Opq}
def tu_late:W6 UT_late I=some (0,[nW [I.w 0,I.w 1,I.w 2]]):=by show _=some (0,[Val.B (Ck (I.w 0).I (I.w 1).I&&decide ((I.w 2).I<cq .sub .i64 (I.w 0).I (I.w 1).I))]);unfold UT_late Sf Ck ei;generalize ha:(I.w 0).I=a;generalize hb:(I.w 1).I=b;generalize hc:(I.w 2).I=c;simp[W6,X4,bZ,dB,cD,ha,hb,hc];grind
def tu_adv:W6 UT_adv I=some (0,[og [I.w 0,I.w 1,I.w 2],I.w 1,ef9 [I.w 0,I.w 1,I.w 2]]):=by show _=some (0,[if gU (I.w 0).I (I.w 1).I (I.w 2).I=0 then I.w 2 else I.w 0,I.w 1,Val.D (gU (I.w 0).I (I.w 1).I (I.w 2).I)]);unfold UT_adv OK Rz Tf gU Ck ei;generalize ha:(I.w 0).I=a;generalize hb:(I.w 1).I=b;generalize hc:(I.w 2).I=c;simp[W6,X4,bZ,dB,cD,ha,hb,hc];grind
def tu_wNew:W6 UT_wNew I=some (0,[eg1 [I.w 0],YX [I.w 0],ZF [I.w 0]]):=by show _=some (0,[Val.D (if pC (I.w 0).I then-2199023255552 else 0),if pC (I.w 0).I then I.w 0 else .D 0,Val.D (if pC (I.w 0).I then 0 else 2)]);unfold UT_wNew pC;generalize ha:(I.w 0).I=a;simp[W6,X4,bZ,dB,cD,ha];grind
def tu_cRight(f700: ∀a,I.f 700 a= .B (X9 (ce a 0).I (ce a 1).I (ce a 2).I (ce a 3).I)):W6 UT_cRight I=some (0,[ZI [I.w 0,I.w 1,I.w 2,I.w 3,I.w 4,I.w 5]]):=by
 show _=some (0,[Val.B (BD (I.w 0).I (I.w 1).I (I.w 2).I (I.w 3).I (I.w 4).I (I.w 5).I)]);have h7:dB I (.Q 700 [aN,aO,aT,aU])=X9 (I.w 0).I (I.w 1).I (I.w 2).I (I.w 3).I:=by show(I.f 700 [I.w 0,I.w 1,I.w 2,I.w 3]).Z=_;rw[f700];rfl
 unfold UT_cRight BD;generalize X9 (I.w 0).I (I.w 1).I (I.w 2).I (I.w 3).I=r at*
 generalize ha:(I.w 4).I=a;generalize hb:(I.w 5).I=b;simp only[W6,h7];simp[X4,bZ,dB,cD,ha,hb];grind
def tu_taken(h:(eg5 [I.w 9]).Z=true)(hn:(I.w 9).L.length<=1000000):W6 UT_taken I=some (0,[I.w 9]):=by
 have hv: ∃l,I.w 9= .A l:=by
  cases hw:I.w 9 with
  |A l=>exact⟨l,rfl⟩
  |_=>rw[hw]at h;cases h
 obtain⟨l,hl⟩:=hv;have hd:dB I KD=true:=by show decide (((I.w 9).L.length:Int)<=1000000)=true;exact j0 (by omega)
 have hneed:W6 (.N KD (.W 0 [bE])) I=some (0,[I.w 9]):=X2 hd rfl;unfold UT_taken;by_cases h0:0<(I.w 9).L.length;exact Y4 (by show decide ((0:Int)<((I.w 9).L.length:Int))=true;exact j0 (by omega)) hneed
 refine Y0 (by show decide ((0:Int)<((I.w 9).L.length:Int))=false;exact j9 (by omega)) ?_;have he:W6 (.W 0 [ck]) I=some (0,[I.w 9]):=by show some (0,[Val.A []])=_;rw[hl]at h0⊢;have:l=[]:=C9 (by show l.length=0;have: ¬0<l.length:=h0;omega);rw[this]
 rw[W6,hneed,he,i6 rfl]
def c74{n:Nat}(h:n<=1000):IntKind.u64.wrap (n:Int)=n:=by unfold IntKind.wrap;simp[IntKind.bits,IntKind.signed];omega
def tu_cut(h:(eg4 [I.w 10,I.w 11]).Z=true):W6 UT_cut I=some (0,[wL [I.w 10,I.w 11],Up [I.w 10,I.w 11]]):=by
 obtain⟨h1,h2⟩:=W4 (show(decide ((I.w 10).L.length<=1000)&&decide (0<=(I.w 11).I))=true from h);have h1:=j7 h1;have h2:=j7 h2;have e9:Up [I.w 10,I.w 11]= .B (decide ((I.w 11).I<=((I.w 10).L.length:Int))):=rfl;have e8:wL [I.w 10,I.w 11]=if(I.w 11).I=0\/((I.w 10).L.length:Int)<(I.w 11).I then .D 0 else X1 (cg (I.w 10).L ((I.w 11).I-1).toNat) 0:=rfl
 have hc:(bZ I (.O (.conv .u64) [zl 10])).I=((I.w 10).L.length:Int):=c74 h1;rw[e8,e9];unfold UT_cut;by_cases c1:((I.w 10).L.length:Int)<(I.w 11).I;refine Y4 (by show decide ((bZ I (.O (.conv .u64) [zl 10])).I<(I.w 11).I)=true;rw[hc];exact j0 c1) ?_;rw[i6 (.inr c1),j9 (by omega)];rfl;refine Y0 (by show decide ((bZ I (.O (.conv .u64) [zl 10])).I<(I.w 11).I)=false;rw[hc];exact j9 c1) ?_;rw[j0 (p:=(I.w 11).I<=_) (by omega)];by_cases c2:(I.w 11).I=0;refine Y4 (by show decide ((I.w 11).I=0)=true;exact j0 c2) ?_;rw[i6 (.inl c2)];rfl
 refine Y0 (by show decide ((I.w 11).I=0)=false;exact j9 c2) ?_;have hs:(bZ I Aa).I=(I.w 11).I-1:=by show cq .sub .u64 (I.w 11).I 1=_;unfold cq;simp[IntKind.wrap,IntKind.bits,IntKind.signed];omega
 rw[b9 (λh=>h.elim c2 c1)];refine X2 (by show(decide (0<=(bZ I Aa).I)&&decide ((bZ I Aa).I<((I.w 10).L.length:Int)))=true;rw[hs,j0 (by omega),j0 (by omega)];rfl) ?_;show some (0,[Y3 (I.w 10).L (bZ I Aa).I 0,Val.B true])=_;rw[hs];rfl
end
def er4{a0 a1 a2 a3 a4 a5 a6 a7 a8 a9 b:Val}{k s w g lt cp mk:Int}{m:U7}{T:Val}{tk:List eh}{cu:uq}{r r':U7}(h:a0::a1::a2::a3::a4::a5::a6::a7::a8::a9::b::r=gp k s w g lt cp mk m T tk cu++r'):
 a0= .D mk/\a1= .D lt/\a2= .D cp/\a3= .D k/\a4= .D s/\a5= .D w/\a6= .D g/\a7= .A m/\a8=T/\a9= .A (tk.map cJ)/\b= .A (cu.map eB)/\r=r':=by
 simpa[gp]using h
section
variable{I:Opq}(hf: ∀i a,I.f i a=F i a)
include hf
def SM{k s w g lt cp mk:Int}{m:U7}{T:Val}{tk:List eh}{cu:uq}(E:EN F0 k s w g lt cp mk m T tk cu){x y z:SX}{x':Int}{m':U7}{evs:List cU}(H:TBL k s w g evs m')(hx:bZ I x=T)(hy:bZ I y= .A m')(hz:bZ I z= .D x'):
 dB I (zn (zb (zL x) 400) (zb (zL (.Q 726 [y,z])) 400))=true:=by
 obtain⟨L,h1,h2,_⟩:=E.tList;obtain⟨L',h3,h4,_⟩:=c63 H x';have e:bZ I (.Q 726 [y,z])= .A L':=by show I.f 726 [bZ I y,bZ I z]=_;rw[hf,hy,hz];exact h3
 rw[dQ,cZ,cZ,ej,ej,hx,e,h1,cM];exact and2 (j0 (by show(L.length:Int)<=400;omega)) (j0 (by show(L'.length:Int)<=400;omega))
def tu_pend(hn:(F 953 [I.w 0,I.w 1,I.w 2,I.w 3,I.w 4,I.w 5,I.w 6,I.w 7,I.w 8,I.w 9,I.w 10]).Z=true):
 W6 UT_pend I=some (0,[F 951 [I.w 0,I.w 1,I.w 2,I.w 3,I.w 4,I.w 5,I.w 6,I.w 7,I.w 8,I.w 9,I.w 10]]):=by
 obtain⟨k,s,w,g,lt,cp,mk,m,T,tk,cu,he,E⟩:=bP_iff.1 hn;obtain⟨w0,w1,w2,w3,w4,w5,w6,w7,w8,w9,w10,_⟩:=er4 (r:=[]) (r':=[]) (by rw[x5];exact he);unfold UT_pend;refine X2 (Hs hf fe_x (by rw[dV,w7]) E.hH.ok) (X2 (SM hf E E.hH w8 w7 w0) ?_);show some (0,[I.f 208 [I.w 8,I.f 726 [I.w 7,I.w 0]]])=_;rw[hf,hf];rfl
end
section
variable{I:Opq}
def tu_few(f960: ∀a,I.f 960 a=YK a):W6 UT_few I=some (0,[Ee [I.w 0,I.w 1]]):=by
 have hV:Ee [I.w 0,I.w 1]= .B (if(ol (I.w 0).L).1=1 then false else decide (((I.w 0).L.length:Int)<=(I.w 1).I)):=rfl;rw[hV];generalize hl:(I.w 0).L=l;have e0:I.f 960 [.B false,.D 0,.D 0,.D (I.w 0).L.length,I.w 0,I.w 1]=cx (ol l):=by rw[f960,<-hl];rfl
 refine X7 (r:=ol l) ?_ e0 ?_
 have key: ∀i:Nat,i<=l.length-> ∀aa,aa=I.U 2000 [.B false,.D i]->aa.w 2000= .B false/\aa.w 2001= .D i/\(aa.w 0).L=l:=λi hi aa h=>by subst h;exact⟨by rw[cT];simp,by rw[cT];simp,by rw[kl _ _ _ (by omega),hl]⟩
 have g: ∀aa:Opq,∀i:Nat,aa.w 2001= .D i->(aa.w 0).L=l-> ∀j:Nat,bZ aa (.O .G [aN,aR,.C (j:Int)])=X1 (cg l i) j:=λaa i h1 h2 j=>by show X1 (cg (aa.w 0).L (aa.w 2001).I.toNat) j=_;rw[h1,h2];rfl
 unfold ol;refine HX (λi hi hb=> ?_) (λi hi hb=> ?_) ?_
 show W6 wM (I.U 2000 [.B false,.D i])=_;obtain⟨a,b,c⟩:=key i (by omega) _ rfl;have g:=g _ i b c;generalize I.U 2000 [.B false,.D i]=aa at*
 unfold Ni at hb;rw[M4,M4]at hb;obtain⟨⟨b1,b2⟩,b3⟩:=hb;have b1:=of_decide_eq_false b1;unfold wM;refine Y4 ?_ (Y4 ?_ (X2 ?_ (Y0 ?_ (Y0 ?_ (Y0 ?_ ?_)))));rw[gE,dV,ej,dV,b,c];exact j0 (by show(i:Int)<(l.length:Int);omega);rw[gE,dV,b,cM];exact j0 (by show(i:Int)<100;omega);rw[cZ,cM,dV,b];exact j0 (by show(0:Int)<=(i:Int);omega);rw[sy,cM];show decide ((50:Int)<((bZ aa (zg 0 2001 2)).toS.length:Int))=false;rw[show bZ aa (zg 0 2001 2)=_ from g 2];exact j9 (by omega);rw[gE,cM,show bZ aa (zg 0 2001 5)=_ from g 5];exact b2;rw[sy,cM,show bZ aa (zg 0 2001 5)=_ from g 5];exact b3;show some (0,[aa.w 2000,Val.D (cq .add .i64 (aa.w 2001).I 1)])=_;rw[a,b,Y1,iZ (n:=100) (by omega) (by omega)];rfl
 show W6 wM (I.U 2000 [.B false,.D i])=_;obtain⟨a,b,c⟩:=key i (by omega) _ rfl;have g:=g _ i b c;generalize I.U 2000 [.B false,.D i]=aa at*
 have hend:some (2,[bZ aa (.cb false),aa.w 2001])=some (2,[Val.B false,Val.D i]):=by rw[b];rfl
 unfold wM;refine Y4 ?_ (Y4 ?_ (X2 ?_ ?_));rw[gE,dV,ej,dV,b,c];exact j0 (by show(i:Int)<(l.length:Int);omega);rw[gE,dV,b,cM];exact j0 (by show(i:Int)<100;omega);rw[cZ,cM,dV,b];exact j0 (by show(0:Int)<=(i:Int);omega)
 have e1:dB aa (zt (.O .slen [zg 0 2001 2]) 50)=decide ((50:Int)<((X1 (cg l i) 2).toS.length:Int)):=by rw[sy,cM];show decide ((50:Int)<((bZ aa (zg 0 2001 2)).toS.length:Int))=_;rw[show bZ aa (zg 0 2001 2)=_ from g 2]
 by_cases c1:50<(X1 (cg l i) 2).toS.length;exact Y4 (by rw[e1];exact j0 (by omega)) hend
 refine Y0 (by rw[e1];exact j9 (by omega)) ?_;unfold Ni at hb;rw[j9 c1,C1]at hb;have e5:bZ aa (zg 0 2001 5)=X1 (cg l i) 5:=g 5;cases c2:decide (ci (cg l i) 5< -1000000)with
 |true=>exact Y4 (by rw[gE,cM,e5];exact c2) hend
 |false=>
  rw[c2,C1]at hb;exact Y0 (by rw[gE,cM,e5];exact c2) (Y4 (by rw[sy,cM,e5];exact hb) hend)
 .show W6 wM (I.U 2000 [.B false,.D (min l.length 100:Nat)])=_;obtain⟨a,b,c⟩:=key (min l.length 100) (by omega) _ rfl;generalize I.U 2000 [.B false,.D (min l.length 100:Nat)]=aa at*
  have hend:some (1,[aa.w 2000,aa.w 2001])=some (1,[Val.B false,Val.D (min l.length 100:Nat)]):=by rw[a,b]
  unfold wM;by_cases q:l.length<=100;refine Y0 ?_ hend;rw[gE,dV,ej,dV,b,c];exact j9 (by show¬((min l.length 100:Nat):Int)<(l.length:Int);omega);refine Y4 ?_ (Y0 ?_ hend);rw[gE,dV,ej,dV,b,c];exact j0 (by show((min l.length 100:Nat):Int)<(l.length:Int);omega);rw[gE,dV,b,cM];exact j9 (by show¬((min l.length 100:Nat):Int)<100;omega)
 rcases hr:(List.range (min l.length 100)).find? (Ni l)with _|i
 have hfa:ol l=(0,[.B false,.D (min l.length 100:Nat)]):=by unfold ol il;rw[hr]
 rw[hfa];show some (0,[Val.B (decide (((I.w 0).L.length:Int)<=(I.w 1).I))])=_;rw[hl];rfl
 have hfa:ol l=(1,[.B false,.D i]):=by unfold ol il;rw[hr]
 rw[hfa];show some (0,[Y3 (I.f 960 [.B false,.D 0,.D 0,.D (I.w 0).L.length,I.w 0,I.w 1]).L 1 0])=_;rw[e0,hfa];rfl
end
def d80{I:Opq}{x:VT}{l:abd}{r:Option (Nat×U7)}(h:W6 x I=r):kE (x::l) 0 I=r:=by simpa[kE]using h
def sB{I:Opq}{a b:SX}(h:(bZ I a).I=(bZ I b).I):dB I (ew a b)=false:=by rw[rO,j0 h];rfl
def Vg{I:Opq}{a b:SX}(h:(bZ I a).I≠(bZ I b).I):dB I (ew a b)=true:=by rw[rO,j9 h];rfl
def xF{I:Opq}{a:SX}(h:dB I a=true):dB I (cY a)=false:=by rw[pM,h];rfl
def er5(v:Val):F 201 [v,v]= .B true:=congrArg Val.B (Yx _)
section
variable{I:Opq}(hf: ∀i a,I.f i a=F i a)
include hf
end
section
variable{I:Opq}
def d81{a b:Nat}{c d:Int}(h:gS a b c d≠0):gS a b c d=160/\b<a/\cq .sub .i64 c a<d:=by
 unfold gS at*
 by_cases q:b<a/\cq .sub .i64 c a<d;rw[i6 q];exact⟨rfl,q⟩;rw[b9 q]at h;exact absurd rfl h
def cM7{n1 cp st:SX}{a:Nat}{c d:Int}(h1:(bZ I n1).I=a)(h3:(bZ I cp).I=c)(h4:(bZ I st).I=d):dB I (dO st (zm cp n1))=decide (cq .sub .i64 c a<d):=by rw[sy,h4];show decide (cq .sub .i64 (bZ I cp).I (bZ I n1).I<d)=_;rw[h3,h1]
def XP{n1 n2 cp st:SX}{a b:Nat}{c d:Int}{A B C:VT}{r:Option (Nat×U7)}(h1:(bZ I n1).I=a)(h2:(bZ I n2).I=b)(h3:(bZ I cp).I=c)(h4:(bZ I st).I=d)(hp:gS a b c d≠0)(hA:W6 A I=r):
 W6 (.J (dO n1 n2) (.J (dO st (zm cp n1)) A B) C) I=r:=by
 obtain⟨_,q1,q2⟩:=d81 hp;exact Y4 (by rw[sy,h1,h2];exact j0 (by omega)) (Y4 (by rw[cM7 h1 h3 h4];exact j0 q2) hA)
def dV3{n1 n2 cp st:SX}{a b:Nat}{c d:Int}{A B:VT}{r:Option (Nat×U7)}(h1:(bZ I n1).I=a)(h2:(bZ I n2).I=b)(h3:(bZ I cp).I=c)(h4:(bZ I st).I=d)(hp:gS a b c d=0)(hB:W6 B I=r):
 W6 (.J (dO n1 n2) (.J (dO st (zm cp n1)) A B) B) I=r:=by
 by_cases c1:b<a
 refine Y4 (by rw[sy,h1,h2];exact j0 (by omega)) (Y0 ?_ hB);rw[cM7 h1 h3 h4];refine j9 λc2=> ?_
 unfold gS at hp;rw[i6 ⟨c1,c2⟩]at hp;omega;exact Y0 (by rw[sy,h1,h2];exact j9 (by omega)) hB
end
def fB(a b:Nat):SX:= .O .lsub [.V a,aM,.V b]
def NI{I:Opq}{a b:Nat}{l:U7}(ha:I.w a= .A l)(hb:I.w b= .D l.length):bZ I (fB a b)= .A l:=by show Val.A (((I.w a).L.drop (0:Int).toNat).take ((I.w b).I-0).toNat)=_;rw[ha,hb];exact congrArg Val.A (LS l)
def LF{I:Opq}{a b:Nat}{l:U7}(ha:I.w a= .A l)(hb:I.w b= .D l.length):dB I (zn (zp (.V b)) (fW (.V b) (zL (.V a))))=true:=by rw[dQ,cZ,cZ,cM,dV,ej,dV,ha,hb];exact and2 (j0 (by show(0:Int)<=(l.length:Int);omega)) (j0 (by show(l.length:Int)<=(l.length:Int);omega))
def dV4{I:Opq}{a b:SX}(h:(bZ I a).I=(bZ I b).I):dB I (cG a b)=true:=by rw[mV];exact j0 h
def FB{I:Opq}{a:SX}{l:U7}(h:bZ I a= .A l)(hl:l.length<=1000000):dB I (zb (zL a) 1000000)=true:=by rw[cZ,ej,h,cM];exact j0 (by show(l.length:Int)<=1000000;omega)
def dV5(l:List ActM):(l.map actV).map BF=l:=by
 rw[o9];have:BF∘actV=id:=funext λy=>rfl
 rw[this,G6]
def eb7: ∀{l:aaE},l≠[]->(Tb.agOf l).1=1/\(Tb.agOf l).2.1=(Tb.agOf l).2.2.1/\(Tb.agOf l).2.2.1=(Tb.agOf l).2.2.2\/1<(Tb.agOf l).1/\(Tb.agOf l).2.2.1<=(Tb.agOf l).2.2.2
 | [],h=>absurd rfl h
 | [x],_=> .inl ⟨rfl,by show x+0=x;omega,rfl⟩
 |x::y::l,h=>by refine .inr ⟨?_,Int.le_trans ((Tb.minI_spec h).2 x A7) ((Tb.maxI_spec h).2 x A7)⟩;show(1:Int)<((x::y::l).length:Int);rw[List.length_cons,List.length_cons];omega
structure GL (L:U7):Prop where
 nk:NK L
 ok:Y5 L=true
 ln:L.length<=400
 st:S7.srt false L=L
section
variable{k s w g:Int}{evs:List cU}{m:U7}(H:TBL k s w g evs m)
include H
def dD1{r:Val}(hr:r∈m):jF r=true:=by obtain⟨ks,a,b,A,rfl,_,_⟩:=H.T.nrm r hr;have hl:lk m ks a b=some A:=tP H.T.nd hr;obtain⟨h1,_,h2,h3⟩:=H.T.pos hl;have h4:=eb7 (Tb.Pan.ne H.T.gap h3);rw[<-h2]at h4;rw[GN];show¬(A.1=0/\A.2.1=0/\A.2.2.1=0/\A.2.2.2=0)/\(A.1=1/\A.2.1=A.2.2.1/\A.2.2.1=A.2.2.2\/1<A.1/\A.2.2.1<=A.2.2.2);exact⟨λh=>by omega,h4⟩
def Vw(x:Int): ∃L,dy F0 [.A m,.D x]= .A L/\GL L:=by have hnd:ND (S7.srt false m):=AE (S7.srt_perm false m) H.T.nd;refine⟨(S7.srt false m).filter (fy x),?_,λr hr=> ?_,Aj.2 ⟨λr hr=>dD1 H (S7.srt_mem.1 (l7.1 hr).1),hnd.sublist (E5.map _)⟩,?_,S7.srt_id ((S7.srt_sorted false m).sublist E5)⟩;show Val.A ((F0 490 [.A m]).L.filter (fy x))=_;rw[x490 H];rfl;obtain⟨k,a,b,c,d,e,f,rfl,_⟩:=H.rowsS (l7.1 hr).1;rfl;refine p9 (J1 _ _) ?_;rw[S7.srt_len];exact H.ok.2.2.1
end
def EN.tGL{k s w g lt cp mk:Int}{m:U7}{T:Val}{tk:List eh}{cu:uq}(E:EN F0 k s w g lt cp mk m T tk cu): ∃L,T= .A L/\GL L:=by obtain⟨mc,h⟩:=E.hmc;obtain⟨L,h1,h2⟩:=Vw h (rN (tk.take (iJ cu)));exact⟨L,by rw[E.hT,<-h1,Nb h];rfl,h2⟩
section
variable{A B:U7}(a:GL A)(b:GL B)
include a b
def He:F0 208 [.A A,.A B]= .A (eu (dN A B)):=by show Val.A (bif Y5 A&&Y5 B then eu (dN A B)else [])=_;rw[a.ok,b.ok];rfl
omit a b in
def di4:(eu (dN A B)).Perm (dN A B):=cM5 (be1 A B)
def QM:nV A (eu (dN A B))=true/\(mD A (eu (dN A B))).Perm B:=by have:=eb6 (a:=A) (b:=B) (a':=A) (L:=eu (dN A B)) (λ_=>true) a.nk b.nk a.ok b.ok (by rw[SB]) (by rw[SB];exact di4);rwa[SB]at this
def er6:F0 232 [.A A,.A (eu (dN A B))]= .D 0:=by show Val.D (bif nV A (eu (dN A B))then 0 else 2)=_;rw[(QM a b).1];rfl
def er7:F0 222 [.A A,.A (eu (dN A B))]= .A B:=by show Val.A (bif nV A (eu (dN A B))then S7.srt false (mD A (eu (dN A B)))else [])=_;obtain⟨h1,h2⟩:=QM a b;rw[h1];show Val.A (S7.srt false (mD A (eu (dN A B))))=_;rw[KN h2 (AE h2 (Aj.1 b.ok).2),b.st]
def er8:(F0 233 [.A A,.A (eu (dN A B))]).Z=true:=by show decide ((mD A (eu (dN A B))).length<=400)=true;rw[(QM a b).2.length_eq];exact j0 b.ln
omit b in
def er9:(F0 431 [.A A]).Z=true:=by show(S7.isL (.A A)&&A.all S7.okK)=true;exact and2 rfl (l5.2 a.nk)
def es1:(F0 433 [.A (eu (dN A B))]).Z=true:=by have h: ∀c∈dN A B,S7.okK8 c=true:=cM4 a.nk b.nk (Aj.1 a.ok).2;show(S7.isL (.A (eu (dN A B)))&&(eu (dN A B)).all S7.okK8)=true;exact and2 rfl (l5.2 λc hc=>h c ((di4 (A:=A) (B:=B)).mem_iff.1 hc))
def Tt:(eu (dN A B)).length<=800:=by have h:=d69 (.A A) (.A B);have e:F 208 [.A A,.A B]=F0 208 [.A A,.A B]:=rfl;rw[e,He a b]at h;have:=a.ln;have:=b.ln;exact p9 h (by show A.length+B.length<=800;omega)
omit a in
def dV7:eu (dN B B)=[]:=by have:=cf9 (G5 B) b.nk b.ok;rw[this];rfl
end
def cN0{l:U7}{r:Val}{i:Nat}(h:i<l.length):cg (l++[r]) i=cg l i:=VP h
def Vz{X:Nat->U7->Val}{a b c d:Val}{l:U7}{r:Val}: ∀i,i<=l.length->eY X a b c d (l++[r]) i=eY X a b c d l i
 |0,_=>rfl
 |i+1,h=>by show(if ci (cg (l++[r]) i) 0=2 then eY X a b c d (l++[r]) i else dR X (oP a b c d (eY X a b c d (l++[r]) i) (cg (l++[r]) i)))=_;rw[cN0 (by omega),Vz i (by omega)];rfl
def dD2{X:Nat->U7->Val}{a b c d:Val}{l:U7}{r:Val}{i:Nat}(h:i<l.length):gc X a b c d (l++[r]) i=gc X a b c d l i:=by unfold gc nA;rw[cN0 h,Vz i (by omega)]
def Ez(k s w g:Int)(tk:List eh)(m:U7):Prop:=(∀i,i<tk.length->gc F0 (.D k) (.D s) (.D w) (.D g) (tk.map cJ) i=0)/\eY F0 (.D k) (.D s) (.D w) (.D g) (tk.map cJ) tk.length= .A m
def dD3(k s w g:Int):Ez k s w g [] []:=⟨λi h=>(by cases h),rfl⟩
section
variable{k s w g:Int}{tk:List eh}{m:U7}(G:Ez k s w g tk m)
include G
def dV8(o:eh):eY F0 (.D k) (.D s) (.D w) (.D g) ((tk++[o]).map cJ) tk.length= .A m/\cg ((tk++[o]).map cJ) tk.length=cJ o/\ ∀i,i<tk.length->gc F0 (.D k) (.D s) (.D w) (.D g) ((tk++[o]).map cJ) i=0:=by have hl:(tk.map cJ).length=tk.length:=k7 ..;rw[s6];refine⟨(Vz (r:=cJ o) tk.length (by omega)).trans G.2,?_,λi hi=>(dD2 (r:=cJ o) (by omega)).trans (G.1 i hi)⟩;rw[<-hl];exact Ns rfl
def c75{o:eh}{m':U7}(h0:X5 o.1 o.2.1 o.2.2.1 o.2.2.2=0)(h1:(o.1=1/\dp (cE k s w g m o.1 o.2.1 o.2.2.1 o.2.2.2)=0/\dR F0 (cE k s w g m o.1 o.2.1 o.2.2.1 o.2.2.2)= .A m')\/(o.1=2/\m'=m)):Ez k s w g (tk++[o]) m':=by
 obtain⟨a1,a2,a3⟩:=dV8 G o;have hw:=Vt (k:=k) (s:=s) (l:=w) (g:=g) a1 (show cg ((tk++[o]).map cJ) tk.length= .A [.D o.1,.vs o.2.1,.D o.2.2.1,.D o.2.2.2]from a2);have hc:ci (cg ((tk++[o]).map cJ) tk.length) 0=o.1:=by rw[a2];rfl
 have hr:nA ((tk++[o]).map cJ) tk.length=0:=(Pr a2).trans h0;have hn:(tk++[o]).length=tk.length+1:=by rw[k9];rfl
 refine⟨λi hi=> ?_,?_⟩
 rw[hn]at hi;rcases k8 i tk.length with h|h
 exact a3 i h
 obtain rfl:i=tk.length:=by omega
 unfold gc;rw[b9 (λh=>h hr),hc,hw];rcases h1 with⟨e,h2,_⟩|⟨e,_⟩
 rw[b9 (by omega)];exact h2;rw[i6 e]
 rw[hn];show(if ci (cg ((tk++[o]).map cJ) tk.length) 0=2 then eY F0 (.D k) (.D s) (.D w) (.D g) ((tk++[o]).map cJ) tk.length else dR F0 (oP (.D k) (.D s) (.D w) (.D g) (eY F0 (.D k) (.D s) (.D w) (.D g) ((tk++[o]).map cJ) tk.length) (cg ((tk++[o]).map cJ) tk.length)))=_;rw[hc,hw,a1];rcases h1 with⟨e,_,h2⟩|⟨e,h2⟩
 rw[b9 (by omega)];exact h2;rw[i6 e,h2]
def WX{lt cp mk:Int}{T:Val}{cu:uq}(E:EN F0 k s w g lt cp mk m T tk cu):
 yS F0 [.D k,.D s,.D w,.D g,.A (tk.map cJ)]= .D 0/\wv F0 [.D k,.D s,.D w,.D g,.A (tk.map cJ)]=dy F0 [.A m,.D mk]:=by
 have hl:(tk.map cJ).length=tk.length:=k7 ..;have hR:X9 (Val.D k).I (Val.D s).I (Val.D w).I (Val.D g).I=true:=E.hH.R;have hF:pb F0 (.D k) (.D s) (.D w) (.D g) (tk.map cJ)=none:=by unfold pb;rw[A8];intro i hi;rw[o7,hl]at hi;rw[G.1 i hi];decide
 constructor;show Val.D (DX F0 (.D k) (.D s) (.D w) (.D g) (tk.map cJ))=_;unfold DX;rw[i6 hR,hF];show EQ F0 (.D k) (.D s) (.D w) (.D g) (tk.map cJ)=_;unfold EQ;rw[i6 hR,hF,E.hk];show dy F0 [eY F0 (.D k) (.D s) (.D w) (.D g) (tk.map cJ) (tk.map cJ).length,iz (tk.map cJ) (tk.map cJ).length]=_;rw[show iz (tk.map cJ) (tk.map cJ).length=_ from Tc tk,hl,G.2]
end
def RD{k s w g lt cp mk:Int}{m:U7}{tk:List eh}{cu:uq}{evs:List cU}(H:TBL k s w g evs m):im F0 (gp k s w g lt cp mk m (dy F0 [.A m,.D mk]) tk cu)= .A []:=by obtain⟨L,h1,h2⟩:=Vw H mk;rw[Pt,h1,He h2 h2,dV7 h2]
def Pg{k s w g lt cp mk:Int}{m:U7}{T:Val}{tk:List eh}{cu:uq}(E:EN F0 k s w g lt cp mk m T tk cu): ∃A B,T= .A A/\dy F0 [.A m,.D mk]= .A B/\GL A/\GL B/\im F0 (gp k s w g lt cp mk m T tk cu)= .A (eu (dN A B)):=by obtain⟨A,h1,h2⟩:=E.tGL;obtain⟨B,h3,h4⟩:=Vw E.hH mk;exact⟨A,B,h1,h3,h2,h4,by rw[Pt,h3,h1];exact He h2 h4⟩
structure E9ok (k s w g lt cp:Int) (i:Nat) (x:E9):Prop where
 S:ESok k s w g lt cp i x.1
 st0:0<=x.2
 cap:x.2+((im F0 (x.1.args k s w g lt cp)).L.length:Int)<=cp
 eg:Ez k s w g x.1.tk x.1.m
structure ACC (k s w g lt cp st:Int) (x:ES) (o:eh) (m':U7) (mk':Int):Prop where
 E:EN F0 k s w g lt cp mk' m' x.T (x.tk++[o]) x.cu
 eg:Ez k s w g (x.tk++[o]) m'
 cap:st+((im F0 (gp k s w g lt cp mk' m' x.T (x.tk++[o]) x.cu)).L.length:Int)<=cp
 up:x.mark<=mk'
def Xh{n1 n2:Nat}{cp st:Int}(hc:1<=cp/\cp<=4096)(h1:n1<=800)(h2:st+(n2:Int)<=cp)(h:gS n1 n2 cp st=0):st+(n1:Int)<=cp:=by
 unfold gS at h;by_cases q:n2<n1/\cq .sub .i64 cp n1<st;rw[i6 q]at h;omega
 have e:cq .sub .i64 cp n1=cp-n1:=by show IntKind.i64.wrap (cp-n1)=_;exact mQ (by omega) (by omega)
 rw[e]at q;omega
section
variable{k s w g lt cp:Int}{i:Nat}{x:E9}(h:E9ok k s w g lt cp i x)(hi:i<20){o:eh}(hv:inI o.2.2.2)
include h hi hv
def di6(h1:o.1=1)(h0:iI F0 (x.1.args k s w g lt cp++gw o x.2)=0): ∃m',dR F0 (cE k s w g x.1.m o.1 o.2.1 o.2.2.1 o.2.2.2)= .A m'/\ACC k s w g lt cp x.2 x.1 o m' x.1.mark:=by
 have E:=h.S.E;have hn:=h.S.n;obtain⟨q0,qe,_⟩:=E.acc h0;obtain⟨ql,qt⟩:=qe h1;obtain⟨m',a1,a2⟩:=E.ev hv (by omega) h1 h0;have hP:iI F0 (gp k s w g lt cp x.1.mark x.1.m x.1.T x.1.tk x.1.cu++gw o x.2)=if X5 o.1 o.2.1 o.2.2.1 o.2.2.2≠0 then X5 o.1 o.2.1 o.2.2.1 o.2.2.2
  else if o.1=1 then(if(nW [.D x.1.mark,.D lt,.D o.2.2.1]).Z then 180 else if dp (cE k s w g x.1.m o.1 o.2.1 o.2.2.1 o.2.2.2)≠0 then dp (cE k s w g x.1.m o.1 o.2.1 o.2.2.1 o.2.2.2)
   else gS (F0 208 [x.1.T,dy F0 [dR F0 (cE k s w g x.1.m o.1 o.2.1 o.2.2.1 o.2.2.2),.D x.1.mark]]).L.length (F0 208 [x.1.T,dy F0 [.A x.1.m,.D x.1.mark]]).L.length cp x.2)
  else if gU x.1.mark lt o.2.2.1≠0 then gU x.1.mark lt o.2.2.1
  else gS (F0 208 [x.1.T,dy F0 [.A x.1.m,og [.D x.1.mark,.D lt,.D o.2.2.1]]]).L.length (F0 208 [x.1.T,dy F0 [.A x.1.m,.D x.1.mark]]).L.length cp x.2:=rfl
 have h0':iI F0 (gp k s w g lt cp x.1.mark x.1.m x.1.T x.1.tk x.1.cu++gw o x.2)=0:=h0;rw[hP,b9 (λh=>h q0),i6 h1,b9 (by rw[ql];simp),b9 (λh=>h qt),a1]at h0';obtain⟨A,B,t1,t2,g1,g2,t3⟩:=Pg a2;have hlen:(F0 208 [x.1.T,dy F0 [.A m',.D x.1.mark]]).L.length<=800:=by rw[t1,t2,He g1 g2];exact Tt g1 g2
 exact⟨m',a1,a2,c75 h.eg q0 (.inl ⟨h1,qt,a1⟩),Xh E.hcp hlen h.cap h0',x8 _⟩
def di7(h1:o.1≠1)(h0:iI F0 (x.1.args k s w g lt cp++gw o x.2)=0):og [.D x.1.mark,.D lt,.D o.2.2.1]= .D o.2.2.1/\ACC k s w g lt cp x.2 x.1 o x.1.m o.2.2.1:=by
 have E:=h.S.E;have hn:=h.S.n;obtain⟨q0,_,qm⟩:=E.acc h0;have qa:=qm h1;obtain⟨a2,a3⟩:=E.mrk hv (by omega) h1 h0;have hP:iI F0 (gp k s w g lt cp x.1.mark x.1.m x.1.T x.1.tk x.1.cu++gw o x.2)=if X5 o.1 o.2.1 o.2.2.1 o.2.2.2≠0 then X5 o.1 o.2.1 o.2.2.1 o.2.2.2
  else if o.1=1 then(if(nW [.D x.1.mark,.D lt,.D o.2.2.1]).Z then 180 else if dp (cE k s w g x.1.m o.1 o.2.1 o.2.2.1 o.2.2.2)≠0 then dp (cE k s w g x.1.m o.1 o.2.1 o.2.2.1 o.2.2.2)
   else gS (F0 208 [x.1.T,dy F0 [dR F0 (cE k s w g x.1.m o.1 o.2.1 o.2.2.1 o.2.2.2),.D x.1.mark]]).L.length (F0 208 [x.1.T,dy F0 [.A x.1.m,.D x.1.mark]]).L.length cp x.2)
  else if gU x.1.mark lt o.2.2.1≠0 then gU x.1.mark lt o.2.2.1
  else gS (F0 208 [x.1.T,dy F0 [.A x.1.m,og [.D x.1.mark,.D lt,.D o.2.2.1]]]).L.length (F0 208 [x.1.T,dy F0 [.A x.1.m,.D x.1.mark]]).L.length cp x.2:=rfl
 have h0':iI F0 (gp k s w g lt cp x.1.mark x.1.m x.1.T x.1.tk x.1.cu++gw o x.2)=0:=h0;rw[hP,b9 (λh=>h q0),b9 h1,b9 (λh=>h qa),a3]at h0';obtain⟨A,B,t1,t2,g1,g2,t3⟩:=Pg a2;have hlen:(F0 208 [x.1.T,dy F0 [.A x.1.m,.D o.2.2.1]]).L.length<=800:=by rw[t1,t2,He g1 g2];exact Tt g1 g2
 have up:x.1.mark<=o.2.2.1:=by unfold gU at qa;by_cases c1:Ck x.1.mark lt=true;rw[i6 c1]at qa;by_cases c2:ei o.2.2.1=true;rw[i6 c2]at qa;by_cases c3:o.2.2.1<x.1.mark;rw[i6 c3]at qa;omega;omega;rw[b9 c2]at qa;omega;rw[b9 c1]at qa;omega
 exact⟨a3,a2,c75 h.eg q0 (.inr ⟨(dU3 q0 h1).1,rfl⟩),Xh E.hcp hlen h.cap h0',up⟩
end
def es3{k s w g lt cp:Int}(hR:X9 k s w g=true)(hl:0<=lt/\lt<=1048576)(hc:1<=cp/\cp<=4096):E9ok k s w g lt cp 0 (es0,0):=by
 have h0:=cK5 hR;refine⟨⟨en0 hR hl hc,j6 _,j6 _⟩,x8 _,?_,dD3 k s w g⟩;have e:dy F0 [.A [],.D (-2199023255552)]= .A []:=by show Val.A ((F0 490 [.A []]).L.filter (fy (-2199023255552)))=_;rw[x490 h0];rfl
 have:im F0 (es0.args k s w g lt cp)= .A []:=by have:=RD (lt:=lt) (cp:=cp) (mk:= -2199023255552) (tk:=[]) (cu:=[]) h0;rw[e]at this;exact this
 show(0:Int)+((im F0 (es0.args k s w g lt cp)).L.length:Int)<=cp;rw[this];show(0:Int)+((0:Nat):Int)<=cp;omega
def dD4{k s w g lt cp:Int}{i:Nat}{x:E9}(h:E9ok k s w g lt cp i x)(hi:i<20){y:ActM}(hv:inI y.2.1.2.2.2):E9ok k s w g lt cp (i+1) (rY F0 k s w g lt cp x y):=by
 have hS:=dB7 h.S hi (y:=(y.1,y.2.1,x.2)) hv;obtain⟨yb,o,st⟩:=y;have e:rY F0 k s w g lt cp x (yb,o,st)=(x.1.step F0 k s w g lt cp (yb,o,x.2),if yb=true then x.2+((im F0 (x.1.args k s w g lt cp)).L.length:Int)else x.2):=rfl;have hs:x.1.step F0 k s w g lt cp (yb,o,x.2)=if yb=true then {x.1 with T:=dy F0 [.A x.1.m,.D x.1.mark],cu:=x.1.cu++[x.1.tk.length]}
  else if iI F0 (x.1.args k s w g lt cp++gw o x.2)≠0 then x.1
  else if o.1=1 then {x.1 with m:=(dR F0 (Dc (x.1.args k s w g lt cp++gw o x.2))).L,tk:=x.1.tk++[o]}
  else {x.1 with mark:=o.2.2.1,tk:=x.1.tk++[o]}:=rfl
 rw[e];rw[hs]at hS⊢;by_cases hb:yb=true;rw[i6 hb]at hS;rw[i6 hb,i6 hb];refine⟨hS,by have:=h.st0;show(0:Int)<=x.2+_;omega,?_,h.eg⟩;show x.2+((im F0 (x.1.args k s w g lt cp)).L.length:Int)+((im F0 (gp k s w g lt cp x.1.mark x.1.m (dy F0 [.A x.1.m,.D x.1.mark]) x.1.tk (x.1.cu++[x.1.tk.length]))).L.length:Int)<=cp;rw[RD h.S.E.hH];have:=h.cap;show _+((0:Nat):Int)<=cp;omega;rw[b9 hb]at hS;rw[b9 hb,b9 hb];by_cases hp:iI F0 (x.1.args k s w g lt cp++gw o x.2)=0
 have np: ¬(iI F0 (x.1.args k s w g lt cp++gw o x.2)≠0):=λh=>h hp
 rw[b9 np]at hS⊢;by_cases h1:o.1=1;rw[i6 h1]at hS⊢;obtain⟨m',a1,a2⟩:=di6 h hi hv h1 hp;have a1':dR F0 (Dc (x.1.args k s w g lt cp++gw o x.2))= .A m':=a1;rw[a1']at hS⊢;exact⟨hS,h.st0,a2.cap,a2.eg⟩;rw[b9 h1]at hS⊢;obtain⟨a1,a2⟩:=di7 h hi hv h1 hp;exact⟨hS,h.st0,a2.cap,a2.eg⟩;rw[i6 hp]at hS⊢;exact⟨hS,h.st0,h.cap,h.eg⟩
def di8{k s w g lt cp:Int}(hR:X9 k s w g=true)(hl:0<=lt/\lt<=1048576)(hc:1<=cp/\cp<=4096)(l:List ActM)(hn:l.length<=20)(hv: ∀y∈l,inI y.2.1.2.2.2): ∀i,i<=l.length->E9ok k s w g lt cp i (iB F0 k s w g lt cp (l.take i))
 |0,_=>es3 hR hl hc
 |i+1,h=>by unfold iB;rw[U3 (by omega),J5];exact dD4 (di8 hR hl hc l hn hv i (by omega)) (by omega) (hv _ (B6 _))
structure R9 (I:Opq) (k s w g lt cp:Int) (i:Nat) (x:E9) (l:List ActM):Prop where
 hf: ∀i a,I.f i a=F i a
 w0:I.w 0= .D k
 w1:I.w 1= .D s
 w2:I.w 2= .D w
 w3:I.w 3= .D g
 w4:I.w 4= .D lt
 w5:I.w 5= .D cp
 w6:I.w 6= .A (l.map actV)
 v: ∀j,j<15->I.w (1500+j)=(iO x i).getD j (.B false)
 ok:E9ok k s w g lt cp i x
 hi:i<20
 hl:l.length<=20
 hv: ∀y∈l,inI y.2.1.2.2.2
def RA:GF:=[bc,.Q 942 [aS],bd,aN,aO,aT,aU,be,fB 1512 1507,fB 1513 1508,fB 1514 1509]
def hX(j:Int):SX:= .O .G [bf,bm,.C j]
def dW0{I:Opq}{a b:SX}(h1:dB I a=false)(h2:dB I b=false):dB I (cY (.O .beq [a,b]))=false:=by show(!((bZ I a).Z==(bZ I b).Z))=false;rw[show(bZ I a).Z=false from h1,show(bZ I b).Z=false from h2];rfl
def f3(v:Val):F 3 [v,v]= .B true:=wj.x3 v
section
variable{I:Opq}{k s w g lt cp:Int}{i:Nat}{x:E9}{l:List ActM}(c:R9 I k s w g lt cp i x l)
include c
def R9.E:EN F0 k s w g lt cp x.1.mark x.1.m x.1.T x.1.tk x.1.cu:=c.ok.S.E
def R9.r0:I.w 1500= .B false:=c.v 0 (by omega)
def R9.r1:I.w 1501= .D x.2:=c.v 1 (by omega)
def R9.r2:I.w 1502= .D x.1.mark:=c.v 2 (by omega)
def R9.r3:I.w 1503= .D (iJ x.1.cu):=c.v 3 (by omega)
def R9.r4:I.w 1504= .D x.1.T.L.length:=c.v 4 (by omega)
def R9.r5:I.w 1505= .D i:=c.v 5 (by omega)
def R9.r6:I.w 1506= .D x.1.mark:=c.v 6 (by omega)
def R9.r7:I.w 1507= .D x.1.T.L.length:=c.v 7 (by omega)
def R9.r8:I.w 1508= .D x.1.tk.length:=c.v 8 (by omega)
def R9.r9:I.w 1509= .D x.1.cu.length:=c.v 9 (by omega)
def R9.r10:I.w 1510=x.1.T:=c.v 10 (by omega)
def R9.r11:I.w 1511= .A x.1.m:=c.v 11 (by omega)
def R9.r12:I.w 1512=x.1.T:=c.v 12 (by omega)
def R9.r13:I.w 1513= .A (x.1.tk.map cJ):=c.v 13 (by omega)
def R9.r14:I.w 1514= .A (x.1.cu.map eB):=c.v 14 (by omega)
def R9.TL:x.1.T= .A x.1.T.L:=by obtain⟨L,h,_⟩:=c.E.tList;rw[h];rfl
def R9.dT:bZ I (fB 1512 1507)=x.1.T:=by rw[NI (c.r12.trans c.TL) c.r7];exact c.TL.symm
def R9.dA:bZ I (fB 1510 1504)=x.1.T:=by rw[NI (c.r10.trans c.TL) c.r4];exact c.TL.symm
def R9.lt4:bZ I (.Q 942 [aS])= .D lt:=by show I.f 942 [I.w 4]=_;rw[c.hf,c.w4];show(if pC lt then Val.D lt else .D 0)=_;have:=c.E.hlt;unfold pC;rw[j0 this.1,j0 this.2];rfl
def R9.l8:I.w 1508= .D (x.1.tk.map cJ).length:=c.r8.trans (by rw[k7])
def R9.l9:I.w 1509= .D (x.1.cu.map eB).length:=c.r9.trans (by rw[k7])
def R9.dK:bZ I (fB 1513 1508)= .A (x.1.tk.map cJ):=NI c.r13 c.l8
def R9.dC:bZ I (fB 1514 1509)= .A (x.1.cu.map eB):=NI c.r14 c.l9
def R9.lnK:(x.1.tk.map cJ).length<=20:=by rw[k7];exact c.E.hln
def R9.lnC:(x.1.cu.map eB).length<=20:=by rw[k7];exact c.E.hcl
def R9.z0:dB I Z0=true:=by unfold Z0;rw[dQ,dQ];exact and2 (LF (c.r12.trans c.TL) c.r7) (and2 (LF c.r13 c.l8) (LF c.r14 c.l9))
def R9.en(r:GF):X4 I (RA++r)=gp k s w g lt cp x.1.mark x.1.m x.1.T x.1.tk x.1.cu++X4 I r:=by show I.w 1506::bZ I (.Q 942 [aS])::I.w 5::I.w 0::I.w 1::I.w 2::I.w 3::I.w 1511::bZ I (fB 1512 1507)::bZ I (fB 1513 1508)::bZ I (fB 1514 1509)::X4 I r=_;rw[c.lt4,c.dT,c.dK,c.dC,c.w0,c.w1,c.w2,c.w3,c.w5,c.r6,c.r11];rfl
def R9.z1:(bZ I Z1).I=(x.1.tk.length:Int):=by show(bZ I (zL (fB 1513 1508))).I=_;rw[ej,c.dK];show((x.1.tk.map cJ).length:Int)=_;rw[k7]
def R9.z2:dB I Z2=true:=by unfold Z2;rw[dQ,cZ,c.z1,cM];have:=c.E.hln;refine and2 (j0 (by omega)) ?_;show(I.f 948 [bZ I (fB 1513 1508)]).Z=true;rw[c.hf,c.dK];rfl
def R9.z3:dB I Z3=true:=by show(I.f 953 (X4 I (RA++[]))).Z=true;rw[c.en,c.hf];exact bP_iff.2 ⟨k,s,w,g,lt,cp,x.1.mark,x.1.m,x.1.T,x.1.tk,x.1.cu,x5 _,c.E⟩
def R9.z5:dB I Z5=false:=by unfold Z5;rw[mV,c.z1];show decide ((x.1.tk.length:Int)=cq .add .i64 (bZ I Z1).I 1)=false;have:=c.E.hln;rw[c.z1,iZ (n:=100) (by omega) (by omega)];exact j9 (by omega)
def R9.z6:bZ I Z6=im F0 (x.1.args k s w g lt cp):=by show I.f 951 (X4 I (RA++[]))=_;rw[c.en,c.hf];rfl
def R9.pl: ∃A B,x.1.T= .A A/\dy F0 [.A x.1.m,.D x.1.mark]= .A B/\GL A/\GL B/\bZ I Z6= .A (eu (dN A B))/\(eu (dN A B)).length<=800:=by obtain⟨A,B,h1,h2,h3,h4,h5⟩:=Pg c.E;exact⟨A,B,h1,h2,h3,h4,c.z6.trans h5,Tt h3 h4⟩
def R9.z7:dB I Z7=true:=by obtain⟨A,B,_,_,_,_,h,hl⟩:=c.pl;exact FB h (by omega)
def R9.z8:(bZ I Z8).I=x.2+((im F0 (x.1.args k s w g lt cp)).L.length:Int):=by show cq .add .i64 (I.w 1501).I (bZ I (zL Z6)).I=_;rw[ej,c.z6,c.r1];show IntKind.i64.wrap (x.2+_)=_;have h0:=c.ok.st0;have h1:=c.ok.cap;have h2:=c.E.hcp;exact mQ (by omega) (by omega)
def R9.z9:dB I Z9=true:=Hs c.hf fe_x (show bZ I be=_ from c.r11) c.E.hH.ok
def R9.col(hi:i<l.length)(j:Nat):bZ I (hX j)=X1 (actV l[i]) j:=by show X1 (cg (I.w 6).L (I.w 1505).I.toNat) j=_;rw[c.w6,c.r5];show X1 (cg (l.map actV) i) j=_;rw[mb (by rw[k7];exact hi),G8]
def R9.inc:cq .add .i64 (I.w 1505).I 1=((i+1:Nat):Int):=by rw[c.r5];exact iZ (n:=20) c.hi (by omega)
def R9.lss(hi:i<l.length):dB I (zs bm (zl 6))=true:=by rw[gE,dV,ej,dV,c.w6,c.r5];exact j0 (by show(i:Int)<((l.map actV).length:Int);rw[k7];omega)
def R9.leq:dB I (zp bm)=true:=by rw[cZ,cM,dV,c.r5];exact j0 (by show(0:Int)<=(i:Int);omega)
def R9.z24:bZ I ed= .A ((x.1.cu++[x.1.tk.length]).map eB):=by show Val.A ((I.w 1514).L++[.A [I.w 1508]])=_;rw[c.r14,c.r8,s6];rfl
def R9.cv:bZ I (.O (.conv .u64) [zL ed])= .D ((x.1.cu++[x.1.tk.length]).length:Nat):=by show Val.D (IntKind.u64.wrap ((bZ I ed).L.length:Int))=_;rw[c.z24];show Val.D (IntKind.u64.wrap ((((x.1.cu++[x.1.tk.length]).map eB).length:Nat):Int))=_;have:=c.E.hcl;rw[k7,c74 (by rw[k9];show x.1.cu.length+1<=1000;omega)]
def R9.z25:bZ I uw= .D (x.1.tk.length:Nat):=by
 show I.f 938 [bZ I ed,bZ I (.O (.conv .u64) [zL ed])]=_;rw[c.hf,c.z24,c.cv];have hn:(x.1.cu++[x.1.tk.length]).length=x.1.cu.length+1:=by rw[k9];rfl
 show(if(((x.1.cu++[x.1.tk.length]).length:Nat):Int)=0\/(((x.1.cu++[x.1.tk.length]).map eB).length:Int)<(((x.1.cu++[x.1.tk.length]).length:Nat):Int)then Val.D 0 else X1 (cg ((x.1.cu++[x.1.tk.length]).map eB) ((((x.1.cu++[x.1.tk.length]).length:Nat):Int)-1).toNat) 0)=_;rw[k7,b9 (by omega),hn,show(((x.1.cu.length+1:Nat):Int)-1).toNat=x.1.cu.length by omega,s6];have:cg (x.1.cu.map eB++[eB x.1.tk.length]) x.1.cu.length=eB x.1.tk.length:=Ns (by rw[k7]);rw[show([x.1.tk.length].map eB)=[eB x.1.tk.length]from rfl,this];rfl
def R9.z26:bZ I nO= .A (x.1.tk.map cJ):=by show Val.A (((bZ I (fB 1513 1508)).L.drop (0:Int).toNat).take ((bZ I uw).I-0).toNat)=_;rw[c.dK,c.z25];have:=LS (x.1.tk.map cJ);rw[k7]at this;exact congrArg Val.A this
def R9.d26:bZ I (.Q 726 [be,bc])=dy F0 [.A x.1.m,.D x.1.mark]:=by show I.f 726 [I.w 1511,I.w 1506]=_;rw[c.hf,c.r11,c.r6];rfl
def dW1(hi:i<l.length)(hb:l[i].1=true):W6 tR I=some (0,iO (rY F0 k s w g lt cp x l[i]) (i+1)):=by
 have E:=c.E;have hK:=c.lnK;have hC:=c.lnC;have h0:=c.ok.st0;have h1:=c.ok.cap;have h2:=E.hcp;have hf:=c.hf;have hi20:=c.hi;have hcc:=c.ok.S.c;obtain⟨A,B,t1,t2,g1,g2,t3,t4⟩:=c.pl;have hp:=E.pub (by omega);have hstep:rY F0 k s w g lt cp x l[i]=({x.1 with T:=dy F0 [.A x.1.m,.D x.1.mark],cu:=x.1.cu++[x.1.tk.length]},x.2+((im F0 (x.1.args k s w g lt cp)).L.length:Int)):=by unfold rY ES.step;rw[i6 hb,i6 hb]
 have dA:bZ I (fB 1510 1504)= .A A:=c.dA.trans t1;have d26:bZ I (.Q 726 [be,bc])= .A B:=c.d26.trans t2;have z27:bZ I vL= .A B:=by show I.f 222 [bZ I (fB 1510 1504),bZ I Z6]=_;rw[hf,dA,t3];exact er7 g1 g2
 have d36:bZ I (.Q 836 [aN,aO,aT,aU,nO])= .A B:=by show I.f 836 [I.w 0,I.w 1,I.w 2,I.w 3,bZ I nO]=_;rw[hf,c.w0,c.w1,c.w2,c.w3,c.z26];show wv F0 _=_;rw[(WX c.ok.eg E).2];exact t2
 have d37:bZ I (.Q 837 [aN,aO,aT,aU,nO])= .D 0:=by show I.f 837 [I.w 0,I.w 1,I.w 2,I.w 3,bZ I nO]=_;rw[hf,c.w0,c.w1,c.w2,c.w3,c.z26];exact(WX c.ok.eg E).1
 have hln:(x.1.cu++[x.1.tk.length]).length=x.1.cu.length+1:=by rw[k9];rfl
 have hcm:((x.1.cu++[x.1.tk.length]).map eB).length<=1000000:=by rw[k7,hln];omega
 have hcl:=E.hcl;rw[hstep];have hg0:dB I (cY (zg 6 1505 0))=false:=by rw[pM];show(!(bZ I (hX 0)).Z)=false;rw[show bZ I (hX 0)=_ from c.col hi 0];show(!l[i].1)=false;rw[hb];rfl
 unfold tR;refine Y4 (c.lss hi) (X2 c.leq (Y0 hg0 (X2 ?_ (X2 c.z9 (X2 ?_ (X2 ?_ (X2 ?_ (X2 c.z2 (Y0 (sB ?_) (Y0 (xF ?_) (Y0 ?_ (Y0 (sB ?_) (X2 ?_ (Y0 (sB ?_) (X2 ?_ (X2 ?_ (Y0 (sB ?_) (X2 (FB z27 ?_) (Y0 (xF ?_) (X2 (FB d26 ?_) (Y0 (xF ?_) ?_)))))))))))))))))))));rw[dQ];exact and2 c.z0 c.z3;rw[dQ];refine and2 (dV4 ?_) (FB c.z24 hcm);rw[ej,dV,dV,c.l9,c.r14];rfl;rw[dQ,dQ,dQ,dQ,dQ];refine and2 (LF (c.r10.trans c.TL) c.r4) (and2 (and2 ?_ ?_) (and2 (and2 ?_ ?_) ?_));show dB I (zb (zL (fB 1510 1504)) 400)=true;rw[cZ,ej,dA,cM];exact j0 (by have:=g1.ln;show(A.length:Int)<=400;omega);rw[cZ,ej,t3,cM];exact j0 (by show((eu (dN A B)).length:Int)<=800;omega);show(I.f 431 [bZ I (fB 1510 1504)]).Z=true;rw[hf,dA];exact er9 g1;show(I.f 433 [bZ I Z6]).Z=true;rw[hf,t3];exact es1 g1 g2;show(I.f 233 [bZ I (fB 1510 1504),bZ I Z6]).Z=true;rw[hf,dA,t3];exact er8 g1 g2;show(I.f 937 [bZ I ed,bZ I (.O (.conv .u64) [zL ed])]).Z=true;rw[hf,c.z24,c.cv];show(decide (((x.1.cu++[x.1.tk.length]).map eB).length<=1000)&&decide ((0:Int)<=(((x.1.cu++[x.1.tk.length]).length:Nat):Int)))=true;exact and2 (j0 (by rw[k7,hln];omega)) (j0 (by omega));show(I.f 232 [bZ I (fB 1510 1504),bZ I Z6]).I=0;rw[hf,dA,t3];show(F0 232 [.A A,.A (eu (dN A B))]).I=0;rw[er6 g1 g2];rfl;show(I.f 939 [bZ I ed,bZ I (.O (.conv .u64) [zL ed])]).Z=true;rw[hf,c.z24,c.cv];show decide ((((x.1.cu++[x.1.tk.length]).length:Nat):Int)<=(((x.1.cu++[x.1.tk.length]).map eB).length:Int))=true;rw[k7];exact j0 (x8 _);rw[gE,c.z25,dV,c.r3];exact j9 (by have:=E.last;show¬((x.1.tk.length:Nat):Int)<((iJ x.1.cu:Nat):Int);omega);rw[c.z25,c.z1];rfl;show(I.f 953 [I.w 1506,bZ I (.Q 942 [aS]),I.w 5,I.w 0,I.w 1,I.w 2,I.w 3,I.w 1511,bZ I (.Q 726 [be,bc]),bZ I (fB 1513 1508),bZ I ed]).Z=true;rw[c.lt4,c.d26,c.dK,c.z24,c.w0,c.w1,c.w2,c.w3,c.w5,c.r6,c.r11,hf];exact bP_iff.2 ⟨k,s,w,g,lt,cp,x.1.mark,x.1.m,dy F0 [.A x.1.m,.D x.1.mark],x.1.tk,x.1.cu++[x.1.tk.length],rfl,hp⟩;show((I.f 951 [I.w 1506,bZ I (.Q 942 [aS]),I.w 5,I.w 0,I.w 1,I.w 2,I.w 3,I.w 1511,bZ I (.Q 726 [be,bc]),bZ I (fB 1513 1508),bZ I ed]).L.length:Int)=0;rw[c.lt4,c.d26,c.dK,c.z24,c.w0,c.w1,c.w2,c.w3,c.w5,c.r6,c.r11,hf];show((im F0 (gp k s w g lt cp x.1.mark x.1.m (dy F0 [.A x.1.m,.D x.1.mark]) x.1.tk (x.1.cu++[x.1.tk.length]))).L.length:Int)=0;rw[RD E.hH];rfl;rw[dQ,cZ,cZ,c.z25,c.z1,cM];exact and2 (j0 (by show(0:Int)<=((x.1.tk.length:Nat):Int);omega)) (j0 (by show((x.1.tk.length:Nat):Int)<=_;omega));rw[dQ,cZ,ej,c.z26,cM];refine and2 (j0 (by show((x.1.tk.map cJ).length:Int)<=100;omega)) ?_;show(I.f 838 [I.w 0,I.w 1,I.w 2,I.w 3,bZ I nO]).Z=true;rw[hf,c.w0,c.w1,c.w2,c.w3,c.z26];show(true&&(true&&(true&&(true&&((x.1.tk.map cJ).all nB&&decide ((x.1.tk.map cJ).length<=24))))))=true;rw[j0 (show(x.1.tk.map cJ).length<=24 by omega),l5.2 λr hr=> ?_];rfl;obtain⟨o,ho,rfl⟩:=k6.1 hr;have hv:=(E.hok o ho).2;show(decide (-9223372036854775808<=o.2.2.2)&&decide (o.2.2.2<9223372036854775808))=true;exact and2 (j0 hv.1) (j0 hv.2);rw[d37];rfl;have:=g2.ln;omega;show(I.f 3 [bZ I vL,bZ I (.Q 836 [aN,aO,aT,aU,nO])]).Z=true;rw[z27,d36,hf,f3];rfl;have:=g2.ln;omega;show(I.f 3 [bZ I (.Q 726 [be,bc]),bZ I (.Q 836 [aN,aO,aT,aU,nO])]).Z=true;rw[d26,d36,hf,f3];rfl;have e8:bZ I Z8= .D (x.2+((im F0 (x.1.args k s w g lt cp)).L.length:Int)):=congrArg Val.D c.z8;show some (0,[I.w 1500,bZ I Z8,I.w 1502,bZ I uw,Val.D (bZ I vL).L.length,Val.D (cq .add .i64 (I.w 1505).I 1),I.w 1506,Val.D (bZ I (.Q 726 [be,bc])).L.length,I.w 1508,Val.D (bZ I ed).L.length,bZ I vL,I.w 1511,bZ I (.Q 726 [be,bc]),I.w 1513,bZ I ed])=_;rw[c.inc,e8,c.z25,z27,d26,c.z24,c.r0,c.r2,c.r6,c.r8,c.r11,c.r13,t2];have hlen:((x.1.cu++[x.1.tk.length]).map eB).length=(x.1.cu++[x.1.tk.length]).length:=k7 ..;show some (0,[Val.B false,_,Val.D x.1.mark,Val.D (x.1.tk.length:Nat),Val.D B.length,Val.D (i+1:Nat),Val.D x.1.mark,Val.D B.length,Val.D x.1.tk.length,Val.D (((x.1.cu++[x.1.tk.length]).map eB).length:Nat),Val.A B,_,Val.A B,_,_])=_;rw[hlen];show _=some (0,[Val.B false,_,Val.D x.1.mark,Val.D (iJ (x.1.cu++[x.1.tk.length]):Nat),Val.D B.length,Val.D (i+1:Nat),Val.D x.1.mark,Val.D B.length,Val.D x.1.tk.length,Val.D ((x.1.cu++[x.1.tk.length]).length:Nat),Val.A B,_,Val.A B,_,_]);rw[RM]
end
def WS:VT:= .W 0 [bH,bz,bc,bw,bj,zi bm,bc,bq,bA,bt,bn,be,bu,bB,bx]
def Iw:VT:= .W 2 [.cb false,bz,bv,bw,bj,bm,bc,bq,bA,bt,bn,be,bu,bB,bx]
def rfT(C:SX):VT:= .J (cY (.O .beq [C,Z5])) Iw (.N Z7 (.J (cY (.Q 201 [Z6,Z6])) Iw (.J (zs bc bv) Iw (.J (dO Z8 bd) Iw WS))))
def Hx(a b:SX):GF:=[a,.Q 942 [aS],bd,aN,aO,aT,aU,b,fB 1512 1507,di,fB 1514 1509]
def Tk(a b:SX):VT:= .W 2 [.cb false,bz,bv,bw,bj,bm,a,bq,zL di,bt,bn,b,bu,di,bx]
def acT(a b:SX):VT:= .N BY (.N (.Q 948 [di]) (.J Dt (Tk a b) (.J (zs a bv) (Tk a b) (.N (.Q 953 (Hx a b)) (.J (dO (za bz (zL (.Q 951 (Hx a b)))) bd) (Tk a b)
 (.W 0 [bH,bz,a,bw,bj,zi bm,a,bq,zL di,bt,bn,b,bu,di,bx]))))))
section
variable{I:Opq}{k s w g lt cp:Int}{i:Nat}{x:E9}{l:List ActM}(c:R9 I k s w g lt cp i x l)
include c
def R9.next:W6 WS I=some (0,iO x (i+1)):=by show some (0,[I.w 1500,I.w 1501,I.w 1506,I.w 1503,I.w 1504,Val.D (cq .add .i64 (I.w 1505).I 1),I.w 1506,I.w 1507,I.w 1508,I.w 1509,I.w 1510,I.w 1511,I.w 1512,I.w 1513,I.w 1514])=_;rw[c.inc,c.r0,c.r1,c.r3,c.r4,c.r6,c.r7,c.r8,c.r9,c.r10,c.r11,c.r12,c.r13,c.r14];rfl
def R9.ref{C:SX}(hC:dB I C=false):W6 (rfT C) I=some (0,iO x (i+1)):=by refine Y0 (dW0 hC c.z5) (X2 c.z7 (Y0 (xF ?_) (Y0 ?_ (Y0 ?_ c.next))));show(I.f 201 [bZ I Z6,bZ I Z6]).Z=true;rw[c.hf,er5];rfl;rw[gE,dV,dV,c.r6,c.r2];exact j9 (Int.lt_irrefl _);rw[sy,dV,c.w5,c.z8];exact j9 (by have:=c.ok.cap;show¬cp<_;omega)
def R9.acc{a b:SX}{o:eh}{m':U7}{mk':Int}(A:ACC k s w g lt cp x.2 x.1 o m' mk')(z14:bZ I di= .A ((x.1.tk++[o]).map cJ))(d0:bZ I a= .D mk')(d1:bZ I b= .A m'):
 W6 (acT a b) I=some (0,iO ({x.1 with mark:=mk',m:=m',tk:=x.1.tk++[o]},x.2) (i+1)):=by
 have hK:=c.E.hln;have hn:(x.1.tk++[o]).length=x.1.tk.length+1:=by rw[k9];rfl
 have hm:((x.1.tk++[o]).map cJ).length=(x.1.tk++[o]).length:=k7 ..;have e11:X4 I (Hx a b)=gp k s w g lt cp mk' m' x.1.T (x.1.tk++[o]) x.1.cu:=by show [bZ I a,bZ I (.Q 942 [aS]),I.w 5,I.w 0,I.w 1,I.w 2,I.w 3,bZ I b,bZ I (fB 1512 1507),bZ I di,bZ I (fB 1514 1509)]=_;rw[d0,d1,z14,c.lt4,c.dT,c.dC,c.w0,c.w1,c.w2,c.w3,c.w5];rfl
 refine X2 ?_ (X2 ?_ (Y0 ?_ (Y0 ?_ (X2 ?_ (Y0 ?_ ?_)))));unfold BY;rw[dQ];refine and2 (dV4 ?_) (FB z14 (by omega));rw[ej,dV,dV,c.l8,c.r13];rfl;show(I.f 948 [bZ I di]).Z=true;rw[c.hf,z14];rfl
 have:dB I (cG (zL di) (zi Z1))=true:=by rw[mV,ej,z14];show decide ((((x.1.tk++[o]).map cJ).length:Int)=cq .add .i64 (bZ I Z1).I 1)=true;rw[c.z1,iZ (n:=100) (by omega) (by omega),hm,hn];exact j0 rfl
 show(!(true==(bZ I (cG (zL di) (zi Z1))).Z))=false;rw[show(bZ I (cG (zL di) (zi Z1))).Z=true from this];rfl;rw[gE,dV,c.r2,d0];exact j9 (by have:=A.up;show¬mk'<x.1.mark;omega);show(I.f 953 (X4 I (Hx a b))).Z=true;rw[e11,c.hf];exact bP_iff.2 ⟨k,s,w,g,lt,cp,mk',m',x.1.T,x.1.tk++[o],x.1.cu,rfl,A.E⟩;rw[sy,dV,c.w5];show decide (cp<cq .add .i64 (I.w 1501).I ((I.f 951 (X4 I (Hx a b))).L.length:Int))=false;rw[e11,c.hf,c.r1];have h1:=A.cap;have h0:=c.ok.st0;have h2:=c.E.hcp;show decide (cp<IntKind.i64.wrap (x.2+((im F0 (gp k s w g lt cp mk' m' x.1.T (x.1.tk++[o]) x.1.cu)).L.length:Int)))=false;rw[mQ (by omega) (by omega)];exact j9 (by omega);show some (0,[I.w 1500,I.w 1501,bZ I a,I.w 1503,I.w 1504,Val.D (cq .add .i64 (I.w 1505).I 1),bZ I a,I.w 1507,Val.D (bZ I di).L.length,I.w 1509,I.w 1510,bZ I b,I.w 1512,bZ I di,I.w 1514])=_;rw[c.inc,z14,d0,d1,c.r0,c.r1,c.r3,c.r4,c.r7,c.r9,c.r10,c.r12,c.r14];show some (0,[Val.B false,_,_,_,_,_,_,_,Val.D (((x.1.tk++[o]).map cJ).length:Nat),_,_,_,_,_,_])=_;rw[hm];rfl
def eb9(hi:i<l.length)(hb:l[i].1=false):W6 tR I=some (0,iO (rY F0 k s w g lt cp x l[i]) (i+1)):=by
 have E:=c.E;have hf:=c.hf;have hi20:=c.hi;have hn:=c.ok.S.n;have hv:=c.hv _ (B6 hi);have g1:bZ I (hX 1)= .D l[i].2.1.1:=c.col hi 1;have g2:bZ I (hX 2)= .vs l[i].2.1.2.1:=c.col hi 2;have g3:bZ I (hX 3)= .D l[i].2.1.2.2.1:=c.col hi 3;have g4:bZ I (hX 4)= .D l[i].2.1.2.2.2:=c.col hi 4;have g0:dB I (cY (zg 6 1505 0))=true:=by rw[pM];show(!(bZ I (hX 0)).Z)=true;rw[show bZ I (hX 0)=_ from c.col hi 0];show(!l[i].1)=true;rw[hb];rfl
 have lss:=c.lss hi;have hst:rY F0 k s w g lt cp x l[i]=(if iI F0 (x.1.args k s w g lt cp++gw l[i].2.1 x.2)≠0 then x.1
  else if l[i].2.1.1=1 then {x.1 with m:=(dR F0 (cE k s w g x.1.m l[i].2.1.1 l[i].2.1.2.1 l[i].2.1.2.2.1 l[i].2.1.2.2.2)).L,tk:=x.1.tk++[l[i].2.1]}
  else {x.1 with mark:=l[i].2.1.2.2.1,tk:=x.1.tk++[l[i].2.1]},x.2):=by
  have hb': ¬(l[i].1=true):=by rw[hb];simp
  have e2:x.1.step F0 k s w g lt cp (l[i].1,l[i].2.1,x.2)=if l[i].1=true then {x.1 with T:=dy F0 [.A x.1.m,.D x.1.mark],cu:=x.1.cu++[x.1.tk.length]}
   else if iI F0 (x.1.args k s w g lt cp++gw l[i].2.1 x.2)≠0 then x.1
   else if l[i].2.1.1=1 then {x.1 with m:=(dR F0 (cE k s w g x.1.m l[i].2.1.1 l[i].2.1.2.1 l[i].2.1.2.2.1 l[i].2.1.2.2.2)).L,tk:=x.1.tk++[l[i].2.1]}
   else {x.1 with mark:=l[i].2.1.2.2.1,tk:=x.1.tk++[l[i].2.1]}:=rfl
  have e1:rY F0 k s w g lt cp x l[i]=(x.1.step F0 k s w g lt cp (l[i].1,l[i].2.1,x.2),if l[i].1=true then x.2+((im F0 (x.1.args k s w g lt cp)).L.length:Int)else x.2):=rfl;rw[e1,b9 hb',e2,b9 hb']
 generalize l[i]=y at*
 obtain⟨yb,o,st⟩:=y;have hP:iI F0 (x.1.args k s w g lt cp++gw o x.2)=if X5 o.1 o.2.1 o.2.2.1 o.2.2.2≠0 then X5 o.1 o.2.1 o.2.2.1 o.2.2.2
  else if o.1=1 then(if(nW [.D x.1.mark,.D lt,.D o.2.2.1]).Z then 180 else if dp (cE k s w g x.1.m o.1 o.2.1 o.2.2.1 o.2.2.2)≠0 then dp (cE k s w g x.1.m o.1 o.2.1 o.2.2.1 o.2.2.2)
   else gS (F0 208 [x.1.T,dy F0 [dR F0 (cE k s w g x.1.m o.1 o.2.1 o.2.2.1 o.2.2.2),.D x.1.mark]]).L.length (F0 208 [x.1.T,dy F0 [.A x.1.m,.D x.1.mark]]).L.length cp x.2)
  else if gU x.1.mark lt o.2.2.1≠0 then gU x.1.mark lt o.2.2.1
  else gS (F0 208 [x.1.T,dy F0 [.A x.1.m,og [.D x.1.mark,.D lt,.D o.2.2.1]]]).L.length (F0 208 [x.1.T,dy F0 [.A x.1.m,.D x.1.mark]]).L.length cp x.2:=rfl
 have hacc:iI F0 (x.1.args k s w g lt cp++gw o x.2)=0->X5 o.1 o.2.1 o.2.2.1 o.2.2.2=0/\(o.1=1->(nW [.D x.1.mark,.D lt,.D o.2.2.1]).Z=false/\dp (cE k s w g x.1.m o.1 o.2.1 o.2.2.1 o.2.2.2)=0)/\(o.1≠1->gU x.1.mark lt o.2.2.1=0):=E.acc (o:=o) (st:=x.2);have hev:=di6 c.ok hi20 hv;have hmk:=di7 c.ok hi20 hv;have z14:bZ I di= .A ((x.1.tk++[o]).map cJ):=by show Val.A ((I.w 1513).L++[.A [bZ I (hX 1),bZ I (hX 2),bZ I (hX 3),bZ I (hX 4)]])=_;rw[c.r13,g1,g2,g3,g4,s6];rfl
 have z4:bZ I Z4= .D (X5 o.1 o.2.1 o.2.2.1 o.2.2.2):=by show I.f 701 [bZ I (hX 1),bZ I (hX 2),bZ I (hX 3),bZ I (hX 4)]=_;rw[hf,g1,g2,g3,g4];rfl
 have zk:dB I (ze (zg 6 1505 1) 1)=decide (o.1=1):=by show decide ((bZ I (hX 1)).I=1)=_;rw[g1];rfl
 have zl:dB I (.Q 945 [bc,.Q 942 [aS],zg 6 1505 3])=(nW [.D x.1.mark,.D lt,.D o.2.2.1]).Z:=by show(I.f 945 [I.w 1506,bZ I (.Q 942 [aS]),bZ I (hX 3)]).Z=_;rw[hf,c.r6,c.lt4,g3];rfl
 have z18:dB I (zn Z9 (.Q 739 [aN,be,zg 6 1505 2]))=true:=by rw[dQ];refine and2 c.z9 ?_;show(I.f 739 [I.w 0,I.w 1511,bZ I (hX 2)]).Z=true;rw[hf,c.w0,c.r11,g2];show((!decide (k=3)||decide (x.1.m.length<=24))&&true)=true;by_cases h3:k=3;rw[j0 (E.hH.ok.2.2.2 h3)];simp;rw[j9 h3];rfl
 have z10:bZ I TP= .D (dp (cE k s w g x.1.m o.1 o.2.1 o.2.2.1 o.2.2.2)):=by show I.f 732 [I.w 0,I.w 1,I.w 2,I.w 3,I.w 1511,bZ I (hX 1),bZ I (hX 2),bZ I (hX 3),bZ I (hX 4)]=_;rw[hf,c.w0,c.w1,c.w2,c.w3,c.r11,g1,g2,g3,g4];rfl
 have z11:bZ I iC=dR F0 (cE k s w g x.1.m o.1 o.2.1 o.2.2.1 o.2.2.2):=by show I.f 733 [I.w 0,I.w 1,I.w 2,I.w 3,I.w 1511,bZ I (hX 1),bZ I (hX 2),bZ I (hX 3),bZ I (hX 4)]=_;rw[hf,c.w0,c.w1,c.w2,c.w3,c.r11,g1,g2,g3,g4];exact df7 (X:=FV F0) (λ_=>rfl) _
 have z19:bZ I VJ= .D (gU x.1.mark lt o.2.2.1):=by show I.f 947 [I.w 1506,bZ I (.Q 942 [aS]),bZ I (hX 3)]=_;rw[hf,c.r6,c.lt4,g3];rfl
 have z20:bZ I ji=og [.D x.1.mark,.D lt,.D o.2.2.1]:=by show I.f 946 [I.w 1506,bZ I (.Q 942 [aS]),bZ I (hX 3)]=_;rw[hf,c.r6,c.lt4,g3];rfl
 have l6:(bZ I (zL Z6)).I=((F0 208 [x.1.T,dy F0 [.A x.1.m,.D x.1.mark]]).L.length:Int):=by rw[ej,c.z6];rfl
 have l13:(bZ I Qy).I=((F0 208 [x.1.T,dy F0 [dR F0 (cE k s w g x.1.m o.1 o.2.1 o.2.2.1 o.2.2.2),.D x.1.mark]]).L.length:Int):=by show((I.f 208 [bZ I (fB 1512 1507),I.f 726 [bZ I iC,I.w 1506]]).L.length:Int)=_;rw[hf,hf,z11,c.dT,c.r6];rfl
 have l21:(bZ I UX).I=((F0 208 [x.1.T,dy F0 [.A x.1.m,og [.D x.1.mark,.D lt,.D o.2.2.1]]]).L.length:Int):=by show((I.f 208 [bZ I (fB 1512 1507),I.f 726 [I.w 1511,bZ I ji]]).L.length:Int)=_;rw[hf,hf,z20,c.dT,c.r11];rfl
 have e5:(bZ I bd).I=cp:=by rw[dV,c.w5];rfl
 have e1:(bZ I bz).I=x.2:=by rw[dV,c.r1];rfl
 have n21:o.1=1->dp (cE k s w g x.1.m o.1 o.2.1 o.2.2.1 o.2.2.2)=0->dB I (zn (zn (zb (zL iC) 400) (.Q 431 [iC])) (.Q 491 [iC]))=true/\dB I (zn IG (zb (zL (.Q 726 [iC,bc])) 400))=true:=λh1 h2=>by obtain⟨m',a1,a2⟩:=E.put hv h1 h2 (by omega);have z11':=z11.trans a1;exact⟨Hs hf fe_x z11' a2.ok,SM hf E a2 c.dT z11' c.r6⟩
 have n31:gU x.1.mark lt o.2.2.1=0->dB I (zn IG (zb (zL (.Q 726 [be,ji])) 400))=true:=λh=>by
  have e46:og [.D x.1.mark,.D lt,.D o.2.2.1]= .D o.2.2.1:=by show(if gU x.1.mark lt o.2.2.1=0 then Val.D o.2.2.1 else Val.D x.1.mark)=_;rw[i6 h]
  exact SM hf E E.hH c.dT c.r11 (z20.trans e46)
 have n1:dB I (zn Z0 Z2)=true:=by rw[dQ];exact and2 c.z0 c.z2
 have ef: ∀{X:SX} {n:Int},bZ I X= .D n->n≠0->dB I (ze X 0)=false:=λh h0=>by rw[mV,h];exact j9 h0
 have cf:dB I (.cb false)=false:=rfl;rw[hst];generalize iI F0 (x.1.args k s w g lt cp++gw o x.2)=p at*
 unfold tR;refine Y4 lss (X2 c.leq (Y4 g0 (X2 n1 (X2 c.z3 ?_))));by_cases hp:p=0;obtain⟨q0,qe,qm⟩:=hacc hp;rw[b9 (λh=>h hp)];refine Y0 (sB (by rw[z4,q0];rfl)) ?_;by_cases q1:o.1=1
 obtain⟨ql,qt⟩:=qe q1;obtain⟨n2,n3⟩:=n21 q1 qt;obtain⟨m',a1,a2⟩:=hev q1 hp;rw[i6 q1]at hP⊢;have m1: ¬((nW [.D x.1.mark,.D lt,.D o.2.2.1]).Z=true):=by rw[ql];simp
 rw[b9 (λh=>h q0),b9 m1,b9 (λh=>h qt)]at hP;refine Y4 (zk.trans (j0 q1)) (Y0 (zl.trans ql) (X2 z18 (Y0 (sB (by rw[z10,qt];rfl)) (X2 n2 (X2 n3 (dV3 l13 l6 e5 e1 (hP.symm.trans hp) ?_))))));rw[a1]at z11⊢;exact c.acc a2 z14 c.r6 z11;obtain⟨a3,a2⟩:=hmk q1 hp;rw[b9 q1]at hP⊢;rw[b9 (λh=>h q0),b9 (λh=>h (qm q1))]at hP;refine Y0 (zk.trans (j9 q1)) (Y0 (sB (by rw[z19,qm q1];rfl)) (X2 c.z9 (X2 (n31 (qm q1)) (dV3 l21 l6 e5 e1 (hP.symm.trans hp) ?_))));exact c.acc a2 z14 (z20.trans a3) c.r11;have hp':p≠0:=hp;rw[i6 hp'];by_cases q0:X5 o.1 o.2.1 o.2.2.1 o.2.2.2=0;rw[b9 (λh=>h q0)]at hP;refine Y0 (sB (by rw[z4,q0];rfl)) ?_;by_cases q1:o.1=1;rw[i6 q1]at hP;refine Y4 (zk.trans (j0 q1)) ?_;by_cases ql:(nW [.D x.1.mark,.D lt,.D o.2.2.1]).Z=true;exact Y4 (zl.trans ql) (c.ref cf);rw[b9 ql]at hP;refine Y0 (zl.trans (by simpa using ql)) (X2 z18 ?_);by_cases qt:dp (cE k s w g x.1.m o.1 o.2.1 o.2.2.1 o.2.2.2)=0;rw[b9 (λh=>h qt)]at hP;obtain⟨n2,n3⟩:=n21 q1 qt;exact Y0 (sB (by rw[z10,qt];rfl)) (X2 n2 (X2 n3 (XP l13 l6 e5 e1 (hP▸hp') (c.ref cf))));exact Y4 (Vg (by rw[z10];exact qt)) (c.ref (ef z10 qt));rw[b9 q1]at hP;refine Y0 (zk.trans (j9 q1)) ?_;by_cases qt:gU x.1.mark lt o.2.2.1=0;rw[b9 (λh=>h qt)]at hP;exact Y0 (sB (by rw[z19,qt];rfl)) (X2 c.z9 (X2 (n31 qt) (XP l21 l6 e5 e1 (hP▸hp') (c.ref cf))));exact Y4 (Vg (by rw[z19];exact qt)) (c.ref (ef z19 qt));exact Y4 (Vg (by rw[z4];exact q0)) (c.ref (ef z4 q0))
end
section
variable{I:Opq}(hf: ∀i a,I.f i a=F i a)
include hf
def tu_epochs(hn:(F 979 [I.w 0,I.w 1,I.w 2,I.w 3,I.w 4,I.w 5,I.w 6]).Z=true):W6 UT_epochs I=some (0,[.B true]):=by
 obtain⟨k,s,w,g,lt,cp,l,he,hv⟩:=bP_iff.1 hn;have hw:I.w 0= .D k/\I.w 1= .D s/\I.w 2= .D w/\I.w 3= .D g/\I.w 4= .D lt/\I.w 5= .D cp/\I.w 6= .A (l.map actV):=by simpa using he
 obtain⟨w0,w1,w2,w3,w4,w5,w6⟩:=hw;have hll:(l.map actV).length=l.length:=k7 ..;unfold UT_epochs;have h50:dB I (.Q 950 [bf,bT])=(Ee [.A (l.map actV),.D 20]).Z:=by show(I.f 950 [I.w 6,.D 20]).Z=_;rw[hf,w6];rfl
 cases hfew:(Ee [.A (l.map actV),.D 20]).Z with
 |false=>exact Y4 (by rw[pM,h50,hfew];rfl) rfl
 |true=>
  refine Y0 (xF (h50.trans hfew)) ?_;have hl:l.length<=20:=by have h:(if(ol (l.map actV)).1=1 then false else decide (((l.map actV).length:Int)<=20))=true:=hfew;by_cases q:(ol (l.map actV)).1=1;rw[i6 q]at h;cases h;rw[b9 q]at h;have h:=j7 h;omega
  have h44:dB I (.Q 944 [aN,aO,aT,aU,aS,bd])=BD k s w g lt cp:=by show(I.f 944 [I.w 0,I.w 1,I.w 2,I.w 3,I.w 4,I.w 5]).Z=_;rw[hf,w0,w1,w2,w3,w4,w5];rfl
  cases hcf:BD k s w g lt cp with
  |false=>exact Y4 (by rw[pM,h44,hcf];rfl) rfl
  |true=>
   refine Y0 (xF (h44.trans hcf)) ?_;unfold BD at hcf;obtain⟨hcf,c4⟩:=W4 hcf;obtain⟨hcf,c3⟩:=W4 hcf;obtain⟨hcf,c2⟩:=W4 hcf;obtain⟨hR,c1⟩:=W4 hcf;have hlt:0<=lt/\lt<=1048576:=⟨j7 c1,j7 c2⟩;have hcp:1<=cp/\cp<=4096:=⟨j7 c3,j7 c4⟩;have h41:bZ I (.Q 941 [aS])= .D (-2199023255552):=by show I.f 941 [I.w 4]=_;rw[hf,w4];show Val.D (if pC lt then-2199023255552 else 0)=_;unfold pC;rw[c1,c2];rfl
   have hrun:=di8 hR hlt hcp l hl hv;have rd: ∀i,i<l.length->R9 (I.U 1500 (iO (iB F0 k s w g lt cp (l.take i)) i)) k s w g lt cp i (iB F0 k s w g lt cp (l.take i)) l:=λi hi=>
    ⟨hf,(kl _ _ _ (by omega)).trans w0,(kl _ _ _ (by omega)).trans w1,(kl _ _ _ (by omega)).trans w2,(kl _ _ _ (by omega)).trans w3,(kl _ _ _ (by omega)).trans w4,(kl _ _ _ (by omega)).trans w5,(kl _ _ _ (by omega)).trans w6,
     λj hj=>by rw[cT,i6 (by omega),show 1500+j-1500=j by omega],hrun i (by omega),by omega,hl,hv⟩
   refine Y0 (xF ?_) (X7 (r:=(0,iO (iB F0 k s w g lt cp l) l.length)) ?_ ?_ (d80 rfl));show(I.f 700 [I.w 0,I.w 1,I.w 2,I.w 3]).Z=true;rw[hf,w0,w1,w2,w3];exact hR
   have hs0:X4 I [.cb false,aM,.Q 941 [aS],aM,zL ck,aM,.Q 941 [aS],zL ck,zL ck,zL ck,ck,ck,ck,ck,ck]=iO (iB F0 k s w g lt cp (l.take 0)) 0:=by show [Val.B false,.D 0,bZ I (.Q 941 [aS]),.D 0,.D 0,.D 0,bZ I (.Q 941 [aS]),.D 0,.D 0,.D 0,.A [],.A [],.A [],.A [],.A []]=_;rw[h41];rfl
   show Y9 (λvs=>W6 tR (I.U 1500 vs)) (X4 I [.cb false,aM,.Q 941 [aS],aM,zL ck,aM,.Q 941 [aS],zL ck,zL ck,zL ck,ck,ck,ck,ck,ck])=_;rw[hs0];refine kr (st:=λi=>iO (iB F0 k s w g lt cp (l.take i)) i) (n:=l.length) (λi hi=> ?_) ?_
   have hs:iB F0 k s w g lt cp (l.take (i+1))=rY F0 k s w g lt cp (iB F0 k s w g lt cp (l.take i)) l[i]:=by unfold iB;rw[U3 hi,J5];rfl
   show W6 tR (I.U 1500 (iO (iB F0 k s w g lt cp (l.take i)) i))=some (0,iO (iB F0 k s w g lt cp (l.take (i+1))) (i+1));rw[hs];cases hb:l[i].1 with
   |true=>exact dW1 (rd i hi) hi hb
   |false=>exact eb9 (rd i hi) hi hb
   .show W6 tR (I.U 1500 (iO (iB F0 k s w g lt cp (l.take l.length)) l.length))=_;rw[B1];have v: ∀j,j<15->(I.U 1500 (iO (iB F0 k s w g lt cp l) l.length)).w (1500+j)=(iO (iB F0 k s w g lt cp l) l.length).getD j (.B false):=λj hj=>by rw[cT,i6 (by omega),show 1500+j-1500=j by omega]
    have u6:(I.U 1500 (iO (iB F0 k s w g lt cp l) l.length)).w 6= .A (l.map actV):=(kl _ _ _ (by omega)).trans w6;generalize I.U 1500 (iO (iB F0 k s w g lt cp l) l.length)=aa at*
    generalize iB F0 k s w g lt cp l=x at*
    have v5:aa.w 1505= .D l.length:=v 5 (by omega);unfold tR;refine Y0 ?_ ?_;rw[gE,dV,ej,dV,u6,v5];exact j9 (by show¬(l.length:Int)<((l.map actV).length:Int);rw[hll];omega);show some (1,[aa.w 1500,aa.w 1501,aa.w 1502,aa.w 1503,aa.w 1504,aa.w 1505,aa.w 1506,aa.w 1507,aa.w 1508,aa.w 1509,aa.w 1510,aa.w 1511,aa.w 1512,aa.w 1513,aa.w 1514])=_;rw[show aa.w 1500=_ from v 0 (by omega),show aa.w 1501=_ from v 1 (by omega),show aa.w 1502=_ from v 2 (by omega),show aa.w 1503=_ from v 3 (by omega),show aa.w 1504=_ from v 4 (by omega),v5,show aa.w 1506=_ from v 6 (by omega),show aa.w 1507=_ from v 7 (by omega),show aa.w 1508=_ from v 8 (by omega),show aa.w 1509=_ from v 9 (by omega),show aa.w 1510=_ from v 10 (by omega),show aa.w 1511=_ from v 11 (by omega),show aa.w 1512=_ from v 12 (by omega),show aa.w 1513=_ from v 13 (by omega),show aa.w 1514=_ from v 14 (by omega)];rfl
   show I.f 985 (X4 I _)=_;rw[hf];show cx (0,iO (iB F0 (I.w 0).I (I.w 1).I (I.w 2).I (I.w 3).I (I.w 4).I (I.w 5).I ((I.w 6).L.map BF)) (I.w 6).L.length)=_;rw[w0,w1,w2,w3,w4,w5,w6];show cx (0,iO (iB F0 k s w g lt cp ((l.map actV).map BF)) (l.map actV).length)=_;rw[dV5,hll]
end
def dD5{a b c d e:Val}(h:(F 838 [a,b,c,d,e]).Z=true): ∃k s w g l,a= .D k/\b= .D s/\c= .D w/\d= .D g/\e= .A l/\l.length<=24/\ ∀r∈l,nB r=true:=by obtain⟨g0,hn⟩:=W4 (show(iu a&&(iu b&&(iu c&&(iu d&&(CB e&&decide (e.L.length<=24))))))=true from h);obtain⟨g1,hn⟩:=W4 hn;obtain⟨g2,hn⟩:=W4 hn;obtain⟨g3,hn⟩:=W4 hn;obtain⟨g4,hn⟩:=W4 hn;obtain⟨k,w0⟩:=Io g0;obtain⟨s,w1⟩:=Io g1;obtain⟨w,w2⟩:=Io g2;obtain⟨g,w3⟩:=Io g3;obtain⟨l,w4,ho⟩:=dw3 g4;have hn:=j7 hn;subst w4;exact⟨k,s,w,g,l,w0,w1,w2,w3,rfl,hn,ho⟩
section
variable{I:Opq}(hf: ∀i a,I.f i a=F i a)
include hf
def c_engT(h:(F 838 [I.w 0,I.w 1,I.w 2,I.w 3,I.w 4]).Z=true):W6 T_engT I=some (0,[F 837 [I.w 0,I.w 1,I.w 2,I.w 3,I.w 4],F 836 [I.w 0,I.w 1,I.w 2,I.w 3,I.w 4]]):=by
 obtain⟨k,s,w,g,l,w0,w1,w2,w3,w4,hn,ho⟩:=dD5 h;have h490: ∀a,F0 490 a=FV F0 490 a:=λa=>rfl
 have:=dR4 (X:=FV F0) hf fe_x (λa=>XK (X:=F0) h490 a) (λa=>dR9 (X:=F0) h490 a) w0 w1 w2 w3 w4 hn ho;rw[<-dS0 h490,<-dS1 h490]at this;exact this
