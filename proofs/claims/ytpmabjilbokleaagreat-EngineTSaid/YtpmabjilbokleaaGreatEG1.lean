import Derived.Test.YtpmabjilbokleaaGreatEM1
set_option linter.unusedSimpArgs false
set_option linter.unusedVariables false
namespace Go.Ev.S7
open Go Go.Ev
noncomputable def U3(sec:Bool)(a b:Val):Bool:=wV a b
theorem EZ(sec:Bool)(a:Val):U3 sec a a=false:=aI0 _
theorem EY{sec:Bool}{a b:Val}(h:U3 sec a b=true):U3 sec b a=false:=Xb h
theorem Z7{sec:Bool}{a b c:Val}(h1:U3 sec a b=false)(h2:U3 sec b c=false):U3 sec a c=false:=aI1 h1 h2
noncomputable def dW(sec:Bool)(x:Val):List Val->List Val
 | []=>[x]
 |y::r=>if U3 sec x y then y::dW sec x r else x::y::r
noncomputable def ju(sec:Bool)(l:List Val):List Val:=l.foldl (λs x=>dW sec x s) []
noncomputable def srt(sec:Bool)(l:List Val):List Val:=(ju sec l).reverse
theorem Xa(sec:Bool)(l:List Val)(x:Val):ju sec (l++[x])=dW sec x (ju sec l):=by simp[ju]
theorem vB(sec:Bool)(x:Val): ∀s:List Val,(dW sec x s).Perm (x::s)
 | []=> .refl _
 |y::r=>by
  unfold dW;split
  .exact((vB sec x r).cons y).trans (.swap x y r)
  rfl
theorem QK(sec:Bool)(l:List Val): ∀s:List Val,(l.foldl (λs x=>dW sec x s) s).Perm (l++s):=by
 induction l with
 |nil=>simp_all
 |cons x l ih=>
  intro s;exact(ih _).trans (((vB sec x s).append_left l).trans List.perm_middle)
theorem srt_perm(sec:Bool)(l:List Val):(srt sec l).Perm l:=by
 have:=QK sec l [];rw[p9]at this;exact(List.reverse_perm _).trans this
theorem srt_len(sec:Bool)(l:List Val):(srt sec l).length=l.length:=(srt_perm sec l).length_eq
theorem Bt(sec:Bool)(x:Val): ∀s:List Val,s.Pairwise (λa b=>U3 sec a b=false)->(dW sec x s).Pairwise (λa b=>U3 sec a b=false)
 | [],_=>by simp[dW]
 |y::r,h=>by
  unfold dW;rw[y9]at h;split
  .rename_i hl;rw[y9];refine⟨λz hz=> ?_,Bt sec x r h.2⟩;rcases m7.1 ((vB sec x r).mem_iff.1 hz)with rfl|hz
   .exact EY hl
   .exact h.1 z hz
  .rename_i hl;have hl:U3 sec x y=false:=by simpa using hl
   rw[y9,y9];refine⟨λz hz=> ?_,h⟩;rcases m7.1 hz with rfl|hz
   .exact hl
   .exact Z7 hl (h.1 z hz)
theorem Kr(sec:Bool)(l:List Val): ∀s:List Val,s.Pairwise (λa b=>U3 sec a b=false)->(l.foldl (λs x=>dW sec x s) s).Pairwise (λa b=>U3 sec a b=false):=by
 induction l with
 |nil=>grind
 |cons x l ih=>grind[Bt]
theorem rI(sec:Bool)(l:List Val):(srt sec l).Pairwise (λa b=>U3 sec b a=false):=by
 unfold srt;rw[List.pairwise_reverse];exact Kr sec l [] .nil
noncomputable def eqv(sec:Bool)(x y:Val):Bool:= !U3 sec x y&& !U3 sec y x
def Sd(sec:Bool)(l:List Val):Prop:=l.Pairwise (λa b=>U3 sec b a=false)
def Cl(sec:Bool)(l q:List Val):Prop:= ∀x,l.filter (eqv sec x)=q.filter (eqv sec x)
theorem bO4(sec:Bool)(x:Val):eqv sec x x=true:=by simp[eqv,EZ]
theorem eqv_iff{sec:Bool}{x y:Val}:eqv sec x y=true↔U3 sec x y=false/\U3 sec y x=false:=by simp[eqv]
theorem Zp{sec:Bool}{x y z:Val}(h:U3 sec y z=true)(h1:eqv sec x y=true):eqv sec x z=false:=by
 grind[eqv_iff,Z7]
theorem Cl.refl(sec:Bool)(l:List Val):Cl sec l l:=λ_=>rfl
theorem Cl.symm{sec:Bool}{l q:List Val}(h:Cl sec l q):Cl sec q l:=λx=>(h x).symm
theorem Cl.trans{sec:Bool}{l q r:List Val}(h:Cl sec l q)(h2:Cl sec q r):Cl sec l r:=λx=>(h x).trans (h2 x)
theorem Cl.app{sec:Bool}{a b c d:List Val}(h:Cl sec a b)(h2:Cl sec c d):Cl sec (a++c) (b++d):=λx=>by
 rw[C5,C5,h x,h2 x]
theorem PM{sec:Bool}{A B:List Val}(h: ∀a∈A,∀b∈B,U3 sec b a=true):Cl sec (A++B) (B++A):=λx=>by
 rw[C5,C5];cases hA:A.filter (eqv sec x)with
 |nil=>simp
 |cons a l=>
  have ha:a∈A.filter (eqv sec x):=by rw[hA];simp
  have hB:B.filter (eqv sec x)=[]:=by
   rw[O9];intro b hb hx;have:=Zp (h a (n7.1 ha).1 b hb) hx;rw[(n7.1 ha).2]at this;cases this
  rw[hB];simp
theorem Ft{sec:Bool}{l q:List Val}(h:Cl sec l q){x:Val}(hx:x∈l):x∈q:=by
 have:x∈l.filter (eqv sec x):=n7.2 ⟨hx,bO4 sec x⟩;rw[h x]at this;grind
theorem RI{sec:Bool}: ∀{l q:List Val},Sd sec l->Sd sec q->Cl sec l q->l=q
 | [],[],_,_,_=>rfl
 | [],y::q,_,_,h=>by have:=Ft h.symm (x:=y) (by simp);cases this
 |x::l,[],_,_,h=>by have:=Ft h (x:=x) (by simp);cases this
 |x::l,y::q,h1,h2,h=>by
  have g1:=y9.1 h1;have g2:=y9.1 h2;have e1:U3 sec x y=false:=by
   rcases m7.1 (Ft h (x:=x) (by simp))with e|e
   .rw[e];exact EZ sec y
   .exact g2.1 x e
  have e2:U3 sec y x=false:=by
   rcases m7.1 (Ft h.symm (x:=y) (by simp))with e|e
   .rw[e];exact EZ sec x
   .exact g1.1 y e
  have hx:=h x;rw[x7,e8 (bO4 sec x),x7,e8 (eqv_iff.2 ⟨e1,e2⟩)]at hx;injection hx with hxy _
  congr 1;refine RI g1.2 g2.2 λz=> ?_
  have hz:=h z;grind
theorem XL{sec:Bool}(x z:Val): ∀s:List Val,(dW sec x s).filter (eqv sec z)=(x::s).filter (eqv sec z)
 | []=>rfl
 |y::r=>by
  unfold dW;split
  .rw[x7,XL x z r,x7,x7,x7];grind[eqv,Zp]
  .rfl
theorem TD{sec:Bool}(z:Val): ∀(l s:List Val),(l.foldl (λs x=>dW sec x s) s).filter (eqv sec z)=(l.reverse++s).filter (eqv sec z)
 | [],s=>rfl
 |x::l,s=>by
  rw[List.foldl_cons,TD z l,C5,XL,<-C5];simp
theorem CL(sec:Bool)(l:List Val):Cl sec (srt sec l) l:=λz=>by
 unfold srt;rw[List.filter_reverse];have:=TD (sec:=sec) z l [];unfold ju;rw[this,p9,List.filter_reverse,List.reverse_reverse]
theorem Dp{sec:Bool}{l q:List Val}(hs:Sd sec q)(hc:Cl sec q l):srt sec l=q:=RI (rI sec l) hs ((CL sec l).trans hc.symm)
theorem vA{sec:Bool}{l:List Val}(hs:Sd sec l):srt sec l=l:=Dp hs (Cl.refl sec l)
theorem VI{sec:Bool}{l:List Val}{x:Val}:x∈srt sec l↔x∈l:=(srt_perm sec l).mem_iff
def aU(l:List Val)(a b:Nat):List Val:=(l.take b).drop a
theorem ic{l:List Val}{a b:Nat}(h:b<=l.length):(aU l a b).length=b-a:=by
 grind[aU,List.length_drop,List.length_take]
theorem fO{l:List Val}{a m b:Nat}(h1:a<=m)(h2:m<=b):aU l a m++aU l m b=aU l a b:=by
 unfold aU;have e:l.take m=(l.take b).take m:=by rw[List.take_take,A0 h2]
 rw[e];generalize l.take b=q;have:q.drop m=(q.drop a).drop (m-a):=by rw[J9,show a+(m-a)=m by omega]
 rw[List.drop_take,this,u5]
theorem Sm{l:List Val}{a b:Nat}(h1:a<=b):l=l.take a++aU l a b++l.drop b:=by
 have e:l.take a=aU l 0 a:=by rfl
 rw[e,fO (p7 a) h1];simp[aU]
theorem qx{P U Q:List Val}{a b:Nat}(ha:a=P.length)(hb:b=P.length+U.length):aU (P++U++Q) a b=U:=by
 unfold aU;grind
theorem PB{P Q:List Val}{x:Val}{k:Nat}(h:k=P.length):aO (P++x::Q) k=x:=by
 simp_all[aO,j9,l9,i6,Nat.sub_self]
theorem d71{P Q:List Val}{x y:Val}{k:Nat}(h:k=P.length):(P++x::Q).set k y=P++y::Q:=by
 simp_all
theorem WK{l:List Val}{a b k:Nat}(h1:b<=l.length)(h2:a+k<b):aO (aU l a b) k=aO l (a+k):=by
 unfold aU aO;grind
theorem Co{l:List Val}{k:Nat}(h:k<l.length):aO l k∈l:=by
 unfold aO;rw[j9,k8 h];exact B6 h
theorem d72{l:List Val}{x:Val}(h:x∈l): ∃k,k<l.length/\x=aO l k:=by
 obtain⟨k,hk,rfl⟩:=A1 h;refine⟨k,hk,?_⟩;unfold aO;rw[j9,k8 hk];rfl
theorem rO{l:List Val}{a b:Nat}{x:Val}(hb:b<=l.length)(h:x∈aU l a b): ∃k,a<=k/\k<b/\x=aO l k:=by
 grind[d72,ic,WK]
def eX(l:List Val)(i j:Nat):List Val:=(l.set i (aO l j)).set j (aO l i)
theorem Ch(l:List Val)(i j:Nat):(eX l i j).length=l.length:=by simp[eX]
theorem HH{P M Q:List Val}{x y:Val}{i j:Nat}(hi:i=P.length)(hj:j=P.length+1+M.length):eX (P++x::(M++y::Q)) i j=P++y::(M++x::Q):=by
 grind[aO,PB,eX,d71]
theorem OY{l:List Val}{i j:Nat}(h:i≠j):eX l i j=eX l j i:=by
 grind[eX,List.set_comm]
def gj(l:List Val)(a b:Nat):Nat->List Val
 |0=>l
 |n+1=>eX (gj l a b n) (a+n) (b+n)
theorem qX(l:List Val)(a b:Nat): ∀n,(gj l a b n).length=l.length
 |0=>rfl
 |n+1=>by rw[gj,Ch,qX l a b n]
theorem Rn{l:List Val}{n:Nat}(h:l.length=n+1): ∃q x,l=q++[x]/\q.length=n:=by
 rcases List.eq_nil_or_concat l with e|⟨q,x,e⟩
 .rw[e]at h;cases h
 grind
theorem Ic: ∀(n:Nat) {P A X B Q:List Val} {a b:Nat},A.length=n->B.length=n->a=P.length->b=P.length+n+X.length->gj (P++(A++(X++(B++Q)))) a b n=P++(B++(X++(A++Q)))
 |0,P,A,X,B,Q,a,b,hA,hB,_,_=>by
  rw[A2.1 hA,A2.1 hB];rfl
 |n+1,P,A,X,B,Q,a,b,hA,hB,ha,hb=>by
  obtain⟨A',x,rfl,h1⟩:=Rn hA;obtain⟨B',y,rfl,h2⟩:=Rn hB;have ih:=Ic n (P:=P) (A:=A') (X:=x::X) (B:=B') (Q:=y::Q) (a:=a) (b:=b) h1 h2 ha (by simp;omega);grind[gj,HH]
def tJ(l:List Val)(a m b:Nat):List Val:=l.take a++(aU l m b++(aU l a m++l.drop b))
theorem e03{l:List Val}{a m b:Nat}(h1:a<=m)(h2:m<=b):l=l.take a++(aU l a m++(aU l m b++l.drop b)):=by
 grind[Sm,Nat.le_trans,fO]
theorem yW{l:List Val}{a b:Nat}(h1:a<=b):l=l.take a++(aU l a b++l.drop b):=by
 grind[Sm]
theorem d74{P U V Q:List Val}{a m b:Nat}(ha:a=P.length)(hm:m=P.length+U.length)(hb:b=P.length+U.length+V.length):tJ (P++(U++(V++Q))) a m b=P++(V++(U++Q)):=by
 have e1:aU (P++(U++(V++Q))) a m=U:=by
  rw[show P++(U++(V++Q))=P++U++(V++Q) by simp];exact qx ha hm
 have e2:aU (P++(U++(V++Q))) m b=V:=by
  rw[show P++(U++(V++Q))=(P++U)++V++Q by simp];exact qx (by simp;omega) (by simp;omega)
 unfold tJ;rw[e1,e2,List.take_left' ha.symm,show P++(U++(V++Q))=(P++(U++V))++Q by simp,List.drop_left' (by simp;omega)]
def fV(m:Nat):Nat->Nat->Nat->List Val->Nat×List Val
 |0,i,_,l=>(i,l)
 |n+1,i,j,l=>if i=j then(i,l)else if j<i then fV m n (i-j) j (gj l (m-i) m j)else fV m n i (j-i) (gj l (m-i) (m+j-i) i)
theorem PD(m:Nat): ∀(n i j:Nat) (P U V Q:List Val),i+j<=n+1->0<i->0<j->U.length=i->V.length=j->m=P.length+i->
 let r:=fV m n i j (P++(U++(V++Q)))
 0<r.1/\r.1<=i/\r.1<=j/\r.2.length=(P++(U++(V++Q))).length/\gj r.2 (m-r.1) m r.1=P++(V++(U++Q))
 |0,i,j,P,U,V,Q,hn,hi,hj,hU,hV,hm=>by omega
 |n+1,i,j,P,U,V,Q,hn,hi,hj,hU,hV,hm=>by
  unfold fV;by_cases h1:i=j
  .have:=Ic i (P:=P) (A:=U) (X:=[]) (B:=V) (Q:=Q) (a:=m-i) (b:=m) hU (by omega) (by omega) (by omega);grind
  .by_cases h2:j<i
   .obtain⟨U1,U2,rfl,hU1⟩: ∃U1 U2,U=U1++U2/\U1.length=j:=⟨U.take j,U.drop j,(u5 j U).symm,by rw[k7];omega⟩;have hU2:U2.length=i-j:=by rw[l5]at hU;omega
    have e:=Ic j (P:=P) (A:=U1) (X:=U2) (B:=V) (Q:=Q) (a:=m-i) (b:=m) hU1 hV (by omega) (by omega);have ih:=PD m n (i-j) j (P++V) U2 U1 Q (by omega) (by omega) hj hU2 hU1 (by simp;omega);grind
   .obtain⟨V1,V2,rfl,hV1⟩: ∃V1 V2,V=V1++V2/\V1.length=j-i:=⟨V.take (j-i),V.drop (j-i),(u5 (j-i) V).symm,by rw[k7];omega⟩;have hV2:V2.length=i:=by rw[l5]at hV;omega
    have e:=Ic i (P:=P) (A:=U) (X:=V1) (B:=V2) (Q:=Q) (a:=m-i) (b:=m+j-i) hU hV2 (by omega) (by omega);have ih:=PD m n i (j-i) P V2 V1 (U++Q) (by omega) hi (by omega) hV2 hV1 hm;grind
def jK(l:List Val)(a:Nat):Nat->List Val
 |0=>l
 |n+1=>eX (jK l a n) (a+n) (a+n+1)
theorem GC(l:List Val)(a:Nat): ∀n,(jK l a n).length=l.length
 |0=>rfl
 |n+1=>by rw[jK,Ch,GC l a n]
theorem cS4: ∀(n:Nat) {P Y Q:List Val} {x:Val} {a:Nat},Y.length=n->a=P.length->jK (P++x::(Y++Q)) a n=P++(Y++x::Q)
 |0,P,Y,Q,x,a,hY,_=>by rw[A2.1 hY];rfl
 |n+1,P,Y,Q,x,a,hY,ha=>by
  obtain⟨Y',y,rfl,h1⟩:=Rn hY;have ih:=cS4 n (P:=P) (Y:=Y') (Q:=y::Q) (x:=x) (a:=a) h1 ha;rw[show P++x::((Y'++[y])++Q)=P++x::(Y'++y::Q) by simp,jK,ih,show P++(Y'++x::y::Q)=(P++Y')++x::([]++y::Q) by simp,HH (by grind) (by grind)];simp
def jn(l:List Val)(m:Nat):Nat->List Val
 |0=>l
 |n+1=>eX (jn l m n) (m-n-1) (m-n)
theorem Ee(l:List Val)(m:Nat): ∀n,(jn l m n).length=l.length
 |0=>rfl
 |n+1=>by rw[jn,Ch,Ee l m n]
theorem Zz: ∀(n:Nat) {P Y Q:List Val} {x:Val} {m:Nat},Y.length=n->m=P.length+n->jn (P++(Y++x::Q)) m n=P++x::(Y++Q)
 |0,P,Y,Q,x,m,hY,_=>by rw[A2.1 hY];rfl
 |n+1,P,Y,Q,x,m,hY,hm=>by
  cases Y with
  |nil=>cases hY
  |cons y Y'=>
   have ih:=Zz n (P:=P++[y]) (Y:=Y') (Q:=Q) (x:=x) (m:=m) (by simpa using hY) (by simp;omega);grind[jn,HH]
def bs(T:Nat->Bool):Nat->Nat->Nat->Nat
 |0,i,_=>i
 |n+1,i,j=>if i<j then(if T ((i+j)/2)then bs T n ((i+j)/2+1) j else bs T n i ((i+j)/2))else i
theorem BU{T:Nat->Bool}{lo hi:Nat}(mono: ∀c d,lo<=c->c<=d->d<hi->T d=true->T c=true): ∀n i j,lo<=i->i<=j->j<=hi->j-i<=n->(∀c,lo<=c->c<i->T c=true)->(∀c,j<=c->c<hi->T c=false)->
 i<=bs T n i j/\bs T n i j<=j/\(∀c,lo<=c->c<bs T n i j->T c=true)/\ ∀c,bs T n i j<=c->c<hi->T c=false
 |0,i,j,h1,h2,h3,h4,h5,h6=>by
  have:i=j:=by omega
  subst this;exact⟨i6 _,i6 _,h5,h6⟩
 |n+1,i,j,h1,h2,h3,h4,h5,h6=>by
  unfold bs;by_cases hij:i<j
  .rw[e8 hij];by_cases hT:T ((i+j)/2)=true
   .rw[e8 hT];obtain⟨a,b,c⟩:=BU mono n ((i+j)/2+1) j (by omega) (by omega) h3 (by omega) (λc hc1 hc2=>mono c ((i+j)/2) hc1 (by omega) (by omega) hT) h6;exact⟨by omega,b,c⟩
   .rw[b9 hT];obtain⟨a,b,c⟩:=BU mono n i ((i+j)/2) h1 (by omega) (by omega) (by omega) h5 (λc hc1 hc2=>by
     rw[<-A3];exactλhc=>hT (mono _ c (by omega) hc1 hc2 hc))
    exact⟨a,by omega,c⟩
  grind
theorem Nl{step:List Val->Option (Nat×List Val)}{T:Nat->Bool}{lo hi:Nat}(h1: ∀i j:Nat,lo<=i->i<j->j<=hi->step [.vi i,.vi j]=some (0,if T ((i+j)/2)then [.vi ((i+j)/2+1:Nat),.vi j]else [.vi i,.vi ((i+j)/2:Nat)]))(h2: ∀i:Nat,step [.vi i,.vi i]=some (1,[.vi i,.vi i])):
 ∀(n i j:Nat),lo<=i->i<=j->j<=hi->j-i<=n->Iter step [.vi i,.vi j] 0 [.vi (bs T n i j),.vi (bs T n i j)]
 |0,i,j,a,b,c,d=>by
  have:i=j:=by omega
  subst this;exact .out (h2 i)
 |n+1,i,j,a,b,c,d=>by
  unfold bs;by_cases hij:i<j
  .rw[e8 hij];have e:=h1 i j a hij c;by_cases hT:T ((i+j)/2)=true
   .rw[e8 hT]at e⊢;exact .more e (Nl h1 h2 n ((i+j)/2+1) j (by omega) (by omega) c (by omega))
   .rw[b9 hT]at e⊢;exact .more e (Nl h1 h2 n i ((i+j)/2) a (by omega) (by omega) (by omega))
  .rw[b9 hij];have:i=j:=by omega
   subst this;exact .out (h2 i)
end Go.Ev.S7
namespace Go.Ev.S7
open Go Go.Ev
noncomputable def bg(sec:Bool)(l:List Val)(a b:Nat):List Val:=l.take a++(srt sec (aU l a b)++l.drop b)
theorem Bp(sec:Bool){l:List Val}{a b:Nat}(h:a<=b):(bg sec l a b).Perm l:=by
 conv=>rhs;rw[yW (l:=l) h]
 exact((srt_perm sec _).append_right _).append_left _
theorem RO(sec:Bool){l:List Val}{a b:Nat}(h:a<=b):(bg sec l a b).length=l.length:=(Bp sec h).length_eq
theorem TO{sec:Bool}{P U Q:List Val}{a b:Nat}(ha:a=P.length)(hb:b=P.length+U.length):bg sec (P++(U++Q)) a b=P++(srt sec U++Q):=by
 grind[aU,qx,bg,List.take_left',List.drop_left']
theorem rR{sec:Bool}{A B:List Val}:Sd sec (A++B)↔Sd sec A/\Sd sec B/\ ∀a∈A,∀b∈B,U3 sec b a=false:=List.pairwise_append
theorem qp{sec:Bool}{l:List Val}{a b i j:Nat}(h:Sd sec (aU l a b))(hb:b<=l.length)(h1:a<=i)(h2:i<=j)(h3:j<b):U3 sec (aO l j) (aO l i)=false:=by
 rcases k5 i j with hij|hij
 .unfold Sd at h;rw[M3]at h;have hl:=ic (l:=l) (a:=a) hb;have:=h (i-a) (j-a) (by omega) (by omega) (by omega);have e: ∀k (hk:k<(aU l a b).length),(aU l a b)[k]=aO l (a+k):=λk hk=>by
   rw[<-WK hb (by omega)];unfold aO;rw[j9,k8 hk];rfl
  rw[e,e,show a+(i-a)=i by omega,show a+(j-a)=j by omega]at this;exact this
 grind[EZ]
theorem DP{sec:Bool}{l:List Val}{a b c d:Nat}(h:Sd sec (aU l a b))(h1:a<=c)(h2:c<=d)(h3:d<=b):Sd sec (aU l c d):=by
 rw[<-fO h1 (n8 h2 h3),<-fO h2 h3]at h;grind[rR]
theorem Rf{l:List Val}{a:Nat}(h:a<l.length):aU l a (a+1)=[aO l a]:=by
 unfold aU;rw[M5,J8,I6 (by grind)];unfold aO;rw[k7,show a-min a l.length=0 by omega,j9,k8 h];rfl
theorem OV{l:List Val}{a b:Nat}(h:b<=a):aU l a b=[]:=by
 grind[aU,List.drop_eq_nil_of_le,List.length_take]
theorem dJ7{sec:Bool}{a b c:Val}(h1:U3 sec a b=true)(h2:U3 sec c b=false):U3 sec a c=true:=by
 grind[U3,Z7]
theorem Us{sec:Bool}{a b c:Val}(h1:U3 sec b a=false)(h2:U3 sec b c=true):U3 sec a c=true:=by
 grind[U3,Z7]
theorem d75{sec:Bool}{l:List Val}{a b:Nat}(h1:a+1<b)(hb:b<=l.length)(hs:Sd sec (aU l (a+1) b)):
 a+1<=bs (λh=>U3 sec (aO l h) (aO l a)) (b-(a+1)) (a+1) b/\bs (λh=>U3 sec (aO l h) (aO l a)) (b-(a+1)) (a+1) b<=b/\
  jK l a (bs (λh=>U3 sec (aO l h) (aO l a)) (b-(a+1)) (a+1) b-1-a)=bg sec l a b:=by
 have sp:=BU (T:=λh=>U3 sec (aO l h) (aO l a)) (lo:=a+1) (hi:=b) (λc d hc hcd hd hT=>Us (qp hs hb hc hcd hd) hT) (b-(a+1)) (a+1) b (i6 _) (by omega) (i6 _) (i6 _) (λc _ _=>by omega) (λc _ _=>by omega);generalize bs (λh=>U3 sec (aO l h) (aO l a)) (b-(a+1)) (a+1) b=r at sp⊢;obtain⟨r1,r2,r3,r4⟩:=sp;have e1:aU l a b=aO l a::(aU l (a+1) r++aU l r b):=by
  rw[fO r1 r2,<-fO (a:=a) (m:=a+1) (b:=b) (by omega) (by omega),Rf (by omega)];rfl
 have e2:l=l.take a++aO l a::(aU l (a+1) r++(aU l r b++l.drop b)):=by
  conv=>lhs;rw[yW (l:=l) (a:=a) (b:=b) (by omega),e1]
  simp
 have hA: ∀x∈aU l (a+1) r,U3 sec x (aO l a)=true:=λx hx=>by
  obtain⟨k,k1,k2,rfl⟩:=rO (by omega) hx;exact r3 k k1 k2
 have hB: ∀x∈aU l r b,U3 sec x (aO l a)=false:=λx hx=>by
  obtain⟨k,k1,k2,rfl⟩:=rO hb hx;exact r4 k k1 k2
 have hAB:=rR.1 (show Sd sec (aU l (a+1) r++aU l r b) by rw[fO r1 r2];exact hs);have e3:srt sec (aU l a b)=aU l (a+1) r++aO l a::aU l r b:=by
  refine Dp (rR.2 ⟨hAB.1,y9.2 ⟨hB,hAB.2.1⟩,λx hx y hy=> ?_⟩) ?_
  .rcases m7.1 hy with rfl|hy
   .exact EY (hA x hx)
   .exact hAB.2.2 x hx y hy
  .rw[e1];have:=(PM (sec:=sec) (A:=[aO l a]) (B:=aU l (a+1) r) (λx hx y hy=>by rw[m9.1 hx];exact hA y hy)).symm.app (Cl.refl sec (aU l r b));simpa using this
 grind[cS4,aU,aO,ic,List.length_take,bg]
theorem d76{sec:Bool}{l:List Val}{a m:Nat}(h1:a<m)(hb:m+1<=l.length)(hs:Sd sec (aU l a m)):
 a<=bs (λh=> !U3 sec (aO l m) (aO l h)) (m-a) a m/\bs (λh=> !U3 sec (aO l m) (aO l h)) (m-a) a m<=m/\
  jn l m (m-bs (λh=> !U3 sec (aO l m) (aO l h)) (m-a) a m)=bg sec l a (m+1):=by
 have sp:=BU (T:=λh=> !U3 sec (aO l m) (aO l h)) (lo:=a) (hi:=m) (λc d hc hcd hd hT=>by
  simp at hT⊢;exact Z7 hT (qp hs (by omega) hc hcd hd)) (m-a) a m (i6 _) (by omega) (i6 _) (i6 _) (λc _ _=>by omega) (λc _ _=>by omega)
 generalize bs (λh=> !U3 sec (aO l m) (aO l h)) (m-a) a m=r at sp⊢;obtain⟨r1,r2,r3,r4⟩:=sp;have e1:aU l a (m+1)=aU l a r++(aU l r m++[aO l m]):=by
  rw[<-y8,fO r1 r2,<-fO (a:=a) (m:=m) (b:=m+1) (by omega) (by omega),Rf (by omega)]
 have e2:l=(l.take a++aU l a r)++(aU l r m++aO l m::l.drop (m+1)):=by
  conv=>lhs;rw[yW (l:=l) (a:=a) (b:=m+1) (by omega),e1]
  simp
 have hA: ∀x∈aU l a r,U3 sec (aO l m) x=false:=λx hx=>by
  obtain⟨k,k1,k2,rfl⟩:=rO (by omega) hx;simpa using r3 k k1 k2
 have hB: ∀x∈aU l r m,U3 sec (aO l m) x=true:=λx hx=>by
  obtain⟨k,k1,k2,rfl⟩:=rO (by omega) hx;simpa using r4 k k1 k2
 have hAB:=rR.1 (show Sd sec (aU l a r++aU l r m) by rw[fO r1 r2];exact hs);have e3:srt sec (aU l a (m+1))=aU l a r++aO l m::aU l r m:=by
  refine Dp (rR.2 ⟨hAB.1,y9.2 ⟨λy hy=>EY (hB y hy),hAB.2.1⟩,λx hx y hy=> ?_⟩) ?_
  .rcases m7.1 hy with rfl|hy
   .exact hA x hx
   .exact hAB.2.2 x hx y hy
  .rw[e1];have:=(Cl.refl sec (aU l a r)).app (PM (sec:=sec) (A:=aU l r m) (B:=[aO l m]) (λx hx y hy=>by rw[m9.1 hy];exact hB x hx)).symm;simpa using this
 grind[Zz,aU,aO,ic,List.length_append,List.length_take,bg]
theorem d77{sec:Bool}{l:List Val}{a m b mid lo hi r:Nat}(h1:a<m)(h2:m<b)(hb:b<=l.length)(hs1:Sd sec (aU l a m))(hs2:Sd sec (aU l m b))(hmid:mid=(a+b)/2)
 (hlh:mid<m/\lo=mid+m-b/\hi=mid\/m<=mid/\lo=a/\hi=m) (hr:r=bs (λc=> !U3 sec (aO l (mid+m-1-c)) (aO l c)) (hi-lo) lo hi):
 a<=r/\r<=m/\r<=mid/\mid+m-r<=b/\ ∃l1 l2,(r<m->m<mid+m-r->tJ l r m (mid+m-r)=l1)/\(¬(r<m/\m<mid+m-r)->l=l1)/\l1.Perm l/\Sd sec (aU l1 a r)/\Sd sec (aU l1 r mid)/\
  (a<r->r<mid->bg sec l1 a mid=l2)/\(¬(a<r/\r<mid)->l1=l2)/\l2.Perm l/\Sd sec (aU l2 mid (mid+m-r))/\Sd sec (aU l2 (mid+m-r) b)/\
  (mid<mid+m-r->mid+m-r<b->bg sec l2 mid b=bg sec l a b)/\(¬(mid<mid+m-r/\mid+m-r<b)->l2=bg sec l a b):=by
 have hle:lo<=hi:=by omega
 have sp:=BU (T:=λc=> !U3 sec (aO l (mid+m-1-c)) (aO l c)) (lo:=lo) (hi:=hi) (λc d hc hcd hd hT=>by
  simp at hT⊢;have g1:=qp hs1 (by omega) (show a<=c by omega) hcd (by omega);have g2:=qp hs2 hb (show m<=mid+m-1-d by omega) (show mid+m-1-d<=mid+m-1-c by omega) (by omega);exact Z7 g2 (Z7 hT g1)) (hi-lo) lo hi (i6 _) hle (i6 _) (i6 _) (λc _ _=>by omega) (λc _ _=>by omega)
 rw[<-hr]at sp;obtain⟨r1,r2,r3,r4⟩:=sp;have q1:a<=r:=by omega
 have q2:r<=m:=by omega
 have q3:r<=mid:=by omega
 have q4:mid+m-r<=b:=by omega
 refine⟨q1,q2,q3,q4,?_⟩;obtain⟨e,he⟩: ∃e,e=mid+m-r:=⟨_,rfl⟩;rw[<-he]at q4⊢;have q5:m<=e:=by omega
 have F1: ∀x∈aU l r m,∀y∈aU l m e,U3 sec y x=true:=λx hx y hy=>by
  obtain⟨i,i1,i2,rfl⟩:=rO (by omega) hx;obtain⟨j,j1,j2,rfl⟩:=rO (by omega) hy;have hT:=r4 r (i6 _) (by omega);simp at hT;rw[show mid+m-1-r=e-1 by omega]at hT;have g1:=qp hs2 hb j1 (show j<=e-1 by omega) (by omega);have g2:=qp hs1 (by omega) q1 i1 i2;exact dJ7 (Us g1 hT) g2
 have F2: ∀x∈aU l a r,∀y∈aU l e b,U3 sec y x=false:=λx hx y hy=>by
  obtain⟨i,i1,i2,rfl⟩:=rO (by omega) hx;obtain⟨j,j1,j2,rfl⟩:=rO (by omega) hy;have hT:=r3 (r-1) (by omega) (by omega);simp at hT;rw[show mid+m-1-(r-1)=e by omega]at hT;have g1:=qp hs2 hb (show m<=e by omega) j1 j2;have g2:=qp hs1 (by omega) i1 (show i<=r-1 by omega) (by omega);exact Z7 g1 (Z7 hT g2)
 have u1s:=DP hs1 (i6 a) q1 q2;have u2s:=DP hs1 q1 q2 (i6 m);have v1s:=DP hs2 (i6 m) q5 q4;have v2s:=DP hs2 q5 q4 (i6 b);have F3:=(rR.1 (show Sd sec (aU l a r++aU l r m) by rw[fO q1 q2];exact hs1)).2.2;have F4:=(rR.1 (show Sd sec (aU l m e++aU l e b) by rw[fO q5 q4];exact hs2)).2.2;have lP:(l.take a).length=a:=by rw[k7];omega
 have l1:=ic (l:=l) (a:=a) (b:=r) (by omega);have l2:=ic (l:=l) (a:=r) (b:=m) (by omega);have l3:=ic (l:=l) (a:=m) (b:=e) (by omega);have l4:=ic (l:=l) (a:=e) (b:=b) (by omega);have hl:l=l.take a++(aU l a r++(aU l r m++(aU l m e++(aU l e b++l.drop b)))):=by
  conv=>lhs;rw[yW (l:=l) (a:=a) (b:=b) (by omega),<-fO (a:=a) (m:=m) (b:=b) (by omega) (by omega),<-fO q1 q2,<-fO q5 q4]
  simp
 have hsrt:bg sec l a b=l.take a++(srt sec (aU l a r++aU l m e)++(srt sec (aU l r m++aU l e b)++l.drop b)):=by
  unfold bg;rw[<-y8 (srt sec (aU l a r++aU l m e))];congr 2;refine Dp (rR.2 ⟨rI sec _,rI sec _,λx hx y hy=> ?_⟩) ?_
  .rcases t7.1 (VI.1 hx)with hx|hx<;>rcases t7.1 (VI.1 hy)with hy|hy
   .exact F3 x hx y hy
   .exact F2 x hx y hy
   .exact EY (F1 y hy x hx)
   .exact F4 x hx y hy
  .refine((CL sec _).app (CL sec _)).trans ?_;have:aU l a b=aU l a r++((aU l r m++aU l m e)++aU l e b):=by
    rw[<-fO (a:=a) (m:=m) (b:=b) (by omega) (by omega),<-fO q1 q2,<-fO q5 q4];simp
   rw[this];have:=(Cl.refl sec (aU l a r)).app ((PM F1).symm.app (Cl.refl sec (aU l e b)));simpa using this
 generalize hP:l.take a=P at hl hsrt lP;generalize hu1:aU l a r=u1 at*
 generalize hu2:aU l r m=u2 at*
 generalize hv1:aU l m e=v1 at*
 generalize hv2:aU l e b=v2 at*
 generalize hQ:l.drop b=Q at hl hsrt;have c1:aU (P++(u1++(v1++(u2++(v2++Q))))) a r=u1:=by
  rw[show P++(u1++(v1++(u2++(v2++Q))))=P++u1++(v1++(u2++(v2++Q))) by simp];exact qx (by omega) (by omega)
 have c2:aU (P++(u1++(v1++(u2++(v2++Q))))) r mid=v1:=by
  rw[show P++(u1++(v1++(u2++(v2++Q))))=(P++u1)++v1++(u2++(v2++Q)) by simp];exact qx (by simp;omega) (by simp;omega)
 have ls1:=srt_len sec (u1++v1);rw[l5]at ls1;have c3:aU (P++(srt sec (u1++v1)++(u2++(v2++Q)))) mid e=u2:=by
  rw[show P++(srt sec (u1++v1)++(u2++(v2++Q)))=(P++srt sec (u1++v1))++u2++(v2++Q) by simp];exact qx (by simp;omega) (by simp;omega)
 have c4:aU (P++(srt sec (u1++v1)++(u2++(v2++Q)))) e b=v2:=by
  rw[show P++(srt sec (u1++v1)++(u2++(v2++Q)))=(P++srt sec (u1++v1)++u2)++v2++Q by simp];exact qx (by simp;omega) (by simp;omega)
 have p1:(P++(u1++(v1++(u2++(v2++Q))))).Perm l:=by
  conv=>rhs;rw[hl]
  refine(P9 _ (P9 _ ?_));rw[<-y8,<-y8 u2];exact List.perm_append_comm.append_right _
 have p2:(P++(srt sec (u1++v1)++(u2++(v2++Q)))).Perm l:=by
  refine List.Perm.trans ?_ p1;rw[show P++(u1++(v1++(u2++(v2++Q))))=P++((u1++v1)++(u2++(v2++Q))) by simp];exact((srt_perm sec _).append_right _).append_left _
 refine⟨P++(u1++(v1++(u2++(v2++Q)))),P++(srt sec (u1++v1)++(u2++(v2++Q))),λ_ _=> ?_,λhn=> ?_,p1,by rw[c1];exact u1s,by rw[c2];exact v1s,λ_ _=> ?_,λhn=> ?_,p2,by rw[c3];exact u2s,by rw[c4];exact v2s,λ_ _=> ?_,λhn=> ?_⟩
 .conv=>lhs;rw[hl,show P++(u1++(u2++(v1++(v2++Q))))=(P++u1)++(u2++(v1++(v2++Q))) by simp]
  rw[d74 (by simp;omega) (by simp;omega) (by simp;omega)];simp
 .rcases k5 r m with hh|hh
  .have:v1=[]:=A2.1 (by omega);rw[this]at hl⊢;exact hl
  .have:u2=[]:=A2.1 (by omega);rw[this]at hl⊢;exact hl
 .rw[show P++(u1++(v1++(u2++(v2++Q))))=P++((u1++v1)++(u2++(v2++Q))) by simp,TO (by omega) (by simp;omega)]
 .rcases k5 a r with hh|hh
  .have:v1=[]:=A2.1 (by omega);rw[this,p9,vA u1s];rfl
  .have:u1=[]:=A2.1 (by omega);rw[this,show([]:List Val)++v1=v1 from rfl,vA v1s];rfl
 .rw[hsrt,show P++(srt sec (u1++v1)++(u2++(v2++Q)))=(P++srt sec (u1++v1))++((u2++v2)++Q) by simp,TO (by simp;omega) (by simp;omega)];simp
 .rw[hsrt];rcases k5 mid e with hh|hh
  .have:v2=[]:=A2.1 (by omega);rw[this,p9,vA u2s];rfl
  .have:u2=[]:=A2.1 (by omega);rw[this,show([]:List Val)++v2=v2 from rfl,vA v2s];rfl
noncomputable def bubA(sec:Bool)(a:Nat):List Val->Nat->Nat×List Val
 |l,0=>(a,l)
 |l,k+1=>if U3 sec (aO l (a+k+1)) (aO l (a+k))then bubA sec a (eX l (a+k+1) (a+k)) k else(a+k+1,l)
theorem Kz(sec:Bool)(x:Val){P:List Val}{a:Nat}(ha:a=P.length): ∀(s t:List Val),(bubA sec a (P++(s.reverse++x::t)) s.length).2=P++((dW sec x s).reverse++t)
 | [],t=>rfl
 |y::r,t=>by
  have e1:P++((y::r).reverse++x::t)=(P++r.reverse)++y::([]++x::t):=by simp
  have a1:aO ((P++r.reverse)++y::([]++x::t)) (a+r.length)=y:=PB (by grind);have a2:aO ((P++r.reverse)++y::([]++x::t)) (a+r.length+1)=x:=by
   grind[PB]
  rw[e1,List.length_cons];unfold bubA dW;rw[a1,a2];split
  .rw[OY (by omega),HH (by grind) (by grind),show(P++r.reverse)++x::([]++y::t)=P++(r.reverse++x::(y::t)) by simp,Kz sec x ha r (y::t)];simp
  .simp
theorem cH8{sec:Bool}{l:List Val}{a i:Nat}(h1:a<=i)(h2:i<l.length):(bubA sec a (bg sec l a i) (i-a)).2=bg sec l a (i+1):=by
 have hd:l.drop i=aO l i::l.drop (i+1):=by
  rw[P0 h2];unfold aO;rw[j9,k8 h2];rfl
 have hl:(ju sec (aU l a i)).length=i-a:=by
  have:=srt_len sec (aU l a i);unfold srt at this;rw[List.length_reverse]at this;rw[this,ic (by omega)]
 have e:=Kz sec (aO l i) (P:=l.take a) (a:=a) (by rw[k7];omega) (ju sec (aU l a i)) (l.drop (i+1));rw[hl]at e;have e2:bg sec l a i=l.take a++((ju sec (aU l a i)).reverse++aO l i::l.drop (i+1)):=by unfold bg srt;rw[hd]
 rw[e2,e];unfold bg srt;rw[<-fO (a:=a) (m:=i) (b:=i+1) h1 (by omega),Rf h2,Xa]
theorem Yz{sec:Bool}{l:List Val}{a b:Nat}(h1:a<=b)(h2:b<=a+1)(hb:b<=l.length):bg sec l a b=l:=by
 conv=>rhs;rw[yW (l:=l) h1]
 unfold bg;congr 2;refine vA ?_;have:(aU l a b).length<=1:=by grind[ic]
 unfold Sd
 match h:aU l a b,this with
 | [],_=>exact .nil
 | [x],_=>simp
 |x::y::r,hh=>simp at hh
theorem SE(sec:Bool)(l:List Val):bg sec l 0 l.length=srt sec l:=by
 grind[bg,aU]
theorem srt_cl{sec:Bool}{l q:List Val}(h:Cl sec l q):srt sec l=srt sec q:=Dp (rI sec q) ((CL sec q).trans h.symm)
theorem QM(sec:Bool){l:List Val}{a b:Nat}(h:a<=b):Cl sec (bg sec l a b) l:=by
 have:=(Cl.refl sec (l.take a)).app ((CL sec (aU l a b)).app (Cl.refl sec (l.drop b)));rwa[<-yW (l:=l) h]at this
theorem Pm{sec:Bool}{l:List Val}{a b:Nat}(h:a<=b)(hb:b<=l.length):aU (bg sec l a b) a b=srt sec (aU l a b):=by
 grind[bg,List.append_assoc,qx,List.length_take,srt_len,ic]
end Go.Ev.S7
namespace Go.Ev.S7
open Go Go.Ev
def isL:Val->Bool
 | .vl _=>true
 |_=>false
theorem isL_at{v:Val}(h:isL v=true):v= .vl v.toL:=by
 cases v<;>first|rfl|cases h
def okK(r:Val):Bool:=match r with
 | .vl [.vs _,.vi _,.vi _,.vi _,.vi _,.vi _,.vi _]=>true
 |_=>false
def e04(r:Val):Bool:=match r with
 | .vl [.vs _,.vi _,.vi _,.vb _,.vi _,.vi _,.vi _,.vi _]=>true
 |_=>false
theorem okK_at{r:Val}(h:okK r=true):W3 r=r:=by
 unfold okK at h;split at h
 .rfl
 .cases h
def ir(l n:Val):Bool:=isL l&&(l.toL.all okK&&(decide (n.toI=(l.toL.length:Int))&&decide (l.toL.length<=400)))
theorem zI{l n:Val}(h:ir l n=true):l= .vl l.toL/\l.toL.all okK=true/\n.toI=(l.toL.length:Int)/\l.toL.length<=400:=by
 obtain⟨h1,h⟩:=Q8 h;obtain⟨h2,h⟩:=Q8 h;obtain⟨h3,h4⟩:=Q8 h;exact⟨isL_at h1,h2,j6 h3,j6 h4⟩
def nt(v:Val):Nat:=v.toI.toNat
def pL:Val->Bool
 | .vi _=>true
 |_=>false
theorem GG{v:Val}(h:pL v=true):v= .vi v.toI:=by cases v<;>first|rfl|cases h
def dU6(a:List Val):Prop:=ir (aN a 0) (aN a 1)=true/\0<=(aN a 2).toI/\(aN a 2).toI<(aN a 3).toI/\(aN a 3).toI<(aN a 4).toI/\(aN a 4).toI<=(aN a 1).toI/\(aN a 4).toI-(aN a 2).toI<=(aN a 5).toI/\
 pL (aN a 2)=true/\pL (aN a 3)=true/\pL (aN a 4)=true/\Sd false (aU (aN a 0).toL (nt (aN a 2)) (nt (aN a 3)))/\Sd false (aU (aN a 0).toL (nt (aN a 3)) (nt (aN a 4)))
open Classical in
noncomputable def Da(a:List Val):Bool:=decide (dU6 a)
theorem Kv{a:List Val}:Da a=true↔dU6 a:=by grind[Da]
noncomputable def bF(B:Nat)(l:List Val):Nat->List Val
 |0=>l
 |k+1=>bg false (bF B l k) (B*k) (B*k+B)
noncomputable def pass(bs n:Nat)(l:List Val):List Val:=if 2*bs*(n/(2*bs))+bs<n then bg false (bF (2*bs) l (n/(2*bs))) (2*bs*(n/(2*bs))) n else bF (2*bs) l (n/(2*bs))
noncomputable def jN(n:Nat):Nat->Nat->List Val->Nat×List Val
 |0,bs,l=>(bs,l)
 |f+1,bs,l=>if bs<n then jN n f (2*bs) (pass bs n l)else(bs,l)
noncomputable def GX:Nat->List Val->Val:=λi a=>match i with
 |420=> .vb (ir (aN a 0) (aN a 1)&&decide (0<=(aN a 2).toI/\0<=(aN a 4).toI/\(aN a 2).toI+(aN a 4).toI<=(aN a 3).toI/\(aN a 3).toI+(aN a 4).toI<=(aN a 1).toI))
 |421=> .vl (gj (aN a 0).toL (nt (aN a 1)) (nt (aN a 2)) (nt (aN a 3)))
 |422=> .vb (ir (aN a 0) (aN a 1)&&decide (0<=(aN a 2).toI/\(aN a 2).toI<(aN a 3).toI/\(aN a 3).toI<(aN a 4).toI/\(aN a 4).toI<=(aN a 1).toI))
 |423=> .vl (tJ (aN a 0).toL (nt (aN a 1)) (nt (aN a 2)) (nt (aN a 3)))
 |424=> .vb (ir (aN a 0) (aN a 1)&&decide (0<=(aN a 2).toI/\(aN a 2).toI<=(aN a 3).toI/\(aN a 3).toI<=(aN a 1).toI))
 |425=> .vl (bg false (aN a 0).toL (nt (aN a 1)) (nt (aN a 2)))
 |426=> .vb (Da a)
 |428=> .vb (ir (aN a 0) (aN a 1)&&(pL (aN a 2)&&decide ((aN a 2).toI=(aN a 1).toI)))
 |431=> .vb (isL (aN a 0)&&(aN a 0).toL.all okK)
 |433=> .vb (isL (aN a 0)&&(aN a 0).toL.all e04)
 |452=>V0 (0,[.vi (nt (aN a 6)),.vl (gj (aN a 1).toL (nt (aN a 4)) (nt (aN a 5)) (nt (aN a 6)))])
 |458=>V0 (0,[.vi (fV (nt (aN a 5)) (nt (aN a 0)+nt (aN a 1)) (nt (aN a 0)) (nt (aN a 1)) (aN a 2).toL).1,.vi (fV (nt (aN a 5)) (nt (aN a 0)+nt (aN a 1)) (nt (aN a 0)) (nt (aN a 1)) (aN a 2).toL).1,.vl (fV (nt (aN a 5)) (nt (aN a 0)+nt (aN a 1)) (nt (aN a 0)) (nt (aN a 1)) (aN a 2).toL).2])
 |460=>V0 (0,[.vi (max (nt (aN a 4)+1) (nt (aN a 5)):Nat),.vl (bg false (aN a 1).toL (nt (aN a 4)) (nt (aN a 5)))])
 |461=>V0 (0,[.vi (bubA false (nt (aN a 4)) (aN a 1).toL (nt (aN a 0)-nt (aN a 4))).1,.vl (bubA false (nt (aN a 4)) (aN a 1).toL (nt (aN a 0)-nt (aN a 4))).2])
 |462=>let r:=bs (λh=>U3 false (aO (aN a 3).toL h) (aO (aN a 3).toL (nt (aN a 4)))) (nt (aN a 1)-nt (aN a 0)) (nt (aN a 0)) (nt (aN a 1));V0 (0,[.vi r,.vi r])
 |463=>V0 (0,[.vi (nt (aN a 4)-1:Nat),.vl (jK (aN a 1).toL (nt (aN a 0)) (nt (aN a 4)-1-nt (aN a 0)))])
 |464=>let r:=bs (λh=> !U3 false (aO (aN a 3).toL (nt (aN a 4))) (aO (aN a 3).toL h)) (nt (aN a 1)-nt (aN a 0)) (nt (aN a 0)) (nt (aN a 1));V0 (0,[.vi r,.vi r])
 |465=>V0 (0,[aN a 4,.vl (jn (aN a 1).toL (nt (aN a 0)) (nt (aN a 0)-nt (aN a 4)))])
 |466=>let r:=bs (λc=> !U3 false (aO (aN a 3).toL (nt (aN a 9)-c)) (aO (aN a 3).toL c)) (nt (aN a 1)-nt (aN a 0)) (nt (aN a 0)) (nt (aN a 1));V0 (0,[.vi r,.vi r])
 |467=>V0 (0,[.vi (20*(nt (aN a 5)/20):Nat),.vi (20*(nt (aN a 5)/20)+20:Nat),.vl (bF 20 (aN a 2).toL (nt (aN a 5)/20))])
 |468=>V0 (0,[.vi (jN (nt (aN a 4)) 9 20 (aN a 1).toL).1,.vl (jN (nt (aN a 4)) 9 20 (aN a 1).toL).2])
 |469=>V0 (0,[.vi (2*nt (aN a 6)*(nt (aN a 5)/(2*nt (aN a 6))):Nat),.vi (2*nt (aN a 6)*(nt (aN a 5)/(2*nt (aN a 6)))+2*nt (aN a 6):Nat),.vl (bF (2*nt (aN a 6)) (aN a 2).toL (nt (aN a 5)/(2*nt (aN a 6))))])
 |490=> .vl (srt false (aN a 0).toL)
 |_=> .vb false
end Go.Ev.S7
