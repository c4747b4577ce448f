import Derived.Test.YtipefnncbnbliaaGreatEM1
set_option linter.unusedSimpArgs false
set_option linter.unusedVariables false
namespace Go.Ev.S7
open Go Go.Ev
variable{l P Q q:List Val}{sec:Bool}{a b k m:Nat}{x y:Val}
noncomputable def cL(sec:Bool)(a b:Val):Bool:=AZ a b
theorem LJ(sec:Bool)(a:Val):cL sec a a=false:=UA _
theorem Lt{a b:Val}(h:cL sec a b=true):cL sec b a=false:=ON h
theorem uo{a b c:Val}(h1:cL sec a b=false)(h2:cL sec b c=false):cL sec a c=false:=YS h1 h2
noncomputable def gQ(sec:Bool)(x:Val):List Val->List Val
 | []=>[x]
 |y::r=>if cL sec x y then y::gQ sec x r else x::y::r
noncomputable def np(sec:Bool)(l:List Val):List Val:=l.foldl (λs x=>gQ sec x s) []
noncomputable def srt(sec:Bool)(l:List Val):List Val:=(np sec l).reverse
theorem WC(sec:Bool)(l:List Val)(x:Val):np sec (l++[x])=gQ sec x (np sec l):=by simp[np]
theorem wJ(sec:Bool)(x:Val): ∀s:List Val,(gQ sec x s).Perm (x::s)
 | []=> .refl _
 |y::r=>by
  unfold gQ;split
  .exact((wJ sec x r).cons y).trans (.swap x y r)
  rfl
theorem SE(sec:Bool)(l:List Val): ∀s:List Val,(l.foldl (λs x=>gQ sec x s) s).Perm (l++s):=by
 induction l with
 |nil=>simp_all
 |cons x l ih=>
  intro s;exact(ih _).trans (((wJ sec x s).append_left l).trans List.perm_middle)
theorem srt_perm(sec:Bool)(l:List Val):(srt sec l).Perm l:=by
 have:=SE sec l [];rw[s6]at this;exact(List.reverse_perm _).trans this
theorem srt_len(sec:Bool)(l:List Val):(srt sec l).length=l.length:=(srt_perm sec l).length_eq
theorem GA(sec:Bool)(x:Val): ∀s:List Val,s.Pairwise (λa b=>cL sec a b=false)->(gQ sec x s).Pairwise (λa b=>cL sec a b=false)
 | [],_=>by simp[gQ]
 |y::r,h=>by
  unfold gQ;rw[A5]at h;split
  .rename_i hl;rw[A5];refine⟨λz hz=> ?_,GA sec x r h.2⟩;rcases n5.1 ((wJ sec x r).mem_iff.1 hz)with rfl|hz
   .exact Lt hl
   .exact h.1 z hz
  .rename_i hl;have hl:cL sec x y=false:=by simpa using hl
   rw[A5,A5];refine⟨λz hz=> ?_,h⟩;rcases n5.1 hz with rfl|hz
   .exact hl
   .exact uo hl (h.1 z hz)
theorem NG(sec:Bool)(l:List Val): ∀s:List Val,s.Pairwise (λa b=>cL sec a b=false)->(l.foldl (λs x=>gQ sec x s) s).Pairwise (λa b=>cL sec a b=false):=by
 induction l with
 |nil=>grind
 |cons x l ih=>grind[GA]
theorem srt_sorted(sec:Bool)(l:List Val):(srt sec l).Pairwise (λa b=>cL sec b a=false):=by
 unfold srt;rw[List.pairwise_reverse];exact NG sec l [] .nil
noncomputable def eqv(sec:Bool)(x y:Val):Bool:= !cL sec x y&& !cL sec y x
def Sd(sec:Bool)(l:List Val):Prop:=l.Pairwise (λa b=>cL sec b a=false)
def Cl(sec:Bool)(l q:List Val):Prop:= ∀x,l.filter (eqv sec x)=q.filter (eqv sec x)
theorem XZ(sec:Bool)(x:Val):eqv sec x x=true:=by simp[eqv,LJ]
theorem eqv_iff:eqv sec x y=true↔cL sec x y=false/\cL sec y x=false:=by simp[eqv]
theorem Xb{z:Val}(h:cL sec y z=true)(h1:eqv sec x y=true):eqv sec x z=false:=by
 grind[eqv_iff,uo]
theorem Cl.refl(sec:Bool)(l:List Val):Cl sec l l:=λ_=>rfl
theorem Cl.symm(h:Cl sec l q):Cl sec q l:=λx=>(h x).symm
theorem Cl.trans{r:List Val}(h:Cl sec l q)(h2:Cl sec q r):Cl sec l r:=λx=>(h x).trans (h2 x)
theorem Cl.app{a b c d:List Val}(h:Cl sec a b)(h2:Cl sec c d):Cl sec (a++c) (b++d):=λx=>by
 rw[C6,C6,h x,h2 x]
theorem QC{A B:List Val}(h: ∀a∈A,∀b∈B,cL sec b a=true):Cl sec (A++B) (B++A):=λx=>by
 rw[C6,C6];cases hA:A.filter (eqv sec x)with
 |nil=>simp
 |cons a l=>
  have ha:a∈A.filter (eqv sec x):=by rw[hA];simp
  have hB:B.filter (eqv sec x)=[]:=by
   rw[R5];intro b hb hx;have:=Xb (h a (l7.1 ha).1 b hb) hx;rw[(l7.1 ha).2]at this;cases this
  rw[hB];simp
theorem JD(h:Cl sec l q)(hx:x∈l):x∈q:=by
 have:x∈l.filter (eqv sec x):=l7.2 ⟨hx,XZ sec x⟩;rw[h x]at this;grind
theorem cw1{sec:Bool}: ∀{l q:List Val},Sd sec l->Sd sec q->Cl sec l q->l=q
 | [],[],_,_,_=>rfl
 | [],y::q,_,_,h=>by have:=JD h.symm (x:=y) (by simp);cases this
 |x::l,[],_,_,h=>by have:=JD h (x:=x) (by simp);cases this
 |x::l,y::q,h1,h2,h=>by
  have g1:=A5.1 h1;have g2:=A5.1 h2;have e1:cL sec x y=false:=by
   rcases n5.1 (JD h (x:=x) (by simp))with e|e
   .rw[e];exact LJ sec y
   .exact g2.1 x e
  have e2:cL sec y x=false:=by
   rcases n5.1 (JD h.symm (x:=y) (by simp))with e|e
   .rw[e];exact LJ sec x
   .exact g1.1 y e
  have hx:=h x;rw[z8,e8 (XZ sec x),z8,e8 (eqv_iff.2 ⟨e1,e2⟩)]at hx;injection hx with hxy _
  congr 1;refine cw1 g1.2 g2.2 λz=> ?_
  have hz:=h z;grind
theorem WM{sec:Bool}(x z:Val): ∀s:List Val,(gQ sec x s).filter (eqv sec z)=(x::s).filter (eqv sec z)
 | []=>rfl
 |y::r=>by
  unfold gQ;split
  .rw[z8,WM x z r,z8,z8,z8];grind[eqv,Xb]
  .rfl
theorem Xn{sec:Bool}(z:Val): ∀(l s:List Val),(l.foldl (λs x=>gQ sec x s) s).filter (eqv sec z)=(l.reverse++s).filter (eqv sec z)
 | [],s=>rfl
 |x::l,s=>by
  rw[List.foldl_cons,Xn z l,C6,WM,<-C6];simp
theorem Fh(sec:Bool)(l:List Val):Cl sec (srt sec l) l:=λz=>by
 unfold srt;rw[V0];have:=Xn (sec:=sec) z l [];unfold np;rw[this,s6,V0,List.reverse_reverse]
theorem FY(hs:Sd sec q)(hc:Cl sec q l):srt sec l=q:=cw1 (srt_sorted sec l) hs ((Fh sec l).trans hc.symm)
theorem xU(hs:Sd sec l):srt sec l=l:=FY hs (Cl.refl sec l)
theorem srt_mem:x∈srt sec l↔x∈l:=(srt_perm sec l).mem_iff
def cw(l:List Val)(a b:Nat):List Val:=(l.take b).drop a
theorem mi(h:b<=l.length):(cw l a b).length=b-a:=by
 grind[cw,List.length_drop,List.length_take]
theorem js(h1:a<=m)(h2:m<=b):cw l a m++cw l m b=cw l a b:=by
 unfold cw;have e:l.take m=(l.take b).take m:=by rw[Q1,A8 h2]
 rw[e];generalize l.take b=q;have:q.drop m=(q.drop a).drop (m-a):=by rw[N3,show a+(m-a)=m by omega]
 rw[Q2,this,x7]
theorem XF(h1:a<=b):l=l.take a++cw l a b++l.drop b:=by
 have e:l.take a=cw l 0 a:=by rfl
 rw[e,js (r9 a) h1];simp[cw]
theorem uS{U:List Val}(ha:a=P.length)(hb:b=P.length+U.length):cw (P++U++Q) a b=U:=by
 unfold cw;grind
theorem Oz(h:k=P.length):bW (P++x::Q) k=x:=by
 simp_all[bW,j9,m9,i6,R0]
theorem di0(h:k=P.length):(P++x::Q).set k y=P++y::Q:=by
 simp_all
theorem YW(h1:b<=l.length)(h2:a+k<b):bW (cw l a b) k=bW l (a+k):=by
 unfold cw bW;grind
theorem Fm(h:k<l.length):bW l k∈l:=by
 unfold bW;rw[j9,k9 h];exact C7 h
theorem di1(h:x∈l): ∃k,k<l.length/\x=bW l k:=by
 obtain⟨k,hk,rfl⟩:=B0 h;refine⟨k,hk,?_⟩;unfold bW;rw[j9,k9 hk];rfl
theorem vF(hb:b<=l.length)(h:x∈cw l a b): ∃k,a<=k/\k<b/\x=bW l k:=by
 grind[di1,mi,YW]
def iK(l:List Val)(i j:Nat):List Val:=(l.set i (bW l j)).set j (bW l i)
theorem Gx(l:List Val)(i j:Nat):(iK l i j).length=l.length:=by simp[iK]
theorem Jx{M:List Val}{i j:Nat}(hi:i=P.length)(hj:j=P.length+1+M.length):iK (P++x::(M++y::Q)) i j=P++y::(M++x::Q):=by
 grind[bW,Oz,iK,di0]
theorem Qm{i j:Nat}(h:i≠j):iK l i j=iK l j i:=by
 grind[iK,List.set_comm]
def jY(l:List Val)(a b:Nat):Nat->List Val
 |0=>l
 |n+1=>iK (jY l a b n) (a+n) (b+n)
theorem uw(l:List Val)(a b:Nat): ∀n,(jY l a b n).length=l.length
 |0=>rfl
 |n+1=>by rw[jY,Gx,uw l a b n]
theorem ST{n:Nat}(h:l.length=n+1): ∃q x,l=q++[x]/\q.length=n:=by
 rcases List.eq_nil_or_concat l with e|⟨q,x,e⟩
 .rw[e]at h;cases h
 grind
theorem IC: ∀(n:Nat) {P A X B Q:List Val} {a b:Nat},A.length=n->B.length=n->a=P.length->b=P.length+n+X.length->jY (P++(A++(X++(B++Q)))) a b n=P++(B++(X++(A++Q)))
 |0,P,A,X,B,Q,a,b,hA,hB,_,_=>by
  rw[B1.1 hA,B1.1 hB];rfl
 |n+1,P,A,X,B,Q,a,b,hA,hB,ha,hb=>by
  obtain⟨A',x,rfl,h1⟩:=ST hA;obtain⟨B',y,rfl,h2⟩:=ST hB;have ih:=IC n (P:=P) (A:=A') (X:=x::X) (B:=B') (Q:=y::Q) (a:=a) (b:=b) h1 h2 ha (by simp;omega);grind[jY,Jx]
def yF(l:List Val)(a m b:Nat):List Val:=l.take a++(cw l m b++(cw l a m++l.drop b))
theorem eb3(h1:a<=m)(h2:m<=b):l=l.take a++(cw l a m++(cw l m b++l.drop b)):=by
 grind[XF,Nat.le_trans,js]
theorem BW(h1:a<=b):l=l.take a++(cw l a b++l.drop b):=by
 grind[XF]
theorem di3{U V:List Val}(ha:a=P.length)(hm:m=P.length+U.length)(hb:b=P.length+U.length+V.length):yF (P++(U++(V++Q))) a m b=P++(V++(U++Q)):=by
 have e1:cw (P++(U++(V++Q))) a m=U:=by
  rw[show P++(U++(V++Q))=P++U++(V++Q) by simp];exact uS ha hm
 have e2:cw (P++(U++(V++Q))) m b=V:=by
  rw[show P++(U++(V++Q))=(P++U)++V++Q by simp];exact uS (by simp;omega) (by simp;omega)
 unfold yF;rw[e1,e2,List.take_left' ha.symm,show P++(U++(V++Q))=(P++(U++V))++Q by simp,List.drop_left' (by simp;omega)]
def jZ(m:Nat):Nat->Nat->Nat->List Val->Nat×List Val
 |0,i,_,l=>(i,l)
 |n+1,i,j,l=>if i=j then(i,l)else if j<i then jZ m n (i-j) j (jY l (m-i) m j)else jZ m n i (j-i) (jY l (m-i) (m+j-i) i)
theorem Ps(m:Nat): ∀(n i j:Nat) (P U V Q:List Val),i+j<=n+1->0<i->0<j->U.length=i->V.length=j->m=P.length+i->
 let r:=jZ m n i j (P++(U++(V++Q)))
 0<r.1/\r.1<=i/\r.1<=j/\r.2.length=(P++(U++(V++Q))).length/\jY r.2 (m-r.1) m r.1=P++(V++(U++Q))
 |0,i,j,P,U,V,Q,hn,hi,hj,hU,hV,hm=>by omega
 |n+1,i,j,P,U,V,Q,hn,hi,hj,hU,hV,hm=>by
  unfold jZ;by_cases h1:i=j
  .have:=IC i (P:=P) (A:=U) (X:=[]) (B:=V) (Q:=Q) (a:=m-i) (b:=m) hU (by omega) (by omega) (by omega);grind
  .by_cases h2:j<i
   .obtain⟨U1,U2,rfl,hU1⟩: ∃U1 U2,U=U1++U2/\U1.length=j:=⟨U.take j,U.drop j,(x7 j U).symm,by rw[k8];omega⟩;have hU2:U2.length=i-j:=by rw[k7]at hU;omega
    have e:=IC j (P:=P) (A:=U1) (X:=U2) (B:=V) (Q:=Q) (a:=m-i) (b:=m) hU1 hV (by omega) (by omega);have ih:=Ps m n (i-j) j (P++V) U2 U1 Q (by omega) (by omega) hj hU2 hU1 (by simp;omega);grind
   .obtain⟨V1,V2,rfl,hV1⟩: ∃V1 V2,V=V1++V2/\V1.length=j-i:=⟨V.take (j-i),V.drop (j-i),(x7 (j-i) V).symm,by rw[k8];omega⟩;have hV2:V2.length=i:=by rw[k7]at hV;omega
    have e:=IC i (P:=P) (A:=U) (X:=V1) (B:=V2) (Q:=Q) (a:=m-i) (b:=m+j-i) hU hV2 (by omega) (by omega);have ih:=Ps m n i (j-i) P V2 V1 (U++Q) (by omega) hi (by omega) hV2 hV1 hm;grind
def oc(l:List Val)(a:Nat):Nat->List Val
 |0=>l
 |n+1=>iK (oc l a n) (a+n) (a+n+1)
theorem LE(l:List Val)(a:Nat): ∀n,(oc l a n).length=l.length
 |0=>rfl
 |n+1=>by rw[oc,Gx,LE l a n]
theorem Yo: ∀(n:Nat) {P Y Q:List Val} {x:Val} {a:Nat},Y.length=n->a=P.length->oc (P++x::(Y++Q)) a n=P++(Y++x::Q)
 |0,P,Y,Q,x,a,hY,_=>by rw[B1.1 hY];rfl
 |n+1,P,Y,Q,x,a,hY,ha=>by
  obtain⟨Y',y,rfl,h1⟩:=ST hY;have ih:=Yo n (P:=P) (Y:=Y') (Q:=y::Q) (x:=x) (a:=a) h1 ha;rw[show P++x::((Y'++[y])++Q)=P++x::(Y'++y::Q) by simp,oc,ih,show P++(Y'++x::y::Q)=(P++Y')++x::([]++y::Q) by simp,Jx (by grind) (by grind)];simp
def ng(l:List Val)(m:Nat):Nat->List Val
 |0=>l
 |n+1=>iK (ng l m n) (m-n-1) (m-n)
theorem Lx(l:List Val)(m:Nat): ∀n,(ng l m n).length=l.length
 |0=>rfl
 |n+1=>by rw[ng,Gx,Lx l m n]
theorem XP: ∀(n:Nat) {P Y Q:List Val} {x:Val} {m:Nat},Y.length=n->m=P.length+n->ng (P++(Y++x::Q)) m n=P++x::(Y++Q)
 |0,P,Y,Q,x,m,hY,_=>by rw[B1.1 hY];rfl
 |n+1,P,Y,Q,x,m,hY,hm=>by
  cases Y with
  |nil=>cases hY
  |cons y Y'=>
   have ih:=XP n (P:=P++[y]) (Y:=Y') (Q:=Q) (x:=x) (m:=m) (by simpa using hY) (by simp;omega);grind[ng,Jx]
def bs(T:Nat->Bool):Nat->Nat->Nat->Nat
 |0,i,_=>i
 |n+1,i,j=>if i<j then(if T ((i+j)/2)then bs T n ((i+j)/2+1) j else bs T n i ((i+j)/2))else i
theorem Fi{T:Nat->Bool}{lo hi:Nat}(mono: ∀c d,lo<=c->c<=d->d<hi->T d=true->T c=true): ∀n i j,lo<=i->i<=j->j<=hi->j-i<=n->(∀c,lo<=c->c<i->T c=true)->(∀c,j<=c->c<hi->T c=false)->
 i<=bs T n i j/\bs T n i j<=j/\(∀c,lo<=c->c<bs T n i j->T c=true)/\ ∀c,bs T n i j<=c->c<hi->T c=false
 |0,i,j,h1,h2,h3,h4,h5,h6=>by
  have:i=j:=by omega
  subst this;exact⟨i6 _,i6 _,h5,h6⟩
 |n+1,i,j,h1,h2,h3,h4,h5,h6=>by
  unfold bs;by_cases hij:i<j
  .rw[e8 hij];by_cases hT:T ((i+j)/2)=true
   .rw[e8 hT];obtain⟨a,b,c⟩:=Fi mono n ((i+j)/2+1) j (by omega) (by omega) h3 (by omega) (λc hc1 hc2=>mono c ((i+j)/2) hc1 (by omega) (by omega) hT) h6;exact⟨by omega,b,c⟩
   .rw[b9 hT];obtain⟨a,b,c⟩:=Fi mono n i ((i+j)/2) h1 (by omega) (by omega) (by omega) h5 (λc hc1 hc2=>by
     rw[<-B2];exactλhc=>hT (mono _ c (by omega) hc1 hc2 hc))
    exact⟨a,by omega,c⟩
  grind
theorem Nm{step:List Val->Option (Nat×List Val)}{T:Nat->Bool}{lo hi:Nat}(h1: ∀i j:Nat,lo<=i->i<j->j<=hi->step [.vi i,.vi j]=some (0,if T ((i+j)/2)then [.vi ((i+j)/2+1:Nat),.vi j]else [.vi i,.vi ((i+j)/2:Nat)]))(h2: ∀i:Nat,step [.vi i,.vi i]=some (1,[.vi i,.vi i])):
 ∀(n i j:Nat),lo<=i->i<=j->j<=hi->j-i<=n->Iter step [.vi i,.vi j] 0 [.vi (bs T n i j),.vi (bs T n i j)]
 |0,i,j,a,b,c,d=>by
  have:i=j:=by omega
  subst this;exact .out (h2 i)
 |n+1,i,j,a,b,c,d=>by
  unfold bs;by_cases hij:i<j
  .rw[e8 hij];have e:=h1 i j a hij c;by_cases hT:T ((i+j)/2)=true
   .rw[e8 hT]at e⊢;exact .more e (Nm h1 h2 n ((i+j)/2+1) j (by omega) (by omega) c (by omega))
   .rw[b9 hT]at e⊢;exact .more e (Nm h1 h2 n i ((i+j)/2) a (by omega) (by omega) (by omega))
  .rw[b9 hij];have:i=j:=by omega
   subst this;exact .out (h2 i)
end Go.Ev.S7
namespace Go.Ev.S7
open Go Go.Ev
variable{l:List Val}{a b:Nat}{sec:Bool}
noncomputable def cU(sec:Bool)(l:List Val)(a b:Nat):List Val:=l.take a++(srt sec (cw l a b)++l.drop b)
theorem Fq(sec:Bool)(h:a<=b):(cU sec l a b).Perm l:=by
 conv=>rhs;rw[BW (l:=l) h]
 exact((srt_perm sec _).append_right _).append_left _
theorem bY3(sec:Bool)(h:a<=b):(cU sec l a b).length=l.length:=(Fq sec h).length_eq
theorem VY{P U Q:List Val}(ha:a=P.length)(hb:b=P.length+U.length):cU sec (P++(U++Q)) a b=P++(srt sec U++Q):=by
 grind[cw,uS,cU,List.take_left',List.drop_left']
theorem vS{A B:List Val}:Sd sec (A++B)↔Sd sec A/\Sd sec B/\ ∀a∈A,∀b∈B,cL sec b a=false:=U4
theorem vq{i j:Nat}(h:Sd sec (cw l a b))(hb:b<=l.length)(h1:a<=i)(h2:i<=j)(h3:j<b):cL sec (bW l j) (bW l i)=false:=by
 rcases k5 i j with hij|hij
 .unfold Sd at h;rw[O5]at h;have hl:=mi (l:=l) (a:=a) hb;have:=h (i-a) (j-a) (by omega) (by omega) (by omega);have e: ∀k (hk:k<(cw l a b).length),(cw l a b)[k]=bW l (a+k):=λk hk=>by
   rw[<-YW hb (by omega)];unfold bW;rw[j9,k9 hk];rfl
  rw[e,e,show a+(i-a)=i by omega,show a+(j-a)=j by omega]at this;exact this
 grind[LJ]
theorem Mc{c d:Nat}(h:Sd sec (cw l a b))(h1:a<=c)(h2:c<=d)(h3:d<=b):Sd sec (cw l c d):=by
 rw[<-js h1 (n7 h2 h3),<-js h2 h3]at h;grind[vS]
theorem Sr(h:a<l.length):cw l a (a+1)=[bW l a]:=by
 unfold cw;rw[O8,N2,K4 (by grind)];unfold bW;rw[k8,show a-min a l.length=0 by omega,j9,k9 h];rfl
theorem Tj(h:b<=a):cw l a b=[]:=by
 grind[cw,List.drop_eq_nil_of_le,List.length_take]
theorem dS9{a b c:Val}(h1:cL sec a b=true)(h2:cL sec c b=false):cL sec a c=true:=by
 grind[cL,uo]
theorem Vq{a b c:Val}(h1:cL sec b a=false)(h2:cL sec b c=true):cL sec a c=true:=by
 grind[cL,uo]
theorem di4(h1:a+1<b)(hb:b<=l.length)(hs:Sd sec (cw l (a+1) b)):
 a+1<=bs (λh=>cL sec (bW l h) (bW l a)) (b-(a+1)) (a+1) b/\bs (λh=>cL sec (bW l h) (bW l a)) (b-(a+1)) (a+1) b<=b/\
  oc l a (bs (λh=>cL sec (bW l h) (bW l a)) (b-(a+1)) (a+1) b-1-a)=cU sec l a b:=by
 have sp:=Fi (T:=λh=>cL sec (bW l h) (bW l a)) (lo:=a+1) (hi:=b) (λc d hc hcd hd hT=>Vq (vq hs hb hc hcd hd) hT) (b-(a+1)) (a+1) b (i6 _) (by omega) (i6 _) (i6 _) (λc _ _=>by omega) (λc _ _=>by omega);generalize bs (λh=>cL sec (bW l h) (bW l a)) (b-(a+1)) (a+1) b=r at sp⊢;obtain⟨r1,r2,r3,r4⟩:=sp;have e1:cw l a b=bW l a::(cw l (a+1) r++cw l r b):=by
  rw[js r1 r2,<-js (a:=a) (m:=a+1) (b:=b) (by omega) (by omega),Sr (by omega)];rfl
 have e2:l=l.take a++bW l a::(cw l (a+1) r++(cw l r b++l.drop b)):=by
  conv=>lhs;rw[BW (l:=l) (a:=a) (b:=b) (by omega),e1]
  simp
 have hA: ∀x∈cw l (a+1) r,cL sec x (bW l a)=true:=λx hx=>by
  obtain⟨k,k1,k2,rfl⟩:=vF (by omega) hx;exact r3 k k1 k2
 have hB: ∀x∈cw l r b,cL sec x (bW l a)=false:=λx hx=>by
  obtain⟨k,k1,k2,rfl⟩:=vF hb hx;exact r4 k k1 k2
 have hAB:=vS.1 (show Sd sec (cw l (a+1) r++cw l r b) by rw[js r1 r2];exact hs);have e3:srt sec (cw l a b)=cw l (a+1) r++bW l a::cw l r b:=by
  refine FY (vS.2 ⟨hAB.1,A5.2 ⟨hB,hAB.2.1⟩,λx hx y hy=> ?_⟩) ?_
  .rcases n5.1 hy with rfl|hy
   .exact Lt (hA x hx)
   .exact hAB.2.2 x hx y hy
  .rw[e1];have:=(QC (sec:=sec) (A:=[bW l a]) (B:=cw l (a+1) r) (λx hx y hy=>by rw[n9.1 hx];exact hA y hy)).symm.app (Cl.refl sec (cw l r b));simpa using this
 grind[Yo,cw,bW,mi,List.length_take,cU]
theorem di5{m:Nat}(h1:a<m)(hb:m+1<=l.length)(hs:Sd sec (cw l a m)):
 a<=bs (λh=> !cL sec (bW l m) (bW l h)) (m-a) a m/\bs (λh=> !cL sec (bW l m) (bW l h)) (m-a) a m<=m/\
  ng l m (m-bs (λh=> !cL sec (bW l m) (bW l h)) (m-a) a m)=cU sec l a (m+1):=by
 have sp:=Fi (T:=λh=> !cL sec (bW l m) (bW l h)) (lo:=a) (hi:=m) (λc d hc hcd hd hT=>by
  simp at hT⊢;exact uo hT (vq hs (by omega) hc hcd hd)) (m-a) a m (i6 _) (by omega) (i6 _) (i6 _) (λc _ _=>by omega) (λc _ _=>by omega)
 generalize bs (λh=> !cL sec (bW l m) (bW l h)) (m-a) a m=r at sp⊢;obtain⟨r1,r2,r3,r4⟩:=sp;have e1:cw l a (m+1)=cw l a r++(cw l r m++[bW l m]):=by
  rw[<-A4,js r1 r2,<-js (a:=a) (m:=m) (b:=m+1) (by omega) (by omega),Sr (by omega)]
 have e2:l=(l.take a++cw l a r)++(cw l r m++bW l m::l.drop (m+1)):=by
  conv=>lhs;rw[BW (l:=l) (a:=a) (b:=m+1) (by omega),e1]
  simp
 have hA: ∀x∈cw l a r,cL sec (bW l m) x=false:=λx hx=>by
  obtain⟨k,k1,k2,rfl⟩:=vF (by omega) hx;simpa using r3 k k1 k2
 have hB: ∀x∈cw l r m,cL sec (bW l m) x=true:=λx hx=>by
  obtain⟨k,k1,k2,rfl⟩:=vF (by omega) hx;simpa using r4 k k1 k2
 have hAB:=vS.1 (show Sd sec (cw l a r++cw l r m) by rw[js r1 r2];exact hs);have e3:srt sec (cw l a (m+1))=cw l a r++bW l m::cw l r m:=by
  refine FY (vS.2 ⟨hAB.1,A5.2 ⟨λy hy=>Lt (hB y hy),hAB.2.1⟩,λx hx y hy=> ?_⟩) ?_
  .rcases n5.1 hy with rfl|hy
   .exact hA x hx
   .exact hAB.2.2 x hx y hy
  .rw[e1];have:=(Cl.refl sec (cw l a r)).app (QC (sec:=sec) (A:=cw l r m) (B:=[bW l m]) (λx hx y hy=>by rw[n9.1 hy];exact hB x hx)).symm;simpa using this
 grind[XP,cw,bW,mi,List.length_append,List.length_take,cU]
theorem di6{m mid lo hi r:Nat}(h1:a<m)(h2:m<b)(hb:b<=l.length)(hs1:Sd sec (cw l a m))(hs2:Sd sec (cw l m b))(hmid:mid=(a+b)/2)
 (hlh:mid<m/\lo=mid+m-b/\hi=mid\/m<=mid/\lo=a/\hi=m) (hr:r=bs (λc=> !cL sec (bW l (mid+m-1-c)) (bW l c)) (hi-lo) lo hi):
 a<=r/\r<=m/\r<=mid/\mid+m-r<=b/\ ∃l1 l2,(r<m->m<mid+m-r->yF l r m (mid+m-r)=l1)/\(¬(r<m/\m<mid+m-r)->l=l1)/\l1.Perm l/\Sd sec (cw l1 a r)/\Sd sec (cw l1 r mid)/\
  (a<r->r<mid->cU sec l1 a mid=l2)/\(¬(a<r/\r<mid)->l1=l2)/\l2.Perm l/\Sd sec (cw l2 mid (mid+m-r))/\Sd sec (cw l2 (mid+m-r) b)/\
  (mid<mid+m-r->mid+m-r<b->cU sec l2 mid b=cU sec l a b)/\(¬(mid<mid+m-r/\mid+m-r<b)->l2=cU sec l a b):=by
 have hle:lo<=hi:=by omega
 have sp:=Fi (T:=λc=> !cL sec (bW l (mid+m-1-c)) (bW l c)) (lo:=lo) (hi:=hi) (λc d hc hcd hd hT=>by
  simp at hT⊢;have g1:=vq hs1 (by omega) (show a<=c by omega) hcd (by omega);have g2:=vq hs2 hb (show m<=mid+m-1-d by omega) (show mid+m-1-d<=mid+m-1-c by omega) (by omega);exact uo g2 (uo hT g1)) (hi-lo) lo hi (i6 _) hle (i6 _) (i6 _) (λc _ _=>by omega) (λc _ _=>by omega)
 rw[<-hr]at sp;obtain⟨r1,r2,r3,r4⟩:=sp;have q1:a<=r:=by omega
 have q2:r<=m:=by omega
 have q3:r<=mid:=by omega
 have q4:mid+m-r<=b:=by omega
 refine⟨q1,q2,q3,q4,?_⟩;obtain⟨e,he⟩: ∃e,e=mid+m-r:=⟨_,rfl⟩;rw[<-he]at q4⊢;have q5:m<=e:=by omega
 have F1: ∀x∈cw l r m,∀y∈cw l m e,cL sec y x=true:=λx hx y hy=>by
  obtain⟨i,i1,i2,rfl⟩:=vF (by omega) hx;obtain⟨j,j1,j2,rfl⟩:=vF (by omega) hy;have hT:=r4 r (i6 _) (by omega);simp at hT;rw[show mid+m-1-r=e-1 by omega]at hT;have g1:=vq hs2 hb j1 (show j<=e-1 by omega) (by omega);have g2:=vq hs1 (by omega) q1 i1 i2;exact dS9 (Vq g1 hT) g2
 have F2: ∀x∈cw l a r,∀y∈cw l e b,cL sec y x=false:=λx hx y hy=>by
  obtain⟨i,i1,i2,rfl⟩:=vF (by omega) hx;obtain⟨j,j1,j2,rfl⟩:=vF (by omega) hy;have hT:=r3 (r-1) (by omega) (by omega);simp at hT;rw[show mid+m-1-(r-1)=e by omega]at hT;have g1:=vq hs2 hb (show m<=e by omega) j1 j2;have g2:=vq hs1 (by omega) i1 (show i<=r-1 by omega) (by omega);exact uo g1 (uo hT g2)
 have u1s:=Mc hs1 (i6 a) q1 q2;have u2s:=Mc hs1 q1 q2 (i6 m);have v1s:=Mc hs2 (i6 m) q5 q4;have v2s:=Mc hs2 q5 q4 (i6 b);have F3:=(vS.1 (show Sd sec (cw l a r++cw l r m) by rw[js q1 q2];exact hs1)).2.2;have F4:=(vS.1 (show Sd sec (cw l m e++cw l e b) by rw[js q5 q4];exact hs2)).2.2;have lP:(l.take a).length=a:=by rw[k8];omega
 have l1:=mi (l:=l) (a:=a) (b:=r) (by omega);have l2:=mi (l:=l) (a:=r) (b:=m) (by omega);have l3:=mi (l:=l) (a:=m) (b:=e) (by omega);have l4:=mi (l:=l) (a:=e) (b:=b) (by omega);have hl:l=l.take a++(cw l a r++(cw l r m++(cw l m e++(cw l e b++l.drop b)))):=by
  conv=>lhs;rw[BW (l:=l) (a:=a) (b:=b) (by omega),<-js (a:=a) (m:=m) (b:=b) (by omega) (by omega),<-js q1 q2,<-js q5 q4]
  simp
 have hsrt:cU sec l a b=l.take a++(srt sec (cw l a r++cw l m e)++(srt sec (cw l r m++cw l e b)++l.drop b)):=by
  unfold cU;rw[<-A4 (srt sec (cw l a r++cw l m e))];congr 2;refine FY (vS.2 ⟨srt_sorted sec _,srt_sorted sec _,λx hx y hy=> ?_⟩) ?_
  .rcases x8.1 (srt_mem.1 hx)with hx|hx<;>rcases x8.1 (srt_mem.1 hy)with hy|hy
   .exact F3 x hx y hy
   .exact F2 x hx y hy
   .exact Lt (F1 y hy x hx)
   .exact F4 x hx y hy
  .refine((Fh sec _).app (Fh sec _)).trans ?_;have:cw l a b=cw l a r++((cw l r m++cw l m e)++cw l e b):=by
    rw[<-js (a:=a) (m:=m) (b:=b) (by omega) (by omega),<-js q1 q2,<-js q5 q4];simp
   rw[this];have:=(Cl.refl sec (cw l a r)).app ((QC F1).symm.app (Cl.refl sec (cw l e b)));simpa using this
 generalize hP:l.take a=P at hl hsrt lP;generalize hu1:cw l a r=u1 at*
 generalize hu2:cw l r m=u2 at*
 generalize hv1:cw l m e=v1 at*
 generalize hv2:cw l e b=v2 at*
 generalize hQ:l.drop b=Q at hl hsrt;have c1:cw (P++(u1++(v1++(u2++(v2++Q))))) a r=u1:=by
  rw[show P++(u1++(v1++(u2++(v2++Q))))=P++u1++(v1++(u2++(v2++Q))) by simp];exact uS (by omega) (by omega)
 have c2:cw (P++(u1++(v1++(u2++(v2++Q))))) r mid=v1:=by
  rw[show P++(u1++(v1++(u2++(v2++Q))))=(P++u1)++v1++(u2++(v2++Q)) by simp];exact uS (by simp;omega) (by simp;omega)
 have ls1:=srt_len sec (u1++v1);rw[k7]at ls1;have c3:cw (P++(srt sec (u1++v1)++(u2++(v2++Q)))) mid e=u2:=by
  rw[show P++(srt sec (u1++v1)++(u2++(v2++Q)))=(P++srt sec (u1++v1))++u2++(v2++Q) by simp];exact uS (by simp;omega) (by simp;omega)
 have c4:cw (P++(srt sec (u1++v1)++(u2++(v2++Q)))) e b=v2:=by
  rw[show P++(srt sec (u1++v1)++(u2++(v2++Q)))=(P++srt sec (u1++v1)++u2)++v2++Q by simp];exact uS (by simp;omega) (by simp;omega)
 have p1:(P++(u1++(v1++(u2++(v2++Q))))).Perm l:=by
  conv=>rhs;rw[hl]
  refine(S5 _ (S5 _ ?_));rw[<-A4,<-A4 u2];exact List.perm_append_comm.append_right _
 have p2:(P++(srt sec (u1++v1)++(u2++(v2++Q)))).Perm l:=by
  refine List.Perm.trans ?_ p1;rw[show P++(u1++(v1++(u2++(v2++Q))))=P++((u1++v1)++(u2++(v2++Q))) by simp];exact((srt_perm sec _).append_right _).append_left _
 refine⟨P++(u1++(v1++(u2++(v2++Q)))),P++(srt sec (u1++v1)++(u2++(v2++Q))),λ_ _=> ?_,λhn=> ?_,p1,by rw[c1];exact u1s,by rw[c2];exact v1s,λ_ _=> ?_,λhn=> ?_,p2,by rw[c3];exact u2s,by rw[c4];exact v2s,λ_ _=> ?_,λhn=> ?_⟩
 .conv=>lhs;rw[hl,show P++(u1++(u2++(v1++(v2++Q))))=(P++u1)++(u2++(v1++(v2++Q))) by simp]
  rw[di3 (by simp;omega) (by simp;omega) (by simp;omega)];simp
 .rcases k5 r m with hh|hh
  .have:v1=[]:=B1.1 (by omega);rw[this]at hl⊢;exact hl
  .have:u2=[]:=B1.1 (by omega);rw[this]at hl⊢;exact hl
 .rw[show P++(u1++(v1++(u2++(v2++Q))))=P++((u1++v1)++(u2++(v2++Q))) by simp,VY (by omega) (by simp;omega)]
 .rcases k5 a r with hh|hh
  .have:v1=[]:=B1.1 (by omega);rw[this,s6,xU u1s];rfl
  .have:u1=[]:=B1.1 (by omega);rw[this,show([]:List Val)++v1=v1 from rfl,xU v1s];rfl
 .rw[hsrt,show P++(srt sec (u1++v1)++(u2++(v2++Q)))=(P++srt sec (u1++v1))++((u2++v2)++Q) by simp,VY (by simp;omega) (by simp;omega)];simp
 .rw[hsrt];rcases k5 mid e with hh|hh
  .have:v2=[]:=B1.1 (by omega);rw[this,s6,xU u2s];rfl
  .have:u2=[]:=B1.1 (by omega);rw[this,show([]:List Val)++v2=v2 from rfl,xU v2s];rfl
noncomputable def bubA(sec:Bool)(a:Nat):List Val->Nat->Nat×List Val
 |l,0=>(a,l)
 |l,k+1=>if cL sec (bW l (a+k+1)) (bW l (a+k))then bubA sec a (iK l (a+k+1) (a+k)) k else(a+k+1,l)
theorem RP(sec:Bool)(x:Val){P:List Val}{a:Nat}(ha:a=P.length): ∀(s t:List Val),(bubA sec a (P++(s.reverse++x::t)) s.length).2=P++((gQ sec x s).reverse++t)
 | [],t=>rfl
 |y::r,t=>by
  have e1:P++((y::r).reverse++x::t)=(P++r.reverse)++y::([]++x::t):=by simp
  have a1:bW ((P++r.reverse)++y::([]++x::t)) (a+r.length)=y:=Oz (by grind);have a2:bW ((P++r.reverse)++y::([]++x::t)) (a+r.length+1)=x:=by
   grind[Oz]
  rw[e1,List.length_cons];unfold bubA gQ;rw[a1,a2];split
  .rw[Qm (by omega),Jx (by grind) (by grind),show(P++r.reverse)++x::([]++y::t)=P++(r.reverse++x::(y::t)) by simp,RP sec x ha r (y::t)];simp
  .simp
theorem cR2{i:Nat}(h1:a<=i)(h2:i<l.length):(bubA sec a (cU sec l a i) (i-a)).2=cU sec l a (i+1):=by
 have hd:l.drop i=bW l i::l.drop (i+1):=by
  rw[R6 h2];unfold bW;rw[j9,k9 h2];rfl
 have hl:(np sec (cw l a i)).length=i-a:=by
  have:=srt_len sec (cw l a i);unfold srt at this;rw[V3]at this;rw[this,mi (by omega)]
 have e:=RP sec (bW l i) (P:=l.take a) (a:=a) (by rw[k8];omega) (np sec (cw l a i)) (l.drop (i+1));rw[hl]at e;have e2:cU sec l a i=l.take a++((np sec (cw l a i)).reverse++bW l i::l.drop (i+1)):=by unfold cU srt;rw[hd]
 rw[e2,e];unfold cU srt;rw[<-js (a:=a) (m:=i) (b:=i+1) h1 (by omega),Sr h2,WC]
theorem WY(h1:a<=b)(h2:b<=a+1)(hb:b<=l.length):cU sec l a b=l:=by
 conv=>rhs;rw[BW (l:=l) h1]
 unfold cU;congr 2;refine xU ?_;have:(cw l a b).length<=1:=by grind[mi]
 unfold Sd
 match h:cw l a b,this with
 | [],_=>exact .nil
 | [x],_=>simp
 |x::y::r,hh=>simp at hh
theorem bY6(sec:Bool)(l:List Val):cU sec l 0 l.length=srt sec l:=by
 grind[cU,cw]
theorem srt_cl{q:List Val}(h:Cl sec l q):srt sec l=srt sec q:=FY (srt_sorted sec q) ((Fh sec q).trans h.symm)
theorem Ou(sec:Bool)(h:a<=b):Cl sec (cU sec l a b) l:=by
 have:=(Cl.refl sec (l.take a)).app ((Fh sec (cw l a b)).app (Cl.refl sec (l.drop b)));rwa[<-BW (l:=l) h]at this
theorem Nx(h:a<=b)(hb:b<=l.length):cw (cU sec l a b) a b=srt sec (cw l a b):=by
 grind[cU,List.append_assoc,uS,List.length_take,srt_len,mi]
end Go.Ev.S7
namespace Go.Ev.S7
open Go Go.Ev
def isL:Val->Bool
 | .vl _=>true
 |_=>false
theorem isL_at{v:Val}(h:isL v=true):v= .vl v.toL:=by
 cases v<;>first|rfl|cases h
def okK(r:Val):Bool:=match r with
 | .vl [.vs _,.vi _,.vi _,.vi _,.vi _,.vi _,.vi _]=>true
 |_=>false
def eb4(r:Val):Bool:=match r with
 | .vl [.vs _,.vi _,.vi _,.vb _,.vi _,.vi _,.vi _,.vi _]=>true
 |_=>false
theorem okK_at{r:Val}(h:okK r=true):cK r=r:=by
 unfold okK at h;split at h
 .rfl
 .cases h
def mI(l n:Val):Bool:=isL l&&(l.toL.all okK&&(decide (n.toI=(l.toL.length:Int))&&decide (l.toL.length<=400)))
theorem GG{l n:Val}(h:mI l n=true):l= .vl l.toL/\l.toL.all okK=true/\n.toI=(l.toL.length:Int)/\l.toL.length<=400:=by
 obtain⟨h1,h⟩:=W5 h;obtain⟨h2,h⟩:=W5 h;obtain⟨h3,h4⟩:=W5 h;exact⟨isL_at h1,h2,j6 h3,j6 h4⟩
def nt(v:Val):Nat:=v.toI.toNat
def tn:Val->Bool
 | .vi _=>true
 |_=>false
theorem KT{v:Val}(h:tn v=true):v= .vi v.toI:=by cases v<;>first|rfl|cases h
def e54(a:List Val):Prop:=mI (bV a 0) (bV a 1)=true/\0<=(bV a 2).toI/\(bV a 2).toI<(bV a 3).toI/\(bV a 3).toI<(bV a 4).toI/\(bV a 4).toI<=(bV a 1).toI/\(bV a 4).toI-(bV a 2).toI<=(bV a 5).toI/\
 tn (bV a 2)=true/\tn (bV a 3)=true/\tn (bV a 4)=true/\Sd false (cw (bV a 0).toL (nt (bV a 2)) (nt (bV a 3)))/\Sd false (cw (bV a 0).toL (nt (bV a 3)) (nt (bV a 4)))
open Classical in
noncomputable def GP(a:List Val):Bool:=decide (e54 a)
theorem QV{a:List Val}:GP a=true↔e54 a:=by grind[GP]
noncomputable def dT(B:Nat)(l:List Val):Nat->List Val
 |0=>l
 |k+1=>cU false (dT B l k) (B*k) (B*k+B)
noncomputable def pass(bs n:Nat)(l:List Val):List Val:=if 2*bs*(n/(2*bs))+bs<n then cU false (dT (2*bs) l (n/(2*bs))) (2*bs*(n/(2*bs))) n else dT (2*bs) l (n/(2*bs))
noncomputable def nJ(n:Nat):Nat->Nat->List Val->Nat×List Val
 |0,bs,l=>(bs,l)
 |f+1,bs,l=>if bs<n then nJ n f (2*bs) (pass bs n l)else(bs,l)
noncomputable def GX:Nat->List Val->Val:=λi a=>match i with
 |420=> .vb (mI (bV a 0) (bV a 1)&&decide (0<=(bV a 2).toI/\0<=(bV a 4).toI/\(bV a 2).toI+(bV a 4).toI<=(bV a 3).toI/\(bV a 3).toI+(bV a 4).toI<=(bV a 1).toI))
 |421=> .vl (jY (bV a 0).toL (nt (bV a 1)) (nt (bV a 2)) (nt (bV a 3)))
 |422=> .vb (mI (bV a 0) (bV a 1)&&decide (0<=(bV a 2).toI/\(bV a 2).toI<(bV a 3).toI/\(bV a 3).toI<(bV a 4).toI/\(bV a 4).toI<=(bV a 1).toI))
 |423=> .vl (yF (bV a 0).toL (nt (bV a 1)) (nt (bV a 2)) (nt (bV a 3)))
 |424=> .vb (mI (bV a 0) (bV a 1)&&decide (0<=(bV a 2).toI/\(bV a 2).toI<=(bV a 3).toI/\(bV a 3).toI<=(bV a 1).toI))
 |425=> .vl (cU false (bV a 0).toL (nt (bV a 1)) (nt (bV a 2)))
 |426=> .vb (GP a)
 |428=> .vb (mI (bV a 0) (bV a 1)&&(tn (bV a 2)&&decide ((bV a 2).toI=(bV a 1).toI)))
 |431=> .vb (isL (bV a 0)&&(bV a 0).toL.all okK)
 |433=> .vb (isL (bV a 0)&&(bV a 0).toL.all eb4)
 |452=>cr (0,[.vi (nt (bV a 6)),.vl (jY (bV a 1).toL (nt (bV a 4)) (nt (bV a 5)) (nt (bV a 6)))])
 |458=>cr (0,[.vi (jZ (nt (bV a 5)) (nt (bV a 0)+nt (bV a 1)) (nt (bV a 0)) (nt (bV a 1)) (bV a 2).toL).1,.vi (jZ (nt (bV a 5)) (nt (bV a 0)+nt (bV a 1)) (nt (bV a 0)) (nt (bV a 1)) (bV a 2).toL).1,.vl (jZ (nt (bV a 5)) (nt (bV a 0)+nt (bV a 1)) (nt (bV a 0)) (nt (bV a 1)) (bV a 2).toL).2])
 |460=>cr (0,[.vi (max (nt (bV a 4)+1) (nt (bV a 5)):Nat),.vl (cU false (bV a 1).toL (nt (bV a 4)) (nt (bV a 5)))])
 |461=>cr (0,[.vi (bubA false (nt (bV a 4)) (bV a 1).toL (nt (bV a 0)-nt (bV a 4))).1,.vl (bubA false (nt (bV a 4)) (bV a 1).toL (nt (bV a 0)-nt (bV a 4))).2])
 |462=>let r:=bs (λh=>cL false (bW (bV a 3).toL h) (bW (bV a 3).toL (nt (bV a 4)))) (nt (bV a 1)-nt (bV a 0)) (nt (bV a 0)) (nt (bV a 1));cr (0,[.vi r,.vi r])
 |463=>cr (0,[.vi (nt (bV a 4)-1:Nat),.vl (oc (bV a 1).toL (nt (bV a 0)) (nt (bV a 4)-1-nt (bV a 0)))])
 |464=>let r:=bs (λh=> !cL false (bW (bV a 3).toL (nt (bV a 4))) (bW (bV a 3).toL h)) (nt (bV a 1)-nt (bV a 0)) (nt (bV a 0)) (nt (bV a 1));cr (0,[.vi r,.vi r])
 |465=>cr (0,[bV a 4,.vl (ng (bV a 1).toL (nt (bV a 0)) (nt (bV a 0)-nt (bV a 4)))])
 |466=>let r:=bs (λc=> !cL false (bW (bV a 3).toL (nt (bV a 9)-c)) (bW (bV a 3).toL c)) (nt (bV a 1)-nt (bV a 0)) (nt (bV a 0)) (nt (bV a 1));cr (0,[.vi r,.vi r])
 |467=>cr (0,[.vi (20*(nt (bV a 5)/20):Nat),.vi (20*(nt (bV a 5)/20)+20:Nat),.vl (dT 20 (bV a 2).toL (nt (bV a 5)/20))])
 |468=>cr (0,[.vi (nJ (nt (bV a 4)) 9 20 (bV a 1).toL).1,.vl (nJ (nt (bV a 4)) 9 20 (bV a 1).toL).2])
 |469=>cr (0,[.vi (2*nt (bV a 6)*(nt (bV a 5)/(2*nt (bV a 6))):Nat),.vi (2*nt (bV a 6)*(nt (bV a 5)/(2*nt (bV a 6)))+2*nt (bV a 6):Nat),.vl (dT (2*nt (bV a 6)) (bV a 2).toL (nt (bV a 5)/(2*nt (bV a 6))))])
 |490=> .vl (srt false (bV a 0).toL)
 |_=> .vb false
end Go.Ev.S7
