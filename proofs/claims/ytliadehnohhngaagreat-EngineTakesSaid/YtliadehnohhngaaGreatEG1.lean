import Derived.Test.YtliadehnohhngaaGreatEM1
set_option linter.all false
noncomputable section
namespace Go.Ev.S7
open Go Go.Ev
variable{l P Q q:U0}{sec:Bool}{a b k m:Nat}{x y:Val}
def cU(sec:Bool)(a b:Val):Bool:=mD a b
theorem QJ(sec:Bool)(a:Val):cU sec a a=false:=QC _
def Oy{a b:Val}(h:cU sec a b=true):cU sec b a=false:=Sf h
theorem wp{a b c:Val}(h1:cU sec a b=false)(h2:cU sec b c=false):cU sec a c=false:=SY h1 h2
def ic(sec:Bool)(x:Val):U0->U0
 | []=>[x]
 |y::r=>if cU sec x y then y::ic sec x r else x::y::r
def jB(sec:Bool)(l:U0):U0:=l.foldl (λs x=>ic sec x s) []
def srt(sec:Bool)(l:U0):U0:=(jB sec l).reverse
def ZT(sec:Bool)(l:U0)(x:Val):jB sec (l++[x])=ic sec x (jB sec l):=by simp[jB]
def vn(sec:Bool)(x:Val): ∀s:U0,(ic sec x s).Perm (x::s)
 | []=> .refl _
 |y::r=>by
  unfold ic;split
  .exact((vn sec x r).cons y).trans (.swap x y r)
  rfl
def LJ(sec:Bool)(l:U0): ∀s:U0,(l.foldl (λs x=>ic sec x s) s).Perm (l++s):=by
 induction l with
 |nil=>simp_all
 |cons x l ih=>
  intro s;exact(ih _).trans (((vn sec x s).append_left l).trans List.perm_middle)
def srt_perm(sec:Bool)(l:U0):(srt sec l).Perm l:=by have:=LJ sec l [];rw[o9]at this;exact(List.reverse_perm _).trans this
theorem srt_len(sec:Bool)(l:U0):(srt sec l).length=l.length:=(srt_perm sec l).length_eq
theorem FI(sec:Bool)(x:Val): ∀s:U0,s.Pairwise (λa b=>cU sec a b=false)->(ic sec x s).Pairwise (λa b=>cU sec a b=false)
 | [],_=>by simp[ic]
 |y::r,h=>by
  unfold ic;rw[B8]at h;split
  rename_i hl;rw[B8];refine⟨λz hz=> ?_,FI sec x r h.2⟩;rcases n8.1 ((vn sec x r).mem_iff.1 hz)with rfl|hz
  exact Oy hl;exact h.1 z hz
  rename_i hl;have hl:cU sec x y=false:=by simpa using hl
  rw[B8,B8];refine⟨λz hz=> ?_,h⟩;rcases n8.1 hz with rfl|hz
  exact hl;exact wp hl (h.1 z hz)
def KK(sec:Bool)(l:U0): ∀s:U0,s.Pairwise (λa b=>cU sec a b=false)->(l.foldl (λs x=>ic sec x s) s).Pairwise (λa b=>cU sec a b=false):=by
 induction l with
 |nil=>grind
 |cons x l ih=>grind[FI]
def srt_sorted(sec:Bool)(l:U0):(srt sec l).Pairwise (λa b=>cU sec b a=false):=by unfold srt;rw[U8];exact KK sec l [] .nil
def YA(a b:U0)(k:Nat)(h:a.length=k):cg (a++b) k=cg b 0:=by simp_all[cg,k5,s6,j5,J7]
def eqv(sec:Bool)(x y:Val):Bool:= !cU sec x y&& !cU sec y x
def Sd(sec:Bool)(l:U0):Prop:=l.Pairwise (λa b=>cU sec b a=false)
def Cl(sec:Bool)(l q:U0):Prop:= ∀x,l.filter (eqv sec x)=q.filter (eqv sec x)
def c41(sec:Bool)(x:Val):eqv sec x x=true:=by simp[eqv,QJ]
theorem eqv_iff:eqv sec x y=true↔cU sec x y=false/\cU sec y x=false:=by simp[eqv]
theorem db8{z:Val}(h:cU sec y z=true)(h1:eqv sec x y=true):eqv sec x z=false:=by grind[eqv_iff,wp]
def Cl.refl(sec:Bool)(l:U0):Cl sec l l:=λ_=>rfl
def Cl.symm(h:Cl sec l q):Cl sec q l:=λx=>(h x).symm
def Cl.trans{r:U0}(h:Cl sec l q)(h2:Cl sec q r):Cl sec l r:=λx=>(h x).trans (h2 x)
def Cl.app{a b c d:U0}(h:Cl sec a b)(h2:Cl sec c d):Cl sec (a++c) (b++d):=λx=>by rw[E3,E3,h x,h2 x]
def Um{A B:U0}(h: ∀a∈A,∀b∈B,cU sec b a=true):Cl sec (A++B) (B++A):=λx=>by
 rw[E3,E3];cases hA:A.filter (eqv sec x)with
 |nil=>simp
 |cons a l=>
  have ha:a∈A.filter (eqv sec x):=by rw[hA];simp
  have hB:B.filter (eqv sec x)=[]:=by rw[R7];intro b hb hx;have:=db8 (h a (l9.1 ha).1 b hb) hx;rw[(l9.1 ha).2]at this;cases this
  rw[hB];simp
def MX(h:Cl sec l q)(hx:x∈l):x∈q:=by have:x∈l.filter (eqv sec x):=l9.2 ⟨hx,c41 sec x⟩;rw[h x]at this;grind
def cB3{sec:Bool}: ∀{l q:U0},Sd sec l->Sd sec q->Cl sec l q->l=q
 | [],[],_,_,_=>rfl
 | [],y::q,_,_,h=>by have:=MX h.symm (x:=y) (by simp);cases this
 |x::l,[],_,_,h=>by have:=MX h (x:=x) (by simp);cases this
 |x::l,y::q,h1,h2,h=>by
  have g1:=B8.1 h1;have g2:=B8.1 h2;have e1:cU sec x y=false:=by
   rcases n8.1 (MX h (x:=x) (by simp))with e|e
   rw[e];exact QJ sec y;exact g2.1 x e
  have e2:cU sec y x=false:=by
   rcases n8.1 (MX h.symm (x:=y) (by simp))with e|e
   rw[e];exact QJ sec x;exact g1.1 y e
  have hx:=h x;rw[B1,c9 (c41 sec x),B1,c9 (eqv_iff.2 ⟨e1,e2⟩)]at hx;injection hx with hxy _
  congr 1;refine cB3 g1.2 g2.2 λz=> ?_
  have hz:=h z;grind
def cB4{sec:Bool}(x z:Val): ∀s:U0,(ic sec x s).filter (eqv sec z)=(x::s).filter (eqv sec z)
 | []=>rfl
 |y::r=>by unfold ic;split;rw[B1,cB4 x z r,B1,B1,B1];grind[eqv,db8];rfl
def db9{sec:Bool}(z:Val): ∀(l s:U0),(l.foldl (λs x=>ic sec x s) s).filter (eqv sec z)=(l.reverse++s).filter (eqv sec z)
 | [],s=>rfl
 |x::l,s=>by rw[List.foldl_cons,db9 z l,E3,cB4,<-E3];simp
def Gr(sec:Bool)(l:U0):Cl sec (srt sec l) l:=λz=>by unfold srt;rw[U9];have:=db9 (sec:=sec) z l [];unfold jB;rw[this,o9,U9,List.reverse_reverse]
def JD(hs:Sd sec q)(hc:Cl sec q l):srt sec l=q:=cB3 (srt_sorted sec l) hs ((Gr sec l).trans hc.symm)
def By(hs:Sd sec l):srt sec l=l:=JD hs (Cl.refl sec l)
def srt_mem:x∈srt sec l↔x∈l:=(srt_perm sec l).mem_iff
def cE(l:U0)(a b:Nat):U0:=(l.take b).drop a
theorem nV(h:b<=l.length):(cE l a b).length=b-a:=by grind[cE,List.length_drop,List.length_take]
theorem kN(h1:a<=m)(h2:m<=b):cE l a m++cE l m b=cE l a b:=by
 unfold cE;have e:l.take m=(l.take b).take m:=by rw[Q5,C0 h2]
 rw[e];generalize l.take b=q;have:q.drop m=(q.drop a).drop (m-a):=by rw[N5,show a+(m-a)=m by omega]
 rw[Q6,this,A3]
theorem cB5(h1:a<=b):l=l.take a++cE l a b++l.drop b:=by
 have e:l.take a=cE l 0 a:=by rfl
 rw[e,kN (p8 a) h1];simp[cE]
theorem xW{U:U0}(ha:a=P.length)(hb:b=P.length+U.length):cE (P++U++Q) a b=U:=by unfold cE;grind
theorem Wo(h:k=P.length):cg (P++x::Q) k=x:=by simp_all[cg,k5,s6,j5,J7]
theorem dr5(h:k=P.length):(P++x::Q).set k y=P++y::Q:=by simp_all
theorem cB6(h1:b<=l.length)(h2:a+k<b):cg (cE l a b) k=cg l (a+k):=by unfold cE cg;grind
theorem Hj(h:k<l.length):cg l k∈l:=by unfold cg;rw[k5,m7 h];exact C6 h
theorem dr6(h:x∈l): ∃k,k<l.length/\x=cg l k:=by obtain⟨k,hk,rfl⟩:=C3 h;refine⟨k,hk,?_⟩;unfold cg;rw[k5,m7 hk];rfl
def xy(hb:b<=l.length)(h:x∈cE l a b): ∃k,a<=k/\k<b/\x=cg l k:=by grind[dr6,nV,cB6]
def jm(l:U0)(i j:Nat):U0:=(l.set i (cg l j)).set j (cg l i)
theorem ID(l:U0)(i j:Nat):(jm l i j).length=l.length:=by simp[jm]
theorem QI{M:U0}{i j:Nat}(hi:i=P.length)(hj:j=P.length+1+M.length):jm (P++x::(M++y::Q)) i j=P++y::(M++x::Q):=by grind[cg,Wo,jm,dr5]
def Rt{i j:Nat}(h:i≠j):jm l i j=jm l j i:=by grind[jm,List.set_comm]
def lj(l:U0)(a b:Nat):Nat->U0
 |0=>l
 |n+1=>jm (lj l a b n) (a+n) (b+n)
theorem xh(l:U0)(a b:Nat): ∀n,(lj l a b n).length=l.length
 |0=>rfl
 |n+1=>by rw[lj,ID,xh l a b n]
def RR{n:Nat}(h:l.length=n+1): ∃q x,l=q++[x]/\q.length=n:=by
 rcases V0 l with e|⟨q,x,e⟩
 rw[e]at h;cases h;grind
def PL: ∀(n:Nat) {P A X B Q:U0} {a b:Nat},A.length=n->B.length=n->a=P.length->b=P.length+n+X.length->lj (P++(A++(X++(B++Q)))) a b n=P++(B++(X++(A++Q)))
 |0,P,A,X,B,Q,a,b,hA,hB,_,_=>by rw[C5.1 hA,C5.1 hB];rfl
 |n+1,P,A,X,B,Q,a,b,hA,hB,ha,hb=>by obtain⟨A',x,rfl,h1⟩:=RR hA;obtain⟨B',y,rfl,h2⟩:=RR hB;have ih:=PL n (P:=P) (A:=A') (X:=x::X) (B:=B') (Q:=y::Q) (a:=a) (b:=b) h1 h2 ha (by simp;omega);grind[lj,QI]
def zP(l:U0)(a m b:Nat):U0:=l.take a++(cE l m b++(cE l a m++l.drop b))
def ep7(h1:a<=m)(h2:m<=b):l=l.take a++(cE l a m++(cE l m b++l.drop b)):=by grind[cB5,Nat.le_trans,kN]
def Fa(h1:a<=b):l=l.take a++(cE l a b++l.drop b):=by grind[cB5]
def dr8{U V:U0}(ha:a=P.length)(hm:m=P.length+U.length)(hb:b=P.length+U.length+V.length):zP (P++(U++(V++Q))) a m b=P++(V++(U++Q)):=by
 have e1:cE (P++(U++(V++Q))) a m=U:=by rw[show P++(U++(V++Q))=P++U++(V++Q) by simp];exact xW ha hm
 have e2:cE (P++(U++(V++Q))) m b=V:=by rw[show P++(U++(V++Q))=(P++U)++V++Q by simp];exact xW (by simp;omega) (by simp;omega)
 unfold zP;rw[e1,e2,List.take_left' ha.symm,show P++(U++(V++Q))=(P++(U++V))++Q by simp,List.drop_left' (by simp;omega)]
def kW(m:Nat):Nat->Nat->Nat->U0->Nat×U0
 |0,i,_,l=>(i,l)
 |n+1,i,j,l=>if i=j then(i,l)else if j<i then kW m n (i-j) j (lj l (m-i) m j)else kW m n i (j-i) (lj l (m-i) (m+j-i) i)
def Xa(m:Nat): ∀(n i j:Nat) (P U V Q:U0),i+j<=n+1->0<i->0<j->U.length=i->V.length=j->m=P.length+i->
 let r:=kW m n i j (P++(U++(V++Q)))
 0<r.1/\r.1<=i/\r.1<=j/\r.2.length=(P++(U++(V++Q))).length/\lj r.2 (m-r.1) m r.1=P++(V++(U++Q))
 |0,i,j,P,U,V,Q,hn,hi,hj,hU,hV,hm=>by omega
 |n+1,i,j,P,U,V,Q,hn,hi,hj,hU,hV,hm=>by
  unfold kW;by_cases h1:i=j;have:=PL i (P:=P) (A:=U) (X:=[]) (B:=V) (Q:=Q) (a:=m-i) (b:=m) hU (by omega) (by omega) (by omega);grind;by_cases h2:j<i
  obtain⟨U1,U2,rfl,hU1⟩: ∃U1 U2,U=U1++U2/\U1.length=j:=⟨U.take j,U.drop j,(A3 j U).symm,by rw[l5];omega⟩;have hU2:U2.length=i-j:=by rw[k7]at hU;omega
  have e:=PL j (P:=P) (A:=U1) (X:=U2) (B:=V) (Q:=Q) (a:=m-i) (b:=m) hU1 hV (by omega) (by omega);have ih:=Xa m n (i-j) j (P++V) U2 U1 Q (by omega) (by omega) hj hU2 hU1 (by simp;omega);grind
  obtain⟨V1,V2,rfl,hV1⟩: ∃V1 V2,V=V1++V2/\V1.length=j-i:=⟨V.take (j-i),V.drop (j-i),(A3 (j-i) V).symm,by rw[l5];omega⟩;have hV2:V2.length=i:=by rw[k7]at hV;omega
  have e:=PL i (P:=P) (A:=U) (X:=V1) (B:=V2) (Q:=Q) (a:=m-i) (b:=m+j-i) hU hV2 (by omega) (by omega);have ih:=Xa m n i (j-i) P V2 V1 (U++Q) (by omega) hi (by omega) hV2 hV1 hm;grind
def pi(l:U0)(a:Nat):Nat->U0
 |0=>l
 |n+1=>jm (pi l a n) (a+n) (a+n+1)
theorem On(l:U0)(a:Nat): ∀n,(pi l a n).length=l.length
 |0=>rfl
 |n+1=>by rw[pi,ID,On l a n]
theorem dc0: ∀(n:Nat) {P Y Q:U0} {x:Val} {a:Nat},Y.length=n->a=P.length->pi (P++x::(Y++Q)) a n=P++(Y++x::Q)
 |0,P,Y,Q,x,a,hY,_=>by rw[C5.1 hY];rfl
 |n+1,P,Y,Q,x,a,hY,ha=>by obtain⟨Y',y,rfl,h1⟩:=RR hY;have ih:=dc0 n (P:=P) (Y:=Y') (Q:=y::Q) (x:=x) (a:=a) h1 ha;rw[show P++x::((Y'++[y])++Q)=P++x::(Y'++y::Q) by simp,pi,ih,show P++(Y'++x::y::Q)=(P++Y')++x::([]++y::Q) by simp,QI (by grind) (by grind)];simp
def oq(l:U0)(m:Nat):Nat->U0
 |0=>l
 |n+1=>jm (oq l m n) (m-n-1) (m-n)
theorem Ol(l:U0)(m:Nat): ∀n,(oq l m n).length=l.length
 |0=>rfl
 |n+1=>by rw[oq,ID,Ol l m n]
theorem Zr: ∀(n:Nat) {P Y Q:U0} {x:Val} {m:Nat},Y.length=n->m=P.length+n->oq (P++(Y++x::Q)) m n=P++x::(Y++Q)
 |0,P,Y,Q,x,m,hY,_=>by rw[C5.1 hY];rfl
 |n+1,P,Y,Q,x,m,hY,hm=>by
  cases Y with
  |nil=>cases hY
  |cons y Y'=>
   have ih:=Zr n (P:=P++[y]) (Y:=Y') (Q:=Q) (x:=x) (m:=m) (by simpa using hY) (by simp;omega);grind[oq,QI]
def bs(T:Nat->Bool):Nat->Nat->Nat->Nat
 |0,i,_=>i
 |n+1,i,j=>if i<j then(if T ((i+j)/2)then bs T n ((i+j)/2+1) j else bs T n i ((i+j)/2))else i
def HH{T:Nat->Bool}{lo hi:Nat}(mono: ∀c d,lo<=c->c<=d->d<hi->T d=true->T c=true): ∀n i j,lo<=i->i<=j->j<=hi->j-i<=n->(∀c,lo<=c->c<i->T c=true)->(∀c,j<=c->c<hi->T c=false)->
 i<=bs T n i j/\bs T n i j<=j/\(∀c,lo<=c->c<bs T n i j->T c=true)/\ ∀c,bs T n i j<=c->c<hi->T c=false
 |0,i,j,h1,h2,h3,h4,h5,h6=>by
  have:i=j:=by omega
  subst this;exact⟨j5 _,j5 _,h5,h6⟩
 |n+1,i,j,h1,h2,h3,h4,h5,h6=>by unfold bs;by_cases hij:i<j;rw[c9 hij];by_cases hT:T ((i+j)/2)=true;rw[c9 hT];obtain⟨a,b,c⟩:=HH mono n ((i+j)/2+1) j (by omega) (by omega) h3 (by omega) (λc hc1 hc2=>mono c ((i+j)/2) hc1 (by omega) (by omega) hT) h6;exact⟨by omega,b,c⟩;rw[b9 hT];obtain⟨a,b,c⟩:=HH mono n i ((i+j)/2) h1 (by omega) (by omega) (by omega) h5 (λc hc1 hc2=>by rw[<-A2];exactλhc=>hT (mono _ c (by omega) hc1 hc2 hc));exact⟨a,by omega,c⟩;grind
def Vw{step:U0->Option (Nat×U0)}{T:Nat->Bool}{lo hi:Nat}(h1: ∀i j:Nat,lo<=i->i<j->j<=hi->step [.D i,.D j]=some (0,if T ((i+j)/2)then [.D ((i+j)/2+1:Nat),.D j]else [.D i,.D ((i+j)/2:Nat)]))(h2: ∀i:Nat,step [.D i,.D i]=some (1,[.D i,.D i])):
 ∀(n i j:Nat),lo<=i->i<=j->j<=hi->j-i<=n->Iter step [.D i,.D j] 0 [.D (bs T n i j),.D (bs T n i j)]
 |0,i,j,a,b,c,d=>by
  have:i=j:=by omega
  subst this;exact .out (h2 i)
 |n+1,i,j,a,b,c,d=>by
  unfold bs;by_cases hij:i<j;rw[c9 hij];have e:=h1 i j a hij c;by_cases hT:T ((i+j)/2)=true;rw[c9 hT]at e⊢;exact .more e (Vw h1 h2 n ((i+j)/2+1) j (by omega) (by omega) c (by omega));rw[b9 hT]at e⊢;exact .more e (Vw h1 h2 n i ((i+j)/2) a (by omega) (by omega) (by omega))
  rw[b9 hij];have:i=j:=by omega
  subst this;exact .out (h2 i)
variable{l:U0}{a b:Nat}{sec:Bool}
def dv(sec:Bool)(l:U0)(a b:Nat):U0:=l.take a++(srt sec (cE l a b)++l.drop b)
def Ih(sec:Bool)(h:a<=b):(dv sec l a b).Perm l:=by
 conv=>rhs;rw[Fa (l:=l) h]
 exact((srt_perm sec _).append_right _).append_left _
def c45(sec:Bool)(h:a<=b):(dv sec l a b).length=l.length:=(Ih sec h).length_eq
def cB7{P U Q:U0}(ha:a=P.length)(hb:b=P.length+U.length):dv sec (P++(U++Q)) a b=P++(srt sec U++Q):=by grind[cE,xW,dv,List.take_left',List.drop_left']
theorem xX{A B:U0}:Sd sec (A++B)↔Sd sec A/\Sd sec B/\ ∀a∈A,∀b∈B,cU sec b a=false:=List.pairwise_append
def wA{i j:Nat}(h:Sd sec (cE l a b))(hb:b<=l.length)(h1:a<=i)(h2:i<=j)(h3:j<b):cU sec (cg l j) (cg l i)=false:=by
 rcases k8 i j with hij|hij
 unfold Sd at h;rw[K6]at h;have hl:=nV (l:=l) (a:=a) hb;have:=h (i-a) (j-a) (by omega) (by omega) (by omega);have e: ∀k (hk:k<(cE l a b).length),(cE l a b)[k]=cg l (a+k):=λk hk=>by rw[<-cB6 hb (by omega)];unfold cg;rw[k5,m7 hk];rfl
 rw[e,e,show a+(i-a)=i by omega,show a+(j-a)=j by omega]at this;exact this;grind[QJ]
def MP{c d:Nat}(h:Sd sec (cE l a b))(h1:a<=c)(h2:c<=d)(h3:d<=b):Sd sec (cE l c d):=by rw[<-kN h1 (l7 h2 h3),<-kN h2 h3]at h;grind[xX]
def Ug(h:a<l.length):cE l a (a+1)=[cg l a]:=by unfold cE;rw[P3,N4,K0 (by grind)];unfold cg;rw[l5,show a-min a l.length=0 by omega,k5,m7 h];rfl
theorem WJ(h:b<=a):cE l a b=[]:=by grind[cE,List.drop_eq_nil_of_le,List.length_take]
def e69{a b c:Val}(h1:cU sec a b=true)(h2:cU sec c b=false):cU sec a c=true:=by grind[cU,wp]
def dP4{a b c:Val}(h1:cU sec b a=false)(h2:cU sec b c=true):cU sec a c=true:=by grind[cU,wp]
def dr9(h1:a+1<b)(hb:b<=l.length)(hs:Sd sec (cE l (a+1) b)):
 a+1<=bs (λh=>cU sec (cg l h) (cg l a)) (b-(a+1)) (a+1) b/\bs (λh=>cU sec (cg l h) (cg l a)) (b-(a+1)) (a+1) b<=b/\
  pi l a (bs (λh=>cU sec (cg l h) (cg l a)) (b-(a+1)) (a+1) b-1-a)=dv sec l a b:=by
 have sp:=HH (T:=λh=>cU sec (cg l h) (cg l a)) (lo:=a+1) (hi:=b) (λc d hc hcd hd hT=>dP4 (wA hs hb hc hcd hd) hT) (b-(a+1)) (a+1) b (j5 _) (by omega) (j5 _) (j5 _) (λc _ _=>by omega) (λc _ _=>by omega);generalize bs (λh=>cU sec (cg l h) (cg l a)) (b-(a+1)) (a+1) b=r at sp⊢;obtain⟨r1,r2,r3,r4⟩:=sp;have e1:cE l a b=cg l a::(cE l (a+1) r++cE l r b):=by rw[kN r1 r2,<-kN (a:=a) (m:=a+1) (b:=b) (by omega) (by omega),Ug (by omega)];rfl
 have e2:l=l.take a++cg l a::(cE l (a+1) r++(cE l r b++l.drop b)):=by
  conv=>lhs;rw[Fa (l:=l) (a:=a) (b:=b) (by omega),e1]
  simp
 have hA: ∀x∈cE l (a+1) r,cU sec x (cg l a)=true:=λx hx=>by obtain⟨k,k1,k2,rfl⟩:=xy (by omega) hx;exact r3 k k1 k2
 have hB: ∀x∈cE l r b,cU sec x (cg l a)=false:=λx hx=>by obtain⟨k,k1,k2,rfl⟩:=xy hb hx;exact r4 k k1 k2
 have hAB:=xX.1 (show Sd sec (cE l (a+1) r++cE l r b) by rw[kN r1 r2];exact hs);have e3:srt sec (cE l a b)=cE l (a+1) r++cg l a::cE l r b:=by
  refine JD (xX.2 ⟨hAB.1,B8.2 ⟨hB,hAB.2.1⟩,λx hx y hy=> ?_⟩) ?_
  rcases n8.1 hy with rfl|hy
  exact Oy (hA x hx);exact hAB.2.2 x hx y hy;rw[e1];have:=(Um (sec:=sec) (A:=[cg l a]) (B:=cE l (a+1) r) (λx hx y hy=>by rw[o7.1 hx];exact hA y hy)).symm.app (Cl.refl sec (cE l r b));simpa using this
 grind[dc0,cE,cg,nV,List.length_take,dv]
def ds3{m:Nat}(h1:a<m)(hb:m+1<=l.length)(hs:Sd sec (cE l a m)):
 a<=bs (λh=> !cU sec (cg l m) (cg l h)) (m-a) a m/\bs (λh=> !cU sec (cg l m) (cg l h)) (m-a) a m<=m/\
  oq l m (m-bs (λh=> !cU sec (cg l m) (cg l h)) (m-a) a m)=dv sec l a (m+1):=by
 have sp:=HH (T:=λh=> !cU sec (cg l m) (cg l h)) (lo:=a) (hi:=m) (λc d hc hcd hd hT=>by simp at hT⊢;exact wp hT (wA hs (by omega) hc hcd hd)) (m-a) a m (j5 _) (by omega) (j5 _) (j5 _) (λc _ _=>by omega) (λc _ _=>by omega)
 generalize bs (λh=> !cU sec (cg l m) (cg l h)) (m-a) a m=r at sp⊢;obtain⟨r1,r2,r3,r4⟩:=sp;have e1:cE l a (m+1)=cE l a r++(cE l r m++[cg l m]):=by rw[<-A8,kN r1 r2,<-kN (a:=a) (m:=m) (b:=m+1) (by omega) (by omega),Ug (by omega)]
 have e2:l=(l.take a++cE l a r)++(cE l r m++cg l m::l.drop (m+1)):=by
  conv=>lhs;rw[Fa (l:=l) (a:=a) (b:=m+1) (by omega),e1]
  simp
 have hA: ∀x∈cE l a r,cU sec (cg l m) x=false:=λx hx=>by obtain⟨k,k1,k2,rfl⟩:=xy (by omega) hx;simpa using r3 k k1 k2
 have hB: ∀x∈cE l r m,cU sec (cg l m) x=true:=λx hx=>by obtain⟨k,k1,k2,rfl⟩:=xy (by omega) hx;simpa using r4 k k1 k2
 have hAB:=xX.1 (show Sd sec (cE l a r++cE l r m) by rw[kN r1 r2];exact hs);have e3:srt sec (cE l a (m+1))=cE l a r++cg l m::cE l r m:=by
  refine JD (xX.2 ⟨hAB.1,B8.2 ⟨λy hy=>Oy (hB y hy),hAB.2.1⟩,λx hx y hy=> ?_⟩) ?_
  rcases n8.1 hy with rfl|hy
  exact hA x hx;exact hAB.2.2 x hx y hy;rw[e1];have:=(Cl.refl sec (cE l a r)).app (Um (sec:=sec) (A:=cE l r m) (B:=[cg l m]) (λx hx y hy=>by rw[o7.1 hy];exact hB x hx)).symm;simpa using this
 grind[Zr,cE,cg,nV,List.length_append,List.length_take,dv]
def ds4{m mid lo hi r:Nat}(h1:a<m)(h2:m<b)(hb:b<=l.length)(hs1:Sd sec (cE l a m))(hs2:Sd sec (cE l m b))(hmid:mid=(a+b)/2)
 (hlh:mid<m/\lo=mid+m-b/\hi=mid\/m<=mid/\lo=a/\hi=m) (hr:r=bs (λc=> !cU sec (cg l (mid+m-1-c)) (cg l c)) (hi-lo) lo hi):
 a<=r/\r<=m/\r<=mid/\mid+m-r<=b/\ ∃l1 l2,(r<m->m<mid+m-r->zP l r m (mid+m-r)=l1)/\(¬(r<m/\m<mid+m-r)->l=l1)/\l1.Perm l/\Sd sec (cE l1 a r)/\Sd sec (cE l1 r mid)/\
  (a<r->r<mid->dv sec l1 a mid=l2)/\(¬(a<r/\r<mid)->l1=l2)/\l2.Perm l/\Sd sec (cE l2 mid (mid+m-r))/\Sd sec (cE l2 (mid+m-r) b)/\
  (mid<mid+m-r->mid+m-r<b->dv sec l2 mid b=dv sec l a b)/\(¬(mid<mid+m-r/\mid+m-r<b)->l2=dv sec l a b):=by
 have hle:lo<=hi:=by omega
 have sp:=HH (T:=λc=> !cU sec (cg l (mid+m-1-c)) (cg l c)) (lo:=lo) (hi:=hi) (λc d hc hcd hd hT=>by simp at hT⊢;have g1:=wA hs1 (by omega) (show a<=c by omega) hcd (by omega);have g2:=wA hs2 hb (show m<=mid+m-1-d by omega) (show mid+m-1-d<=mid+m-1-c by omega) (by omega);exact wp g2 (wp hT g1)) (hi-lo) lo hi (j5 _) hle (j5 _) (j5 _) (λc _ _=>by omega) (λc _ _=>by omega)
 rw[<-hr]at sp;obtain⟨r1,r2,r3,r4⟩:=sp;have q1:a<=r:=by omega
 have q2:r<=m:=by omega
 have q3:r<=mid:=by omega
 have q4:mid+m-r<=b:=by omega
 refine⟨q1,q2,q3,q4,?_⟩;obtain⟨e,he⟩: ∃e,e=mid+m-r:=⟨_,rfl⟩;rw[<-he]at q4⊢;have q5:m<=e:=by omega
 have F1: ∀x∈cE l r m,∀y∈cE l m e,cU sec y x=true:=λx hx y hy=>by obtain⟨i,i1,i2,rfl⟩:=xy (by omega) hx;obtain⟨j,j1,j2,rfl⟩:=xy (by omega) hy;have hT:=r4 r (j5 _) (by omega);simp at hT;rw[show mid+m-1-r=e-1 by omega]at hT;have g1:=wA hs2 hb j1 (show j<=e-1 by omega) (by omega);have g2:=wA hs1 (by omega) q1 i1 i2;exact e69 (dP4 g1 hT) g2
 have F2: ∀x∈cE l a r,∀y∈cE l e b,cU sec y x=false:=λx hx y hy=>by obtain⟨i,i1,i2,rfl⟩:=xy (by omega) hx;obtain⟨j,j1,j2,rfl⟩:=xy (by omega) hy;have hT:=r3 (r-1) (by omega) (by omega);simp at hT;rw[show mid+m-1-(r-1)=e by omega]at hT;have g1:=wA hs2 hb (show m<=e by omega) j1 j2;have g2:=wA hs1 (by omega) i1 (show i<=r-1 by omega) (by omega);exact wp g1 (wp hT g2)
 have u1s:=MP hs1 (j5 a) q1 q2;have u2s:=MP hs1 q1 q2 (j5 m);have v1s:=MP hs2 (j5 m) q5 q4;have v2s:=MP hs2 q5 q4 (j5 b);have F3:=(xX.1 (show Sd sec (cE l a r++cE l r m) by rw[kN q1 q2];exact hs1)).2.2;have F4:=(xX.1 (show Sd sec (cE l m e++cE l e b) by rw[kN q5 q4];exact hs2)).2.2;have lP:(l.take a).length=a:=by rw[l5];omega
 have l1:=nV (l:=l) (a:=a) (b:=r) (by omega);have l2:=nV (l:=l) (a:=r) (b:=m) (by omega);have l3:=nV (l:=l) (a:=m) (b:=e) (by omega);have l4:=nV (l:=l) (a:=e) (b:=b) (by omega);have hl:l=l.take a++(cE l a r++(cE l r m++(cE l m e++(cE l e b++l.drop b)))):=by
  conv=>lhs;rw[Fa (l:=l) (a:=a) (b:=b) (by omega),<-kN (a:=a) (m:=m) (b:=b) (by omega) (by omega),<-kN q1 q2,<-kN q5 q4]
  simp
 have hsrt:dv sec l a b=l.take a++(srt sec (cE l a r++cE l m e)++(srt sec (cE l r m++cE l e b)++l.drop b)):=by
  unfold dv;rw[<-A8 (srt sec (cE l a r++cE l m e))];congr 2;refine JD (xX.2 ⟨srt_sorted sec _,srt_sorted sec _,λx hx y hy=> ?_⟩) ?_
  rcases x6.1 (srt_mem.1 hx)with hx|hx<;>rcases x6.1 (srt_mem.1 hy)with hy|hy
  exact F3 x hx y hy;exact F2 x hx y hy;exact Oy (F1 y hy x hx);exact F4 x hx y hy
  refine((Gr sec _).app (Gr sec _)).trans ?_;have:cE l a b=cE l a r++((cE l r m++cE l m e)++cE l e b):=by rw[<-kN (a:=a) (m:=m) (b:=b) (by omega) (by omega),<-kN q1 q2,<-kN q5 q4];simp
  rw[this];have:=(Cl.refl sec (cE l a r)).app ((Um F1).symm.app (Cl.refl sec (cE l e b)));simpa using this
 generalize hP:l.take a=P at hl hsrt lP;generalize hu1:cE l a r=u1 at*
 generalize hu2:cE l r m=u2 at*
 generalize hv1:cE l m e=v1 at*
 generalize hv2:cE l e b=v2 at*
 generalize hQ:l.drop b=Q at hl hsrt;have c1:cE (P++(u1++(v1++(u2++(v2++Q))))) a r=u1:=by rw[show P++(u1++(v1++(u2++(v2++Q))))=P++u1++(v1++(u2++(v2++Q))) by simp];exact xW (by omega) (by omega)
 have c2:cE (P++(u1++(v1++(u2++(v2++Q))))) r mid=v1:=by rw[show P++(u1++(v1++(u2++(v2++Q))))=(P++u1)++v1++(u2++(v2++Q)) by simp];exact xW (by simp;omega) (by simp;omega)
 have ls1:=srt_len sec (u1++v1);rw[k7]at ls1;have c3:cE (P++(srt sec (u1++v1)++(u2++(v2++Q)))) mid e=u2:=by rw[show P++(srt sec (u1++v1)++(u2++(v2++Q)))=(P++srt sec (u1++v1))++u2++(v2++Q) by simp];exact xW (by simp;omega) (by simp;omega)
 have c4:cE (P++(srt sec (u1++v1)++(u2++(v2++Q)))) e b=v2:=by rw[show P++(srt sec (u1++v1)++(u2++(v2++Q)))=(P++srt sec (u1++v1)++u2)++v2++Q by simp];exact xW (by simp;omega) (by simp;omega)
 have p1:(P++(u1++(v1++(u2++(v2++Q))))).Perm l:=by
  conv=>rhs;rw[hl]
  refine(S5 _ (S5 _ ?_));rw[<-A8,<-A8 u2];exact List.perm_append_comm.append_right _
 have p2:(P++(srt sec (u1++v1)++(u2++(v2++Q)))).Perm l:=by refine List.Perm.trans ?_ p1;rw[show P++(u1++(v1++(u2++(v2++Q))))=P++((u1++v1)++(u2++(v2++Q))) by simp];exact((srt_perm sec _).append_right _).append_left _
 refine⟨P++(u1++(v1++(u2++(v2++Q)))),P++(srt sec (u1++v1)++(u2++(v2++Q))),λ_ _=> ?_,λhn=> ?_,p1,by rw[c1];exact u1s,by rw[c2];exact v1s,λ_ _=> ?_,λhn=> ?_,p2,by rw[c3];exact u2s,by rw[c4];exact v2s,λ_ _=> ?_,λhn=> ?_⟩
 conv=>lhs;rw[hl,show P++(u1++(u2++(v1++(v2++Q))))=(P++u1)++(u2++(v1++(v2++Q))) by simp]
 rw[dr8 (by simp;omega) (by simp;omega) (by simp;omega)];simp
 rcases k8 r m with hh|hh
 have:v1=[]:=C5.1 (by omega);rw[this]at hl⊢;exact hl;have:u2=[]:=C5.1 (by omega);rw[this]at hl⊢;exact hl;rw[show P++(u1++(v1++(u2++(v2++Q))))=P++((u1++v1)++(u2++(v2++Q))) by simp,cB7 (by omega) (by simp;omega)]
 rcases k8 a r with hh|hh
 have:v1=[]:=C5.1 (by omega);rw[this,o9,By u1s];rfl;have:u1=[]:=C5.1 (by omega);rw[this,show([]:U0)++v1=v1 from rfl,By v1s];rfl;rw[hsrt,show P++(srt sec (u1++v1)++(u2++(v2++Q)))=(P++srt sec (u1++v1))++((u2++v2)++Q) by simp,cB7 (by simp;omega) (by simp;omega)];simp
 rw[hsrt];rcases k8 mid e with hh|hh
 have:v2=[]:=C5.1 (by omega);rw[this,o9,By u2s];rfl;have:u2=[]:=C5.1 (by omega);rw[this,show([]:U0)++v2=v2 from rfl,By v2s];rfl
def bubA(sec:Bool)(a:Nat):U0->Nat->Nat×U0
 |l,0=>(a,l)
 |l,k+1=>if cU sec (cg l (a+k+1)) (cg l (a+k))then bubA sec a (jm l (a+k+1) (a+k)) k else(a+k+1,l)
def Sx(sec:Bool)(x:Val){P:U0}{a:Nat}(ha:a=P.length): ∀(s t:U0),(bubA sec a (P++(s.reverse++x::t)) s.length).2=P++((ic sec x s).reverse++t)
 | [],t=>rfl
 |y::r,t=>by
  have e1:P++((y::r).reverse++x::t)=(P++r.reverse)++y::([]++x::t):=by simp
  have a1:cg ((P++r.reverse)++y::([]++x::t)) (a+r.length)=y:=Wo (by grind);have a2:cg ((P++r.reverse)++y::([]++x::t)) (a+r.length+1)=x:=by grind[Wo]
  rw[e1,List.length_cons];unfold bubA ic;rw[a1,a2];split;rw[Rt (by omega),QI (by grind) (by grind),show(P++r.reverse)++x::([]++y::t)=P++(r.reverse++x::(y::t)) by simp,Sx sec x ha r (y::t)];simp;simp
def d03{i:Nat}(h1:a<=i)(h2:i<l.length):(bubA sec a (dv sec l a i) (i-a)).2=dv sec l a (i+1):=by
 have hd:l.drop i=cg l i::l.drop (i+1):=by rw[R8 h2];unfold cg;rw[k5,m7 h2];rfl
 have hl:(jB sec (cE l a i)).length=i-a:=by have:=srt_len sec (cE l a i);unfold srt at this;rw[V3]at this;rw[this,nV (by omega)]
 have e:=Sx sec (cg l i) (P:=l.take a) (a:=a) (by rw[l5];omega) (jB sec (cE l a i)) (l.drop (i+1));rw[hl]at e;have e2:dv sec l a i=l.take a++((jB sec (cE l a i)).reverse++cg l i::l.drop (i+1)):=by unfold dv srt;rw[hd]
 rw[e2,e];unfold dv srt;rw[<-kN (a:=a) (m:=i) (b:=i+1) h1 (by omega),Ug h2,ZT]
def c47(h1:a<=b)(h2:b<=a+1)(hb:b<=l.length):dv sec l a b=l:=by
 conv=>rhs;rw[Fa (l:=l) h1]
 unfold dv;congr 2;refine By ?_;have:(cE l a b).length<=1:=by grind[nV]
 unfold Sd
 match h:cE l a b,this with
 | [],_=>exact .nil
 | [x],_=>simp
 |x::y::r,hh=>simp at hh
theorem c48(sec:Bool)(l:U0):dv sec l 0 l.length=srt sec l:=by grind[dv,cE]
def srt_cl{q:U0}(h:Cl sec l q):srt sec l=srt sec q:=JD (srt_sorted sec q) ((Gr sec q).trans h.symm)
def YH(sec:Bool)(h:a<=b):Cl sec (dv sec l a b) l:=by have:=(Cl.refl sec (l.take a)).app ((Gr sec (cE l a b)).app (Cl.refl sec (l.drop b)));rwa[<-Fa (l:=l) h]at this
def XH(h:a<=b)(hb:b<=l.length):cE (dv sec l a b) a b=srt sec (cE l a b):=by grind[dv,List.append_assoc,xW,List.length_take,srt_len,nV]
def isL:Val->Bool
 | .A _=>true
 |_=>false
theorem isL_at{v:Val}(h:isL v=true):v= .A v.L:=by cases v<;>first|rfl|cases h
def okK(r:Val):Bool:=match r with
 | .A [.vs _,.D _,.D _,.D _,.D _,.D _,.D _]=>true
 |_=>false
def okK8(r:Val):Bool:=match r with
 | .A [.vs _,.D _,.D _,.B _,.D _,.D _,.D _,.D _]=>true
 |_=>false
theorem okK_at{r:Val}(h:okK r=true):cO r=r:=by unfold okK at h;split at h;rfl;cases h
def mC(l n:Val):Bool:=isL l&&(l.L.all okK&&(decide (n.I=(l.L.length:Int))&&decide (l.L.length<=400)))
def GR{l n:Val}(h:mC l n=true):l= .A l.L/\l.L.all okK=true/\n.I=(l.L.length:Int)/\l.L.length<=400:=by obtain⟨h1,h⟩:=W7 h;obtain⟨h2,h⟩:=W7 h;obtain⟨h3,h4⟩:=W7 h;exact⟨isL_at h1,h2,j6 h3,j6 h4⟩
def nt(v:Val):Nat:=v.I.toNat
def vC:Val->Bool
 | .D _=>true
 |_=>false
def Pi{v:Val}(h:vC v=true):v= .D v.I:=by cases v<;>first|rfl|cases h
def ei5(a:U0):Prop:=mC (ce a 0) (ce a 1)=true/\0<=(ce a 2).I/\(ce a 2).I<(ce a 3).I/\(ce a 3).I<(ce a 4).I/\(ce a 4).I<=(ce a 1).I/\(ce a 4).I-(ce a 2).I<=(ce a 5).I/\
 vC (ce a 2)=true/\vC (ce a 3)=true/\vC (ce a 4)=true/\Sd false (cE (ce a 0).L (nt (ce a 2)) (nt (ce a 3)))/\Sd false (cE (ce a 0).L (nt (ce a 3)) (nt (ce a 4)))
open Classical in
def Hl(a:U0):Bool:=decide (ei5 a)
def XI{a:U0}:Hl a=true↔ei5 a:=by grind[Hl]
def eo(B:Nat)(l:U0):Nat->U0
 |0=>l
 |k+1=>dv false (eo B l k) (B*k) (B*k+B)
def pass(bs n:Nat)(l:U0):U0:=if 2*bs*(n/(2*bs))+bs<n then dv false (eo (2*bs) l (n/(2*bs))) (2*bs*(n/(2*bs))) n else eo (2*bs) l (n/(2*bs))
def pn(n:Nat):Nat->Nat->U0->Nat×U0
 |0,bs,l=>(bs,l)
 |f+1,bs,l=>if bs<n then pn n f (2*bs) (pass bs n l)else(bs,l)
def GX:Nat->U0->Val:=λi a=>match i with
 |420=> .B (mC (ce a 0) (ce a 1)&&decide (0<=(ce a 2).I/\0<=(ce a 4).I/\(ce a 2).I+(ce a 4).I<=(ce a 3).I/\(ce a 3).I+(ce a 4).I<=(ce a 1).I))
 |421=> .A (lj (ce a 0).L (nt (ce a 1)) (nt (ce a 2)) (nt (ce a 3)))
 |422=> .B (mC (ce a 0) (ce a 1)&&decide (0<=(ce a 2).I/\(ce a 2).I<(ce a 3).I/\(ce a 3).I<(ce a 4).I/\(ce a 4).I<=(ce a 1).I))
 |423=> .A (zP (ce a 0).L (nt (ce a 1)) (nt (ce a 2)) (nt (ce a 3)))
 |424=> .B (mC (ce a 0) (ce a 1)&&decide (0<=(ce a 2).I/\(ce a 2).I<=(ce a 3).I/\(ce a 3).I<=(ce a 1).I))
 |425=> .A (dv false (ce a 0).L (nt (ce a 1)) (nt (ce a 2)))
 |426=> .B (Hl a)
 |428=> .B (mC (ce a 0) (ce a 1)&&(vC (ce a 2)&&decide ((ce a 2).I=(ce a 1).I)))
 |431=> .B (isL (ce a 0)&&(ce a 0).L.all okK)
 |433=> .B (isL (ce a 0)&&(ce a 0).L.all okK8)
 |452=>cC (0,[.D (nt (ce a 6)),.A (lj (ce a 1).L (nt (ce a 4)) (nt (ce a 5)) (nt (ce a 6)))])
 |458=>cC (0,[.D (kW (nt (ce a 5)) (nt (ce a 0)+nt (ce a 1)) (nt (ce a 0)) (nt (ce a 1)) (ce a 2).L).1,.D (kW (nt (ce a 5)) (nt (ce a 0)+nt (ce a 1)) (nt (ce a 0)) (nt (ce a 1)) (ce a 2).L).1,.A (kW (nt (ce a 5)) (nt (ce a 0)+nt (ce a 1)) (nt (ce a 0)) (nt (ce a 1)) (ce a 2).L).2])
 |460=>cC (0,[.D (max (nt (ce a 4)+1) (nt (ce a 5)):Nat),.A (dv false (ce a 1).L (nt (ce a 4)) (nt (ce a 5)))])
 |461=>cC (0,[.D (bubA false (nt (ce a 4)) (ce a 1).L (nt (ce a 0)-nt (ce a 4))).1,.A (bubA false (nt (ce a 4)) (ce a 1).L (nt (ce a 0)-nt (ce a 4))).2])
 |462=>let r:=bs (λh=>cU false (cg (ce a 3).L h) (cg (ce a 3).L (nt (ce a 4)))) (nt (ce a 1)-nt (ce a 0)) (nt (ce a 0)) (nt (ce a 1));cC (0,[.D r,.D r])
 |463=>cC (0,[.D (nt (ce a 4)-1:Nat),.A (pi (ce a 1).L (nt (ce a 0)) (nt (ce a 4)-1-nt (ce a 0)))])
 |464=>let r:=bs (λh=> !cU false (cg (ce a 3).L (nt (ce a 4))) (cg (ce a 3).L h)) (nt (ce a 1)-nt (ce a 0)) (nt (ce a 0)) (nt (ce a 1));cC (0,[.D r,.D r])
 |465=>cC (0,[ce a 4,.A (oq (ce a 1).L (nt (ce a 0)) (nt (ce a 0)-nt (ce a 4)))])
 |466=>let r:=bs (λc=> !cU false (cg (ce a 3).L (nt (ce a 9)-c)) (cg (ce a 3).L c)) (nt (ce a 1)-nt (ce a 0)) (nt (ce a 0)) (nt (ce a 1));cC (0,[.D r,.D r])
 |467=>cC (0,[.D (20*(nt (ce a 5)/20):Nat),.D (20*(nt (ce a 5)/20)+20:Nat),.A (eo 20 (ce a 2).L (nt (ce a 5)/20))])
 |468=>cC (0,[.D (pn (nt (ce a 4)) 9 20 (ce a 1).L).1,.A (pn (nt (ce a 4)) 9 20 (ce a 1).L).2])
 |469=>cC (0,[.D (2*nt (ce a 6)*(nt (ce a 5)/(2*nt (ce a 6))):Nat),.D (2*nt (ce a 6)*(nt (ce a 5)/(2*nt (ce a 6)))+2*nt (ce a 6):Nat),.A (eo (2*nt (ce a 6)) (ce a 2).L (nt (ce a 5)/(2*nt (ce a 6))))])
 |490=> .A (srt false (ce a 0).L)
 |_=> .B false
