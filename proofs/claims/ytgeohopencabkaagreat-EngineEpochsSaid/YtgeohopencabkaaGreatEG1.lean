import Derived.Test.YtgeohopencabkaaGreatEM1
set_option linter.all false
noncomputable section
namespace Go.Ev.S7
open Go Go.Ev
variable{l P Q q:U7}{sec:Bool}{a b k m:Nat}{x y:Val}
def cI(sec:Bool)(a b:Val):Bool:=qC a b
theorem MB(sec:Bool)(a:Val):cI sec a a=false:=Nq _
def Lb{a b:Val}(h:cI sec a b=true):cI sec b a=false:=VE h
theorem tF{a b c:Val}(h1:cI sec a b=false)(h2:cI sec b c=false):cI sec a c=false:=RJ h1 h2
def gv(sec:Bool)(x:Val):U7->U7
 | []=>[x]
 |y::r=>if cI sec x y then y::gv sec x r else x::y::r
def ju(sec:Bool)(l:U7):U7:=l.foldl (λs x=>gv sec x s) []
def srt(sec:Bool)(l:U7):U7:=(ju sec l).reverse
def dt8(sec:Bool)(l:U7)(x:Val):ju sec (l++[x])=gv sec x (ju sec l):=by simp[ju]
def uy(sec:Bool)(x:Val): ∀s:U7,(gv sec x s).Perm (x::s)
 | []=> .refl _
 |y::r=>by
  unfold gv;split
  .exact((uy sec x r).cons y).trans (.swap x y r)
  rfl
def MI(sec:Bool)(l:U7): ∀s:U7,(l.foldl (λs x=>gv sec x s) s).Perm (l++s):=by
 induction l with
 |nil=>simp_all
 |cons x l ih=>
  intro s;exact(ih _).trans (((uy sec x s).append_left l).trans S5)
def srt_perm(sec:Bool)(l:U7):(srt sec l).Perm l:=by have:=MI sec l [];rw[x5]at this;exact(List.reverse_perm _).trans this
theorem srt_len(sec:Bool)(l:U7):(srt sec l).length=l.length:=(srt_perm sec l).length_eq
theorem Gq(sec:Bool)(x:Val): ∀s:U7,s.Pairwise (λa b=>cI sec a b=false)->(gv sec x s).Pairwise (λa b=>cI sec a b=false)
 | [],_=>by simp[gv]
 |y::r,h=>by
  unfold gv;rw[B5]at h;split
  rename_i hl;rw[B5];refine⟨λz hz=> ?_,Gq sec x r h.2⟩;rcases p7.1 ((uy sec x r).mem_iff.1 hz)with rfl|hz
  exact Lb hl;exact h.1 z hz
  rename_i hl;have hl:cI sec x y=false:=by simpa using hl
  rw[B5,B5];refine⟨λz hz=> ?_,h⟩;rcases p7.1 hz with rfl|hz
  exact hl;exact tF hl (h.1 z hz)
def Jn(sec:Bool)(l:U7): ∀s:U7,s.Pairwise (λa b=>cI sec a b=false)->(l.foldl (λs x=>gv sec x s) s).Pairwise (λa b=>cI sec a b=false):=by
 induction l with
 |nil=>grind
 |cons x l ih=>grind[Gq]
def srt_sorted(sec:Bool)(l:U7):(srt sec l).Pairwise (λa b=>cI sec b a=false):=by unfold srt;rw[V5];exact Jn sec l [] .nil
def Vr(a b:U7)(k:Nat)(h:a.length=k):cg (a++b) k=cg b 0:=by simp_all[cg,k5,s9,j6,F5]
def eqv(sec:Bool)(x y:Val):Bool:= !cI sec x y&& !cI sec y x
def Sd(sec:Bool)(l:U7):Prop:=l.Pairwise (λa b=>cI sec b a=false)
def Cl(sec:Bool)(l q:U7):Prop:= ∀x,l.filter (eqv sec x)=q.filter (eqv sec x)
def c10(sec:Bool)(x:Val):eqv sec x x=true:=by simp[eqv,MB]
theorem eqv_iff:eqv sec x y=true↔cI sec x y=false/\cI sec y x=false:=by simp[eqv]
theorem ZK{z:Val}(h:cI sec y z=true)(h1:eqv sec x y=true):eqv sec x z=false:=by grind[eqv_iff,tF]
def Cl.refl(sec:Bool)(l:U7):Cl sec l l:=λ_=>rfl
def Cl.symm(h:Cl sec l q):Cl sec q l:=λx=>(h x).symm
def Cl.trans{r:U7}(h:Cl sec l q)(h2:Cl sec q r):Cl sec l r:=λx=>(h x).trans (h2 x)
def Cl.app{a b c d:U7}(h:Cl sec a b)(h2:Cl sec c d):Cl sec (a++c) (b++d):=λx=>by rw[C4,C4,h x,h2 x]
def UY{A B:U7}(h: ∀a∈A,∀b∈B,cI sec b a=true):Cl sec (A++B) (B++A):=λx=>by
 rw[C4,C4];cases hA:A.filter (eqv sec x)with
 |nil=>simp
 |cons a l=>
  have ha:a∈A.filter (eqv sec x):=by rw[hA];simp
  have hB:B.filter (eqv sec x)=[]:=by rw[R5];intro b hb hx;have:=ZK (h a (l7.1 ha).1 b hb) hx;rw[(l7.1 ha).2]at this;cases this
  rw[hB];simp
def LR(h:Cl sec l q)(hx:x∈l):x∈q:=by have:x∈l.filter (eqv sec x):=l7.2 ⟨hx,c10 sec x⟩;rw[h x]at this;grind
def WV{sec:Bool}: ∀{l q:U7},Sd sec l->Sd sec q->Cl sec l q->l=q
 | [],[],_,_,_=>rfl
 | [],y::q,_,_,h=>by have:=LR h.symm (x:=y) (by simp);cases this
 |x::l,[],_,_,h=>by have:=LR h (x:=x) (by simp);cases this
 |x::l,y::q,h1,h2,h=>by
  have g1:=B5.1 h1;have g2:=B5.1 h2;have e1:cI sec x y=false:=by
   rcases p7.1 (LR h (x:=x) (by simp))with e|e
   rw[e];exact MB sec y;exact g2.1 x e
  have e2:cI sec y x=false:=by
   rcases p7.1 (LR h.symm (x:=y) (by simp))with e|e
   rw[e];exact MB sec x;exact g1.1 y e
  have hx:=h x;rw[B0,i6 (c10 sec x),B0,i6 (eqv_iff.2 ⟨e1,e2⟩)]at hx;injection hx with hxy _
  congr 1;refine WV g1.2 g2.2 λz=> ?_
  have hz:=h z;grind
def WU{sec:Bool}(x z:Val): ∀s:U7,(gv sec x s).filter (eqv sec z)=(x::s).filter (eqv sec z)
 | []=>rfl
 |y::r=>by unfold gv;split;rw[B0,WU x z r,B0,B0,B0];grind[eqv,ZK];rfl
def dd7{sec:Bool}(z:Val): ∀(l s:U7),(l.foldl (λs x=>gv sec x s) s).filter (eqv sec z)=(l.reverse++s).filter (eqv sec z)
 | [],s=>rfl
 |x::l,s=>by rw[List.foldl_cons,dd7 z l,C4,WU,<-C4];simp
def EZ(sec:Bool)(l:U7):Cl sec (srt sec l) l:=λz=>by unfold srt;rw[V6];have:=dd7 (sec:=sec) z l [];unfold ju;rw[this,x5,V6,List.reverse_reverse]
def GB(hs:Sd sec q)(hc:Cl sec q l):srt sec l=q:=WV (srt_sorted sec l) hs ((EZ sec l).trans hc.symm)
def srt_id(hs:Sd sec l):srt sec l=l:=GB hs (Cl.refl sec l)
def srt_mem:x∈srt sec l↔x∈l:=(srt_perm sec l).mem_iff
def cB(l:U7)(a b:Nat):U7:=(l.take b).drop a
theorem my(h:b<=l.length):(cB l a b).length=b-a:=by grind[cB,List.length_drop,List.length_take]
theorem iY(h1:a<=m)(h2:m<=b):cB l a m++cB l m b=cB l a b:=by
 unfold cB;have e:l.take m=(l.take b).take m:=by rw[Q4,C0 h2]
 rw[e];generalize l.take b=q;have:q.drop m=(q.drop a).drop (m-a):=by rw[N6,show a+(m-a)=m by omega]
 rw[Q5,this,y8]
theorem cB4(h1:a<=b):l=l.take a++cB l a b++l.drop b:=by
 have e:l.take a=cB l 0 a:=by rfl
 rw[e,iY (s8 a) h1];simp[cB]
theorem uW{U:U7}(ha:a=P.length)(hb:b=P.length+U.length):cB (P++U++Q) a b=U:=by unfold cB;grind
theorem atV_mid(h:k=P.length):cg (P++x::Q) k=x:=by simp_all[cg,k5,s9,j6,F5]
theorem set_mid(h:k=P.length):(P++x::Q).set k y=P++y::Q:=by simp_all
theorem cB5(h1:b<=l.length)(h2:a+k<b):cg (cB l a b) k=cg l (a+k):=by unfold cB cg;grind
theorem atV_mem(h:k<l.length):cg l k∈l:=by unfold cg;rw[k5,m7 h];exact B6 h
theorem mem_atV(h:x∈l): ∃k,k<l.length/\x=cg l k:=by obtain⟨k,hk,rfl⟩:=B4 h;refine⟨k,hk,?_⟩;unfold cg;rw[k5,m7 hk];rfl
def ww(hb:b<=l.length)(h:x∈cB l a b): ∃k,a<=k/\k<b/\x=cg l k:=by grind[mem_atV,my,cB5]
def iX(l:U7)(i j:Nat):U7:=(l.set i (cg l j)).set j (cg l i)
def JD(l:U7)(i j:Nat):(iX l i j).length=l.length:=by simp[iX]
theorem Iq{M:U7}{i j:Nat}(hi:i=P.length)(hj:j=P.length+1+M.length):iX (P++x::(M++y::Q)) i j=P++y::(M++x::Q):=by grind[cg,atV_mid,iX,set_mid]
def Xx{i j:Nat}(h:i≠j):iX l i j=iX l j i:=by grind[iX,List.set_comm]
def jI(l:U7)(a b:Nat):Nat->U7
 |0=>l
 |n+1=>iX (jI l a b n) (a+n) (b+n)
theorem wa(l:U7)(a b:Nat): ∀n,(jI l a b n).length=l.length
 |0=>rfl
 |n+1=>by rw[jI,JD,wa l a b n]
def TV{n:Nat}(h:l.length=n+1): ∃q x,l=q++[x]/\q.length=n:=by
 rcases V7 l with e|⟨q,x,e⟩
 rw[e]at h;cases h;grind
def MQ: ∀(n:Nat) {P A X B Q:U7} {a b:Nat},A.length=n->B.length=n->a=P.length->b=P.length+n+X.length->jI (P++(A++(X++(B++Q)))) a b n=P++(B++(X++(A++Q)))
 |0,P,A,X,B,Q,a,b,hA,hB,_,_=>by rw[C3.1 hA,C3.1 hB];rfl
 |n+1,P,A,X,B,Q,a,b,hA,hB,ha,hb=>by obtain⟨A',x,rfl,h1⟩:=TV hA;obtain⟨B',y,rfl,h2⟩:=TV hB;have ih:=MQ n (P:=P) (A:=A') (X:=x::X) (B:=B') (Q:=y::Q) (a:=a) (b:=b) h1 h2 ha (by simp;omega);grind[jI,Iq]
def yZ(l:U7)(a m b:Nat):U7:=l.take a++(cB l m b++(cB l a m++l.drop b))
def ej6(h1:a<=m)(h2:m<=b):l=l.take a++(cB l a m++(cB l m b++l.drop b)):=by grind[cB4,Nat.le_trans,iY]
def CE(h1:a<=b):l=l.take a++(cB l a b++l.drop b):=by grind[cB4]
def du0{U V:U7}(ha:a=P.length)(hm:m=P.length+U.length)(hb:b=P.length+U.length+V.length):yZ (P++(U++(V++Q))) a m b=P++(V++(U++Q)):=by
 have e1:cB (P++(U++(V++Q))) a m=U:=by rw[show P++(U++(V++Q))=P++U++(V++Q) by simp];exact uW ha hm
 have e2:cB (P++(U++(V++Q))) m b=V:=by rw[show P++(U++(V++Q))=(P++U)++V++Q by simp];exact uW (by simp;omega) (by simp;omega)
 unfold yZ;rw[e1,e2,List.take_left' ha.symm,show P++(U++(V++Q))=(P++(U++V))++Q by simp,List.drop_left' (by simp;omega)]
def jH(m:Nat):Nat->Nat->Nat->U7->Nat×U7
 |0,i,_,l=>(i,l)
 |n+1,i,j,l=>if i=j then(i,l)else if j<i then jH m n (i-j) j (jI l (m-i) m j)else jH m n i (j-i) (jI l (m-i) (m+j-i) i)
def Uq(m:Nat): ∀(n i j:Nat) (P U V Q:U7),i+j<=n+1->0<i->0<j->U.length=i->V.length=j->m=P.length+i->
 let r:=jH m n i j (P++(U++(V++Q)))
 0<r.1/\r.1<=i/\r.1<=j/\r.2.length=(P++(U++(V++Q))).length/\jI r.2 (m-r.1) m r.1=P++(V++(U++Q))
 |0,i,j,P,U,V,Q,hn,hi,hj,hU,hV,hm=>by omega
 |n+1,i,j,P,U,V,Q,hn,hi,hj,hU,hV,hm=>by
  unfold jH;by_cases h1:i=j;have:=MQ i (P:=P) (A:=U) (X:=[]) (B:=V) (Q:=Q) (a:=m-i) (b:=m) hU (by omega) (by omega) (by omega);grind;by_cases h2:j<i
  obtain⟨U1,U2,rfl,hU1⟩: ∃U1 U2,U=U1++U2/\U1.length=j:=⟨U.take j,U.drop j,(y8 j U).symm,by rw[n8];omega⟩;have hU2:U2.length=i-j:=by rw[k9]at hU;omega
  have e:=MQ j (P:=P) (A:=U1) (X:=U2) (B:=V) (Q:=Q) (a:=m-i) (b:=m) hU1 hV (by omega) (by omega);have ih:=Uq m n (i-j) j (P++V) U2 U1 Q (by omega) (by omega) hj hU2 hU1 (by simp;omega);grind
  obtain⟨V1,V2,rfl,hV1⟩: ∃V1 V2,V=V1++V2/\V1.length=j-i:=⟨V.take (j-i),V.drop (j-i),(y8 (j-i) V).symm,by rw[n8];omega⟩;have hV2:V2.length=i:=by rw[k9]at hV;omega
  have e:=MQ i (P:=P) (A:=U) (X:=V1) (B:=V2) (Q:=Q) (a:=m-i) (b:=m+j-i) hU hV2 (by omega) (by omega);have ih:=Uq m n i (j-i) P V2 V1 (U++Q) (by omega) hi (by omega) hV2 hV1 hm;grind
def nT(l:U7)(a:Nat):Nat->U7
 |0=>l
 |n+1=>iX (nT l a n) (a+n) (a+n+1)
theorem Iz(l:U7)(a:Nat): ∀n,(nT l a n).length=l.length
 |0=>rfl
 |n+1=>by rw[nT,JD,Iz l a n]
theorem dd8: ∀(n:Nat) {P Y Q:U7} {x:Val} {a:Nat},Y.length=n->a=P.length->nT (P++x::(Y++Q)) a n=P++(Y++x::Q)
 |0,P,Y,Q,x,a,hY,_=>by rw[C3.1 hY];rfl
 |n+1,P,Y,Q,x,a,hY,ha=>by obtain⟨Y',y,rfl,h1⟩:=TV hY;have ih:=dd8 n (P:=P) (Y:=Y') (Q:=y::Q) (x:=x) (a:=a) h1 ha;rw[show P++x::((Y'++[y])++Q)=P++x::(Y'++y::Q) by simp,nT,ih,show P++(Y'++x::y::Q)=(P++Y')++x::([]++y::Q) by simp,Iq (by grind) (by grind)];simp
def mM(l:U7)(m:Nat):Nat->U7
 |0=>l
 |n+1=>iX (mM l m n) (m-n-1) (m-n)
theorem KC(l:U7)(m:Nat): ∀n,(mM l m n).length=l.length
 |0=>rfl
 |n+1=>by rw[mM,JD,KC l m n]
theorem dd9: ∀(n:Nat) {P Y Q:U7} {x:Val} {m:Nat},Y.length=n->m=P.length+n->mM (P++(Y++x::Q)) m n=P++x::(Y++Q)
 |0,P,Y,Q,x,m,hY,_=>by rw[C3.1 hY];rfl
 |n+1,P,Y,Q,x,m,hY,hm=>by
  cases Y with
  |nil=>cases hY
  |cons y Y'=>
   have ih:=dd9 n (P:=P++[y]) (Y:=Y') (Q:=Q) (x:=x) (m:=m) (by simpa using hY) (by simp;omega);grind[mM,Iq]
def bs(T:Nat->Bool):Nat->Nat->Nat->Nat
 |0,i,_=>i
 |n+1,i,j=>if i<j then(if T ((i+j)/2)then bs T n ((i+j)/2+1) j else bs T n i ((i+j)/2))else i
def Gf{T:Nat->Bool}{lo hi:Nat}(mono: ∀c d,lo<=c->c<=d->d<hi->T d=true->T c=true): ∀n i j,lo<=i->i<=j->j<=hi->j-i<=n->(∀c,lo<=c->c<i->T c=true)->(∀c,j<=c->c<hi->T c=false)->
 i<=bs T n i j/\bs T n i j<=j/\(∀c,lo<=c->c<bs T n i j->T c=true)/\ ∀c,bs T n i j<=c->c<hi->T c=false
 |0,i,j,h1,h2,h3,h4,h5,h6=>by
  have:i=j:=by omega
  subst this;exact⟨j6 _,j6 _,h5,h6⟩
 |n+1,i,j,h1,h2,h3,h4,h5,h6=>by unfold bs;by_cases hij:i<j;rw[i6 hij];by_cases hT:T ((i+j)/2)=true;rw[i6 hT];obtain⟨a,b,c⟩:=Gf mono n ((i+j)/2+1) j (by omega) (by omega) h3 (by omega) (λc hc1 hc2=>mono c ((i+j)/2) hc1 (by omega) (by omega) hT) h6;exact⟨by omega,b,c⟩;rw[b9 hT];obtain⟨a,b,c⟩:=Gf mono n i ((i+j)/2) h1 (by omega) (by omega) (by omega) h5 (λc hc1 hc2=>by rw[<-v7];exactλhc=>hT (mono _ c (by omega) hc1 hc2 hc));exact⟨a,by omega,c⟩;grind
def Vv{step:U7->Option (Nat×U7)}{T:Nat->Bool}{lo hi:Nat}(h1: ∀i j:Nat,lo<=i->i<j->j<=hi->step [.D i,.D j]=some (0,if T ((i+j)/2)then [.D ((i+j)/2+1:Nat),.D j]else [.D i,.D ((i+j)/2:Nat)]))(h2: ∀i:Nat,step [.D i,.D i]=some (1,[.D i,.D i])):
 ∀(n i j:Nat),lo<=i->i<=j->j<=hi->j-i<=n->Iter step [.D i,.D j] 0 [.D (bs T n i j),.D (bs T n i j)]
 |0,i,j,a,b,c,d=>by
  have:i=j:=by omega
  subst this;exact .out (h2 i)
 |n+1,i,j,a,b,c,d=>by
  unfold bs;by_cases hij:i<j;rw[i6 hij];have e:=h1 i j a hij c;by_cases hT:T ((i+j)/2)=true;rw[i6 hT]at e⊢;exact .more e (Vv h1 h2 n ((i+j)/2+1) j (by omega) (by omega) c (by omega));rw[b9 hT]at e⊢;exact .more e (Vv h1 h2 n i ((i+j)/2) a (by omega) (by omega) (by omega))
  rw[b9 hij];have:i=j:=by omega
  subst this;exact .out (h2 i)
variable{l:U7}{a b:Nat}{sec:Bool}
def cR(sec:Bool)(l:U7)(a b:Nat):U7:=l.take a++(srt sec (cB l a b)++l.drop b)
def DZ(sec:Bool)(h:a<=b):(cR sec l a b).Perm l:=by
 conv=>rhs;rw[CE (l:=l) h]
 exact((srt_perm sec _).append_right _).append_left _
def c15(sec:Bool)(h:a<=b):(cR sec l a b).length=l.length:=(DZ sec h).length_eq
def WG{P U Q:U7}(ha:a=P.length)(hb:b=P.length+U.length):cR sec (P++(U++Q)) a b=P++(srt sec U++Q):=by grind[cB,uW,cR,List.take_left',List.drop_left']
theorem ve{A B:U7}:Sd sec (A++B)↔Sd sec A/\Sd sec B/\ ∀a∈A,∀b∈B,cI sec b a=false:=List.pairwise_append
def vP{i j:Nat}(h:Sd sec (cB l a b))(hb:b<=l.length)(h1:a<=i)(h2:i<=j)(h3:j<b):cI sec (cg l j) (cg l i)=false:=by
 rcases k8 i j with hij|hij
 unfold Sd at h;rw[G4]at h;have hl:=my (l:=l) (a:=a) hb;have:=h (i-a) (j-a) (by omega) (by omega) (by omega);have e: ∀k (hk:k<(cB l a b).length),(cB l a b)[k]=cg l (a+k):=λk hk=>by rw[<-cB5 hb (by omega)];unfold cg;rw[k5,m7 hk];rfl
 rw[e,e,show a+(i-a)=i by omega,show a+(j-a)=j by omega]at this;exact this;grind[MB]
def KW{c d:Nat}(h:Sd sec (cB l a b))(h1:a<=c)(h2:c<=d)(h3:d<=b):Sd sec (cB l c d):=by rw[<-iY h1 (p9 h2 h3),<-iY h2 h3]at h;grind[ve]
def PW(h:a<l.length):cB l a (a+1)=[cg l a]:=by unfold cB;rw[O8,N5,K7 (by grind)];unfold cg;rw[n8,show a-min a l.length=0 by omega,k5,m7 h];rfl
theorem Ra(h:b<=a):cB l a b=[]:=by grind[cB,List.drop_eq_nil_of_le,List.length_take]
def e56{a b c:Val}(h1:cI sec a b=true)(h2:cI sec c b=false):cI sec a c=true:=by grind[cI,tF]
def dP1{a b c:Val}(h1:cI sec b a=false)(h2:cI sec b c=true):cI sec a c=true:=by grind[cI,tF]
def du1(h1:a+1<b)(hb:b<=l.length)(hs:Sd sec (cB l (a+1) b)):
 a+1<=bs (λh=>cI sec (cg l h) (cg l a)) (b-(a+1)) (a+1) b/\bs (λh=>cI sec (cg l h) (cg l a)) (b-(a+1)) (a+1) b<=b/\
  nT l a (bs (λh=>cI sec (cg l h) (cg l a)) (b-(a+1)) (a+1) b-1-a)=cR sec l a b:=by
 have sp:=Gf (T:=λh=>cI sec (cg l h) (cg l a)) (lo:=a+1) (hi:=b) (λc d hc hcd hd hT=>dP1 (vP hs hb hc hcd hd) hT) (b-(a+1)) (a+1) b (j6 _) (by omega) (j6 _) (j6 _) (λc _ _=>by omega) (λc _ _=>by omega);generalize bs (λh=>cI sec (cg l h) (cg l a)) (b-(a+1)) (a+1) b=r at sp⊢;obtain⟨r1,r2,r3,r4⟩:=sp;have e1:cB l a b=cg l a::(cB l (a+1) r++cB l r b):=by rw[iY r1 r2,<-iY (a:=a) (m:=a+1) (b:=b) (by omega) (by omega),PW (by omega)];rfl
 have e2:l=l.take a++cg l a::(cB l (a+1) r++(cB l r b++l.drop b)):=by
  conv=>lhs;rw[CE (l:=l) (a:=a) (b:=b) (by omega),e1]
  simp
 have hA: ∀x∈cB l (a+1) r,cI sec x (cg l a)=true:=λx hx=>by obtain⟨k,k1,k2,rfl⟩:=ww (by omega) hx;exact r3 k k1 k2
 have hB: ∀x∈cB l r b,cI sec x (cg l a)=false:=λx hx=>by obtain⟨k,k1,k2,rfl⟩:=ww hb hx;exact r4 k k1 k2
 have hAB:=ve.1 (show Sd sec (cB l (a+1) r++cB l r b) by rw[iY r1 r2];exact hs);have e3:srt sec (cB l a b)=cB l (a+1) r++cg l a::cB l r b:=by
  refine GB (ve.2 ⟨hAB.1,B5.2 ⟨hB,hAB.2.1⟩,λx hx y hy=> ?_⟩) ?_
  rcases p7.1 hy with rfl|hy
  exact Lb (hA x hx);exact hAB.2.2 x hx y hy;rw[e1];have:=(UY (sec:=sec) (A:=[cg l a]) (B:=cB l (a+1) r) (λx hx y hy=>by rw[m9.1 hx];exact hA y hy)).symm.app (Cl.refl sec (cB l r b));simpa using this
 grind[dd8,cB,cg,my,List.length_take,cR]
def du2{m:Nat}(h1:a<m)(hb:m+1<=l.length)(hs:Sd sec (cB l a m)):
 a<=bs (λh=> !cI sec (cg l m) (cg l h)) (m-a) a m/\bs (λh=> !cI sec (cg l m) (cg l h)) (m-a) a m<=m/\
  mM l m (m-bs (λh=> !cI sec (cg l m) (cg l h)) (m-a) a m)=cR sec l a (m+1):=by
 have sp:=Gf (T:=λh=> !cI sec (cg l m) (cg l h)) (lo:=a) (hi:=m) (λc d hc hcd hd hT=>by simp at hT⊢;exact tF hT (vP hs (by omega) hc hcd hd)) (m-a) a m (j6 _) (by omega) (j6 _) (j6 _) (λc _ _=>by omega) (λc _ _=>by omega)
 generalize bs (λh=> !cI sec (cg l m) (cg l h)) (m-a) a m=r at sp⊢;obtain⟨r1,r2,r3,r4⟩:=sp;have e1:cB l a (m+1)=cB l a r++(cB l r m++[cg l m]):=by rw[<-A0,iY r1 r2,<-iY (a:=a) (m:=m) (b:=m+1) (by omega) (by omega),PW (by omega)]
 have e2:l=(l.take a++cB l a r)++(cB l r m++cg l m::l.drop (m+1)):=by
  conv=>lhs;rw[CE (l:=l) (a:=a) (b:=m+1) (by omega),e1]
  simp
 have hA: ∀x∈cB l a r,cI sec (cg l m) x=false:=λx hx=>by obtain⟨k,k1,k2,rfl⟩:=ww (by omega) hx;simpa using r3 k k1 k2
 have hB: ∀x∈cB l r m,cI sec (cg l m) x=true:=λx hx=>by obtain⟨k,k1,k2,rfl⟩:=ww (by omega) hx;simpa using r4 k k1 k2
 have hAB:=ve.1 (show Sd sec (cB l a r++cB l r m) by rw[iY r1 r2];exact hs);have e3:srt sec (cB l a (m+1))=cB l a r++cg l m::cB l r m:=by
  refine GB (ve.2 ⟨hAB.1,B5.2 ⟨λy hy=>Lb (hB y hy),hAB.2.1⟩,λx hx y hy=> ?_⟩) ?_
  rcases p7.1 hy with rfl|hy
  exact hA x hx;exact hAB.2.2 x hx y hy;rw[e1];have:=(Cl.refl sec (cB l a r)).app (UY (sec:=sec) (A:=cB l r m) (B:=[cg l m]) (λx hx y hy=>by rw[m9.1 hy];exact hB x hx)).symm;simpa using this
 grind[dd9,cB,cg,my,List.length_append,List.length_take,cR]
def du3{m mid lo hi r:Nat}(h1:a<m)(h2:m<b)(hb:b<=l.length)(hs1:Sd sec (cB l a m))(hs2:Sd sec (cB l m b))(hmid:mid=(a+b)/2)
 (hlh:mid<m/\lo=mid+m-b/\hi=mid\/m<=mid/\lo=a/\hi=m) (hr:r=bs (λc=> !cI sec (cg l (mid+m-1-c)) (cg l c)) (hi-lo) lo hi):
 a<=r/\r<=m/\r<=mid/\mid+m-r<=b/\ ∃l1 l2,(r<m->m<mid+m-r->yZ l r m (mid+m-r)=l1)/\(¬(r<m/\m<mid+m-r)->l=l1)/\l1.Perm l/\Sd sec (cB l1 a r)/\Sd sec (cB l1 r mid)/\
  (a<r->r<mid->cR sec l1 a mid=l2)/\(¬(a<r/\r<mid)->l1=l2)/\l2.Perm l/\Sd sec (cB l2 mid (mid+m-r))/\Sd sec (cB l2 (mid+m-r) b)/\
  (mid<mid+m-r->mid+m-r<b->cR sec l2 mid b=cR sec l a b)/\(¬(mid<mid+m-r/\mid+m-r<b)->l2=cR sec l a b):=by
 have hle:lo<=hi:=by omega
 have sp:=Gf (T:=λc=> !cI sec (cg l (mid+m-1-c)) (cg l c)) (lo:=lo) (hi:=hi) (λc d hc hcd hd hT=>by simp at hT⊢;have g1:=vP hs1 (by omega) (show a<=c by omega) hcd (by omega);have g2:=vP hs2 hb (show m<=mid+m-1-d by omega) (show mid+m-1-d<=mid+m-1-c by omega) (by omega);exact tF g2 (tF hT g1)) (hi-lo) lo hi (j6 _) hle (j6 _) (j6 _) (λc _ _=>by omega) (λc _ _=>by omega)
 rw[<-hr]at sp;obtain⟨r1,r2,r3,r4⟩:=sp;have q1:a<=r:=by omega
 have q2:r<=m:=by omega
 have q3:r<=mid:=by omega
 have q4:mid+m-r<=b:=by omega
 refine⟨q1,q2,q3,q4,?_⟩;obtain⟨e,he⟩: ∃e,e=mid+m-r:=⟨_,rfl⟩;rw[<-he]at q4⊢;have q5:m<=e:=by omega
 have F1: ∀x∈cB l r m,∀y∈cB l m e,cI sec y x=true:=λx hx y hy=>by obtain⟨i,i1,i2,rfl⟩:=ww (by omega) hx;obtain⟨j,j1,j2,rfl⟩:=ww (by omega) hy;have hT:=r4 r (j6 _) (by omega);simp at hT;rw[show mid+m-1-r=e-1 by omega]at hT;have g1:=vP hs2 hb j1 (show j<=e-1 by omega) (by omega);have g2:=vP hs1 (by omega) q1 i1 i2;exact e56 (dP1 g1 hT) g2
 have F2: ∀x∈cB l a r,∀y∈cB l e b,cI sec y x=false:=λx hx y hy=>by obtain⟨i,i1,i2,rfl⟩:=ww (by omega) hx;obtain⟨j,j1,j2,rfl⟩:=ww (by omega) hy;have hT:=r3 (r-1) (by omega) (by omega);simp at hT;rw[show mid+m-1-(r-1)=e by omega]at hT;have g1:=vP hs2 hb (show m<=e by omega) j1 j2;have g2:=vP hs1 (by omega) i1 (show i<=r-1 by omega) (by omega);exact tF g1 (tF hT g2)
 have u1s:=KW hs1 (j6 a) q1 q2;have u2s:=KW hs1 q1 q2 (j6 m);have v1s:=KW hs2 (j6 m) q5 q4;have v2s:=KW hs2 q5 q4 (j6 b);have F3:=(ve.1 (show Sd sec (cB l a r++cB l r m) by rw[iY q1 q2];exact hs1)).2.2;have F4:=(ve.1 (show Sd sec (cB l m e++cB l e b) by rw[iY q5 q4];exact hs2)).2.2;have lP:(l.take a).length=a:=by rw[n8];omega
 have l1:=my (l:=l) (a:=a) (b:=r) (by omega);have l2:=my (l:=l) (a:=r) (b:=m) (by omega);have l3:=my (l:=l) (a:=m) (b:=e) (by omega);have l4:=my (l:=l) (a:=e) (b:=b) (by omega);have hl:l=l.take a++(cB l a r++(cB l r m++(cB l m e++(cB l e b++l.drop b)))):=by
  conv=>lhs;rw[CE (l:=l) (a:=a) (b:=b) (by omega),<-iY (a:=a) (m:=m) (b:=b) (by omega) (by omega),<-iY q1 q2,<-iY q5 q4]
  simp
 have hsrt:cR sec l a b=l.take a++(srt sec (cB l a r++cB l m e)++(srt sec (cB l r m++cB l e b)++l.drop b)):=by
  unfold cR;rw[<-A0 (srt sec (cB l a r++cB l m e))];congr 2;refine GB (ve.2 ⟨srt_sorted sec _,srt_sorted sec _,λx hx y hy=> ?_⟩) ?_
  rcases t8.1 (srt_mem.1 hx)with hx|hx<;>rcases t8.1 (srt_mem.1 hy)with hy|hy
  exact F3 x hx y hy;exact F2 x hx y hy;exact Lb (F1 y hy x hx);exact F4 x hx y hy
  refine((EZ sec _).app (EZ sec _)).trans ?_;have:cB l a b=cB l a r++((cB l r m++cB l m e)++cB l e b):=by rw[<-iY (a:=a) (m:=m) (b:=b) (by omega) (by omega),<-iY q1 q2,<-iY q5 q4];simp
  rw[this];have:=(Cl.refl sec (cB l a r)).app ((UY F1).symm.app (Cl.refl sec (cB l e b)));simpa using this
 generalize hP:l.take a=P at hl hsrt lP;generalize hu1:cB l a r=u1 at*
 generalize hu2:cB l r m=u2 at*
 generalize hv1:cB l m e=v1 at*
 generalize hv2:cB l e b=v2 at*
 generalize hQ:l.drop b=Q at hl hsrt;have c1:cB (P++(u1++(v1++(u2++(v2++Q))))) a r=u1:=by rw[show P++(u1++(v1++(u2++(v2++Q))))=P++u1++(v1++(u2++(v2++Q))) by simp];exact uW (by omega) (by omega)
 have c2:cB (P++(u1++(v1++(u2++(v2++Q))))) r mid=v1:=by rw[show P++(u1++(v1++(u2++(v2++Q))))=(P++u1)++v1++(u2++(v2++Q)) by simp];exact uW (by simp;omega) (by simp;omega)
 have ls1:=srt_len sec (u1++v1);rw[k9]at ls1;have c3:cB (P++(srt sec (u1++v1)++(u2++(v2++Q)))) mid e=u2:=by rw[show P++(srt sec (u1++v1)++(u2++(v2++Q)))=(P++srt sec (u1++v1))++u2++(v2++Q) by simp];exact uW (by simp;omega) (by simp;omega)
 have c4:cB (P++(srt sec (u1++v1)++(u2++(v2++Q)))) e b=v2:=by rw[show P++(srt sec (u1++v1)++(u2++(v2++Q)))=(P++srt sec (u1++v1)++u2)++v2++Q by simp];exact uW (by simp;omega) (by simp;omega)
 have p1:(P++(u1++(v1++(u2++(v2++Q))))).Perm l:=by
  conv=>rhs;rw[hl]
  refine(S6 _ (S6 _ ?_));rw[<-A0,<-A0 u2];exact List.perm_append_comm.append_right _
 have p2:(P++(srt sec (u1++v1)++(u2++(v2++Q)))).Perm l:=by refine List.Perm.trans ?_ p1;rw[show P++(u1++(v1++(u2++(v2++Q))))=P++((u1++v1)++(u2++(v2++Q))) by simp];exact((srt_perm sec _).append_right _).append_left _
 refine⟨P++(u1++(v1++(u2++(v2++Q)))),P++(srt sec (u1++v1)++(u2++(v2++Q))),λ_ _=> ?_,λhn=> ?_,p1,by rw[c1];exact u1s,by rw[c2];exact v1s,λ_ _=> ?_,λhn=> ?_,p2,by rw[c3];exact u2s,by rw[c4];exact v2s,λ_ _=> ?_,λhn=> ?_⟩
 conv=>lhs;rw[hl,show P++(u1++(u2++(v1++(v2++Q))))=(P++u1)++(u2++(v1++(v2++Q))) by simp]
 rw[du0 (by simp;omega) (by simp;omega) (by simp;omega)];simp
 rcases k8 r m with hh|hh
 have:v1=[]:=C3.1 (by omega);rw[this]at hl⊢;exact hl;have:u2=[]:=C3.1 (by omega);rw[this]at hl⊢;exact hl;rw[show P++(u1++(v1++(u2++(v2++Q))))=P++((u1++v1)++(u2++(v2++Q))) by simp,WG (by omega) (by simp;omega)]
 rcases k8 a r with hh|hh
 have:v1=[]:=C3.1 (by omega);rw[this,x5,srt_id u1s];rfl;have:u1=[]:=C3.1 (by omega);rw[this,show([]:U7)++v1=v1 from rfl,srt_id v1s];rfl;rw[hsrt,show P++(srt sec (u1++v1)++(u2++(v2++Q)))=(P++srt sec (u1++v1))++((u2++v2)++Q) by simp,WG (by simp;omega) (by simp;omega)];simp
 rw[hsrt];rcases k8 mid e with hh|hh
 have:v2=[]:=C3.1 (by omega);rw[this,x5,srt_id u2s];rfl;have:u2=[]:=C3.1 (by omega);rw[this,show([]:U7)++v2=v2 from rfl,srt_id v2s];rfl
def bubA(sec:Bool)(a:Nat):U7->Nat->Nat×U7
 |l,0=>(a,l)
 |l,k+1=>if cI sec (cg l (a+k+1)) (cg l (a+k))then bubA sec a (iX l (a+k+1) (a+k)) k else(a+k+1,l)
def c17(sec:Bool)(x:Val){P:U7}{a:Nat}(ha:a=P.length): ∀(s t:U7),(bubA sec a (P++(s.reverse++x::t)) s.length).2=P++((gv sec x s).reverse++t)
 | [],t=>rfl
 |y::r,t=>by
  have e1:P++((y::r).reverse++x::t)=(P++r.reverse)++y::([]++x::t):=by simp
  have a1:cg ((P++r.reverse)++y::([]++x::t)) (a+r.length)=y:=atV_mid (by grind);have a2:cg ((P++r.reverse)++y::([]++x::t)) (a+r.length+1)=x:=by grind[atV_mid]
  rw[e1,List.length_cons];unfold bubA gv;rw[a1,a2];split;rw[Xx (by omega),Iq (by grind) (by grind),show(P++r.reverse)++x::([]++y::t)=P++(r.reverse++x::(y::t)) by simp,c17 sec x ha r (y::t)];simp;simp
def d14{i:Nat}(h1:a<=i)(h2:i<l.length):(bubA sec a (cR sec l a i) (i-a)).2=cR sec l a (i+1):=by
 have hd:l.drop i=cg l i::l.drop (i+1):=by rw[R6 h2];unfold cg;rw[k5,m7 h2];rfl
 have hl:(ju sec (cB l a i)).length=i-a:=by have:=srt_len sec (cB l a i);unfold srt at this;rw[List.length_reverse]at this;rw[this,my (by omega)]
 have e:=c17 sec (cg l i) (P:=l.take a) (a:=a) (by rw[n8];omega) (ju sec (cB l a i)) (l.drop (i+1));rw[hl]at e;have e2:cR sec l a i=l.take a++((ju sec (cB l a i)).reverse++cg l i::l.drop (i+1)):=by unfold cR srt;rw[hd]
 rw[e2,e];unfold cR srt;rw[<-iY (a:=a) (m:=i) (b:=i+1) h1 (by omega),PW h2,dt8]
def YC(h1:a<=b)(h2:b<=a+1)(hb:b<=l.length):cR sec l a b=l:=by
 conv=>rhs;rw[CE (l:=l) h1]
 unfold cR;congr 2;refine srt_id ?_;have:(cB l a b).length<=1:=by grind[my]
 unfold Sd
 match h:cB l a b,this with
 | [],_=>exact .nil
 | [x],_=>simp
 |x::y::r,hh=>simp at hh
theorem c19(sec:Bool)(l:U7):cR sec l 0 l.length=srt sec l:=by grind[cR,cB]
def srt_cl{q:U7}(h:Cl sec l q):srt sec l=srt sec q:=GB (srt_sorted sec q) ((EZ sec q).trans h.symm)
def PJ(sec:Bool)(h:a<=b):Cl sec (cR sec l a b) l:=by have:=(Cl.refl sec (l.take a)).app ((EZ sec (cB l a b)).app (Cl.refl sec (l.drop b)));rwa[<-CE (l:=l) h]at this
def Rf(h:a<=b)(hb:b<=l.length):cB (cR sec l a b) a b=srt sec (cB l a b):=by grind[cR,List.append_assoc,uW,List.length_take,srt_len,my]
def isL:Val->Bool
 | .A _=>true
 |_=>false
theorem isL_at{v:Val}(h:isL v=true):v= .A v.L:=by cases v<;>first|rfl|cases h
def okK(r:Val):Bool:=match r with
 | .A [.vs _,.D _,.D _,.D _,.D _,.D _,.D _]=>true
 |_=>false
def okK8(r:Val):Bool:=match r with
 | .A [.vs _,.D _,.D _,.B _,.D _,.D _,.D _,.D _]=>true
 |_=>false
theorem okK_at{r:Val}(h:okK r=true):X8 r=r:=by unfold okK at h;split at h;rfl;cases h
def mi(l n:Val):Bool:=isL l&&(l.L.all okK&&(decide (n.I=(l.L.length:Int))&&decide (l.L.length<=400)))
def GT{l n:Val}(h:mi l n=true):l= .A l.L/\l.L.all okK=true/\n.I=(l.L.length:Int)/\l.L.length<=400:=by obtain⟨h1,h⟩:=W4 h;obtain⟨h2,h⟩:=W4 h;obtain⟨h3,h4⟩:=W4 h;exact⟨isL_at h1,h2,j7 h3,j7 h4⟩
def nt(v:Val):Nat:=v.I.toNat
def uN:Val->Bool
 | .D _=>true
 |_=>false
def Ny{v:Val}(h:uN v=true):v= .D v.I:=by cases v<;>first|rfl|cases h
def Zw(a:U7):Prop:=mi (ce a 0) (ce a 1)=true/\0<=(ce a 2).I/\(ce a 2).I<(ce a 3).I/\(ce a 3).I<(ce a 4).I/\(ce a 4).I<=(ce a 1).I/\(ce a 4).I-(ce a 2).I<=(ce a 5).I/\
 uN (ce a 2)=true/\uN (ce a 3)=true/\uN (ce a 4)=true/\Sd false (cB (ce a 0).L (nt (ce a 2)) (nt (ce a 3)))/\Sd false (cB (ce a 0).L (nt (ce a 3)) (nt (ce a 4)))
open Classical in
def GQ(a:U7):Bool:=decide (Zw a)
def Oa{a:U7}:GQ a=true↔Zw a:=by grind[GQ]
def dM(B:Nat)(l:U7):Nat->U7
 |0=>l
 |k+1=>cR false (dM B l k) (B*k) (B*k+B)
def pass(bs n:Nat)(l:U7):U7:=if 2*bs*(n/(2*bs))+bs<n then cR false (dM (2*bs) l (n/(2*bs))) (2*bs*(n/(2*bs))) n else dM (2*bs) l (n/(2*bs))
def nF(n:Nat):Nat->Nat->U7->Nat×U7
 |0,bs,l=>(bs,l)
 |f+1,bs,l=>if bs<n then nF n f (2*bs) (pass bs n l)else(bs,l)
def GX:Nat->U7->Val:=λi a=>match i with
 |420=> .B (mi (ce a 0) (ce a 1)&&decide (0<=(ce a 2).I/\0<=(ce a 4).I/\(ce a 2).I+(ce a 4).I<=(ce a 3).I/\(ce a 3).I+(ce a 4).I<=(ce a 1).I))
 |421=> .A (jI (ce a 0).L (nt (ce a 1)) (nt (ce a 2)) (nt (ce a 3)))
 |422=> .B (mi (ce a 0) (ce a 1)&&decide (0<=(ce a 2).I/\(ce a 2).I<(ce a 3).I/\(ce a 3).I<(ce a 4).I/\(ce a 4).I<=(ce a 1).I))
 |423=> .A (yZ (ce a 0).L (nt (ce a 1)) (nt (ce a 2)) (nt (ce a 3)))
 |424=> .B (mi (ce a 0) (ce a 1)&&decide (0<=(ce a 2).I/\(ce a 2).I<=(ce a 3).I/\(ce a 3).I<=(ce a 1).I))
 |425=> .A (cR false (ce a 0).L (nt (ce a 1)) (nt (ce a 2)))
 |426=> .B (GQ a)
 |428=> .B (mi (ce a 0) (ce a 1)&&(uN (ce a 2)&&decide ((ce a 2).I=(ce a 1).I)))
 |431=> .B (isL (ce a 0)&&(ce a 0).L.all okK)
 |433=> .B (isL (ce a 0)&&(ce a 0).L.all okK8)
 |452=>cx (0,[.D (nt (ce a 6)),.A (jI (ce a 1).L (nt (ce a 4)) (nt (ce a 5)) (nt (ce a 6)))])
 |458=>cx (0,[.D (jH (nt (ce a 5)) (nt (ce a 0)+nt (ce a 1)) (nt (ce a 0)) (nt (ce a 1)) (ce a 2).L).1,.D (jH (nt (ce a 5)) (nt (ce a 0)+nt (ce a 1)) (nt (ce a 0)) (nt (ce a 1)) (ce a 2).L).1,.A (jH (nt (ce a 5)) (nt (ce a 0)+nt (ce a 1)) (nt (ce a 0)) (nt (ce a 1)) (ce a 2).L).2])
 |460=>cx (0,[.D (max (nt (ce a 4)+1) (nt (ce a 5)):Nat),.A (cR false (ce a 1).L (nt (ce a 4)) (nt (ce a 5)))])
 |461=>cx (0,[.D (bubA false (nt (ce a 4)) (ce a 1).L (nt (ce a 0)-nt (ce a 4))).1,.A (bubA false (nt (ce a 4)) (ce a 1).L (nt (ce a 0)-nt (ce a 4))).2])
 |462=>let r:=bs (λh=>cI false (cg (ce a 3).L h) (cg (ce a 3).L (nt (ce a 4)))) (nt (ce a 1)-nt (ce a 0)) (nt (ce a 0)) (nt (ce a 1));cx (0,[.D r,.D r])
 |463=>cx (0,[.D (nt (ce a 4)-1:Nat),.A (nT (ce a 1).L (nt (ce a 0)) (nt (ce a 4)-1-nt (ce a 0)))])
 |464=>let r:=bs (λh=> !cI false (cg (ce a 3).L (nt (ce a 4))) (cg (ce a 3).L h)) (nt (ce a 1)-nt (ce a 0)) (nt (ce a 0)) (nt (ce a 1));cx (0,[.D r,.D r])
 |465=>cx (0,[ce a 4,.A (mM (ce a 1).L (nt (ce a 0)) (nt (ce a 0)-nt (ce a 4)))])
 |466=>let r:=bs (λc=> !cI false (cg (ce a 3).L (nt (ce a 9)-c)) (cg (ce a 3).L c)) (nt (ce a 1)-nt (ce a 0)) (nt (ce a 0)) (nt (ce a 1));cx (0,[.D r,.D r])
 |467=>cx (0,[.D (20*(nt (ce a 5)/20):Nat),.D (20*(nt (ce a 5)/20)+20:Nat),.A (dM 20 (ce a 2).L (nt (ce a 5)/20))])
 |468=>cx (0,[.D (nF (nt (ce a 4)) 9 20 (ce a 1).L).1,.A (nF (nt (ce a 4)) 9 20 (ce a 1).L).2])
 |469=>cx (0,[.D (2*nt (ce a 6)*(nt (ce a 5)/(2*nt (ce a 6))):Nat),.D (2*nt (ce a 6)*(nt (ce a 5)/(2*nt (ce a 6)))+2*nt (ce a 6):Nat),.A (dM (2*nt (ce a 6)) (ce a 2).L (nt (ce a 5)/(2*nt (ce a 6))))])
 |490=> .A (srt false (ce a 0).L)
 |_=> .B false
