import Derived.Test.YtcmjiepodnicoaaGreatEM1
set_option linter.unusedSimpArgs false
set_option linter.unusedVariables false
namespace Go.Ev.S7
open Go Go.Ev
variable{l P Q q:List Val}{sec:Bool}{a b k m:Nat}{x y:Val}
noncomputable def cS(sec:Bool)(a b:Val):Bool:=DN a b
theorem LJ(sec:Bool)(a:Val):cS sec a a=false:=SD _
theorem Mx{a b:Val}(h:cS sec a b=true):cS sec b a=false:=Ph h
theorem ub{a b c:Val}(h1:cS sec a b=false)(h2:cS sec b c=false):cS sec a c=false:=aP3 h1 h2
noncomputable def iK(sec:Bool)(x:Val):List Val->List Val
 | []=>[x]
 |y::r=>if cS sec x y then y::iK sec x r else x::y::r
noncomputable def nK(sec:Bool)(l:List Val):List Val:=l.foldl (λs x=>iK sec x s) []
noncomputable def srt(sec:Bool)(l:List Val):List Val:=(nK sec l).reverse
theorem Yu(sec:Bool)(l:List Val)(x:Val):nK sec (l++[x])=iK sec x (nK sec l):=by simp[nK]
theorem zz(sec:Bool)(x:Val): ∀s:List Val,(iK sec x s).Perm (x::s)
 | []=> .refl _
 |y::r=>by
  unfold iK;split
  .exact((zz sec x r).cons y).trans (.swap x y r)
  rfl
theorem QH(sec:Bool)(l:List Val): ∀s:List Val,(l.foldl (λs x=>iK sec x s) s).Perm (l++s):=by
 induction l with
 |nil=>simp_all
 |cons x l ih=>
  intro s;exact(ih _).trans (((zz sec x s).append_left l).trans List.perm_middle)
theorem srt_perm(sec:Bool)(l:List Val):(srt sec l).Perm l:=by
 have:=QH sec l [];rw[s8]at this;exact(List.reverse_perm _).trans this
theorem srt_len(sec:Bool)(l:List Val):(srt sec l).length=l.length:=(srt_perm sec l).length_eq
theorem Eu(sec:Bool)(x:Val): ∀s:List Val,s.Pairwise (λa b=>cS sec a b=false)->(iK sec x s).Pairwise (λa b=>cS sec a b=false)
 | [],_=>by simp[iK]
 |y::r,h=>by
  unfold iK;rw[A6]at h;split
  .rename_i hl;rw[A6];refine⟨λz hz=> ?_,Eu sec x r h.2⟩;rcases m8.1 ((zz sec x r).mem_iff.1 hz)with rfl|hz
   .exact Mx hl
   .exact h.1 z hz
  .rename_i hl;have hl:cS sec x y=false:=by simpa using hl
   rw[A6,A6];refine⟨λz hz=> ?_,h⟩;rcases m8.1 hz with rfl|hz
   .exact hl
   .exact ub hl (h.1 z hz)
theorem Sx(sec:Bool)(l:List Val): ∀s:List Val,s.Pairwise (λa b=>cS sec a b=false)->(l.foldl (λs x=>iK sec x s) s).Pairwise (λa b=>cS sec a b=false):=by
 induction l with
 |nil=>grind
 |cons x l ih=>grind[Eu]
theorem srt_sorted(sec:Bool)(l:List Val):(srt sec l).Pairwise (λa b=>cS sec b a=false):=by
 unfold srt;rw[List.pairwise_reverse];exact Sx sec l [] .nil
noncomputable def eqv(sec:Bool)(x y:Val):Bool:= !cS sec x y&& !cS sec y x
def Sd(sec:Bool)(l:List Val):Prop:=l.Pairwise (λa b=>cS sec b a=false)
def Cl(sec:Bool)(l q:List Val):Prop:= ∀x,l.filter (eqv sec x)=q.filter (eqv sec x)
theorem VV(sec:Bool)(x:Val):eqv sec x x=true:=by simp[eqv,LJ]
theorem eqv_iff:eqv sec x y=true↔cS sec x y=false/\cS sec y x=false:=by simp[eqv]
theorem VY{z:Val}(h:cS sec y z=true)(h1:eqv sec x y=true):eqv sec x z=false:=by
 grind[eqv_iff,ub]
theorem Cl.refl(sec:Bool)(l:List Val):Cl sec l l:=λ_=>rfl
theorem Cl.symm(h:Cl sec l q):Cl sec q l:=λx=>(h x).symm
theorem Cl.trans{r:List Val}(h:Cl sec l q)(h2:Cl sec q r):Cl sec l r:=λx=>(h x).trans (h2 x)
theorem Cl.app{a b c d:List Val}(h:Cl sec a b)(h2:Cl sec c d):Cl sec (a++c) (b++d):=λx=>by
 rw[C5,C5,h x,h2 x]
theorem Uy{A B:List Val}(h: ∀a∈A,∀b∈B,cS sec b a=true):Cl sec (A++B) (B++A):=λx=>by
 rw[C5,C5];cases hA:A.filter (eqv sec x)with
 |nil=>simp
 |cons a l=>
  have ha:a∈A.filter (eqv sec x):=by rw[hA];simp
  have hB:B.filter (eqv sec x)=[]:=by
   rw[R8];intro b hb hx;have:=VY (h a (l6.1 ha).1 b hb) hx;rw[(l6.1 ha).2]at this;cases this
  rw[hB];simp
theorem IH(h:Cl sec l q)(hx:x∈l):x∈q:=by
 have:x∈l.filter (eqv sec x):=l6.2 ⟨hx,VV sec x⟩;rw[h x]at this;grind
theorem Wj{sec:Bool}: ∀{l q:List Val},Sd sec l->Sd sec q->Cl sec l q->l=q
 | [],[],_,_,_=>rfl
 | [],y::q,_,_,h=>by have:=IH h.symm (x:=y) (by simp);cases this
 |x::l,[],_,_,h=>by have:=IH h (x:=x) (by simp);cases this
 |x::l,y::q,h1,h2,h=>by
  have g1:=A6.1 h1;have g2:=A6.1 h2;have e1:cS sec x y=false:=by
   rcases m8.1 (IH h (x:=x) (by simp))with e|e
   .rw[e];exact LJ sec y
   .exact g2.1 x e
  have e2:cS sec y x=false:=by
   rcases m8.1 (IH h.symm (x:=y) (by simp))with e|e
   .rw[e];exact LJ sec x
   .exact g1.1 y e
  have hx:=h x;rw[A0,e8 (VV sec x),A0,e8 (eqv_iff.2 ⟨e1,e2⟩)]at hx;injection hx with hxy _
  congr 1;refine Wj g1.2 g2.2 λz=> ?_
  have hz:=h z;grind
theorem ZL{sec:Bool}(x z:Val): ∀s:List Val,(iK sec x s).filter (eqv sec z)=(x::s).filter (eqv sec z)
 | []=>rfl
 |y::r=>by
  unfold iK;split
  .rw[A0,ZL x z r,A0,A0,A0];grind[eqv,VY]
  .rfl
theorem Yt{sec:Bool}(z:Val): ∀(l s:List Val),(l.foldl (λs x=>iK sec x s) s).filter (eqv sec z)=(l.reverse++s).filter (eqv sec z)
 | [],s=>rfl
 |x::l,s=>by
  rw[List.foldl_cons,Yt z l,C5,ZL,<-C5];simp
theorem Fz(sec:Bool)(l:List Val):Cl sec (srt sec l) l:=λz=>by
 unfold srt;rw[V4];have:=Yt (sec:=sec) z l [];unfold nK;rw[this,s8,V4,List.reverse_reverse]
theorem Hl(hs:Sd sec q)(hc:Cl sec q l):srt sec l=q:=Wj (srt_sorted sec l) hs ((Fz sec l).trans hc.symm)
theorem Aq(hs:Sd sec l):srt sec l=l:=Hl hs (Cl.refl sec l)
theorem srt_mem:x∈srt sec l↔x∈l:=(srt_perm sec l).mem_iff
def cH(l:List Val)(a b:Nat):List Val:=(l.take b).drop a
theorem md(h:b<=l.length):(cH l a b).length=b-a:=by
 grind[cH,List.length_drop,List.length_take]
theorem jV(h1:a<=m)(h2:m<=b):cH l a m++cH l m b=cH l a b:=by
 unfold cH;have e:l.take m=(l.take b).take m:=by rw[P9,B1 h2]
 rw[e];generalize l.take b=q;have:q.drop m=(q.drop a).drop (m-a):=by rw[Q1,show a+(m-a)=m by omega]
 rw[Q0,this,t8]
theorem cr2(h1:a<=b):l=l.take a++cH l a b++l.drop b:=by
 have e:l.take a=cH l 0 a:=by rfl
 rw[e,jV (s7 a) h1];simp[cH]
theorem vL{U:List Val}(ha:a=P.length)(hb:b=P.length+U.length):cH (P++U++Q) a b=U:=by
 unfold cH;grind
theorem QR(h:k=P.length):cg (P++x::Q) k=x:=by
 simp_all[cg,j8,o7,e9,R2]
theorem dc3(h:k=P.length):(P++x::Q).set k y=P++y::Q:=by
 simp_all
theorem Xi(h1:b<=l.length)(h2:a+k<b):cg (cH l a b) k=cg l (a+k):=by
 unfold cH cg;grind
theorem Ia(h:k<l.length):cg l k∈l:=by
 unfold cg;rw[j8,l7 h];exact B5 h
theorem dc4(h:x∈l): ∃k,k<l.length/\x=cg l k:=by
 obtain⟨k,hk,rfl⟩:=B3 h;refine⟨k,hk,?_⟩;unfold cg;rw[j8,l7 hk];rfl
theorem wH(hb:b<=l.length)(h:x∈cH l a b): ∃k,a<=k/\k<b/\x=cg l k:=by
 grind[dc4,md,Xi]
def jq(l:List Val)(i j:Nat):List Val:=(l.set i (cg l j)).set j (cg l i)
theorem Gm(l:List Val)(i j:Nat):(jq l i j).length=l.length:=by simp[jq]
theorem IZ{M:List Val}{i j:Nat}(hi:i=P.length)(hj:j=P.length+1+M.length):jq (P++x::(M++y::Q)) i j=P++y::(M++x::Q):=by
 grind[cg,QR,jq,dc3]
theorem Rv{i j:Nat}(h:i≠j):jq l i j=jq l j i:=by
 grind[jq,List.set_comm]
def kK(l:List Val)(a b:Nat):Nat->List Val
 |0=>l
 |n+1=>jq (kK l a b n) (a+n) (b+n)
theorem wo(l:List Val)(a b:Nat): ∀n,(kK l a b n).length=l.length
 |0=>rfl
 |n+1=>by rw[kK,Gm,wo l a b n]
theorem OE{n:Nat}(h:l.length=n+1): ∃q x,l=q++[x]/\q.length=n:=by
 rcases List.eq_nil_or_concat l with e|⟨q,x,e⟩
 .rw[e]at h;cases h
 grind
theorem Lq: ∀(n:Nat) {P A X B Q:List Val} {a b:Nat},A.length=n->B.length=n->a=P.length->b=P.length+n+X.length->kK (P++(A++(X++(B++Q)))) a b n=P++(B++(X++(A++Q)))
 |0,P,A,X,B,Q,a,b,hA,hB,_,_=>by
  rw[B4.1 hA,B4.1 hB];rfl
 |n+1,P,A,X,B,Q,a,b,hA,hB,ha,hb=>by
  obtain⟨A',x,rfl,h1⟩:=OE hA;obtain⟨B',y,rfl,h2⟩:=OE hB;have ih:=Lq n (P:=P) (A:=A') (X:=x::X) (B:=B') (Q:=y::Q) (a:=a) (b:=b) h1 h2 ha (by simp;omega);grind[kK,IZ]
def yu(l:List Val)(a m b:Nat):List Val:=l.take a++(cH l m b++(cH l a m++l.drop b))
theorem ea6(h1:a<=m)(h2:m<=b):l=l.take a++(cH l a m++(cH l m b++l.drop b)):=by
 grind[cr2,Nat.le_trans,jV]
theorem Ds(h1:a<=b):l=l.take a++(cH l a b++l.drop b):=by
 grind[cr2]
theorem dc6{U V:List Val}(ha:a=P.length)(hm:m=P.length+U.length)(hb:b=P.length+U.length+V.length):yu (P++(U++(V++Q))) a m b=P++(V++(U++Q)):=by
 have e1:cH (P++(U++(V++Q))) a m=U:=by
  rw[show P++(U++(V++Q))=P++U++(V++Q) by simp];exact vL ha hm
 have e2:cH (P++(U++(V++Q))) m b=V:=by
  rw[show P++(U++(V++Q))=(P++U)++V++Q by simp];exact vL (by simp;omega) (by simp;omega)
 unfold yu;rw[e1,e2,List.take_left' ha.symm,show P++(U++(V++Q))=(P++(U++V))++Q by simp,List.drop_left' (by simp;omega)]
def kC(m:Nat):Nat->Nat->Nat->List Val->Nat×List Val
 |0,i,_,l=>(i,l)
 |n+1,i,j,l=>if i=j then(i,l)else if j<i then kC m n (i-j) j (kK l (m-i) m j)else kC m n i (j-i) (kK l (m-i) (m+j-i) i)
theorem Qd(m:Nat): ∀(n i j:Nat) (P U V Q:List Val),i+j<=n+1->0<i->0<j->U.length=i->V.length=j->m=P.length+i->
 let r:=kC m n i j (P++(U++(V++Q)))
 0<r.1/\r.1<=i/\r.1<=j/\r.2.length=(P++(U++(V++Q))).length/\kK r.2 (m-r.1) m r.1=P++(V++(U++Q))
 |0,i,j,P,U,V,Q,hn,hi,hj,hU,hV,hm=>by omega
 |n+1,i,j,P,U,V,Q,hn,hi,hj,hU,hV,hm=>by
  unfold kC;by_cases h1:i=j
  .have:=Lq i (P:=P) (A:=U) (X:=[]) (B:=V) (Q:=Q) (a:=m-i) (b:=m) hU (by omega) (by omega) (by omega);grind
  .by_cases h2:j<i
   .obtain⟨U1,U2,rfl,hU1⟩: ∃U1 U2,U=U1++U2/\U1.length=j:=⟨U.take j,U.drop j,(t8 j U).symm,by rw[l5];omega⟩;have hU2:U2.length=i-j:=by rw[k5]at hU;omega
    have e:=Lq j (P:=P) (A:=U1) (X:=U2) (B:=V) (Q:=Q) (a:=m-i) (b:=m) hU1 hV (by omega) (by omega);have ih:=Qd m n (i-j) j (P++V) U2 U1 Q (by omega) (by omega) hj hU2 hU1 (by simp;omega);grind
   .obtain⟨V1,V2,rfl,hV1⟩: ∃V1 V2,V=V1++V2/\V1.length=j-i:=⟨V.take (j-i),V.drop (j-i),(t8 (j-i) V).symm,by rw[l5];omega⟩;have hV2:V2.length=i:=by rw[k5]at hV;omega
    have e:=Lq i (P:=P) (A:=U) (X:=V1) (B:=V2) (Q:=Q) (a:=m-i) (b:=m+j-i) hU hV2 (by omega) (by omega);have ih:=Qd m n i (j-i) P V2 V1 (U++Q) (by omega) hi (by omega) hV2 hV1 hm;grind
def oB(l:List Val)(a:Nat):Nat->List Val
 |0=>l
 |n+1=>jq (oB l a n) (a+n) (a+n+1)
theorem Ll(l:List Val)(a:Nat): ∀n,(oB l a n).length=l.length
 |0=>rfl
 |n+1=>by rw[oB,Gm,Ll l a n]
theorem Wt: ∀(n:Nat) {P Y Q:List Val} {x:Val} {a:Nat},Y.length=n->a=P.length->oB (P++x::(Y++Q)) a n=P++(Y++x::Q)
 |0,P,Y,Q,x,a,hY,_=>by rw[B4.1 hY];rfl
 |n+1,P,Y,Q,x,a,hY,ha=>by
  obtain⟨Y',y,rfl,h1⟩:=OE hY;have ih:=Wt n (P:=P) (Y:=Y') (Q:=y::Q) (x:=x) (a:=a) h1 ha;rw[show P++x::((Y'++[y])++Q)=P++x::(Y'++y::Q) by simp,oB,ih,show P++(Y'++x::y::Q)=(P++Y')++x::([]++y::Q) by simp,IZ (by grind) (by grind)];simp
def nQ(l:List Val)(m:Nat):Nat->List Val
 |0=>l
 |n+1=>jq (nQ l m n) (m-n-1) (m-n)
theorem Oc(l:List Val)(m:Nat): ∀n,(nQ l m n).length=l.length
 |0=>rfl
 |n+1=>by rw[nQ,Gm,Oc l m n]
theorem cW6: ∀(n:Nat) {P Y Q:List Val} {x:Val} {m:Nat},Y.length=n->m=P.length+n->nQ (P++(Y++x::Q)) m n=P++x::(Y++Q)
 |0,P,Y,Q,x,m,hY,_=>by rw[B4.1 hY];rfl
 |n+1,P,Y,Q,x,m,hY,hm=>by
  cases Y with
  |nil=>cases hY
  |cons y Y'=>
   have ih:=cW6 n (P:=P++[y]) (Y:=Y') (Q:=Q) (x:=x) (m:=m) (by simpa using hY) (by simp;omega);grind[nQ,IZ]
def bs(T:Nat->Bool):Nat->Nat->Nat->Nat
 |0,i,_=>i
 |n+1,i,j=>if i<j then(if T ((i+j)/2)then bs T n ((i+j)/2+1) j else bs T n i ((i+j)/2))else i
theorem GK{T:Nat->Bool}{lo hi:Nat}(mono: ∀c d,lo<=c->c<=d->d<hi->T d=true->T c=true): ∀n i j,lo<=i->i<=j->j<=hi->j-i<=n->(∀c,lo<=c->c<i->T c=true)->(∀c,j<=c->c<hi->T c=false)->
 i<=bs T n i j/\bs T n i j<=j/\(∀c,lo<=c->c<bs T n i j->T c=true)/\ ∀c,bs T n i j<=c->c<hi->T c=false
 |0,i,j,h1,h2,h3,h4,h5,h6=>by
  have:i=j:=by omega
  subst this;exact⟨e9 _,e9 _,h5,h6⟩
 |n+1,i,j,h1,h2,h3,h4,h5,h6=>by
  unfold bs;by_cases hij:i<j
  .rw[e8 hij];by_cases hT:T ((i+j)/2)=true
   .rw[e8 hT];obtain⟨a,b,c⟩:=GK mono n ((i+j)/2+1) j (by omega) (by omega) h3 (by omega) (λc hc1 hc2=>mono c ((i+j)/2) hc1 (by omega) (by omega) hT) h6;exact⟨by omega,b,c⟩
   .rw[b9 hT];obtain⟨a,b,c⟩:=GK mono n i ((i+j)/2) h1 (by omega) (by omega) (by omega) h5 (λc hc1 hc2=>by
     rw[<-B6];exactλhc=>hT (mono _ c (by omega) hc1 hc2 hc))
    exact⟨a,by omega,c⟩
  grind
theorem Vf{step:List Val->Option (Nat×List Val)}{T:Nat->Bool}{lo hi:Nat}(h1: ∀i j:Nat,lo<=i->i<j->j<=hi->step [.vi i,.vi j]=some (0,if T ((i+j)/2)then [.vi ((i+j)/2+1:Nat),.vi j]else [.vi i,.vi ((i+j)/2:Nat)]))(h2: ∀i:Nat,step [.vi i,.vi i]=some (1,[.vi i,.vi i])):
 ∀(n i j:Nat),lo<=i->i<=j->j<=hi->j-i<=n->Iter step [.vi i,.vi j] 0 [.vi (bs T n i j),.vi (bs T n i j)]
 |0,i,j,a,b,c,d=>by
  have:i=j:=by omega
  subst this;exact .out (h2 i)
 |n+1,i,j,a,b,c,d=>by
  unfold bs;by_cases hij:i<j
  .rw[e8 hij];have e:=h1 i j a hij c;by_cases hT:T ((i+j)/2)=true
   .rw[e8 hT]at e⊢;exact .more e (Vf h1 h2 n ((i+j)/2+1) j (by omega) (by omega) c (by omega))
   .rw[b9 hT]at e⊢;exact .more e (Vf h1 h2 n i ((i+j)/2) a (by omega) (by omega) (by omega))
  .rw[b9 hij];have:i=j:=by omega
   subst this;exact .out (h2 i)
end Go.Ev.S7
namespace Go.Ev.S7
open Go Go.Ev
variable{l:List Val}{a b:Nat}{sec:Bool}
noncomputable def dD(sec:Bool)(l:List Val)(a b:Nat):List Val:=l.take a++(srt sec (cH l a b)++l.drop b)
theorem Hx(sec:Bool)(h:a<=b):(dD sec l a b).Perm l:=by
 conv=>rhs;rw[Ds (l:=l) h]
 exact((srt_perm sec _).append_right _).append_left _
theorem bU9(sec:Bool)(h:a<=b):(dD sec l a b).length=l.length:=(Hx sec h).length_eq
theorem cr4{P U Q:List Val}(ha:a=P.length)(hb:b=P.length+U.length):dD sec (P++(U++Q)) a b=P++(srt sec U++Q):=by
 grind[cH,vL,dD,List.take_left',List.drop_left']
theorem vM{A B:List Val}:Sd sec (A++B)↔Sd sec A/\Sd sec B/\ ∀a∈A,∀b∈B,cS sec b a=false:=List.pairwise_append
theorem wQ{i j:Nat}(h:Sd sec (cH l a b))(hb:b<=l.length)(h1:a<=i)(h2:i<=j)(h3:j<b):cS sec (cg l j) (cg l i)=false:=by
 rcases j9 i j with hij|hij
 .unfold Sd at h;rw[O4]at h;have hl:=md (l:=l) (a:=a) hb;have:=h (i-a) (j-a) (by omega) (by omega) (by omega);have e: ∀k (hk:k<(cH l a b).length),(cH l a b)[k]=cg l (a+k):=λk hk=>by
   rw[<-Xi hb (by omega)];unfold cg;rw[j8,l7 hk];rfl
  rw[e,e,show a+(i-a)=i by omega,show a+(j-a)=j by omega]at this;exact this
 grind[LJ]
theorem Lj{c d:Nat}(h:Sd sec (cH l a b))(h1:a<=c)(h2:c<=d)(h3:d<=b):Sd sec (cH l c d):=by
 rw[<-jV h1 (m7 h2 h3),<-jV h2 h3]at h;grind[vM]
theorem RW(h:a<l.length):cH l a (a+1)=[cg l a]:=by
 unfold cH;rw[O7,M9,J8 (by grind)];unfold cg;rw[l5,show a-min a l.length=0 by omega,j8,l7 h];rfl
theorem Qo(h:b<=a):cH l a b=[]:=by
 grind[cH,List.drop_eq_nil_of_le,List.length_take]
theorem dP7{a b c:Val}(h1:cS sec a b=true)(h2:cS sec c b=false):cS sec a c=true:=by
 grind[cS,ub]
theorem dy7{a b c:Val}(h1:cS sec b a=false)(h2:cS sec b c=true):cS sec a c=true:=by
 grind[cS,ub]
theorem dc7(h1:a+1<b)(hb:b<=l.length)(hs:Sd sec (cH l (a+1) b)):
 a+1<=bs (λh=>cS sec (cg l h) (cg l a)) (b-(a+1)) (a+1) b/\bs (λh=>cS sec (cg l h) (cg l a)) (b-(a+1)) (a+1) b<=b/\
  oB l a (bs (λh=>cS sec (cg l h) (cg l a)) (b-(a+1)) (a+1) b-1-a)=dD sec l a b:=by
 have sp:=GK (T:=λh=>cS sec (cg l h) (cg l a)) (lo:=a+1) (hi:=b) (λc d hc hcd hd hT=>dy7 (wQ hs hb hc hcd hd) hT) (b-(a+1)) (a+1) b (e9 _) (by omega) (e9 _) (e9 _) (λc _ _=>by omega) (λc _ _=>by omega);generalize bs (λh=>cS sec (cg l h) (cg l a)) (b-(a+1)) (a+1) b=r at sp⊢;obtain⟨r1,r2,r3,r4⟩:=sp;have e1:cH l a b=cg l a::(cH l (a+1) r++cH l r b):=by
  rw[jV r1 r2,<-jV (a:=a) (m:=a+1) (b:=b) (by omega) (by omega),RW (by omega)];rfl
 have e2:l=l.take a++cg l a::(cH l (a+1) r++(cH l r b++l.drop b)):=by
  conv=>lhs;rw[Ds (l:=l) (a:=a) (b:=b) (by omega),e1]
  simp
 have hA: ∀x∈cH l (a+1) r,cS sec x (cg l a)=true:=λx hx=>by
  obtain⟨k,k1,k2,rfl⟩:=wH (by omega) hx;exact r3 k k1 k2
 have hB: ∀x∈cH l r b,cS sec x (cg l a)=false:=λx hx=>by
  obtain⟨k,k1,k2,rfl⟩:=wH hb hx;exact r4 k k1 k2
 have hAB:=vM.1 (show Sd sec (cH l (a+1) r++cH l r b) by rw[jV r1 r2];exact hs);have e3:srt sec (cH l a b)=cH l (a+1) r++cg l a::cH l r b:=by
  refine Hl (vM.2 ⟨hAB.1,A6.2 ⟨hB,hAB.2.1⟩,λx hx y hy=> ?_⟩) ?_
  .rcases m8.1 hy with rfl|hy
   .exact Mx (hA x hx)
   .exact hAB.2.2 x hx y hy
  .rw[e1];have:=(Uy (sec:=sec) (A:=[cg l a]) (B:=cH l (a+1) r) (λx hx y hy=>by rw[n5.1 hx];exact hA y hy)).symm.app (Cl.refl sec (cH l r b));simpa using this
 grind[Wt,cH,cg,md,List.length_take,dD]
theorem dc8{m:Nat}(h1:a<m)(hb:m+1<=l.length)(hs:Sd sec (cH l a m)):
 a<=bs (λh=> !cS sec (cg l m) (cg l h)) (m-a) a m/\bs (λh=> !cS sec (cg l m) (cg l h)) (m-a) a m<=m/\
  nQ l m (m-bs (λh=> !cS sec (cg l m) (cg l h)) (m-a) a m)=dD sec l a (m+1):=by
 have sp:=GK (T:=λh=> !cS sec (cg l m) (cg l h)) (lo:=a) (hi:=m) (λc d hc hcd hd hT=>by
  simp at hT⊢;exact ub hT (wQ hs (by omega) hc hcd hd)) (m-a) a m (e9 _) (by omega) (e9 _) (e9 _) (λc _ _=>by omega) (λc _ _=>by omega)
 generalize bs (λh=> !cS sec (cg l m) (cg l h)) (m-a) a m=r at sp⊢;obtain⟨r1,r2,r3,r4⟩:=sp;have e1:cH l a (m+1)=cH l a r++(cH l r m++[cg l m]):=by
  rw[<-A5,jV r1 r2,<-jV (a:=a) (m:=m) (b:=m+1) (by omega) (by omega),RW (by omega)]
 have e2:l=(l.take a++cH l a r)++(cH l r m++cg l m::l.drop (m+1)):=by
  conv=>lhs;rw[Ds (l:=l) (a:=a) (b:=m+1) (by omega),e1]
  simp
 have hA: ∀x∈cH l a r,cS sec (cg l m) x=false:=λx hx=>by
  obtain⟨k,k1,k2,rfl⟩:=wH (by omega) hx;simpa using r3 k k1 k2
 have hB: ∀x∈cH l r m,cS sec (cg l m) x=true:=λx hx=>by
  obtain⟨k,k1,k2,rfl⟩:=wH (by omega) hx;simpa using r4 k k1 k2
 have hAB:=vM.1 (show Sd sec (cH l a r++cH l r m) by rw[jV r1 r2];exact hs);have e3:srt sec (cH l a (m+1))=cH l a r++cg l m::cH l r m:=by
  refine Hl (vM.2 ⟨hAB.1,A6.2 ⟨λy hy=>Mx (hB y hy),hAB.2.1⟩,λx hx y hy=> ?_⟩) ?_
  .rcases m8.1 hy with rfl|hy
   .exact hA x hx
   .exact hAB.2.2 x hx y hy
  .rw[e1];have:=(Cl.refl sec (cH l a r)).app (Uy (sec:=sec) (A:=cH l r m) (B:=[cg l m]) (λx hx y hy=>by rw[n5.1 hy];exact hB x hx)).symm;simpa using this
 grind[cW6,cH,cg,md,List.length_append,List.length_take,dD]
theorem dc9{m mid lo hi r:Nat}(h1:a<m)(h2:m<b)(hb:b<=l.length)(hs1:Sd sec (cH l a m))(hs2:Sd sec (cH l m b))(hmid:mid=(a+b)/2)
 (hlh:mid<m/\lo=mid+m-b/\hi=mid\/m<=mid/\lo=a/\hi=m) (hr:r=bs (λc=> !cS sec (cg l (mid+m-1-c)) (cg l c)) (hi-lo) lo hi):
 a<=r/\r<=m/\r<=mid/\mid+m-r<=b/\ ∃l1 l2,(r<m->m<mid+m-r->yu l r m (mid+m-r)=l1)/\(¬(r<m/\m<mid+m-r)->l=l1)/\l1.Perm l/\Sd sec (cH l1 a r)/\Sd sec (cH l1 r mid)/\
  (a<r->r<mid->dD sec l1 a mid=l2)/\(¬(a<r/\r<mid)->l1=l2)/\l2.Perm l/\Sd sec (cH l2 mid (mid+m-r))/\Sd sec (cH l2 (mid+m-r) b)/\
  (mid<mid+m-r->mid+m-r<b->dD sec l2 mid b=dD sec l a b)/\(¬(mid<mid+m-r/\mid+m-r<b)->l2=dD sec l a b):=by
 have hle:lo<=hi:=by omega
 have sp:=GK (T:=λc=> !cS sec (cg l (mid+m-1-c)) (cg l c)) (lo:=lo) (hi:=hi) (λc d hc hcd hd hT=>by
  simp at hT⊢;have g1:=wQ hs1 (by omega) (show a<=c by omega) hcd (by omega);have g2:=wQ hs2 hb (show m<=mid+m-1-d by omega) (show mid+m-1-d<=mid+m-1-c by omega) (by omega);exact ub g2 (ub hT g1)) (hi-lo) lo hi (e9 _) hle (e9 _) (e9 _) (λc _ _=>by omega) (λc _ _=>by omega)
 rw[<-hr]at sp;obtain⟨r1,r2,r3,r4⟩:=sp;have q1:a<=r:=by omega
 have q2:r<=m:=by omega
 have q3:r<=mid:=by omega
 have q4:mid+m-r<=b:=by omega
 refine⟨q1,q2,q3,q4,?_⟩;obtain⟨e,he⟩: ∃e,e=mid+m-r:=⟨_,rfl⟩;rw[<-he]at q4⊢;have q5:m<=e:=by omega
 have F1: ∀x∈cH l r m,∀y∈cH l m e,cS sec y x=true:=λx hx y hy=>by
  obtain⟨i,i1,i2,rfl⟩:=wH (by omega) hx;obtain⟨j,j1,j2,rfl⟩:=wH (by omega) hy;have hT:=r4 r (e9 _) (by omega);simp at hT;rw[show mid+m-1-r=e-1 by omega]at hT;have g1:=wQ hs2 hb j1 (show j<=e-1 by omega) (by omega);have g2:=wQ hs1 (by omega) q1 i1 i2;exact dP7 (dy7 g1 hT) g2
 have F2: ∀x∈cH l a r,∀y∈cH l e b,cS sec y x=false:=λx hx y hy=>by
  obtain⟨i,i1,i2,rfl⟩:=wH (by omega) hx;obtain⟨j,j1,j2,rfl⟩:=wH (by omega) hy;have hT:=r3 (r-1) (by omega) (by omega);simp at hT;rw[show mid+m-1-(r-1)=e by omega]at hT;have g1:=wQ hs2 hb (show m<=e by omega) j1 j2;have g2:=wQ hs1 (by omega) i1 (show i<=r-1 by omega) (by omega);exact ub g1 (ub hT g2)
 have u1s:=Lj hs1 (e9 a) q1 q2;have u2s:=Lj hs1 q1 q2 (e9 m);have v1s:=Lj hs2 (e9 m) q5 q4;have v2s:=Lj hs2 q5 q4 (e9 b);have F3:=(vM.1 (show Sd sec (cH l a r++cH l r m) by rw[jV q1 q2];exact hs1)).2.2;have F4:=(vM.1 (show Sd sec (cH l m e++cH l e b) by rw[jV q5 q4];exact hs2)).2.2;have lP:(l.take a).length=a:=by rw[l5];omega
 have l1:=md (l:=l) (a:=a) (b:=r) (by omega);have l2:=md (l:=l) (a:=r) (b:=m) (by omega);have l3:=md (l:=l) (a:=m) (b:=e) (by omega);have l4:=md (l:=l) (a:=e) (b:=b) (by omega);have hl:l=l.take a++(cH l a r++(cH l r m++(cH l m e++(cH l e b++l.drop b)))):=by
  conv=>lhs;rw[Ds (l:=l) (a:=a) (b:=b) (by omega),<-jV (a:=a) (m:=m) (b:=b) (by omega) (by omega),<-jV q1 q2,<-jV q5 q4]
  simp
 have hsrt:dD sec l a b=l.take a++(srt sec (cH l a r++cH l m e)++(srt sec (cH l r m++cH l e b)++l.drop b)):=by
  unfold dD;rw[<-A5 (srt sec (cH l a r++cH l m e))];congr 2;refine Hl (vM.2 ⟨srt_sorted sec _,srt_sorted sec _,λx hx y hy=> ?_⟩) ?_
  .rcases z8.1 (srt_mem.1 hx)with hx|hx<;>rcases z8.1 (srt_mem.1 hy)with hy|hy
   .exact F3 x hx y hy
   .exact F2 x hx y hy
   .exact Mx (F1 y hy x hx)
   .exact F4 x hx y hy
  .refine((Fz sec _).app (Fz sec _)).trans ?_;have:cH l a b=cH l a r++((cH l r m++cH l m e)++cH l e b):=by
    rw[<-jV (a:=a) (m:=m) (b:=b) (by omega) (by omega),<-jV q1 q2,<-jV q5 q4];simp
   rw[this];have:=(Cl.refl sec (cH l a r)).app ((Uy F1).symm.app (Cl.refl sec (cH l e b)));simpa using this
 generalize hP:l.take a=P at hl hsrt lP;generalize hu1:cH l a r=u1 at*
 generalize hu2:cH l r m=u2 at*
 generalize hv1:cH l m e=v1 at*
 generalize hv2:cH l e b=v2 at*
 generalize hQ:l.drop b=Q at hl hsrt;have c1:cH (P++(u1++(v1++(u2++(v2++Q))))) a r=u1:=by
  rw[show P++(u1++(v1++(u2++(v2++Q))))=P++u1++(v1++(u2++(v2++Q))) by simp];exact vL (by omega) (by omega)
 have c2:cH (P++(u1++(v1++(u2++(v2++Q))))) r mid=v1:=by
  rw[show P++(u1++(v1++(u2++(v2++Q))))=(P++u1)++v1++(u2++(v2++Q)) by simp];exact vL (by simp;omega) (by simp;omega)
 have ls1:=srt_len sec (u1++v1);rw[k5]at ls1;have c3:cH (P++(srt sec (u1++v1)++(u2++(v2++Q)))) mid e=u2:=by
  rw[show P++(srt sec (u1++v1)++(u2++(v2++Q)))=(P++srt sec (u1++v1))++u2++(v2++Q) by simp];exact vL (by simp;omega) (by simp;omega)
 have c4:cH (P++(srt sec (u1++v1)++(u2++(v2++Q)))) e b=v2:=by
  rw[show P++(srt sec (u1++v1)++(u2++(v2++Q)))=(P++srt sec (u1++v1)++u2)++v2++Q by simp];exact vL (by simp;omega) (by simp;omega)
 have p1:(P++(u1++(v1++(u2++(v2++Q))))).Perm l:=by
  conv=>rhs;rw[hl]
  refine(S6 _ (S6 _ ?_));rw[<-A5,<-A5 u2];exact List.perm_append_comm.append_right _
 have p2:(P++(srt sec (u1++v1)++(u2++(v2++Q)))).Perm l:=by
  refine List.Perm.trans ?_ p1;rw[show P++(u1++(v1++(u2++(v2++Q))))=P++((u1++v1)++(u2++(v2++Q))) by simp];exact((srt_perm sec _).append_right _).append_left _
 refine⟨P++(u1++(v1++(u2++(v2++Q)))),P++(srt sec (u1++v1)++(u2++(v2++Q))),λ_ _=> ?_,λhn=> ?_,p1,by rw[c1];exact u1s,by rw[c2];exact v1s,λ_ _=> ?_,λhn=> ?_,p2,by rw[c3];exact u2s,by rw[c4];exact v2s,λ_ _=> ?_,λhn=> ?_⟩
 .conv=>lhs;rw[hl,show P++(u1++(u2++(v1++(v2++Q))))=(P++u1)++(u2++(v1++(v2++Q))) by simp]
  rw[dc6 (by simp;omega) (by simp;omega) (by simp;omega)];simp
 .rcases j9 r m with hh|hh
  .have:v1=[]:=B4.1 (by omega);rw[this]at hl⊢;exact hl
  .have:u2=[]:=B4.1 (by omega);rw[this]at hl⊢;exact hl
 .rw[show P++(u1++(v1++(u2++(v2++Q))))=P++((u1++v1)++(u2++(v2++Q))) by simp,cr4 (by omega) (by simp;omega)]
 .rcases j9 a r with hh|hh
  .have:v1=[]:=B4.1 (by omega);rw[this,s8,Aq u1s];rfl
  .have:u1=[]:=B4.1 (by omega);rw[this,show([]:List Val)++v1=v1 from rfl,Aq v1s];rfl
 .rw[hsrt,show P++(srt sec (u1++v1)++(u2++(v2++Q)))=(P++srt sec (u1++v1))++((u2++v2)++Q) by simp,cr4 (by simp;omega) (by simp;omega)];simp
 .rw[hsrt];rcases j9 mid e with hh|hh
  .have:v2=[]:=B4.1 (by omega);rw[this,s8,Aq u2s];rfl
  .have:u2=[]:=B4.1 (by omega);rw[this,show([]:List Val)++v2=v2 from rfl,Aq v2s];rfl
noncomputable def bubA(sec:Bool)(a:Nat):List Val->Nat->Nat×List Val
 |l,0=>(a,l)
 |l,k+1=>if cS sec (cg l (a+k+1)) (cg l (a+k))then bubA sec a (jq l (a+k+1) (a+k)) k else(a+k+1,l)
theorem OM(sec:Bool)(x:Val){P:List Val}{a:Nat}(ha:a=P.length): ∀(s t:List Val),(bubA sec a (P++(s.reverse++x::t)) s.length).2=P++((iK sec x s).reverse++t)
 | [],t=>rfl
 |y::r,t=>by
  have e1:P++((y::r).reverse++x::t)=(P++r.reverse)++y::([]++x::t):=by simp
  have a1:cg ((P++r.reverse)++y::([]++x::t)) (a+r.length)=y:=QR (by grind);have a2:cg ((P++r.reverse)++y::([]++x::t)) (a+r.length+1)=x:=by
   grind[QR]
  rw[e1,List.length_cons];unfold bubA iK;rw[a1,a2];split
  .rw[Rv (by omega),IZ (by grind) (by grind),show(P++r.reverse)++x::([]++y::t)=P++(r.reverse++x::(y::t)) by simp,OM sec x ha r (y::t)];simp
  .simp
theorem cL9{i:Nat}(h1:a<=i)(h2:i<l.length):(bubA sec a (dD sec l a i) (i-a)).2=dD sec l a (i+1):=by
 have hd:l.drop i=cg l i::l.drop (i+1):=by
  rw[O1 h2];unfold cg;rw[j8,l7 h2];rfl
 have hl:(nK sec (cH l a i)).length=i-a:=by
  have:=srt_len sec (cH l a i);unfold srt at this;rw[V5]at this;rw[this,md (by omega)]
 have e:=OM sec (cg l i) (P:=l.take a) (a:=a) (by rw[l5];omega) (nK sec (cH l a i)) (l.drop (i+1));rw[hl]at e;have e2:dD sec l a i=l.take a++((nK sec (cH l a i)).reverse++cg l i::l.drop (i+1)):=by unfold dD srt;rw[hd]
 rw[e2,e];unfold dD srt;rw[<-jV (a:=a) (m:=i) (b:=i+1) h1 (by omega),RW h2,Yu]
theorem ZU(h1:a<=b)(h2:b<=a+1)(hb:b<=l.length):dD sec l a b=l:=by
 conv=>rhs;rw[Ds (l:=l) h1]
 unfold dD;congr 2;refine Aq ?_;have:(cH l a b).length<=1:=by grind[md]
 unfold Sd
 match h:cH l a b,this with
 | [],_=>exact .nil
 | [x],_=>simp
 |x::y::r,hh=>simp at hh
theorem bV2(sec:Bool)(l:List Val):dD sec l 0 l.length=srt sec l:=by
 grind[dD,cH]
theorem srt_cl{q:List Val}(h:Cl sec l q):srt sec l=srt sec q:=Hl (srt_sorted sec q) ((Fz sec q).trans h.symm)
theorem SR(sec:Bool)(h:a<=b):Cl sec (dD sec l a b) l:=by
 have:=(Cl.refl sec (l.take a)).app ((Fz sec (cH l a b)).app (Cl.refl sec (l.drop b)));rwa[<-Ds (l:=l) h]at this
theorem OO(h:a<=b)(hb:b<=l.length):cH (dD sec l a b) a b=srt sec (cH l a b):=by
 grind[dD,List.append_assoc,vL,List.length_take,srt_len,md]
end Go.Ev.S7
namespace Go.Ev.S7
open Go Go.Ev
def isL:Val->Bool
 | .vl _=>true
 |_=>false
theorem isL_at{v:Val}(h:isL v=true):v= .vl v.toL:=by
 cases v<;>first|rfl|cases h
def okK(r:Val):Bool:=match r with
 | .vl [.vs _,.vi _,.vi _,.vi _,.vi _,.vi _,.vi _]=>true
 |_=>false
def ea7(r:Val):Bool:=match r with
 | .vl [.vs _,.vi _,.vi _,.vb _,.vi _,.vi _,.vi _,.vi _]=>true
 |_=>false
theorem okK_at{r:Val}(h:okK r=true):cQ r=r:=by
 unfold okK at h;split at h
 .rfl
 .cases h
def np(l n:Val):Bool:=isL l&&(l.toL.all okK&&(decide (n.toI=(l.toL.length:Int))&&decide (l.toL.length<=400)))
theorem FJ{l n:Val}(h:np l n=true):l= .vl l.toL/\l.toL.all okK=true/\n.toI=(l.toL.length:Int)/\l.toL.length<=400:=by
 obtain⟨h1,h⟩:=Z1 h;obtain⟨h2,h⟩:=Z1 h;obtain⟨h3,h4⟩:=Z1 h;exact⟨isL_at h1,h2,j5 h3,j5 h4⟩
def nt(v:Val):Nat:=v.toI.toNat
def tO:Val->Bool
 | .vi _=>true
 |_=>false
theorem IS{v:Val}(h:tO v=true):v= .vi v.toI:=by cases v<;>first|rfl|cases h
def e42(a:List Val):Prop:=np (ce a 0) (ce a 1)=true/\0<=(ce a 2).toI/\(ce a 2).toI<(ce a 3).toI/\(ce a 3).toI<(ce a 4).toI/\(ce a 4).toI<=(ce a 1).toI/\(ce a 4).toI-(ce a 2).toI<=(ce a 5).toI/\
 tO (ce a 2)=true/\tO (ce a 3)=true/\tO (ce a 4)=true/\Sd false (cH (ce a 0).toL (nt (ce a 2)) (nt (ce a 3)))/\Sd false (cH (ce a 0).toL (nt (ce a 3)) (nt (ce a 4)))
open Classical in
noncomputable def Ig(a:List Val):Bool:=decide (e42 a)
theorem Tq{a:List Val}:Ig a=true↔e42 a:=by grind[Ig]
noncomputable def eC(B:Nat)(l:List Val):Nat->List Val
 |0=>l
 |k+1=>dD false (eC B l k) (B*k) (B*k+B)
noncomputable def pass(bs n:Nat)(l:List Val):List Val:=if 2*bs*(n/(2*bs))+bs<n then dD false (eC (2*bs) l (n/(2*bs))) (2*bs*(n/(2*bs))) n else eC (2*bs) l (n/(2*bs))
noncomputable def oq(n:Nat):Nat->Nat->List Val->Nat×List Val
 |0,bs,l=>(bs,l)
 |f+1,bs,l=>if bs<n then oq n f (2*bs) (pass bs n l)else(bs,l)
noncomputable def GX:Nat->List Val->Val:=λi a=>match i with
 |420=> .vb (np (ce a 0) (ce a 1)&&decide (0<=(ce a 2).toI/\0<=(ce a 4).toI/\(ce a 2).toI+(ce a 4).toI<=(ce a 3).toI/\(ce a 3).toI+(ce a 4).toI<=(ce a 1).toI))
 |421=> .vl (kK (ce a 0).toL (nt (ce a 1)) (nt (ce a 2)) (nt (ce a 3)))
 |422=> .vb (np (ce a 0) (ce a 1)&&decide (0<=(ce a 2).toI/\(ce a 2).toI<(ce a 3).toI/\(ce a 3).toI<(ce a 4).toI/\(ce a 4).toI<=(ce a 1).toI))
 |423=> .vl (yu (ce a 0).toL (nt (ce a 1)) (nt (ce a 2)) (nt (ce a 3)))
 |424=> .vb (np (ce a 0) (ce a 1)&&decide (0<=(ce a 2).toI/\(ce a 2).toI<=(ce a 3).toI/\(ce a 3).toI<=(ce a 1).toI))
 |425=> .vl (dD false (ce a 0).toL (nt (ce a 1)) (nt (ce a 2)))
 |426=> .vb (Ig a)
 |428=> .vb (np (ce a 0) (ce a 1)&&(tO (ce a 2)&&decide ((ce a 2).toI=(ce a 1).toI)))
 |431=> .vb (isL (ce a 0)&&(ce a 0).toL.all okK)
 |433=> .vb (isL (ce a 0)&&(ce a 0).toL.all ea7)
 |452=>cA (0,[.vi (nt (ce a 6)),.vl (kK (ce a 1).toL (nt (ce a 4)) (nt (ce a 5)) (nt (ce a 6)))])
 |458=>cA (0,[.vi (kC (nt (ce a 5)) (nt (ce a 0)+nt (ce a 1)) (nt (ce a 0)) (nt (ce a 1)) (ce a 2).toL).1,.vi (kC (nt (ce a 5)) (nt (ce a 0)+nt (ce a 1)) (nt (ce a 0)) (nt (ce a 1)) (ce a 2).toL).1,.vl (kC (nt (ce a 5)) (nt (ce a 0)+nt (ce a 1)) (nt (ce a 0)) (nt (ce a 1)) (ce a 2).toL).2])
 |460=>cA (0,[.vi (max (nt (ce a 4)+1) (nt (ce a 5)):Nat),.vl (dD false (ce a 1).toL (nt (ce a 4)) (nt (ce a 5)))])
 |461=>cA (0,[.vi (bubA false (nt (ce a 4)) (ce a 1).toL (nt (ce a 0)-nt (ce a 4))).1,.vl (bubA false (nt (ce a 4)) (ce a 1).toL (nt (ce a 0)-nt (ce a 4))).2])
 |462=>let r:=bs (λh=>cS false (cg (ce a 3).toL h) (cg (ce a 3).toL (nt (ce a 4)))) (nt (ce a 1)-nt (ce a 0)) (nt (ce a 0)) (nt (ce a 1));cA (0,[.vi r,.vi r])
 |463=>cA (0,[.vi (nt (ce a 4)-1:Nat),.vl (oB (ce a 1).toL (nt (ce a 0)) (nt (ce a 4)-1-nt (ce a 0)))])
 |464=>let r:=bs (λh=> !cS false (cg (ce a 3).toL (nt (ce a 4))) (cg (ce a 3).toL h)) (nt (ce a 1)-nt (ce a 0)) (nt (ce a 0)) (nt (ce a 1));cA (0,[.vi r,.vi r])
 |465=>cA (0,[ce a 4,.vl (nQ (ce a 1).toL (nt (ce a 0)) (nt (ce a 0)-nt (ce a 4)))])
 |466=>let r:=bs (λc=> !cS false (cg (ce a 3).toL (nt (ce a 9)-c)) (cg (ce a 3).toL c)) (nt (ce a 1)-nt (ce a 0)) (nt (ce a 0)) (nt (ce a 1));cA (0,[.vi r,.vi r])
 |467=>cA (0,[.vi (20*(nt (ce a 5)/20):Nat),.vi (20*(nt (ce a 5)/20)+20:Nat),.vl (eC 20 (ce a 2).toL (nt (ce a 5)/20))])
 |468=>cA (0,[.vi (oq (nt (ce a 4)) 9 20 (ce a 1).toL).1,.vl (oq (nt (ce a 4)) 9 20 (ce a 1).toL).2])
 |469=>cA (0,[.vi (2*nt (ce a 6)*(nt (ce a 5)/(2*nt (ce a 6))):Nat),.vi (2*nt (ce a 6)*(nt (ce a 5)/(2*nt (ce a 6)))+2*nt (ce a 6):Nat),.vl (eC (2*nt (ce a 6)) (ce a 2).toL (nt (ce a 5)/(2*nt (ce a 6))))])
 |490=> .vl (srt false (ce a 0).toL)
 |_=> .vb false
end Go.Ev.S7
