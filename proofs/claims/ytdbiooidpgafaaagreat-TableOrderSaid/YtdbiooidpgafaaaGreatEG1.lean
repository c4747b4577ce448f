import Derived.Test.YtdbiooidpgafaaaGreatEM1
set_option linter.unusedSimpArgs false
set_option linter.unusedVariables false
namespace Go.Ev.S7
open Go Go.Ev
noncomputable def S2(sec:Bool)(a b:Val):Bool:=bR8 a b
theorem ac9(sec:Bool)(a:Val):S2 sec a a=false:=aE4 _
theorem ah0{sec:Bool}{a b:Val}(h:S2 sec a b=true):S2 sec b a=false:=aQ9 h
theorem X2{sec:Bool}{a b c:Val}(h1:S2 sec a b=false)(h2:S2 sec b c=false):S2 sec a c=false:=aE5 h1 h2
noncomputable def aR0(sec:Bool)(x:Val):List Val→List Val
 | []=>[x]
 |y::r=>if S2 sec x y then y::aR0 sec x r else x::y::r
noncomputable def dsc(sec:Bool)(l:List Val):List Val:=l.foldl (fun s x=>aR0 sec x s) []
noncomputable def srt(sec:Bool)(l:List Val):List Val:=(dsc sec l).reverse
theorem cP5(sec:Bool)(l:List Val)(x:Val):dsc sec (l++[x])=aR0 sec x (dsc sec l):=by simp[dsc]
theorem ab4(sec:Bool)(x:Val): ∀s:List Val,(aR0 sec x s).Perm (x::s)
 | []=> .refl _
 |y::r=>by
  unfold aR0
  split
  ·exact((ab4 sec x r).cons y).trans (.swap x y r)
  ·exact .refl _
theorem b70(sec:Bool)(l:List Val): ∀s:List Val,(l.foldl (fun s x=>aR0 sec x s) s).Perm (l++s):=by
 induction l with
 |nil=>intro s;exact .refl _
 |cons x l ih=>
  intro s
  rw[List.foldl_cons]
  exact(ih _).trans (((ab4 sec x s).append_left l).trans List.perm_middle)
theorem srt_perm(sec:Bool)(l:List Val):(srt sec l).Perm l:=by
 have:=b70 sec l []
 rw[x7]at this
 exact(List.reverse_perm _).trans this
theorem srt_len(sec:Bool)(l:List Val):(srt sec l).length=l.length:=(srt_perm sec l).length_eq
theorem ab5(sec:Bool)(x:Val): ∀s:List Val,s.Pairwise (fun a b=>S2 sec a b=false)→(aR0 sec x s).Pairwise (fun a b=>S2 sec a b=false)
 | [],_=>by simp[aR0]
 |y::r,h=>by
  unfold aR0
  rw[y7]at h
  split
  ·rename_i hl
   rw[y7]
   refine⟨fun z hz=> ?_,ab5 sec x r h.2⟩
   rcases k5.1 ((ab4 sec x r).mem_iff.1 hz)with rfl|hz
   ·exact ah0 hl
   ·exact h.1 z hz
  ·rename_i hl
   have hl:S2 sec x y=false:=by simpa using hl
   rw[y7,y7]
   refine⟨fun z hz=> ?_,h⟩
   rcases k5.1 hz with rfl|hz
   ·exact hl
   ·exact X2 hl (h.1 z hz)
theorem aC0(sec:Bool)(l:List Val): ∀s:List Val,s.Pairwise (fun a b=>S2 sec a b=false)→(l.foldl (fun s x=>aR0 sec x s) s).Pairwise (fun a b=>S2 sec a b=false):=by
 induction l with
 |nil=>intro s h;exact h
 |cons x l ih=>intro s h;exact ih _ (ab5 sec x s h)
theorem a29(sec:Bool)(l:List Val):(srt sec l).Pairwise (fun a b=>S2 sec b a=false):=by
 unfold srt
 rw[List.pairwise_reverse]
 exact aC0 sec l [] .nil
noncomputable def eqv(sec:Bool)(x y:Val):Bool:= !S2 sec x y&& !S2 sec y x
def Sd(sec:Bool)(l:List Val):Prop:=l.Pairwise (fun a b=>S2 sec b a=false)
def Cl(sec:Bool)(l q:List Val):Prop:= ∀x,l.filter (eqv sec x)=q.filter (eqv sec x)
theorem bH9(sec:Bool)(x:Val):eqv sec x x=true:=by simp[eqv,ac9]
theorem eqv_iff{sec:Bool}{x y:Val}:eqv sec x y=true↔S2 sec x y=false∧S2 sec y x=false:=by simp[eqv]
theorem cD9{sec:Bool}{x y z:Val}(h:S2 sec y z=true)(h1:eqv sec x y=true):eqv sec x z=false:=by
 rw[←u4]
 intro h2
 obtain⟨a1,a2⟩:=eqv_iff.1 h1
 obtain⟨b1,b2⟩:=eqv_iff.1 h2
 have:=X2 a2 b1
 rw[h]at this;cases this
theorem Cl.refl(sec:Bool)(l:List Val):Cl sec l l:=fun _=>rfl
theorem Cl.symm{sec:Bool}{l q:List Val}(h:Cl sec l q):Cl sec q l:=fun x=>(h x).symm
theorem Cl.trans{sec:Bool}{l q r:List Val}(h:Cl sec l q)(h2:Cl sec q r):Cl sec l r:=fun x=>(h x).trans (h2 x)
theorem Cl.app{sec:Bool}{a b c d:List Val}(h:Cl sec a b)(h2:Cl sec c d):Cl sec (a++c) (b++d):=fun x=>by
 rw[C4,C4,h x,h2 x]
theorem bw0{sec:Bool}{A B:List Val}(h: ∀a∈A,∀b∈B,S2 sec b a=true):Cl sec (A++B) (B++A):=fun x=>by
 rw[C4,C4]
 cases hA:A.filter (eqv sec x)with
 |nil=>simp
 |cons a l=>
  have ha:a∈A.filter (eqv sec x):=by rw[hA];simp
  have hB:B.filter (eqv sec x)=[]:=by
   rw[N8]
   intro b hb hx
   have:=cD9 (h a (n7.1 ha).1 b hb) hx
   rw[(n7.1 ha).2]at this;cases this
  rw[hB];simp
theorem bI0{sec:Bool}{l q:List Val}(h:Cl sec l q){x:Val}(hx:x∈l):x∈q:=by
 have:x∈l.filter (eqv sec x):=n7.2 ⟨hx,bH9 sec x⟩
 rw[h x]at this
 exact(n7.1 this).1
theorem cc0{sec:Bool}: ∀{l q:List Val},Sd sec l→Sd sec q→Cl sec l q→l=q
 | [],[],_,_,_=>rfl
 | [],y::q,_,_,h=>by have:=bI0 h.symm (x:=y) (by simp);cases this
 |x::l,[],_,_,h=>by have:=bI0 h (x:=x) (by simp);cases this
 |x::l,y::q,h1,h2,h=>by
  have g1:=y7.1 h1
  have g2:=y7.1 h2
  have e1:S2 sec x y=false:=by
   rcases k5.1 (bI0 h (x:=x) (by simp))with e|e
   ·rw[e];exact ac9 sec y
   ·exact g2.1 x e
  have e2:S2 sec y x=false:=by
   rcases k5.1 (bI0 h.symm (x:=y) (by simp))with e|e
   ·rw[e];exact ac9 sec x
   ·exact g1.1 y e
  have hx:=h x
  rw[s8,if_pos (bH9 sec x),s8,if_pos (eqv_iff.2 ⟨e1,e2⟩)]at hx
  injection hx with hxy _
  subst hxy
  congr 1
  refine cc0 g1.2 g2.2 fun z=> ?_
  have hz:=h z
  rw[s8,s8]at hz
  split at hz
  ·injection hz
  ·exact hz
theorem cc1{sec:Bool}(x z:Val): ∀s:List Val,(aR0 sec x s).filter (eqv sec z)=(x::s).filter (eqv sec z)
 | []=>rfl
 |y::r=>by
  unfold aR0
  split
  ·rename_i hl
   rw[s8,cc1 x z r,s8,s8,s8]
   cases h1:eqv sec z x with
   |false=>simp
   |true=>rw[cD9 hl h1];simp
  ·rfl
theorem cE0{sec:Bool}(z:Val): ∀(l s:List Val),(l.foldl (fun s x=>aR0 sec x s) s).filter (eqv sec z)=(l.reverse++s).filter (eqv sec z)
 | [],s=>rfl
 |x::l,s=>by
  rw[List.foldl_cons,cE0 z l,C4,cc1,←C4]
  simp
theorem bl4(sec:Bool)(l:List Val):Cl sec (srt sec l) l:=fun z=>by
 unfold srt
 rw[List.filter_reverse]
 have:=cE0 (sec:=sec) z l []
 unfold dsc
 rw[this,x7,List.filter_reverse,List.reverse_reverse]
theorem bl5{sec:Bool}{l q:List Val}(hs:Sd sec q)(hc:Cl sec q l):srt sec l=q:=cc0 (a29 sec l) hs ((bl4 sec l).trans hc.symm)
theorem aR6{sec:Bool}{l:List Val}(hs:Sd sec l):srt sec l=l:=bl5 hs (Cl.refl sec l)
theorem cc2{sec:Bool}{l:List Val}{x:Val}:x∈srt sec l↔x∈l:=(srt_perm sec l).mem_iff
def seg(l:List Val)(a b:Nat):List Val:=(l.take b).drop a
theorem a09{l:List Val}{a b:Nat}(h:b≤l.length):(seg l a b).length=b-a:=by
 unfold seg;rw[List.length_drop,List.length_take];omega
theorem Y8{l:List Val}{a m b:Nat}(h1:a≤m)(h2:m≤b):seg l a m++seg l m b=seg l a b:=by
 unfold seg
 have e:l.take m=(l.take b).take m:=by rw[List.take_take,x9 h2]
 rw[e]
 generalize l.take b=q
 have:q.drop m=(q.drop a).drop (m-a):=by rw[I5,show a+(m-a)=m by omega]
 rw[I4,this,t8]
theorem cc3{l:List Val}{a b:Nat}(h1:a≤b):l=l.take a++seg l a b++l.drop b:=by
 have e:l.take a=seg l 0 a:=by simp[seg]
 rw[e,Y8 (l6 a) h1]
 simp[seg]
theorem aE9{P U Q:List Val}{a b:Nat}(ha:a=P.length)(hb:b=P.length+U.length):seg (P++U++Q) a b=U:=by
 subst ha;subst hb
 unfold seg
 rw[J9 (by simp),K0 rfl]
theorem b75{P Q:List Val}{x:Val}{k:Nat}(h:k=P.length):atV (P++x::Q) k=x:=by
 subst h
 unfold atV
 rw[i6,k8 (e8 _),E4];rfl
theorem cc4{P Q:List Val}{x y:Val}{k:Nat}(h:k=P.length):(P++x::Q).set k y=P++y::Q:=by
 subst h
 rw[List.set_append,if_neg (K6 _),E4];rfl
theorem cc5{l:List Val}{a b k:Nat}(h1:b≤l.length)(h2:a+k<b):atV (seg l a b) k=atV l (a+k):=by
 unfold seg atV
 rw[i6,i6,r9,p9,if_pos h2]
theorem aR7{l:List Val}{k:Nat}(h:k<l.length):atV l k∈l:=by
 unfold atV
 rw[i6,j8 h]
 exact A7 h
theorem cP6{l:List Val}{x:Val}(h:x∈l): ∃k,k<l.length∧x=atV l k:=by
 obtain⟨k,hk,rfl⟩:=O1 h
 refine⟨k,hk,?_⟩
 unfold atV
 rw[i6,j8 hk];rfl
theorem ak3{l:List Val}{a b:Nat}{x:Val}(hb:b≤l.length)(h:x∈seg l a b): ∃k,a≤k∧k<b∧x=atV l k:=by
 obtain⟨k,hk,e⟩:=cP6 h
 rw[a09 hb]at hk
 exact⟨a+k,by omega,by omega,e.trans (cc5 hb (by omega))⟩
def swp(l:List Val)(i j:Nat):List Val:=(l.set i (atV l j)).set j (atV l i)
theorem b76(l:List Val)(i j:Nat):(swp l i j).length=l.length:=by simp[swp]
theorem bI1{P M Q:List Val}{x y:Val}{i j:Nat}(hi:i=P.length)(hj:j=P.length+1+M.length):swp (P++x::(M++y::Q)) i j=P++y::(M++x::Q):=by
 have e1:P++x::(M++y::Q)=(P++x::M)++y::Q:=by simp
 have a1:atV (P++x::(M++y::Q)) j=y:=by rw[e1];exact b75 (by rw[hj];simp;omega)
 unfold swp
 rw[a1,b75 hi,cc4 hi,show P++y::(M++y::Q)=(P++y::M)++y::Q by simp,cc4 (by rw[hj];simp;omega)]
 simp
theorem bI2{l:List Val}{i j:Nat}(h:i≠j):swp l i j=swp l j i:=by
 unfold swp;exact List.set_comm _ _ h
def swN(l:List Val)(a b:Nat):Nat→List Val
 |0=>l
 |n+1=>swp (swN l a b n) (a+n) (b+n)
theorem ak4(l:List Val)(a b:Nat): ∀n,(swN l a b n).length=l.length
 |0=>rfl
 |n+1=>by rw[swN,b76,ak4 l a b n]
theorem bw1{l:List Val}{n:Nat}(h:l.length=n+1): ∃q x,l=q++[x]∧q.length=n:=by
 rcases List.eq_nil_or_concat l with e|⟨q,x,e⟩
 ·rw[e]at h;cases h
 ·refine⟨q,x,by rw[e,List.concat_eq_append],?_⟩
  rw[e]at h;simpa using h
theorem bI3: ∀(n:Nat) {P A X B Q:List Val} {a b:Nat},A.length=n→B.length=n→a=P.length→b=P.length+n+X.length→swN (P++(A++(X++(B++Q)))) a b n=P++(B++(X++(A++Q)))
 |0,P,A,X,B,Q,a,b,hA,hB,_,_=>by
  rw[y6.1 hA,y6.1 hB];rfl
 |n+1,P,A,X,B,Q,a,b,hA,hB,ha,hb=>by
  obtain⟨A',x,rfl,h1⟩:=bw1 hA
  obtain⟨B',y,rfl,h2⟩:=bw1 hB
  have ih:=bI3 n (P:=P) (A:=A') (X:=x::X) (B:=B') (Q:=y::Q) (a:=a) (b:=b) h1 h2 ha (by simp;omega)
  have e:P++((A'++[x])++(X++((B'++[y])++Q)))=P++(A'++(x::X++(B'++y::Q))):=by simp
  rw[e,swN,ih,show P++(B'++(x::X++(A'++y::Q)))=(P++B')++x::((X++A')++y::Q) by simp,bI1 (by simp;omega) (by simp;omega)]
  simp
def cP7(l:List Val)(a m b:Nat):List Val:=l.take a++(seg l m b++(seg l a m++l.drop b))
theorem dr6{l:List Val}{a m b:Nat}(h1:a≤m)(h2:m≤b):l=l.take a++(seg l a m++(seg l m b++l.drop b)):=by
 conv=>lhs;rw[cc3 (l:=l) (p7 h1 h2),←Y8 h1 h2]
 simp
theorem cV8{l:List Val}{a b:Nat}(h1:a≤b):l=l.take a++(seg l a b++l.drop b):=by
 conv=>lhs;rw[cc3 (l:=l) h1]
 simp
theorem cP8{P U V Q:List Val}{a m b:Nat}(ha:a=P.length)(hm:m=P.length+U.length)(hb:b=P.length+U.length+V.length):cP7 (P++(U++(V++Q))) a m b=P++(V++(U++Q)):=by
 have e1:seg (P++(U++(V++Q))) a m=U:=by
  rw[show P++(U++(V++Q))=P++U++(V++Q) by simp];exact aE9 ha hm
 have e2:seg (P++(U++(V++Q))) m b=V:=by
  rw[show P++(U++(V++Q))=(P++U)++V++Q by simp];exact aE9 (by simp;omega) (by simp;omega)
 unfold cP7
 rw[e1,e2,J9 ha.symm,show P++(U++(V++Q))=(P++(U++V))++Q by simp,K0 (by simp;omega)]
def bb2(m:Nat):Nat→Nat→Nat→List Val→Nat×List Val
 |0,i,_,l=>(i,l)
 |n+1,i,j,l=>if i=j then(i,l)else if j<i then bb2 m n (i-j) j (swN l (m-i) m j)else bb2 m n i (j-i) (swN l (m-i) (m+j-i) i)
theorem aR8(m:Nat): ∀(n i j:Nat) (P U V Q:List Val),i+j≤n+1→0<i→0<j→U.length=i→V.length=j→m=P.length+i→
 let r:=bb2 m n i j (P++(U++(V++Q)))
 0<r.1∧r.1≤i∧r.1≤j∧r.2.length=(P++(U++(V++Q))).length∧swN r.2 (m-r.1) m r.1=P++(V++(U++Q))
 |0,i,j,P,U,V,Q,hn,hi,hj,hU,hV,hm=>by omega
 |n+1,i,j,P,U,V,Q,hn,hi,hj,hU,hV,hm=>by
  unfold bb2
  by_cases h1:i=j
  ·rw[if_pos h1]
   refine⟨hi,e8 _,by simp;omega,rfl,?_⟩
   have:=bI3 i (P:=P) (A:=U) (X:=[]) (B:=V) (Q:=Q) (a:=m-i) (b:=m) hU (by omega) (by omega) (by simp;omega)
   simpa using this
  ·rw[if_neg h1]
   by_cases h2:j<i
   ·rw[if_pos h2]
    obtain⟨U1,U2,rfl,hU1⟩: ∃U1 U2,U=U1++U2∧U1.length=j:=⟨U.take j,U.drop j,(t8 j U).symm,by rw[j0];omega⟩
    have hU2:U2.length=i-j:=by rw[j9]at hU;omega
    have e:=bI3 j (P:=P) (A:=U1) (X:=U2) (B:=V) (Q:=Q) (a:=m-i) (b:=m) hU1 hV (by omega) (by omega)
    rw[show P++((U1++U2)++(V++Q))=P++(U1++(U2++(V++Q))) by simp,e]
    have ih:=aR8 m n (i-j) j (P++V) U2 U1 Q (by omega) (by omega) hj hU2 hU1 (by simp;omega)
    rw[show(P++V)++(U2++(U1++Q))=P++(V++(U2++(U1++Q))) by simp]at ih
    obtain⟨g1,g2,g3,g4,g5⟩:=ih
    exact⟨g1,by omega,g3,g4.trans (by simp;omega),g5.trans (by simp)⟩
   ·rw[if_neg h2]
    obtain⟨V1,V2,rfl,hV1⟩: ∃V1 V2,V=V1++V2∧V1.length=j-i:=⟨V.take (j-i),V.drop (j-i),(t8 (j-i) V).symm,by rw[j0];omega⟩
    have hV2:V2.length=i:=by rw[j9]at hV;omega
    have e:=bI3 i (P:=P) (A:=U) (X:=V1) (B:=V2) (Q:=Q) (a:=m-i) (b:=m+j-i) hU hV2 (by omega) (by omega)
    rw[show P++(U++((V1++V2)++Q))=P++(U++(V1++(V2++Q))) by simp,e]
    have ih:=aR8 m n i (j-i) P V2 V1 (U++Q) (by omega) hi (by omega) hV2 hV1 hm
    obtain⟨g1,g2,g3,g4,g5⟩:=ih
    exact⟨g1,g2,by omega,g4.trans (by simp;omega),g5.trans (by simp)⟩
def mvU(l:List Val)(a:Nat):Nat→List Val
 |0=>l
 |n+1=>swp (mvU l a n) (a+n) (a+n+1)
theorem b77(l:List Val)(a:Nat): ∀n,(mvU l a n).length=l.length
 |0=>rfl
 |n+1=>by rw[mvU,b76,b77 l a n]
theorem cE1: ∀(n:Nat) {P Y Q:List Val} {x:Val} {a:Nat},Y.length=n→a=P.length→mvU (P++x::(Y++Q)) a n=P++(Y++x::Q)
 |0,P,Y,Q,x,a,hY,_=>by rw[y6.1 hY];rfl
 |n+1,P,Y,Q,x,a,hY,ha=>by
  obtain⟨Y',y,rfl,h1⟩:=bw1 hY
  have ih:=cE1 n (P:=P) (Y:=Y') (Q:=y::Q) (x:=x) (a:=a) h1 ha
  rw[show P++x::((Y'++[y])++Q)=P++x::(Y'++y::Q) by simp,mvU,ih,show P++(Y'++x::y::Q)=(P++Y')++x::([]++y::Q) by simp,bI1 (by simp;omega) (by simp;omega)]
  simp
def mvD(l:List Val)(m:Nat):Nat→List Val
 |0=>l
 |n+1=>swp (mvD l m n) (m-n-1) (m-n)
theorem b78(l:List Val)(m:Nat): ∀n,(mvD l m n).length=l.length
 |0=>rfl
 |n+1=>by rw[mvD,b76,b78 l m n]
theorem cE2: ∀(n:Nat) {P Y Q:List Val} {x:Val} {m:Nat},Y.length=n→m=P.length+n→mvD (P++(Y++x::Q)) m n=P++x::(Y++Q)
 |0,P,Y,Q,x,m,hY,_=>by rw[y6.1 hY];rfl
 |n+1,P,Y,Q,x,m,hY,hm=>by
  cases Y with
  |nil=>cases hY
  |cons y Y'=>
   have ih:=cE2 n (P:=P++[y]) (Y:=Y') (Q:=Q) (x:=x) (m:=m) (by simpa using hY) (by simp;omega)
   rw[show P++(y::Y'++x::Q)=(P++[y])++(Y'++x::Q) by simp,mvD,ih,show(P++[y])++x::(Y'++Q)=P++y::([]++x::(Y'++Q)) by simp,bI1 (by omega) (by simp;omega)]
   simp
def bs(T:Nat→Bool):Nat→Nat→Nat→Nat
 |0,i,_=>i
 |n+1,i,j=>if i<j then(if T ((i+j)/2)then bs T n ((i+j)/2+1) j else bs T n i ((i+j)/2))else i
theorem aR9{T:Nat→Bool}{lo hi:Nat}(mono: ∀c d,lo≤c→c≤d→d<hi→T d=true→T c=true): ∀n i j,lo≤i→i≤j→j≤hi→j-i≤n→(∀c,lo≤c→c<i→T c=true)→(∀c,j≤c→c<hi→T c=false)→
 i≤bs T n i j∧bs T n i j≤j∧(∀c,lo≤c→c<bs T n i j→T c=true)∧ ∀c,bs T n i j≤c→c<hi→T c=false
 |0,i,j,h1,h2,h3,h4,h5,h6=>by
  have:i=j:=by omega
  subst this
  exact⟨e8 _,e8 _,h5,h6⟩
 |n+1,i,j,h1,h2,h3,h4,h5,h6=>by
  unfold bs
  by_cases hij:i<j
  ·rw[if_pos hij]
   by_cases hT:T ((i+j)/2)=true
   ·rw[if_pos hT]
    obtain⟨a,b,c⟩:=aR9 mono n ((i+j)/2+1) j (by omega) (by omega) h3 (by omega) (fun c hc1 hc2=>mono c ((i+j)/2) hc1 (by omega) (by omega) hT) h6
    exact⟨by omega,b,c⟩
   ·rw[if_neg hT]
    obtain⟨a,b,c⟩:=aR9 mono n i ((i+j)/2) h1 (by omega) (by omega) (by omega) h5 (fun c hc1 hc2=>by
      rw[←u4]
      exact fun hc=>hT (mono _ c (by omega) hc1 hc2 hc))
    exact⟨a,by omega,c⟩
  ·rw[if_neg hij]
   have:i=j:=by omega
   subst this
   exact⟨e8 _,e8 _,h5,h6⟩
theorem bw2{step:List Val→Option (Nat×List Val)}{T:Nat→Bool}{lo hi:Nat}(h1: ∀i j:Nat,lo≤i→i<j→j≤hi→step [.vi i,.vi j]=some (0,if T ((i+j)/2)then [.vi ((i+j)/2+1:Nat),.vi j]else [.vi i,.vi ((i+j)/2:Nat)]))(h2: ∀i:Nat,step [.vi i,.vi i]=some (1,[.vi i,.vi i])):
 ∀(n i j:Nat),lo≤i→i≤j→j≤hi→j-i≤n→Iter step [.vi i,.vi j] 0 [.vi (bs T n i j),.vi (bs T n i j)]
 |0,i,j,a,b,c,d=>by
  have:i=j:=by omega
  subst this
  exact .out (h2 i)
 |n+1,i,j,a,b,c,d=>by
  unfold bs
  by_cases hij:i<j
  ·rw[if_pos hij]
   have e:=h1 i j a hij c
   by_cases hT:T ((i+j)/2)=true
   ·rw[if_pos hT]at e⊢
    exact .more e (bw2 h1 h2 n ((i+j)/2+1) j (by omega) (by omega) c (by omega))
   ·rw[if_neg hT]at e⊢
    exact .more e (bw2 h1 h2 n i ((i+j)/2) a (by omega) (by omega) (by omega))
  ·rw[if_neg hij]
   have:i=j:=by omega
   subst this
   exact .out (h2 i)
end Go.Ev.S7
namespace Go.Ev.S7
open Go Go.Ev
noncomputable def a13(sec:Bool)(l:List Val)(a b:Nat):List Val:=l.take a++(srt sec (seg l a b)++l.drop b)
theorem ak5(sec:Bool){l:List Val}{a b:Nat}(h:a≤b):(a13 sec l a b).Perm l:=by
 conv=>rhs;rw[cV8 (l:=l) h]
 exact((srt_perm sec _).append_right _).append_left _
theorem bI4(sec:Bool){l:List Val}{a b:Nat}(h:a≤b):(a13 sec l a b).length=l.length:=(ak5 sec h).length_eq
theorem cc6{sec:Bool}{P U Q:List Val}{a b:Nat}(ha:a=P.length)(hb:b=P.length+U.length):a13 sec (P++(U++Q)) a b=P++(srt sec U++Q):=by
 have e1:seg (P++(U++Q)) a b=U:=by
  rw[show P++(U++Q)=P++U++Q by simp];exact aE9 ha hb
 unfold a13
 rw[e1,J9 ha.symm,show P++(U++Q)=(P++U)++Q by simp,K0 (by simp;omega)]
theorem ax8{sec:Bool}{A B:List Val}:Sd sec (A++B)↔Sd sec A∧Sd sec B∧ ∀a∈A,∀b∈B,S2 sec b a=false:=List.pairwise_append
theorem bl6{sec:Bool}{l:List Val}{a b i j:Nat}(h:Sd sec (seg l a b))(hb:b≤l.length)(h1:a≤i)(h2:i≤j)(h3:j<b):S2 sec (atV l j) (atV l i)=false:=by
 rcases i4 i j with hij|hij
 ·unfold Sd at h
  rw[K5]at h
  have hl:=a09 (l:=l) (a:=a) hb
  have:=h (i-a) (j-a) (by omega) (by omega) (by omega)
  have e: ∀k (hk:k<(seg l a b).length),(seg l a b)[k]=atV l (a+k):=fun k hk=>by
   rw[←cc5 hb (by omega)]
   unfold atV
   rw[i6,j8 hk];rfl
  rw[e,e,show a+(i-a)=i by omega,show a+(j-a)=j by omega]at this
  exact this
 ·have:i=j:=by omega
  subst this
  exact ac9 sec _
theorem bI5{sec:Bool}{l:List Val}{a b c d:Nat}(h:Sd sec (seg l a b))(h1:a≤c)(h2:c≤d)(h3:d≤b):Sd sec (seg l c d):=by
 rw[←Y8 h1 (p7 h2 h3),←Y8 h2 h3]at h
 exact(ax8.1 (ax8.1 h).2.1).1
theorem bw3{l:List Val}{a:Nat}(h:a<l.length):seg l a (a+1)=[atV l a]:=by
 unfold seg
 rw[List.take_add_one,M7,J7 (by rw[j0];omega)]
 unfold atV
 rw[j0,show a-min a l.length=0 by omega,i6,j8 h];rfl
theorem bw4{l:List Val}{a b:Nat}(h:b≤a):seg l a b=[]:=by
 unfold seg
 exact J7 (by rw[j0];omega)
theorem dj3{sec:Bool}{a b c:Val}(h1:S2 sec a b=true)(h2:S2 sec c b=false):S2 sec a c=true:=by
 cases h:S2 sec a c with
 |true=>rfl
 |false=>have:=X2 h h2;rw[h1]at this;cases this
theorem d65{sec:Bool}{a b c:Val}(h1:S2 sec b a=false)(h2:S2 sec b c=true):S2 sec a c=true:=by
 cases h:S2 sec a c with
 |true=>rfl
 |false=>have:=X2 h1 h;rw[h2]at this;cases this
theorem cP9{sec:Bool}{l:List Val}{a b:Nat}(h1:a+1<b)(hb:b≤l.length)(hs:Sd sec (seg l (a+1) b)):
 a+1≤bs (fun h=>S2 sec (atV l h) (atV l a)) (b-(a+1)) (a+1) b∧bs (fun h=>S2 sec (atV l h) (atV l a)) (b-(a+1)) (a+1) b≤b∧
  mvU l a (bs (fun h=>S2 sec (atV l h) (atV l a)) (b-(a+1)) (a+1) b-1-a)=a13 sec l a b:=by
 have sp:=aR9 (T:=fun h=>S2 sec (atV l h) (atV l a)) (lo:=a+1) (hi:=b) (fun c d hc hcd hd hT=>d65 (bl6 hs hb hc hcd hd) hT) (b-(a+1)) (a+1) b (e8 _) (by omega) (e8 _) (e8 _) (fun c _ _=>by omega) (fun c _ _=>by omega)
 generalize bs (fun h=>S2 sec (atV l h) (atV l a)) (b-(a+1)) (a+1) b=r at sp⊢
 obtain⟨r1,r2,r3,r4⟩:=sp
 refine⟨r1,r2,?_⟩
 have e1:seg l a b=atV l a::(seg l (a+1) r++seg l r b):=by
  rw[Y8 r1 r2,←Y8 (a:=a) (m:=a+1) (b:=b) (by omega) (by omega),bw3 (by omega)];rfl
 have e2:l=l.take a++atV l a::(seg l (a+1) r++(seg l r b++l.drop b)):=by
  conv=>lhs;rw[cV8 (l:=l) (a:=a) (b:=b) (by omega),e1]
  simp
 have hA: ∀x∈seg l (a+1) r,S2 sec x (atV l a)=true:=fun x hx=>by
  obtain⟨k,k1,k2,rfl⟩:=ak3 (by omega) hx
  exact r3 k k1 k2
 have hB: ∀x∈seg l r b,S2 sec x (atV l a)=false:=fun x hx=>by
  obtain⟨k,k1,k2,rfl⟩:=ak3 hb hx
  exact r4 k k1 k2
 have hAB:=ax8.1 (show Sd sec (seg l (a+1) r++seg l r b) by rw[Y8 r1 r2];exact hs)
 have e3:srt sec (seg l a b)=seg l (a+1) r++atV l a::seg l r b:=by
  refine bl5 (ax8.2 ⟨hAB.1,y7.2 ⟨hB,hAB.2.1⟩,fun x hx y hy=> ?_⟩) ?_
  ·rcases k5.1 hy with rfl|hy
   ·exact ah0 (hA x hx)
   ·exact hAB.2.2 x hx y hy
  ·rw[e1]
   have:=(bw0 (sec:=sec) (A:=[atV l a]) (B:=seg l (a+1) r) (fun x hx y hy=>by rw[o7.1 hx];exact hA y hy)).symm.app (Cl.refl sec (seg l r b))
   simpa using this
 have e4:=cE1 (r-1-a) (P:=l.take a) (Y:=seg l (a+1) r) (Q:=seg l r b++l.drop b) (x:=atV l a) (a:=a) (by rw[a09 (by omega)];omega) (by rw[j0];omega)
 rw[←e2]at e4
 rw[e4]
 unfold a13
 rw[e3]
 simp
theorem cQ0{sec:Bool}{l:List Val}{a m:Nat}(h1:a<m)(hb:m+1≤l.length)(hs:Sd sec (seg l a m)):
 a≤bs (fun h=> !S2 sec (atV l m) (atV l h)) (m-a) a m∧bs (fun h=> !S2 sec (atV l m) (atV l h)) (m-a) a m≤m∧
  mvD l m (m-bs (fun h=> !S2 sec (atV l m) (atV l h)) (m-a) a m)=a13 sec l a (m+1):=by
 have sp:=aR9 (T:=fun h=> !S2 sec (atV l m) (atV l h)) (lo:=a) (hi:=m) (fun c d hc hcd hd hT=>by
  simp only[x5]at hT⊢
  exact X2 hT (bl6 hs (by omega) hc hcd hd)) (m-a) a m (e8 _) (by omega) (e8 _) (e8 _) (fun c _ _=>by omega) (fun c _ _=>by omega)
 generalize bs (fun h=> !S2 sec (atV l m) (atV l h)) (m-a) a m=r at sp⊢
 obtain⟨r1,r2,r3,r4⟩:=sp
 refine⟨r1,r2,?_⟩
 have e1:seg l a (m+1)=seg l a r++(seg l r m++[atV l m]):=by
  rw[←v8,Y8 r1 r2,←Y8 (a:=a) (m:=m) (b:=m+1) (by omega) (by omega),bw3 (by omega)]
 have e2:l=(l.take a++seg l a r)++(seg l r m++atV l m::l.drop (m+1)):=by
  conv=>lhs;rw[cV8 (l:=l) (a:=a) (b:=m+1) (by omega),e1]
  simp
 have hA: ∀x∈seg l a r,S2 sec (atV l m) x=false:=fun x hx=>by
  obtain⟨k,k1,k2,rfl⟩:=ak3 (by omega) hx
  simpa using r3 k k1 k2
 have hB: ∀x∈seg l r m,S2 sec (atV l m) x=true:=fun x hx=>by
  obtain⟨k,k1,k2,rfl⟩:=ak3 (by omega) hx
  simpa using r4 k k1 k2
 have hAB:=ax8.1 (show Sd sec (seg l a r++seg l r m) by rw[Y8 r1 r2];exact hs)
 have e3:srt sec (seg l a (m+1))=seg l a r++atV l m::seg l r m:=by
  refine bl5 (ax8.2 ⟨hAB.1,y7.2 ⟨fun y hy=>ah0 (hB y hy),hAB.2.1⟩,fun x hx y hy=> ?_⟩) ?_
  ·rcases k5.1 hy with rfl|hy
   ·exact hA x hx
   ·exact hAB.2.2 x hx y hy
  ·rw[e1]
   have:=(Cl.refl sec (seg l a r)).app (bw0 (sec:=sec) (A:=seg l r m) (B:=[atV l m]) (fun x hx y hy=>by rw[o7.1 hy];exact hB x hx)).symm
   simpa using this
 have e4:=cE2 (m-r) (P:=l.take a++seg l a r) (Y:=seg l r m) (Q:=l.drop (m+1)) (x:=atV l m) (m:=m) (by rw[a09 (by omega)]) (by rw[j9,j0,a09 (by omega)];omega)
 rw[←e2]at e4
 rw[e4]
 unfold a13
 rw[e3]
 simp
theorem cQ1{sec:Bool}{l:List Val}{a m b mid lo hi r:Nat}(h1:a<m)(h2:m<b)(hb:b≤l.length)(hs1:Sd sec (seg l a m))(hs2:Sd sec (seg l m b))(hmid:mid=(a+b)/2)
 (hlh:mid<m∧lo=mid+m-b∧hi=mid∨m≤mid∧lo=a∧hi=m) (hr:r=bs (fun c=> !S2 sec (atV l (mid+m-1-c)) (atV l c)) (hi-lo) lo hi):
 a≤r∧r≤m∧r≤mid∧mid+m-r≤b∧ ∃l1 l2,(r<m→m<mid+m-r→cP7 l r m (mid+m-r)=l1)∧(¬(r<m∧m<mid+m-r)→l=l1)∧l1.Perm l∧Sd sec (seg l1 a r)∧Sd sec (seg l1 r mid)∧
  (a<r→r<mid→a13 sec l1 a mid=l2)∧(¬(a<r∧r<mid)→l1=l2)∧l2.Perm l∧Sd sec (seg l2 mid (mid+m-r))∧Sd sec (seg l2 (mid+m-r) b)∧
  (mid<mid+m-r→mid+m-r<b→a13 sec l2 mid b=a13 sec l a b)∧(¬(mid<mid+m-r∧mid+m-r<b)→l2=a13 sec l a b):=by
 have hm1:a<mid:=by omega
 have hm2:mid<b:=by omega
 have hlo:a≤lo:=by omega
 have hhi:hi≤m:=by omega
 have hhm:hi≤mid:=by omega
 have hle:lo≤hi:=by omega
 have hlb:mid+m-b≤lo:=by omega
 have sp:=aR9 (T:=fun c=> !S2 sec (atV l (mid+m-1-c)) (atV l c)) (lo:=lo) (hi:=hi) (fun c d hc hcd hd hT=>by
  simp only[x5]at hT⊢
  have g1:=bl6 hs1 (by omega) (show a≤c by omega) hcd (by omega)
  have g2:=bl6 hs2 hb (show m≤mid+m-1-d by omega) (show mid+m-1-d≤mid+m-1-c by omega) (by omega)
  exact X2 g2 (X2 hT g1)) (hi-lo) lo hi (e8 _) hle (e8 _) (e8 _) (fun c _ _=>by omega) (fun c _ _=>by omega)
 rw[←hr]at sp
 obtain⟨r1,r2,r3,r4⟩:=sp
 have q1:a≤r:=by omega
 have q2:r≤m:=by omega
 have q3:r≤mid:=by omega
 have q4:mid+m-r≤b:=by omega
 refine⟨q1,q2,q3,q4,?_⟩
 obtain⟨e,he⟩: ∃e,e=mid+m-r:=⟨_,rfl⟩
 rw[←he]at q4⊢
 have q5:m≤e:=by omega
 have F1: ∀x∈seg l r m,∀y∈seg l m e,S2 sec y x=true:=fun x hx y hy=>by
  obtain⟨i,i1,i2,rfl⟩:=ak3 (by omega) hx
  obtain⟨j,j1,j2,rfl⟩:=ak3 (by omega) hy
  have hT:=r4 r (e8 _) (by omega)
  simp only[Bool.not_eq_false']at hT
  rw[show mid+m-1-r=e-1 by omega]at hT
  have g1:=bl6 hs2 hb j1 (show j≤e-1 by omega) (by omega)
  have g2:=bl6 hs1 (by omega) q1 i1 i2
  exact dj3 (d65 g1 hT) g2
 have F2: ∀x∈seg l a r,∀y∈seg l e b,S2 sec y x=false:=fun x hx y hy=>by
  obtain⟨i,i1,i2,rfl⟩:=ak3 (by omega) hx
  obtain⟨j,j1,j2,rfl⟩:=ak3 (by omega) hy
  have hT:=r3 (r-1) (by omega) (by omega)
  simp only[x5]at hT
  rw[show mid+m-1-(r-1)=e by omega]at hT
  have g1:=bl6 hs2 hb (show m≤e by omega) j1 j2
  have g2:=bl6 hs1 (by omega) i1 (show i≤r-1 by omega) (by omega)
  exact X2 g1 (X2 hT g2)
 have u1s:=bI5 hs1 (e8 a) q1 q2
 have u2s:=bI5 hs1 q1 q2 (e8 m)
 have v1s:=bI5 hs2 (e8 m) q5 q4
 have v2s:=bI5 hs2 q5 q4 (e8 b)
 have F3:=(ax8.1 (show Sd sec (seg l a r++seg l r m) by rw[Y8 q1 q2];exact hs1)).2.2
 have F4:=(ax8.1 (show Sd sec (seg l m e++seg l e b) by rw[Y8 q5 q4];exact hs2)).2.2
 have lP:(l.take a).length=a:=by rw[j0];omega
 have l1:=a09 (l:=l) (a:=a) (b:=r) (by omega)
 have l2:=a09 (l:=l) (a:=r) (b:=m) (by omega)
 have l3:=a09 (l:=l) (a:=m) (b:=e) (by omega)
 have l4:=a09 (l:=l) (a:=e) (b:=b) (by omega)
 have hl:l=l.take a++(seg l a r++(seg l r m++(seg l m e++(seg l e b++l.drop b)))):=by
  conv=>lhs;rw[cV8 (l:=l) (a:=a) (b:=b) (by omega),←Y8 (a:=a) (m:=m) (b:=b) (by omega) (by omega),←Y8 q1 q2,←Y8 q5 q4]
  simp
 have hsrt:a13 sec l a b=l.take a++(srt sec (seg l a r++seg l m e)++(srt sec (seg l r m++seg l e b)++l.drop b)):=by
  unfold a13
  rw[←v8 (srt sec (seg l a r++seg l m e))]
  congr 2
  refine bl5 (ax8.2 ⟨a29 sec _,a29 sec _,fun x hx y hy=> ?_⟩) ?_
  ·rcases q9.1 (cc2.1 hx)with hx|hx<;>rcases q9.1 (cc2.1 hy)with hy|hy
   ·exact F3 x hx y hy
   ·exact F2 x hx y hy
   ·exact ah0 (F1 y hy x hx)
   ·exact F4 x hx y hy
  ·refine((bl4 sec _).app (bl4 sec _)).trans ?_
   have:seg l a b=seg l a r++((seg l r m++seg l m e)++seg l e b):=by
    rw[←Y8 (a:=a) (m:=m) (b:=b) (by omega) (by omega),←Y8 q1 q2,←Y8 q5 q4];simp
   rw[this]
   have:=(Cl.refl sec (seg l a r)).app ((bw0 F1).symm.app (Cl.refl sec (seg l e b)))
   simpa using this
 generalize hP:l.take a=P at hl hsrt lP
 generalize hu1:seg l a r=u1 at*
 generalize hu2:seg l r m=u2 at*
 generalize hv1:seg l m e=v1 at*
 generalize hv2:seg l e b=v2 at*
 generalize hQ:l.drop b=Q at hl hsrt
 have c1:seg (P++(u1++(v1++(u2++(v2++Q))))) a r=u1:=by
  rw[show P++(u1++(v1++(u2++(v2++Q))))=P++u1++(v1++(u2++(v2++Q))) by simp];exact aE9 (by omega) (by omega)
 have c2:seg (P++(u1++(v1++(u2++(v2++Q))))) r mid=v1:=by
  rw[show P++(u1++(v1++(u2++(v2++Q))))=(P++u1)++v1++(u2++(v2++Q)) by simp];exact aE9 (by simp;omega) (by simp;omega)
 have ls1:=srt_len sec (u1++v1)
 rw[j9]at ls1
 have c3:seg (P++(srt sec (u1++v1)++(u2++(v2++Q)))) mid e=u2:=by
  rw[show P++(srt sec (u1++v1)++(u2++(v2++Q)))=(P++srt sec (u1++v1))++u2++(v2++Q) by simp];exact aE9 (by simp;omega) (by simp;omega)
 have c4:seg (P++(srt sec (u1++v1)++(u2++(v2++Q)))) e b=v2:=by
  rw[show P++(srt sec (u1++v1)++(u2++(v2++Q)))=(P++srt sec (u1++v1)++u2)++v2++Q by simp];exact aE9 (by simp;omega) (by simp;omega)
 have p1:(P++(u1++(v1++(u2++(v2++Q))))).Perm l:=by
  conv=>rhs;rw[hl]
  refine(O5 _ (O5 _ ?_))
  rw[←v8,←v8 u2]
  exact List.perm_append_comm.append_right _
 have p2:(P++(srt sec (u1++v1)++(u2++(v2++Q)))).Perm l:=by
  refine List.Perm.trans ?_ p1
  rw[show P++(u1++(v1++(u2++(v2++Q))))=P++((u1++v1)++(u2++(v2++Q))) by simp]
  exact((srt_perm sec _).append_right _).append_left _
 refine⟨P++(u1++(v1++(u2++(v2++Q)))),P++(srt sec (u1++v1)++(u2++(v2++Q))),fun _ _=> ?_,fun hn=> ?_,p1,by rw[c1];exact u1s,by rw[c2];exact v1s,fun _ _=> ?_,fun hn=> ?_,p2,by rw[c3];exact u2s,by rw[c4];exact v2s,fun _ _=> ?_,fun hn=> ?_⟩
 ·conv=>lhs;rw[hl,show P++(u1++(u2++(v1++(v2++Q))))=(P++u1)++(u2++(v1++(v2++Q))) by simp]
  rw[cP8 (by simp;omega) (by simp;omega) (by simp;omega)]
  simp
 ·rcases i4 r m with hh|hh
  ·have:v1=[]:=y6.1 (by omega)
   rw[this]at hl⊢;exact hl
  ·have:u2=[]:=y6.1 (by omega)
   rw[this]at hl⊢;exact hl
 ·rw[show P++(u1++(v1++(u2++(v2++Q))))=P++((u1++v1)++(u2++(v2++Q))) by simp,cc6 (by omega) (by simp;omega)]
 ·rcases i4 a r with hh|hh
  ·have:v1=[]:=y6.1 (by omega)
   rw[this,x7,aR6 u1s];rfl
  ·have:u1=[]:=y6.1 (by omega)
   rw[this,show([]:List Val)++v1=v1 from rfl,aR6 v1s];rfl
 ·rw[hsrt,show P++(srt sec (u1++v1)++(u2++(v2++Q)))=(P++srt sec (u1++v1))++((u2++v2)++Q) by simp,cc6 (by simp;omega) (by simp;omega)]
  simp
 ·rw[hsrt]
  rcases i4 mid e with hh|hh
  ·have:v2=[]:=y6.1 (by omega)
   rw[this,x7,aR6 u2s];rfl
  ·have:u2=[]:=y6.1 (by omega)
   rw[this,show([]:List Val)++v2=v2 from rfl,aR6 v2s];rfl
noncomputable def bn6(sec:Bool)(a:Nat):List Val→Nat→Nat×List Val
 |l,0=>(a,l)
 |l,k+1=>if S2 sec (atV l (a+k+1)) (atV l (a+k))then bn6 sec a (swp l (a+k+1) (a+k)) k else(a+k+1,l)
theorem bI6(sec:Bool)(x:Val){P:List Val}{a:Nat}(ha:a=P.length): ∀(s t:List Val),(bn6 sec a (P++(s.reverse++x::t)) s.length).2=P++((aR0 sec x s).reverse++t)
 | [],t=>rfl
 |y::r,t=>by
  have e1:P++((y::r).reverse++x::t)=(P++r.reverse)++y::([]++x::t):=by simp
  have a1:atV ((P++r.reverse)++y::([]++x::t)) (a+r.length)=y:=b75 (by simp;omega)
  have a2:atV ((P++r.reverse)++y::([]++x::t)) (a+r.length+1)=x:=by
   rw[show(P++r.reverse)++y::([]++x::t)=(P++r.reverse++[y])++x::t by simp];exact b75 (by simp;omega)
  rw[e1,List.length_cons]
  unfold bn6 aR0
  rw[a1,a2]
  split
  ·rw[bI2 (by omega),bI1 (by simp;omega) (by simp;omega),show(P++r.reverse)++x::([]++y::t)=P++(r.reverse++x::(y::t)) by simp,bI6 sec x ha r (y::t)]
   simp
  ·simp
theorem cw0{sec:Bool}{l:List Val}{a i:Nat}(h1:a≤i)(h2:i<l.length):(bn6 sec a (a13 sec l a i) (i-a)).2=a13 sec l a (i+1):=by
 have hd:l.drop i=atV l i::l.drop (i+1):=by
  rw[G6 h2]
  unfold atV
  rw[i6,j8 h2];rfl
 have hl:(dsc sec (seg l a i)).length=i-a:=by
  have:=srt_len sec (seg l a i)
  unfold srt at this
  rw[List.length_reverse]at this
  rw[this,a09 (by omega)]
 have e:=bI6 sec (atV l i) (P:=l.take a) (a:=a) (by rw[j0];omega) (dsc sec (seg l a i)) (l.drop (i+1))
 rw[hl]at e
 have e2:a13 sec l a i=l.take a++((dsc sec (seg l a i)).reverse++atV l i::l.drop (i+1)):=by unfold a13 srt;rw[hd]
 rw[e2,e]
 unfold a13 srt
 rw[←Y8 (a:=a) (m:=i) (b:=i+1) h1 (by omega),bw3 h2,cP5]
theorem bI7{sec:Bool}{l:List Val}{a b:Nat}(h1:a≤b)(h2:b≤a+1)(hb:b≤l.length):a13 sec l a b=l:=by
 conv=>rhs;rw[cV8 (l:=l) h1]
 unfold a13
 congr 2
 refine aR6 ?_
 have:(seg l a b).length≤1:=by rw[a09 hb];omega
 unfold Sd
 match h:seg l a b,this with
 | [],_=>exact .nil
 | [x],_=>simp
 |x::y::r,hh=>simp at hh
theorem bI8(sec:Bool)(l:List Val):a13 sec l 0 l.length=srt sec l:=by
 unfold a13 seg
 simp
theorem srt_cl{sec:Bool}{l q:List Val}(h:Cl sec l q):srt sec l=srt sec q:=bl5 (a29 sec q) ((bl4 sec q).trans h.symm)
theorem bw5(sec:Bool){l:List Val}{a b:Nat}(h:a≤b):Cl sec (a13 sec l a b) l:=by
 have:=(Cl.refl sec (l.take a)).app ((bl4 sec (seg l a b)).app (Cl.refl sec (l.drop b)))
 rwa[←cV8 (l:=l) h]at this
theorem bw6{sec:Bool}{l:List Val}{a b:Nat}(h:a≤b)(hb:b≤l.length):seg (a13 sec l a b) a b=srt sec (seg l a b):=by
 unfold a13
 rw[←v8]
 exact aE9 (by rw[j0];omega) (by rw[j0,srt_len,a09 hb];omega)
end Go.Ev.S7
namespace Go.Ev.S7
open Go Go.Ev
def isL:Val→Bool
 | .vl _=>true
 |_=>false
theorem isL_at{v:Val}(h:isL v=true):v= .vl v.toL:=by
 cases v<;>first|rfl|cases h
def okK(r:Val):Bool:=match r with
 | .vl [.vs _,.vi _,.vi _,.vi _,.vi _,.vi _,.vi _]=>true
 |_=>false
def dr7(r:Val):Bool:=match r with
 | .vl [.vs _,.vi _,.vi _,.vb _,.vi _,.vi _,.vi _,.vi _]=>true
 |_=>false
theorem okK_at{r:Val}(h:okK r=true):a30 r=r:=by
 unfold okK at h
 split at h
 ·rfl
 ·cases h
def bn7(l n:Val):Bool:=isL l&&(l.toL.all okK&&(decide (n.toI=(l.toL.length:Int))&&decide (l.toL.length≤400)))
theorem aS0{l n:Val}(h:bn7 l n=true):l= .vl l.toL∧l.toL.all okK=true∧n.toI=(l.toL.length:Int)∧l.toL.length≤400:=by
 obtain⟨h1,h⟩:=P8 h
 obtain⟨h2,h⟩:=P8 h
 obtain⟨h3,h4⟩:=P8 h
 exact⟨isL_at h1,h2,of_decide_eq_true h3,of_decide_eq_true h4⟩
def nt(v:Val):Nat:=v.toI.toNat
def isI:Val→Bool
 | .vi _=>true
 |_=>false
theorem bI9{v:Val}(h:isI v=true):v= .vi v.toI:=by cases v<;>first|rfl|cases h
def dp4(a:List Val):Prop:=bn7 (arg a 0) (arg a 1)=true∧0≤(arg a 2).toI∧(arg a 2).toI<(arg a 3).toI∧(arg a 3).toI<(arg a 4).toI∧(arg a 4).toI≤(arg a 1).toI∧(arg a 4).toI-(arg a 2).toI≤(arg a 5).toI∧
 isI (arg a 2)=true∧isI (arg a 3)=true∧isI (arg a 4)=true∧Sd false (seg (arg a 0).toL (nt (arg a 2)) (nt (arg a 3)))∧Sd false (seg (arg a 0).toL (nt (arg a 3)) (nt (arg a 4)))
open Classical in
noncomputable def bR9(a:List Val):Bool:=decide (dp4 a)
theorem aS1{a:List Val}:bR9 a=true↔dp4 a:=by unfold bR9;simp
noncomputable def a86(B:Nat)(l:List Val):Nat→List Val
 |0=>l
 |k+1=>a13 false (a86 B l k) (B*k) (B*k+B)
noncomputable def pass(bs n:Nat)(l:List Val):List Val:=if 2*bs*(n/(2*bs))+bs<n then a13 false (a86 (2*bs) l (n/(2*bs))) (2*bs*(n/(2*bs))) n else a86 (2*bs) l (n/(2*bs))
noncomputable def aC2(n:Nat):Nat→Nat→List Val→Nat×List Val
 |0,bs,l=>(bs,l)
 |f+1,bs,l=>if bs<n then aC2 n f (2*bs) (pass bs n l)else(bs,l)
noncomputable def GX:Nat→List Val→Val:=fun i a=>match i with
  |420=> .vb (bn7 (arg a 0) (arg a 1)&&decide (0≤(arg a 2).toI∧0≤(arg a 4).toI∧(arg a 2).toI+(arg a 4).toI≤(arg a 3).toI∧(arg a 3).toI+(arg a 4).toI≤(arg a 1).toI))
  |421=> .vl (swN (arg a 0).toL (nt (arg a 1)) (nt (arg a 2)) (nt (arg a 3)))
  |422=> .vb (bn7 (arg a 0) (arg a 1)&&decide (0≤(arg a 2).toI∧(arg a 2).toI<(arg a 3).toI∧(arg a 3).toI<(arg a 4).toI∧(arg a 4).toI≤(arg a 1).toI))
  |423=> .vl (cP7 (arg a 0).toL (nt (arg a 1)) (nt (arg a 2)) (nt (arg a 3)))
  |424=> .vb (bn7 (arg a 0) (arg a 1)&&decide (0≤(arg a 2).toI∧(arg a 2).toI≤(arg a 3).toI∧(arg a 3).toI≤(arg a 1).toI))
  |425=> .vl (a13 false (arg a 0).toL (nt (arg a 1)) (nt (arg a 2)))
  |426=> .vb (bR9 a)
  |428=> .vb (bn7 (arg a 0) (arg a 1)&&(isI (arg a 2)&&decide ((arg a 2).toI=(arg a 1).toI)))
  |431=> .vb (isL (arg a 0)&&(arg a 0).toL.all okK)
  |433=> .vb (isL (arg a 0)&&(arg a 0).toL.all dr7)
  |452=>W4 (0,[.vi (nt (arg a 6)),.vl (swN (arg a 1).toL (nt (arg a 4)) (nt (arg a 5)) (nt (arg a 6)))])
  |458=>W4 (0,[.vi (bb2 (nt (arg a 5)) (nt (arg a 0)+nt (arg a 1)) (nt (arg a 0)) (nt (arg a 1)) (arg a 2).toL).1,.vi (bb2 (nt (arg a 5)) (nt (arg a 0)+nt (arg a 1)) (nt (arg a 0)) (nt (arg a 1)) (arg a 2).toL).1,.vl (bb2 (nt (arg a 5)) (nt (arg a 0)+nt (arg a 1)) (nt (arg a 0)) (nt (arg a 1)) (arg a 2).toL).2])
  |460=>W4 (0,[.vi (max (nt (arg a 4)+1) (nt (arg a 5)):Nat),.vl (a13 false (arg a 1).toL (nt (arg a 4)) (nt (arg a 5)))])
  |461=>W4 (0,[.vi (bn6 false (nt (arg a 4)) (arg a 1).toL (nt (arg a 0)-nt (arg a 4))).1,.vl (bn6 false (nt (arg a 4)) (arg a 1).toL (nt (arg a 0)-nt (arg a 4))).2])
  |462=>let r:=bs (fun h=>S2 false (atV (arg a 3).toL h) (atV (arg a 3).toL (nt (arg a 4)))) (nt (arg a 1)-nt (arg a 0)) (nt (arg a 0)) (nt (arg a 1));W4 (0,[.vi r,.vi r])
  |463=>W4 (0,[.vi (nt (arg a 4)-1:Nat),.vl (mvU (arg a 1).toL (nt (arg a 0)) (nt (arg a 4)-1-nt (arg a 0)))])
  |464=>let r:=bs (fun h=> !S2 false (atV (arg a 3).toL (nt (arg a 4))) (atV (arg a 3).toL h)) (nt (arg a 1)-nt (arg a 0)) (nt (arg a 0)) (nt (arg a 1));W4 (0,[.vi r,.vi r])
  |465=>W4 (0,[arg a 4,.vl (mvD (arg a 1).toL (nt (arg a 0)) (nt (arg a 0)-nt (arg a 4)))])
  |466=>let r:=bs (fun c=> !S2 false (atV (arg a 3).toL (nt (arg a 9)-c)) (atV (arg a 3).toL c)) (nt (arg a 1)-nt (arg a 0)) (nt (arg a 0)) (nt (arg a 1));W4 (0,[.vi r,.vi r])
  |467=>W4 (0,[.vi (20*(nt (arg a 5)/20):Nat),.vi (20*(nt (arg a 5)/20)+20:Nat),.vl (a86 20 (arg a 2).toL (nt (arg a 5)/20))])
  |468=>W4 (0,[.vi (aC2 (nt (arg a 4)) 9 20 (arg a 1).toL).1,.vl (aC2 (nt (arg a 4)) 9 20 (arg a 1).toL).2])
  |469=>W4 (0,[.vi (2*nt (arg a 6)*(nt (arg a 5)/(2*nt (arg a 6))):Nat),.vi (2*nt (arg a 6)*(nt (arg a 5)/(2*nt (arg a 6)))+2*nt (arg a 6):Nat),.vl (a86 (2*nt (arg a 6)) (arg a 2).toL (nt (arg a 5)/(2*nt (arg a 6))))])
  |490=> .vl (srt false (arg a 0).toL)
  |_=> .vb false
end Go.Ev.S7
