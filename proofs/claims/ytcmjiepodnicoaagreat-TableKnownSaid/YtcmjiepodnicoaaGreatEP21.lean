import Derived.Test.YtcmjiepodnicoaaGreatEP11
set_option linter.unusedSimpArgs false
set_option linter.unusedVariables false
namespace Go.Ev.S9
open Go Go.Ev
noncomputable def Dj(X:Nat->List Val->Val)(a b c d:Val)(l:List Val):Nat->Val
 |0=> .vl []
 |i+1=>if ci (cg l i) 0=2 then Dj X a b c d l i else eQ X (gk a b c d (Dj X a b c d l i) (cg l i))
noncomputable def Sj(X:Nat->List Val->Val)(a b c d:Val)(l:List Val)(i:Nat):Int:=if KY l i≠0 then KY l i else if ci (cg l i) 0=2 then 0 else dC (gk a b c d (Dj X a b c d l i) (cg l i))
noncomputable def Pi(X:Nat->List Val->Val)(a b c d:Val)(l:List Val):Option Nat:=(List.range l.length).find? λi=>decide (Sj X a b c d l i≠0)
noncomputable def eb9(X:Nat->List Val->Val)(a b c d:Val)(l:List Val):Nat×List Val:=match Pi X a b c d l with
 |some i=>(1,[.vi (Sj X a b c d l i),EF l i,.vi i,Dj X a b c d l i])
 |none=>(0,[.vi 0,EF l l.length,.vi l.length,Dj X a b c d l l.length])
noncomputable def ec0(X:Nat->List Val->Val)(a:List Val):Val:=cA (eb9 X (ce a 4) (ce a 5) (ce a 6) (ce a 7) (ce a 11).toL)
noncomputable def ec1(X:Nat->List Val->Val)(a b c d:Val)(l:List Val):Int:=if cV a.toI b.toI c.toI d.toI=true then(match Pi X a b c d l with|some i=>Sj X a b c d l i|none=>0)else 2
noncomputable def ec2(X:Nat->List Val->Val)(a b c d:Val)(l:List Val):Val:=if cV a.toI b.toI c.toI d.toI=true then(match Pi X a b c d l with|some _=> .vl []|none=>NZ X [Dj X a b c d l l.length,EF l l.length])else .vl []
noncomputable def ec3(X:Nat->List Val->Val)(a:List Val):Val:= .vi (ec1 X (ce a 0) (ce a 1) (ce a 2) (ce a 3) (ce a 4).toL)
noncomputable def ec4(X:Nat->List Val->Val)(a:List Val):Val:=ec2 X (ce a 0) (ce a 1) (ce a 2) (ce a 3) (ce a 4).toL
section
variable{X:Nat->List Val->Val}{k s w g:Int}{l:List Val}
variable{I:Opq}(hf: ∀i a,I.f i a=FT X i a)
include hf
end
end Go.Ev.S9
namespace Go.Ev.S9
open Go Go.Ev
section
variable{X:Nat->List Val->Val}{k s w g:Int}{l:List Val}{I:Opq}(hf: ∀i a,I.f i a=FT X i a)
include hf
end
end Go.Ev.S9
namespace Go.Ev.S9
open Go Go.Ev
variable{l:List Val}
def ec5(a:List Val):Val:= .vl (e56 (ce a 0).toL)
def ec6(a:List Val):Val:= .vb (ed (ce a 0)&&(ed (ce a 1)&&(ed (ce a 2)&&(ed (ce a 3)&&(wX (ce a 4)&&decide ((ce a 4).toL.length<=24))))))
def ec7(a:List Val):Val:= .vb (ed (ce a 0)&&(ed (ce a 1)&&(ed (ce a 2)&&(ed (ce a 3)&&wX (ce a 4)))))
def dW9(l:List Val)(i:Nat):Bool:=decide (50<(Z7 (cg l i) 1).toS.length)
def ec8(l:List Val):Nat×List Val:=gZ (.vb false) (λk=>[.vb true,.vi k]) (dW9 l) l.length
def ec9(a:List Val):Val:=cA (ec8 (ce a 4).toL)
section
variable{I:Opq}
end
end Go.Ev.S9
namespace Go.Ev.S9
open Go Go.Ev
theorem Cv(g:Val->List Val)(l:List Val):cB (λi=>g (cg l i)) l.length=l.flatMap g:=by
 have: ∀n,n<=l.length->cB (λi=>g (cg l i)) n=(l.take n).flatMap g:=λn=>by
  induction n with
  |zero=>intro _;rfl
  |succ n ih=>
   intro h;show cB (λi=>g (cg l i)) n++g (cg l n)=_;rw[ih (by omega),KM (by omega),N5];simp
 grind
theorem Dm{α:Type}(p:α->Bool)(f:α->Val): ∀l:List α,l.flatMap (λr=>bif p r then [f r]else [])=(l.filter p).map f
 | []=>rfl
 |a::l=>by
  rw[B7,Dm p f l];grind
def iV(v:Int):Val:= .vl [.vi v]
theorem Zn(evs:List dG)(key:List UInt8):lT (evs.map cw) key=(evs.filter λx=>decide (x.1=key)).map λx=>iV x.2.1:=by
 have h:=Cv (λr=>bif decide ((Z7 r 1).toS=key)then [.vl [Z7 r 2]]else []) (evs.map cw);unfold lT;rw[show Of (evs.map cw) key=λi=>(λr=>bif decide ((Z7 r 1).toS=key)then [Val.vl [Z7 r 2]]else []) (cg (evs.map cw) i)from rfl,h,K5];exact Dm (λx:dG=>decide (x.1=key)) (λx=>iV x.2.1) evs
theorem dC9(evs:List dG)(key:List UInt8)(a b:Int):iX (evs.map cw) key a b=(Tb.vals evs key a b).map iV:=by
 have h:=Cv (λr=>bif decide ((Z7 r 1).toS=key)&&(decide (a<=ci r 2)&&decide (ci r 2<b))then [.vl [Z7 r 3]]else []) (evs.map cw);unfold iX Tb.vals;rw[show(λq=>bif su (evs.map cw) key a b q then [Val.vl [Z7 (cg (evs.map cw) q) 3]]else [])=λi=>(λr=>bif decide ((Z7 r 1).toS=key)&&(decide (a<=ci r 2)&&decide (ci r 2<b))then [Val.vl [Z7 r 3]]else []) (cg (evs.map cw) i)from rfl,h,K5,n7];have e:(λx:dG=>(λr=>bif decide ((Z7 r 1).toS=key)&&(decide (a<=ci r 2)&&decide (ci r 2<b))then [Val.vl [Z7 r 3]]else []) (cw x))=λx=>bif Tb.inP key a b x then [iV x.2.2]else []:=by
  funext x;show(bif decide (x.1=key)&&(decide (a<=x.2.1)&&decide (x.2.1<b))then [iV x.2.2]else [])=_;unfold Tb.inP;rw[Bool.and_assoc]
 grind[Dm,Tb.inP,iV]
theorem cx3{l:List Int}(h:l≠[])(x:Int):Tb.minI (l++[x])=min (Tb.minI l) x:=by
 match l,h with
 |a::l,_=>show(l++[x]).foldl min a=min (l.foldl min a) x;grind
theorem cx4{l:List Int}(h:l≠[])(x:Int):Tb.maxI (l++[x])=max (Tb.maxI l) x:=by
 match l,h with
 |a::l,_=>show(l++[x]).foldl max a=max (l.foldl max a) x;grind
theorem dh6(x y:Int):(if x<y then Val.vi x else .vi y)= .vi (min y x):=by
 grind
theorem dh7(x y:Int):(if y<x then Val.vi x else .vi y)= .vi (max y x):=by
 grind
theorem Zv(vs:List Int): ∀k,k+1<=vs.length->fN (vs.map iV) (k+1)=(.vi (Tb.minI (vs.take (k+1))),.vi (Tb.maxI (vs.take (k+1))))
 |0,h=>by
  match vs,h with
  |a::l,_=>rfl
 |k+1,h=>by
  have ih:=Zv vs k (by omega);have hx:Z7 (cg (vs.map iV) (k+1)) 0= .vi vs[k+1]:=by
   rw[nC (by rw[k6];omega),J3];rfl
  have ht:vs.take (k+1+1)=vs.take (k+1)++[vs[k+1]]:=by rw[K8]
  have hne:vs.take (k+1)≠[]:=λe=>by
   have:=congrArg List.length e;rw[l5,List.length_nil]at this;omega
  rw[ht,cx3 hne,cx4 hne];show(if k+1=0 then _ else _)=_;simp_all[b9,M7,ci,Tb.minI,Tb.maxI,dh6,dh7]
theorem dX0{vs:List Int}(hne:vs≠[])(hv: ∀v∈vs,cP v)(hn:vs.length<=100):(sE (vs.map iV)=0↔cP (Tb.sumI vs))/\(sE (vs.map iV)=0->aA (vs.map iV)=[.vi (Tb.agOf vs).1,.vi (Tb.agOf vs).2.1,.vi (Tb.agOf vs).2.2.1,.vi (Tb.agOf vs).2.2.2]):=by
 have hs:=dU7 (l:=vs.map iV) (λr hr=>by
  obtain⟨v,hv',rfl⟩:=j7.1 hr;exact hv v hv') (by grind)
 rw[Rn]at hs;have hm:(vs.map iV).map (λr=>ci r 0)=vs:=by
  rw[n7];exact(s9 (g:=id) λv _=>rfl).trans (G5 vs)
 rw[hm]at hs;refine⟨hs.1,λh=> ?_⟩;unfold aA;rw[b9 (λc=>c h),hs.2 h];have hl:0<vs.length:=P4.2 hne;obtain⟨k,hk⟩: ∃k,vs.length=k+1:=⟨vs.length-1,by omega⟩;rw[k6,hk,Zv vs k (by omega),<-hk,A8];rfl
def Gz(key r:Val):PaneM:=⟨key.toS,ci r 0,ci r 1⟩
def tT(ev:List Val)(key r:Val):List Val:=iX ev key.toS (ci r 0) (ci r 1)
theorem dD0(ev:List Val)(key r:Val):Z6 (td ev key r)=Gz key r:=rfl
theorem Wh{M:List Val}{key r:Val}:oI M key r=true↔ ∃x∈M,Z6 x=Gz key r:=by
 unfold oI;simp;rfl
section
variable{ev:List Val}{key:Val}{R M0:List Val}
theorem cx5: ∀j,∀x∈M0,x∈fD ev key R M0 j
 |0,x,h=>h
 |j+1,x,h=>I7 _ (cx5 j x h)
theorem bZ1: ∀j,∀x∈fD ev key R M0 j,x∈M0\/ ∃q,q<j/\x=td ev key (cg R q)/\oI (fD ev key R M0 q) key (cg R q)=false
 |0,x,h=> .inl h
 |j+1,x,h=>by
  rcases z8.1 h with h|h
  .rcases bZ1 j x h with h|⟨q,h1,h2⟩
   .exact .inl h
   grind
  .unfold uN at h;grind
theorem cx6: ∀j q,q<j-> ∃x∈fD ev key R M0 j,Z6 x=Gz key (cg R q)
 |0,q,h=>absurd h (G8 _)
 |j+1,q,h=>by
  by_cases c:q<j
  .obtain⟨x,h1,h2⟩:=cx6 j q c;exact⟨x,I7 _ h1,h2⟩
  .have:q=j:=by omega
   subst this;cases hh:oI (fD ev key R M0 q) key (cg R q)with
   |true=>
    obtain⟨x,h1,h2⟩:=Wh.1 hh;exact⟨x,I7 _ h1,h2⟩
   |false=>
    refine⟨td ev key (cg R q),R5 _ ?_,dD0 ..⟩;unfold uN;rw[hh];exact List.mem_singleton.2 rfl
theorem ZV(h0:(M0.map Z6).Nodup): ∀j,((fD ev key R M0 j).map Z6).Nodup
 |0=>h0
 |j+1=>by
  have ih:=ZV h0 j;show((fD ev key R M0 j++uN ev key (fD ev key R M0 j) (cg R j)).map Z6).Nodup;unfold uN;cases hh:oI (fD ev key R M0 j) key (cg R j)with
  |true=>grind
  |false=>
   rw[cond_false,n8,R9];refine⟨ih,by simp,λa ha b hb he=> ?_⟩;obtain⟨x,hx,rfl⟩:=j7.1 ha;rw[l9,O3,n5]at hb;have:oI (fD ev key R M0 j) key (cg R j)=true:=Wh.2 ⟨x,hx,by rw[he,hb];rfl⟩;grind
end
section
variable{k s w g:Int}{ev:List Val}
theorem Tr: ∀i,∀x∈eL k s w g ev i,∃i',i'<i/\ ∃q,q<(eT k s w g ev i').length/\x=td ev (gy ev i') (cg (eT k s w g ev i') q)/\oI (fD ev (gy ev i') (eT k s w g ev i') (eL k s w g ev i') q) (gy ev i') (cg (eT k s w g ev i') q)=false
 |0,x,h=>(by cases h)
 |i+1,x,h=>by
  rcases bZ1 _ x h with h|⟨q,h1,h2,h3⟩
  .obtain⟨i',a,b⟩:=Tr i x h;exact⟨i',by omega,b⟩
  grind
theorem Sg: ∀i i' q,i'<i->q<(eT k s w g ev i').length-> ∃x∈eL k s w g ev i,Z6 x=Gz (gy ev i') (cg (eT k s w g ev i') q)
 |0,i',q,h,_=>absurd h (G8 _)
 |i+1,i',q,h,hq=>by
  by_cases c:i'<i
  .obtain⟨x,h1,h2⟩:=Sg i i' q c hq;exact⟨x,cx5 _ x h1,h2⟩
  .have:i'=i:=by omega
   subst this;exact cx6 _ q hq
theorem cY7: ∀i,((eL k s w g ev i).map Z6).Nodup
 |0=>List.nodup_nil
 |i+1=>ZV (cY7 i) _
theorem cx7(h:gg k s w g ev=true){i q:Nat}(hi:i<ev.length)(hq:q<(eT k s w g ev i).length):pG ev (gy ev i) (eT k s w g ev i) (eL k s w g ev i) q=false:=by
 simp_all[gg,W6,A7,r9,sZ]
theorem XO:gg k s w g ev=true↔ ∀i q,i<ev.length->q<(eT k s w g ev i).length->sE (tT ev (gy ev i) (cg (eT k s w g ev i) q))=0:=by
 constructor
 .intro h i q hi hq;obtain⟨x,h1,h2⟩:=Sg ev.length i q hi hq;obtain⟨i',a,q',b,c,d⟩:=Tr _ x h1;have hb:=cx7 h a b;unfold pG at hb;rw[d]at hb;have h0:sE (tT ev (gy ev i') (cg (eT k s w g ev i') q'))=0:=by
   unfold tT;simpa using hb
  rw[c,dD0]at h2;unfold Gz at h2;rw[PaneM.mk.injEq]at h2;obtain⟨e1,e2,e3⟩:=h2;unfold tT at h0⊢;rw[<-e1,<-e2,<-e3];exact h0
 .intro h;unfold gg;rw[W6];refine A7.2 λi hi=> ?_
  have h2:sZ k s w g ev i=none:=by
   refine A7.2 λq hq=> ?_
   have:=h i q (r9.1 hi) (r9.1 hq);unfold tT at this;unfold pG;rw[this];simp
  rw[h2];simp
theorem dD1(h:gg k s w g ev=true){x:Val}(hx:x∈eL k s w g ev ev.length): ∃i q,i<ev.length/\q<(eT k s w g ev i).length/\x=td ev (gy ev i) (cg (eT k s w g ev i) q)/\sE (tT ev (gy ev i) (cg (eT k s w g ev i) q))=0:=by
 grind[Tr,XO]
end
end Go.Ev.S9
namespace Go.Ev.S9
open Go Go.Ev
theorem dh8{k s w g:Int}(hR:cV k s w g=true)(h3:k≠3){evs:List dG}(hev:fT evs)(key:List UInt8)(r:Val):
 r∈nR k s w g (evs.map cw) key↔ ∃a b,r= .vl [.vi a,.vi b]/\Tb.Pan (eH k s w g) evs key a b:=by
 have hw:eH k s w g= .win (kZ (dT k s w) s):=b9 h3;have e:nR k s w g (evs.map cw) key=(evs.filter λx=>decide (x.1=key)).flatMap λx=>dw k s w g (.vi x.2.1):=by
  unfold nR yc;rw[b9 h3,Cv (λr=>dw k s w g (Z7 r 0)),Zn,K5];rfl
 rw[e,hw,D7];constructor
 .rintro⟨x,hx,hr⟩;rw[l6,decide_eq_true_eq]at hx;obtain⟨p1,p2,p3⟩:=IC hR h3 (hev x hx.1).1;have:=p3 r hr;refine⟨_,_,this,?_⟩;have hm:=(p2 (Z9 r).1 (Z9 r).2).1 (j7.2 ⟨r,hr,rfl⟩);exact⟨hm.1,x.2.1,⟨x,hx.1,hx.2,rfl⟩,hm.2⟩
 .rintro⟨a,b,rfl,h1,t,⟨x,hx,hk,ht⟩,h2⟩;obtain⟨p1,p2,p3⟩:=IC hR h3 (hev x hx).1;grind
def Cj(g:Int)(T:Int->Prop)(l:List Val):Prop:=(∀r∈l,∃a b,r= .vl [.vi a,.vi b]/\Tb.isR g T a b)/\ ∀t,T t-> ∃r∈l,ci r 0<=t/\t+g<=ci r 1
theorem PX{l:List Val}{i j:Nat}(r:Val): ∀n,r∈cB (jj l i j) n↔ ∃k,k<n/\k≠i/\k≠j/\r=eB (cg l k)
 |0=>⟨λh=>(by cases h),λ⟨k,h,_⟩=>absurd h (G8 _)⟩
 |n+1=>by
  show r∈cB (jj l i j) n++jj l i j n↔_;rw[z8,PX r n];unfold jj;grind
theorem c82{g:Int}{T:Int->Prop}{l:List Val}(h:Cj g T l){i j:Nat}(hij:i<j)(hj:j<l.length)(hl:tv l i j=true):Cj g T (fa l i j):=by
 obtain⟨h1,h2⟩:=h;have hi:i<l.length:=by omega
 obtain⟨a,b,e1,r1⟩:=h1 _ (iN hi);obtain⟨a',b',e2,r2⟩:=h1 _ (iN hj);have hlap:Tb.lap a b a' b':=by
  unfold tv at hl;rw[e1,e2]at hl;obtain⟨q1,q2⟩:=Z1 hl;exact⟨j5 q1,j5 q2⟩
 have hH:mC l i j= .vl [.vi (min a a'),.vi (max b b')]:=by unfold mC;rw[e1,e2];rfl
 refine⟨λr hr=> ?_,λt ht=> ?_⟩
 .rcases z8.1 hr with hr|hr
  .rw[n5]at hr;exact⟨_,_,hr.trans hH,r1.join r2 hlap⟩
  .obtain⟨k,k1,_,_,k4⟩:=(PX r _).1 hr;obtain⟨x,y,e,hx⟩:=h1 _ (iN k1);exact⟨x,y,by rw[k4,e];rfl,hx⟩
 .obtain⟨r,hr,c1,c2⟩:=h2 t ht;obtain⟨k,hk,rfl⟩:=B3 hr;rw[<-nC hk]at c1 c2;by_cases ki:k=i
  .subst ki;refine⟨mC l k j,I7 _ (n5.2 rfl),?_⟩;rw[e1]at c1 c2;rw[hH];have c1:a<=t:=c1;have c2:t+g<=b:=c2;show min a a'<=t/\t+g<=max b b';omega
  .by_cases kj:k=j
   .subst kj;refine⟨mC l i k,I7 _ (n5.2 rfl),?_⟩;rw[e2]at c1 c2;rw[hH];have c1:a'<=t:=c1;have c2:t+g<=b':=c2;show min a a'<=t/\t+g<=max b b';omega
   .refine⟨eB (cg l k),R5 _ ((PX _ _).2 ⟨k,hk,ki,kj,rfl⟩),?_⟩;exact⟨c1,c2⟩
theorem bZ3{g:Int}{T:Int->Prop}: ∀(f:Nat) (l:List Val),l.length<=f->Cj g T l->Cj g T (oi f l)/\oQ (oi f l)=none
 |0,l,hf,h=>by
  have:l=[]:=C1 (by omega);subst this;exact⟨h,rfl⟩
 |f+1,l,hf,h=>by
  unfold oi;cases hj:oQ l with
  |none=>grind
  |some i=>
   obtain⟨j,h1,h2,h3,h4⟩:=KX hj;have hl:(fa l i j).length+1=l.length:=Vk h2 h3;show Cj g T (oi f (fa l i ((ik l i).getD 0)))/\oQ (oi f (fa l i ((ik l i).getD 0)))=none;rw[h1];exact bZ3 f _ (by grind) (c82 h h2 h3 h4)
variable{evs:List dG}
theorem c83{g:Int}(g0:1<=g)(g1:g<=1048576)(hev:fT evs)(key:List UInt8):Cj g (Tb.tms evs key) (gn g (lT (evs.map cw) key))/\((List.range (lT (evs.map cw) key).length).find? (uH (lT (evs.map cw) key)))=none:=by
 have hU:=Zn evs key;generalize lT (evs.map cw) key=U at hU⊢;have hm: ∀r∈U,∃t,r=iV t/\Tb.tms evs key t/\eU t=true:=λr hr=>by
  rw[hU]at hr;obtain⟨x,hx,rfl⟩:=j7.1 hr;rw[l6,decide_eq_true_eq]at hx;exact⟨x.2.1,rfl,⟨x,hx.1,hx.2,rfl⟩,(hev x hx.1).1⟩
 have hs:gn g U=U.map λr=> .vl [Z7 r 0,.vi (cn .add .i64 (ci r 0) g)]:=Bi (λr=> .vl [Z7 r 0,.vi (cn .add .i64 (ci r 0) g)]) U
 have ht: ∀t,eU t=true->cn .add .i64 t g=t+g:=λt h=>by
  unfold eU at h;grind[gj]
 refine⟨⟨λr hr=> ?_,λt h=> ?_⟩,?_⟩
 .rw[hs]at hr;obtain⟨u,hu,rfl⟩:=j7.1 hr;obtain⟨t,rfl,h1,h2⟩:=hm u hu;refine⟨t,t+g,?_,Tb.isR.own t h1⟩;show Val.vl [.vi t,.vi (cn .add .i64 t g)]=_;grind
 .obtain⟨x,hx,hk,rfl⟩:=h;refine⟨.vl [.vi x.2.1,.vi (x.2.1+g)],?_,x5 _,x5 _⟩;rw[hs];refine j7.2 ⟨iV x.2.1,?_,?_⟩
  .grind
  .show Val.vl [.vi x.2.1,.vi (cn .add .i64 x.2.1 g)]=_;rw[ht _ (hev x hx).1]
 .refine A7.2 λi hi=> ?_
  obtain⟨t,e,h1,h2⟩:=hm _ (iN (r9.1 hi));unfold uH;rw[e];show¬(!eU t)=true;grind
theorem dh9{s w g:Int}(hR:cV 3 s w g=true)(hev:fT evs)(key:List UInt8)(r:Val):
 r∈nR 3 s w g (evs.map cw) key↔ ∃a b,r= .vl [.vi a,.vi b]/\Tb.Pan (eH 3 s w g) evs key a b:=by
 obtain⟨g0,g1⟩:=Cq hR rfl;obtain⟨hr,hl⟩:=c83 g0 g1 hev key;unfold nR yc;rw[e8 rfl];have hok:jL g (lT (evs.map cw) key)=true:=by
  grind[jL,decide_eq_true]
 rw[hok,cond_true];generalize lT (evs.map cw) key=U at hr hl hok⊢;obtain⟨h1,h2⟩:=bZ3 (gn g U).length (gn g U) (e9 _) hr;have hM:oi (gn g U).length (gn g U)=iu (gn g U):=rfl;rw[hM]at h1 h2;unfold jA;generalize iu (gn g U)=M at h1 h2⊢;have hsp: ∀r∈M,eB r=r:=λr hr=>by
  obtain⟨a,b,e,_⟩:=h1.1 r hr;rw[e];rfl
 have hmem: ∀r,r∈gL M M.length↔r∈M:=λr=>by simp_all[Zm,e9,A8]
 have hS:cB (λi=>[eB (cg (gL M M.length) i)]) (gL M M.length).length=(gL M M.length).map eB:=Bi eB _;have hr2:r∈cB (λi=>[eB (cg (gL M M.length) i)]) (gL M M.length).length↔r∈M:=by
  grind
 rw[hr2];have hlapI: ∀i j,i<M.length->j<M.length->Tb.lap (ci (cg M i) 0) (ci (cg M i) 1) (ci (cg M j) 0) (ci (cg M j) 1)->i=j:=λi j hi hj hl=>by
  rcases G9 i j with c|c|c
  .have:=bY1 h2 c hj;unfold tv at this;rw[c9 hl.1,c9 hl.2]at this;cases this
  .exact c
  .have:=bY1 h2 c hi;unfold tv at this;rw[c9 hl.1,c9 hl.2]at this;cases this
 have hses:Tb.Ses g (Tb.tms evs key) (M.map Z9):=by
  refine Tb.ses_runs (by omega) (λp hp=> ?_) (λt ht=> ?_) (λp hp q hq hl=> ?_)
  .obtain⟨r,hr,rfl⟩:=j7.1 hp;obtain⟨a,b,e,h⟩:=h1.1 r hr;rw[e];exact h
  .obtain⟨r,hr,c1,c2⟩:=h1.2 t ht;exact⟨Z9 r,j7.2 ⟨r,hr,rfl⟩,c1,c2⟩
  .obtain⟨r,hr,rfl⟩:=j7.1 hp;obtain⟨r',hr',rfl⟩:=j7.1 hq;obtain⟨i,hi,rfl⟩:=B3 hr;obtain⟨j,hj,rfl⟩:=B3 hr';rw[<-nC hi,<-nC hj]at hl⊢;rw[hlapI i j hi hj hl]
 constructor
 .intro h;obtain⟨a,b,e,_⟩:=h1.1 r h;refine⟨a,b,e,?_⟩;exact(hses.1 a b).1 (j7.2 ⟨r,h,by rw[e];rfl⟩)
 .rintro⟨a,b,rfl,h⟩;obtain⟨r,hr,hp⟩:=j7.1 ((hses.1 a b).2 h);obtain⟨a',b',e,_⟩:=h1.1 r hr;rw[e]at hp;have hp:(a',b')=(a,b):=hp;grind
theorem Jd{k s w g:Int}(hR:cV k s w g=true)(hev:fT evs)(key:List UInt8)(r:Val):
 r∈nR k s w g (evs.map cw) key↔ ∃a b,r= .vl [.vi a,.vi b]/\Tb.Pan (eH k s w g) evs key a b:=by
 grind[dh9,dh8]
end Go.Ev.S9
namespace Go.Ev.S9
open Go Go.Ev
variable{key:List UInt8}
def sb(W:Tb.Wd)(evs:List dG):Prop:= ∀key a b,Tb.Pan W evs key a b->cP (Tb.sumI (Tb.vals evs key a b))
theorem wd{evs:List dG}{i:Nat}(h:i<evs.length):gy (evs.map cw) i= .vs evs[i].1:=by
 unfold gy;rw[nC (by grind),J3];rfl
theorem Xa{evs:List dG}(hev:fT evs)(key:List UInt8)(a b:Int): ∀v∈Tb.vals evs key a b,cP v:=λv hv=>by
 obtain⟨x,hx,rfl⟩:=j7.1 hv;exact(hev x (l6.1 hx).1).2
theorem My(evs:List dG)(key:List UInt8)(a b:Int):(Tb.vals evs key a b).length<=evs.length:=by
 grind[Tb.vals,List.length_map,List.length_filter_le]
theorem Qk{k s w g:Int}(hR:cV k s w g=true): ∀g',eH k s w g= .ses g'->0<g':=λg' h=>by
 unfold eH at h;by_cases h3:k=3
 .rw[e8 h3,Tb.Wd.ses.injEq]at h;have:=(Cq hR h3).1;omega
 grind
theorem YA{W:Tb.Wd}{evs:List dG}{a b:Int}(h:Tb.Pan W evs key a b): ∃i,∃h:i<evs.length,evs[i].1=key:=by
 have: ∃t,Tb.tms evs key t:=by
  cases W with
  |ses g=>exact⟨a,h.1.1⟩
  |win P=>exact⟨_,h.2.choose_spec.1⟩
 obtain⟨t,x,hx,hk,_⟩:=this;grind[List.getElem_of_mem]
section
variable{k s w g:Int}(hR:cV k s w g=true){evs:List dG}(hev:fT evs)(hn:evs.length<=24)
include hR hev hn
theorem PR{a b:Int}(hp:Tb.Pan (eH k s w g) evs key a b):(sE (tT (evs.map cw) (.vs key) (.vl [.vi a,.vi b]))=0↔cP (Tb.sumI (Tb.vals evs key a b)))/\
 (sE (tT (evs.map cw) (.vs key) (.vl [.vi a,.vi b]))=0->td (evs.map cw) (.vs key) (.vl [.vi a,.vi b])=hZ key a b (Tb.agOf (Tb.vals evs key a b))):=by
 have e:tT (evs.map cw) (.vs key) (.vl [.vi a,.vi b])=(Tb.vals evs key a b).map iV:=dC9 evs key a b;have e2:iX (evs.map cw) (Val.vs key).toS (ci (.vl [.vi a,.vi b]) 0) (ci (.vl [.vi a,.vi b]) 1)=(Tb.vals evs key a b).map iV:=e;obtain⟨h1,h2⟩:=dX0 (Tb.Pan.ne (Qk hR) hp) (Xa hev key a b) (by grind[My]);rw[e];refine⟨h1,λh=> ?_⟩;unfold td;rw[e2,h2 h];rfl
theorem Ri:gg k s w g (evs.map cw)=true↔sb (eH k s w g) evs:=by
 rw[XO];constructor
 .intro h key a b hp;obtain⟨i,hi,hk⟩:=YA hp;have hm:Val.vl [.vi a,.vi b]∈eT k s w g (evs.map cw) i:=by
   unfold eT;rw[wd hi,hk];exact(Jd hR hev key _).2 ⟨a,b,rfl,hp⟩
  grind[List.getElem_of_mem,List.length_map,nC,wd,PR]
 .intro h i q hi hq;rw[k6]at hi;have hm:=iN hq;have hm2:cg (eT k s w g (evs.map cw) i) q∈nR k s w g (evs.map cw) evs[i].1:=by
   simp_all[eT,wd]
  obtain⟨a,b,e,hp⟩:=(Jd hR hev _ _).1 hm2;rw[e,wd hi];exact(PR hR hev hn hp).1.2 (h _ a b hp)
theorem di1(ho:gg k s w g (evs.map cw)=true){x:Val}(hx:x∈eL k s w g (evs.map cw) (evs.map cw).length): ∃key a b,Tb.Pan (eH k s w g) evs key a b/\x=hZ key a b (Tb.agOf (Tb.vals evs key a b))/\ ∃y∈evs,y.1=key:=by
 obtain⟨i,q,hi,hq,e,hs⟩:=dD1 ho hx;rw[k6]at hi;have hm:=iN hq;have hm2:cg (eT k s w g (evs.map cw) i) q∈nR k s w g (evs.map cw) evs[i].1:=by
  unfold eT at hm⊢;rw[wd hi]at hm⊢;exact hm
 grind[Jd,wd,PR,List.getElem_mem]
omit hn in
theorem di2{a b:Int}(hp:Tb.Pan (eH k s w g) evs key a b): ∃x∈eL k s w g (evs.map cw) (evs.map cw).length,Z6 x=⟨key,a,b⟩:=by
 obtain⟨i,hi,hk⟩:=YA hp;have hm:Val.vl [.vi a,.vi b]∈eT k s w g (evs.map cw) i:=by
  unfold eT;rw[wd hi,hk];exact(Jd hR hev key _).2 ⟨a,b,rfl,hp⟩
 obtain⟨q,hq,he⟩:=B3 hm;obtain⟨x,h1,h2⟩:=Sg (k:=k) (s:=s) (w:=w) (g:=g) (ev:=evs.map cw) (evs.map cw).length i q (by grind) hq;refine⟨x,h1,?_⟩;rw[h2,nC hq,he,wd hi,hk];rfl
theorem cy1(hva:qL evs)(ho:gg k s w g (evs.map cw)=true):TOK (eH k s w g) evs (eL k s w g (evs.map cw) (evs.map cw).length):=by
 have hrow:=λ{x:Val} (hx:x∈eL k s w g (evs.map cw) (evs.map cw).length)=>di1 hR hev hn ho hx
 have hhas:=λ{key:List UInt8} {a b:Int} (hp:Tb.Pan (eH k s w g) evs key a b)=>di2 hR hev hp
 have hfit:=(Ri hR hev hn).1 ho;have hnd:=cY7 (k:=k) (s:=s) (w:=w) (g:=g) (ev:=evs.map cw) (evs.map cw).length;refine⟨λkey a b A=> ?_,hnd,λr hr=> ?_,Qk hR⟩
 .constructor
  .intro h;obtain⟨r,hr,hp,hA⟩:=wU h;obtain⟨key',a',b',h1,rfl,_⟩:=hrow hr;obtain⟨rfl,rfl,rfl⟩:=hp;exact⟨h1,hA.symm⟩
  .rintro⟨hp,rfl⟩;obtain⟨x,hx,hpx⟩:=hhas hp;obtain⟨key',a',b',h1,e,_⟩:=hrow hx;rw[e,CE,PaneM.mk.injEq]at hpx;obtain⟨rfl,rfl,rfl⟩:=hpx;have:=uq hnd hx;rw[e,CE,Nh]at this;exact this
 .obtain⟨key,a,b,h1,rfl,y,hy,hk⟩:=hrow hr;refine⟨key,a,b,_,rfl,?_,?_⟩
  .have:=(tL (hva y hy) rfl).1;grind
  .have hne:=Tb.Pan.ne (Qk hR) h1;have hv:=Xa hev key a b;have hl:=My evs key a b;refine⟨?_,hfit key a b h1,hv _ (Tb.minI_spec hne).1,hv _ (Tb.maxI_spec hne).1⟩;show cP ((Tb.vals evs key a b).length:Int);grind[cP]
end
end Go.Ev.S9
namespace Go.Ev.S9
open Go Go.Ev
theorem MM{L:List Val}(hL: ∀r∈L,cP (ci r 0))(hn:L.length<=1000000)(h:cP (Tb.sumI (L.map λr=>ci r 0))):gC L=0:=by
 have hg: ∀k,cP (ci (cg L k) 0):=λk=>by
  by_cases c:k<L.length
  .exact hL _ (iN c)
  .have e:cg L k= .vl []:=by simp[cg,j8,t7 (C8.1 c)]
   rw[e];exact Ot
 simp_all[by2,Rn,gC,js,e8]
theorem Xy{gs:List Tb.Ag}(hc: ∀a∈gs,1<=a.1/\kJ a)(hn:gs.length<=1000000)(h0:cP (Tb.sumI (gs.map (·.1))))(h1:cP (Tb.sumI (gs.map (·.2.1)))):jE (gs.map dz)=0:=by
 have c0:jC (gs.map dz)=gs.map λa=> .vl [Z7 (dz a) 0]:=JN hc 0
 have c1:jT (gs.map dz)=gs.map λa=> .vl [Z7 (dz a) 1]:=JN hc 1
 have e0:gC (jC (gs.map dz))=0:=by
  rw[c0];refine MM (λr hr=> ?_) (by simpa using hn) ?_
  .obtain⟨a,ha,rfl⟩:=j7.1 hr;exact(hc a ha).2.1
  .rw[n7];exact h0
 have e1:gC (jT (gs.map dz))=0:=by
  rw[c1];refine MM (λr hr=> ?_) (by simpa using hn) ?_
  .obtain⟨a,ha,rfl⟩:=j7.1 hr;exact(hc a ha).2.2.1
  .rw[n7];exact h1
 simp_all[jE,b9]
theorem cO9{W:Tb.Wd}{evs:List dG}{m:List Val}(h:TOK W evs m){ks:List UInt8}{a b v:Int}(hv:cP v)(hn:evs.length<=1000000)(hs:cP (Tb.sumI (Tb.vals evs ks a b)+v)):lh m (.vs ks) (.vi v) (.vl [.vi a,.vi b])=0:=by
 have hp:Z6 (fY (.vs ks) (.vl [.vi a,.vi b]))=⟨ks,a,b⟩:=rfl;unfold lh qv;cases hl:lk m ks a b with
 |none=>
  obtain⟨_,hc⟩:=Nu (m:=m) (p:=fY (.vs ks) (.vl [.vi a,.vi b])) (by exact hl);have hC:jC (pR (.vi 0) (.vi 0) (.vi 0) (.vi 0) (.vi v))=[.vl [.vi 1]]:=rfl;have hT:jT (pR (.vi 0) (.vi 0) (.vi 0) (.vi 0) (.vi v))=[.vl [.vi v]]:=rfl;have e0:gC [.vl [.vi 1]]=0:=MM (λr hr=>by rw[n5.1 hr];exact Ac) (by simp) Ac;have e1:gC [.vl [.vi v]]=0:=MM (λr hr=>by rw[n5.1 hr];exact hv) (by simp) (by show cP (v+0);rw[K9];exact hv);simp_all[jE,b9]
 |some c=>
  obtain⟨q1,q2,q3,_⟩:=h.pos hl;obtain⟨r,hr,_,hA,_,hc⟩:=Aw (m:=m) (p:=fY (.vs ks) (.vl [.vi a,.vi b])) (a:=c) (by exact hl);obtain⟨k',x,y,A,rfl,_,_⟩:=h.nrm r hr;have hA:A=c:=hA;subst hA;rw[hc,hc,hc,hc];have e:pR (Z7 (hZ k' x y A) 3) (Z7 (hZ k' x y A) 4) (Z7 (hZ k' x y A) 5) (Z7 (hZ k' x y A) 6) (.vi v)=([A,Tb.agOf [v]]:List Tb.Ag).map dz:=by
   rw[l9,l9,O3,pz];rfl
  rw[e];have hcnt:A.1<=evs.length:=by
   rw[q3];show((Tb.vals evs ks a b).length:Int)<=_;grind[My]
  refine Xy (λz hz=> ?_) (by simp) ?_ ?_
  .rcases m8.1 hz with rfl|hz
   .grind
   .rw[n5.1 hz,pz];exact⟨x5 _,Ac,hv,hv,hv⟩
  .show cP (A.1+(1+0));grind[cP]
  .rw[pz];show cP (A.2.1+(v+0));rw[K9,q3];exact hs
section
variable{k s l g:Int}{m:List Val}{ek:Int}{ks:List UInt8}{t v:Int}
theorem cP0(h3:k≠3)(hR:cV k s l g=true){evs:List dG}(hT:TOK (eH k s l g) evs m)(hn:evs.length<=24)(hv:cP v)(h0:dH ek ks t v=0)(h1:ek=1)(hf:sb (eH k s l g) (evs++[(ks,t,v)])):
 dC (cL k s l g m ek ks t v)=0:=by
 have hw:eH k s l g= .win (kZ (dT k s l) s):=b9 h3;have ht:=(tL h0 h1).2;obtain⟨p1,p2,p3⟩:=IC hR h3 ht;rw[oT,b9 (λc=>c h0),b9 (λc=>c h1),b9 h3];generalize dw k s l g (.vi t)=S at p1 p2 p3⊢;have hz: ∀i,i<S.length->lh m (.vs ks) (.vi v) (cg S i)=0:=λi hi=>by
  have hm:=iN hi;have e:=p3 _ hm;have hp:=(p2 (Z9 (cg S i)).1 (Z9 (cg S i)).2).1 (j7.2 ⟨_,hm,rfl⟩);rw[e];generalize (Z9 (cg S i)).1=a at hp⊢;generalize (Z9 (cg S i)).2=b at hp⊢;refine cO9 hT hv (by omega) ?_;have hpan:Tb.Pan (eH k s l g) (evs++[(ks,t,v)]) ks a b:=by
   rw[hw];exact⟨hp.1,t,(Tb.tms_app ..).2 (.inr ⟨rfl,rfl⟩),hp.2⟩
  have:=hf ks a b hpan;have hin:Tb.inP ks a b (ks,t,v)=true:=Tb.inP_iff.2 ⟨rfl,hp.2⟩;rw[Tb.vals_app,e8 hin,Tb.sumI_app]at this;have e2:Tb.sumI [((ks,t,v):dG).2.2]=v:=K9 v;rw[e2]at this;exact this
 simp_all[lE,b9,O6,e8]
end
end Go.Ev.S9
namespace Go.Ev.S9
open Go Go.Ev
variable{evs:List dG}
section
variable{k s l g:Int}{m:List Val}{ek:Int}{ks:List UInt8}{t v:Int}
theorem cP1(hg1:1<=g)(hg2:g<=1048576)(hT:TOK (.ses g) evs m)(hev:fT evs)(hv:cP v)(ht:eU t=true):
 lN m (jI (.vi g) m (.vs ks) (.vi t)) (.vi v)=(Tb.agOf [v]::(Tb.joinedOf g t ((dv m (.vs ks)).map Z9)).map λp=>(lk m ks p.1 p.2).getD (0,0,0,0)).map dz/\
 ∀a∈(Tb.agOf [v]::(Tb.joinedOf g t ((dv m (.vs ks)).map Z9)).map λp=>(lk m ks p.1 p.2).getD (0,0,0,0)),1<=a.1/\kJ a:=by
 have hio:=cX2 hT hev ht hg1 hg2 ks;obtain⟨s1,s2,s3⟩:=Me hT ks;have hown:=YU ht hg1 hg2;have hjn:lG (.vi g) m (.vs ks) (.vi t)=(Tb.joinedOf g t ((dv m (.vs ks)).map Z9)).map λp=>Val.vl [.vi p.1,.vi p.2]:=by
  unfold lG;rw[a09,a09,hio,cond_true];unfold rB;rw[a09,a09,hown,a09,<-cv1,TB,n7,n7];refine s9 λr hr=> ?_
  have e:=s3 r (l6.1 hr).1;have e2:(Z7 r 0)= .vi (Z9 r).1:=by rw[e];rfl
  have e3:(Z7 r 1)= .vi (Z9 r).2:=by rw[e];rfl
  show Val.vl [Z7 r 0,Z7 r 1]=Val.vl [.vi (Z9 r).1,.vi (Z9 r).2];grind
 have hpn:jI (.vi g) m (.vs ks) (.vi t)=(Tb.joinedOf g t ((dv m (.vs ks)).map Z9)).map (pr ks):=by
  unfold jI;rw[hjn,n7];rfl
 have hjm: ∀p∈Tb.joinedOf g t ((dv m (.vs ks)).map Z9),∃c,lk m ks p.1 p.2=some c:=λp hp=>by
  have h1:=(l6.1 hp).1;cases hl:lk m ks p.1 p.2 with
  |some c=>grind
  |none=>grind
 refine⟨?_,λa ha=> ?_⟩
 .rw[hpn];unfold lN;rw[l9,n7,n7,pz];refine congrArg (List.cons _) (s9 λp hp=> ?_);obtain⟨c,hc⟩:=hjm p hp;show lR m (pr ks p)=dz ((lk m ks p.1 p.2).getD (0,0,0,0));rw[hc];obtain⟨r,hr,_,hA,_,hcol⟩:=Aw (m:=m) (p:=eP (pr ks p)) (a:=c) hc;obtain⟨k',x,y,A,rfl,_,_⟩:=hT.nrm r hr;subst hA;unfold lR qa;rw[hcol,hcol,hcol,hcol];rfl
 .rcases m8.1 ha with rfl|ha
  .rw[pz];exact⟨x5 _,Ac,hv,hv,hv⟩
  .obtain⟨p,hp,rfl⟩:=j7.1 ha;obtain⟨c,hc⟩:=hjm p hp;simp_all;exact⟨(hT.pos hc).1,(hT.pos hc).2.1⟩
open Classical in
theorem cP2(h3:k=3)(hR:cV k s l g=true)(hT:TOK (eH k s l g) evs m)(hm:m.length<=400)(hev:fT evs)(hn:evs.length<=24)(hv:cP v)(h0:dH ek ks t v=0)(h1:ek=1)(hf:sb (eH k s l g) (evs++[(ks,t,v)])):
 dC (cL k s l g m ek ks t v)=0:=by
 have hw:eH k s l g= .ses g:=e8 h3;rw[hw]at hT hf;have ht:=(tL h0 h1).2;obtain⟨hg1,hg2⟩:=Cq hR h3;obtain⟨hb,hc⟩:=cP1 (ks:=ks) hg1 hg2 hT hev hv ht;obtain⟨s1,s2,s3⟩:=Me hT ks;have hJl:(Tb.joinedOf g t ((dv m (.vs ks)).map Z9)).length<=400:=by
  have h1:=J9 (λp:Int×Int=>Tb.lapB p.1 p.2 t (t+g)) ((dv m (.vs ks)).map Z9);rw[k6,(Tz m ks).length_eq]at h1;exact m7 h1 (m7 (EA m ks) hm)
 rw[oT,b9 (λc=>c h0),b9 (λc=>c h1),e8 h3];unfold tn;rw[hb];obtain⟨M',hM'⟩: ∃M':List UInt8->Int->Int->Option Tb.Ag,M'=λk' a b=>if k'=ks/\(a,b)=Tb.nowOf t (t+g) (Tb.joinedOf g t ((dv m (.vs ks)).map Z9))then some (Tb.agAll (Tb.agOf [v]::(Tb.joinedOf g t ((dv m (.vs ks)).map Z9)).map λp=>(lk m ks p.1 p.2).getD (0,0,0,0)))
  else if k'=ks/\(a,b)∈Tb.joinedOf g t ((dv m (.vs ks)).map Z9)then none else lk m k' a b:=⟨_,rfl⟩
 have htab:=Tb.tab_ses (g:=g) (by omega) (M':=M') ((ks,t,v):dG) hT.tab s2 s1 (λa b h=>by
  grind) (λa b hne hin=>by
  grind) (λk' a b h=>by
  grind)
 have hN:=(htab ks (Tb.nowOf t (t+g) (Tb.joinedOf g t ((dv m (.vs ks)).map Z9))).1 (Tb.nowOf t (t+g) (Tb.joinedOf g t ((dv m (.vs ks)).map Z9))).2 _).1 (by rw[hM'];exact e8 ⟨rfl,rfl⟩);generalize Tb.nowOf t (t+g) (Tb.joinedOf g t ((dv m (.vs ks)).map Z9))=N at hN;generalize hgs:(Tb.agOf [v]::(Tb.joinedOf g t ((dv m (.vs ks)).map Z9)).map λp=>(lk m ks p.1 p.2).getD (0,0,0,0))=gs at hc hN⊢;obtain⟨hpan,hag⟩:=hN;have hfit:=hf ks N.1 N.2 hpan;obtain⟨q1,q2⟩:=Pa (gs:=gs);have hl:=My (evs++[(ks,t,v)]) ks N.1 N.2;refine Xy hc (by grind) ?_ ?_
 .rw[<-q1,hag];show cP ((Tb.vals (evs++[(ks,t,v)]) ks N.1 N.2).length:Int);grind[cP]
 .rw[<-q2,hag];exact hfit
theorem cP3{X:Nat->List Val->Val}(hX:XOk X)(hR:cV k s l g=true)(hT:TOK (eH k s l g) evs m)(hev:fT evs)(hn:evs.length<=24)(hv:cP v)(h0:dH ek ks t v=0)(h1:ek=1):
 dC (cL k s l g m ek ks t v)=0↔sb (eH k s l g) (evs++[(ks,t,v)]):=by
 have hm:=(uV hR hT hev hn).2.2.1;constructor
 .intro h;obtain⟨R,m',a1,a2,a3,a4,a5,a6,a7⟩:=Bs hX hR hT hm hev hv h;intro key a b hp;have:=(a5.tab key a b _).2 ⟨hp,rfl⟩;exact(a5.pos this).2.1.2.1
 grind[cP2,cP0]
end
end Go.Ev.S9
namespace Go.Ev.S9
open Go Go.Ev
theorem cP4(L:List Val)(mark:Int)(hL: ∀r∈L,cQ r=r):tp L mark=L.filter (fj mark):=by
 have h:=Cv (λr=>bif fj mark r then [cQ r]else []) L;unfold tp;rw[show dB5 L mark=λi=>(λr=>bif fj mark r then [cQ r]else []) (cg L i)from rfl,h,Dm (fj mark) cQ L];exact(s9 (g:=id) λr hr=>hL r (l6.1 hr).1).trans (G5 _)
theorem cP5{k s w g:Int}{evs:List dG}{m:List Val}(hT:TOK (eH k s w g) evs m):sb (eH k s w g) evs:=λkey a b hp=>(hT.pos ((hT.tab key a b _).2 ⟨hp,rfl⟩)).2.1.2.1
section
variable{X:Nat->List Val->Val}{k s w g:Int}{l:List Val}(hX:XOk X)(hR:cV k s w g=true)(hn:l.length<=24)(ho: ∀r∈l,nL r=true)
include hX hR hn ho
end
end Go.Ev.S9
namespace Go.Ev.S9
open Go Go.Ev
def pB:Val->Bool
 | .vl [.vi e,.vs k,.vi t,.vi v]=>decide (e=1)&&(decide (dH 1 k t v=0)&&(decide (-9223372036854775808<=v)&&decide (v<9223372036854775808)))
 |_=>false
def ed0(a:List Val):Val:= .vb (cV (ce a 0).toI (ce a 1).toI (ce a 2).toI (ce a 3).toI&&(decide ((ce a 4).toL.length<=24)&&(ce a 4).toL.all pB))
noncomputable def FE(X:Nat->List Val->Val):Nat->List Val->Val:=λi a=>match i with
 |726=>NZ X a
 |763=>Wf a
 |764=>Zt a
 |810=>IL a
 |811=>Vv a
 |812=>Lh a
 |813=>Ma a
 |820=>BU a
 |824=>NF a
 |825=>Vr a
 |826=>EX a
 |827=>wT a
 |828=>oL X a
 |829=>Hf a
 |830=>e73 a
 |831=>WY a
 |832=>VQ a
 |833=>eb8 X a
 |834=>eb7 a
 |835=>ec5 a
 |836=>ec4 X a
 |837=>ec3 X a
 |838=>ec6 a
 |839=>ec7 a
 |840=>ed0 a
 |842=> .vi (sR (ce a 0).toL)
 |843=> .vi (sE (ce a 0).toL)
 |850=>ZX a
 |851=>Xh a
 |852=>EI fJ (ce a 4).toL (ce a 7).toL
 |853=>e61 a
 |854=>e63 a
 |855=>e65 a
 |856=>JP a
 |857=>CM a
 |858=>tK a
 |859=>pC a
 |860=>e62 a
 |861=>e66 a
 |862=>Zi a
 |863=>e68 a
 |864=>Ym a
 |865=>e69 a
 |866=>Ty a
 |867=>BC a
 |868=>e57 a
 |869=>eb6 a
 |870=>eb2 a
 |871=>eb4 a
 |872=>ec0 X a
 |873=>eb3 a
 |874=>mP (cB (λi=>[cQ (cg (ce a 5).toL i)]) (ce a 5).toL.length) (ce a 5).toL.length
 |875=>ec9 a
 |_=>X i a
section
variable{X Y:Nat->List Val->Val}(h: ∀a,X 490 a=Y 490 a)
include h
theorem cY9(w:List Val):eS X w=eS Y w:=by grind[eS]
theorem cZ0(w:List Val):eQ X w=eQ Y w:=by grind[eQ,cY9]
end
end Go.Ev.S9
