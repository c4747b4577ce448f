import Derived.Test.YtipefnncbnbliaaGreatEP11
set_option linter.unusedSimpArgs false
set_option linter.unusedVariables false
namespace Go.Ev.S9
open Go Go.Ev
noncomputable def Cv(X:Nat->List Val->Val)(a b c d:Val)(l:List Val):Nat->Val
 |0=> .vl []
 |i+1=>if ci (bW l i) 0=2 then Cv X a b c d l i else fN X (iO a b c d (Cv X a b c d l i) (bW l i))
noncomputable def PY(X:Nat->List Val->Val)(a b c d:Val)(l:List Val)(i:Nat):Int:=if MM l i≠0 then MM l i else if ci (bW l i) 0=2 then 0 else dD (iO a b c d (Cv X a b c d l i) (bW l i))
noncomputable def Sg(X:Nat->List Val->Val)(a b c d:Val)(l:List Val):Option Nat:=(List.range l.length).find? λi=>decide (PY X a b c d l i≠0)
noncomputable def ed0(X:Nat->List Val->Val)(a b c d:Val)(l:List Val):Nat×List Val:=match Sg X a b c d l with
 |some i=>(1,[.vi (PY X a b c d l i),ES l i,.vi i,Cv X a b c d l i])
 |none=>(0,[.vi 0,ES l l.length,.vi l.length,Cv X a b c d l l.length])
noncomputable def ed1(X:Nat->List Val->Val)(a:List Val):Val:=cr (ed0 X (bV a 4) (bV a 5) (bV a 6) (bV a 7) (bV a 11).toL)
noncomputable def ed2(X:Nat->List Val->Val)(a b c d:Val)(l:List Val):Int:=if cT a.toI b.toI c.toI d.toI=true then(match Sg X a b c d l with|some i=>PY X a b c d l i|none=>0)else 2
noncomputable def ed3(X:Nat->List Val->Val)(a b c d:Val)(l:List Val):Val:=if cT a.toI b.toI c.toI d.toI=true then(match Sg X a b c d l with|some _=> .vl []|none=>JP X [Cv X a b c d l l.length,ES l l.length])else .vl []
noncomputable def ed4(X:Nat->List Val->Val)(a:List Val):Val:= .vi (ed2 X (bV a 0) (bV a 1) (bV a 2) (bV a 3) (bV a 4).toL)
noncomputable def ed5(X:Nat->List Val->Val)(a:List Val):Val:=ed3 X (bV a 0) (bV a 1) (bV a 2) (bV a 3) (bV a 4).toL
section
variable{X:Nat->List Val->Val}{k s w g:Int}{l:List Val}
variable{I:Opq}(hf: ∀i a,I.f i a=FT X i a)
include hf
end
end Go.Ev.S9
namespace Go.Ev.S9
open Go Go.Ev
section
variable{X:Nat->List Val->Val}{k s w g:Int}{l:List Val}{I:Opq}(hf: ∀i a,I.f i a=FT X i a)
include hf
end
end Go.Ev.S9
namespace Go.Ev.S9
open Go Go.Ev
variable{l:List Val}
def ed6(a:List Val):Val:= .vl (Vk (bV a 0).toL)
def ed7(a:List Val):Val:= .vb (isVi (bV a 0)&&(isVi (bV a 1)&&(isVi (bV a 2)&&(isVi (bV a 3)&&(opsOk (bV a 4)&&decide ((bV a 4).toL.length<=24))))))
def ed8(a:List Val):Val:= .vb (isVi (bV a 0)&&(isVi (bV a 1)&&(isVi (bV a 2)&&(isVi (bV a 3)&&opsOk (bV a 4)))))
def dZ2(l:List Val)(i:Nat):Bool:=decide (50<(Z7 (bW l i) 1).toS.length)
def ed9(l:List Val):Nat×List Val:=gv (.vb false) (λk=>[.vb true,.vi k]) (dZ2 l) l.length
def ee0(a:List Val):Val:=cr (ed9 (bV a 4).toL)
section
variable{I:Opq}
end
end Go.Ev.S9
namespace Go.Ev.S9
open Go Go.Ev
theorem AF(g:Val->List Val)(l:List Val):cn (λi=>g (bW l i)) l.length=l.flatMap g:=by
 have: ∀n,n<=l.length->cn (λi=>g (bW l i)) n=(l.take n).flatMap g:=λn=>by
  induction n with
  |zero=>intro _;rfl
  |succ n ih=>
   intro h;show cn (λi=>g (bW l i)) n++g (bW l n)=_;rw[ih (by omega),Kb (by omega),N8];simp
 grind
theorem AR{α:Type}(p:α->Bool)(f:α->Val): ∀l:List α,l.flatMap (λr=>bif p r then [f r]else [])=(l.filter p).map f
 | []=>rfl
 |a::l=>by
  rw[C0,AR p f l];grind
def iV(v:Int):Val:= .vl [.vi v]
theorem cB9(evs:List dy)(key:List UInt8):kX (evs.map cD) key=(evs.filter λx=>decide (x.1=key)).map λx=>iV x.2.1:=by
 have h:=AF (λr=>bif decide ((Z7 r 1).toS=key)then [.vl [Z7 r 2]]else []) (evs.map cD);unfold kX;rw[show JU (evs.map cD) key=λi=>(λr=>bif decide ((Z7 r 1).toS=key)then [Val.vl [Z7 r 2]]else []) (bW (evs.map cD) i)from rfl,h,K8];exact AR (λx:dy=>decide (x.1=key)) (λx=>iV x.2.1) evs
theorem dH2(evs:List dy)(key:List UInt8)(a b:Int):iB (evs.map cD) key a b=(Tb.vals evs key a b).map iV:=by
 have h:=AF (λr=>bif decide ((Z7 r 1).toS=key)&&(decide (a<=ci r 2)&&decide (ci r 2<b))then [.vl [Z7 r 3]]else []) (evs.map cD);unfold iB Tb.vals;rw[show(λq=>bif qZ (evs.map cD) key a b q then [Val.vl [Z7 (bW (evs.map cD) q) 3]]else [])=λi=>(λr=>bif decide ((Z7 r 1).toS=key)&&(decide (a<=ci r 2)&&decide (ci r 2<b))then [Val.vl [Z7 r 3]]else []) (bW (evs.map cD) i)from rfl,h,K8,o7];have e:(λx:dy=>(λr=>bif decide ((Z7 r 1).toS=key)&&(decide (a<=ci r 2)&&decide (ci r 2<b))then [Val.vl [Z7 r 3]]else []) (cD x))=λx=>bif Tb.inP key a b x then [iV x.2.2]else []:=by
  funext x;show(bif decide (x.1=key)&&(decide (a<=x.2.1)&&decide (x.2.1<b))then [iV x.2.2]else [])=_;unfold Tb.inP;rw[Bool.and_assoc]
 grind[AR,Tb.inP,iV]
theorem cC0{l:List Int}(h:l≠[])(x:Int):Tb.minI (l++[x])=min (Tb.minI l) x:=by
 match l,h with
 |a::l,_=>show(l++[x]).foldl min a=min (l.foldl min a) x;grind
theorem cC1{l:List Int}(h:l≠[])(x:Int):Tb.maxI (l++[x])=max (Tb.maxI l) x:=by
 match l,h with
 |a::l,_=>show(l++[x]).foldl max a=max (l.foldl max a) x;grind
theorem dm4(x y:Int):(if x<y then Val.vi x else .vi y)= .vi (min y x):=by
 grind
theorem dm5(x y:Int):(if y<x then Val.vi x else .vi y)= .vi (max y x):=by
 grind
theorem d54(vs:List Int): ∀k,k+1<=vs.length->ff (vs.map iV) (k+1)=(.vi (Tb.minI (vs.take (k+1))),.vi (Tb.maxI (vs.take (k+1))))
 |0,h=>by
  match vs,h with
  |a::l,_=>rfl
 |k+1,h=>by
  have ih:=d54 vs k (by omega);have hx:Z7 (bW (vs.map iV) (k+1)) 0= .vi vs[k+1]:=by
   rw[nU (by rw[l5];omega),P7];rfl
  have ht:vs.take (k+1+1)=vs.take (k+1)++[vs[k+1]]:=by rw[P4]
  have hne:vs.take (k+1)≠[]:=λe=>by
   have:=congrArg List.length e;rw[k8,List.length_nil]at this;omega
  rw[ht,cC0 hne,cC1 hne];show(if k+1=0 then _ else _)=_;simp_all[b9,N0,ci,Tb.minI,Tb.maxI,dm4,dm5]
theorem dZ3{vs:List Int}(hne:vs≠[])(hv: ∀v∈vs,cH v)(hn:vs.length<=100):(sE (vs.map iV)=0↔cH (Tb.sumI vs))/\(sE (vs.map iV)=0->aA (vs.map iV)=[.vi (Tb.agOf vs).1,.vi (Tb.agOf vs).2.1,.vi (Tb.agOf vs).2.2.1,.vi (Tb.agOf vs).2.2.2]):=by
 have hs:=dX0 (l:=vs.map iV) (λr hr=>by
  obtain⟨v,hv',rfl⟩:=j8.1 hr;exact hv v hv') (by grind)
 rw[Ph]at hs;have hm:(vs.map iV).map (λr=>ci r 0)=vs:=by
  rw[o7];exact(y7 (g:=id) λv _=>rfl).trans (G4 vs)
 rw[hm]at hs;refine⟨hs.1,λh=> ?_⟩;unfold aA;rw[b9 (λc=>c h),hs.2 h];have hl:0<vs.length:=P5.2 hne;obtain⟨k,hk⟩: ∃k,vs.length=k+1:=⟨vs.length-1,by omega⟩;rw[l5,hk,d54 vs k (by omega),<-hk,A1];rfl
def EW(key r:Val):PaneM:=⟨key.toS,ci r 0,ci r 1⟩
def tV(ev:List Val)(key r:Val):List Val:=iB ev key.toS (ci r 0) (ci r 1)
theorem Xi(ev:List Val)(key r:Val):Z2 (re ev key r)=EW key r:=rfl
theorem XS{M:List Val}{key r:Val}:nV M key r=true↔ ∃x∈M,Z2 x=EW key r:=by
 unfold nV;simp;rfl
section
variable{ev:List Val}{key:Val}{R M0:List Val}
theorem VA: ∀j,∀x∈M0,x∈eQ ev key R M0 j
 |0,x,h=>h
 |j+1,x,h=>I1 _ (VA j x h)
theorem c19: ∀j,∀x∈eQ ev key R M0 j,x∈M0\/ ∃q,q<j/\x=re ev key (bW R q)/\nV (eQ ev key R M0 q) key (bW R q)=false
 |0,x,h=> .inl h
 |j+1,x,h=>by
  rcases x8.1 h with h|h
  .rcases c19 j x h with h|⟨q,h1,h2⟩
   .exact .inl h
   grind
  .unfold ue at h;grind
theorem XG: ∀j q,q<j-> ∃x∈eQ ev key R M0 j,Z2 x=EW key (bW R q)
 |0,q,h=>absurd h (J1 _)
 |j+1,q,h=>by
  by_cases c:q<j
  .obtain⟨x,h1,h2⟩:=XG j q c;exact⟨x,I1 _ h1,h2⟩
  .have:q=j:=by omega
   subst this;cases hh:nV (eQ ev key R M0 q) key (bW R q)with
   |true=>
    obtain⟨x,h1,h2⟩:=XS.1 hh;exact⟨x,I1 _ h1,h2⟩
   |false=>
    refine⟨re ev key (bW R q),R2 _ ?_,Xi ..⟩;unfold ue;rw[hh];exact List.mem_singleton.2 rfl
theorem Zc(h0:(M0.map Z2).Nodup): ∀j,((eQ ev key R M0 j).map Z2).Nodup
 |0=>h0
 |j+1=>by
  have ih:=Zc h0 j;show((eQ ev key R M0 j++ue ev key (eQ ev key R M0 j) (bW R j)).map Z2).Nodup;unfold ue;cases hh:nV (eQ ev key R M0 j) key (bW R j)with
  |true=>grind
  |false=>
   rw[cond_false,u9,R7];refine⟨ih,by simp,λa ha b hb he=> ?_⟩;obtain⟨x,hx,rfl⟩:=j8.1 ha;rw[m8,O4,n9]at hb;have:nV (eQ ev key R M0 j) key (bW R j)=true:=XS.2 ⟨x,hx,by rw[he,hb];rfl⟩;grind
end
section
variable{k s w g:Int}{ev:List Val}
theorem PW: ∀i,∀x∈ef k s w g ev i,∃i',i'<i/\ ∃q,q<(eo k s w g ev i').length/\x=re ev (fK ev i') (bW (eo k s w g ev i') q)/\nV (eQ ev (fK ev i') (eo k s w g ev i') (ef k s w g ev i') q) (fK ev i') (bW (eo k s w g ev i') q)=false
 |0,x,h=>(by cases h)
 |i+1,x,h=>by
  rcases c19 _ x h with h|⟨q,h1,h2,h3⟩
  .obtain⟨i',a,b⟩:=PW i x h;exact⟨i',by omega,b⟩
  grind
theorem SN: ∀i i' q,i'<i->q<(eo k s w g ev i').length-> ∃x∈ef k s w g ev i,Z2 x=EW (fK ev i') (bW (eo k s w g ev i') q)
 |0,i',q,h,_=>absurd h (J1 _)
 |i+1,i',q,h,hq=>by
  by_cases c:i'<i
  .obtain⟨x,h1,h2⟩:=SN i i' q c hq;exact⟨x,VA _ x h1,h2⟩
  .have:i'=i:=by omega
   subst this;exact XG _ q hq
theorem d56: ∀i,((ef k s w g ev i).map Z2).Nodup
 |0=>List.nodup_nil
 |i+1=>Zc (d56 i) _
theorem cC4(h:fB k s w g ev=true){i q:Nat}(hi:i<ev.length)(hq:q<(eo k s w g ev i).length):oZ ev (fK ev i) (eo k s w g ev i) (ef k s w g ev i) q=false:=by
 simp_all[fB,W3,A6,o8,rC]
theorem XW:fB k s w g ev=true↔ ∀i q,i<ev.length->q<(eo k s w g ev i).length->sE (tV ev (fK ev i) (bW (eo k s w g ev i) q))=0:=by
 constructor
 .intro h i q hi hq;obtain⟨x,h1,h2⟩:=SN ev.length i q hi hq;obtain⟨i',a,q',b,c,d⟩:=PW _ x h1;have hb:=cC4 h a b;unfold oZ at hb;rw[d]at hb;have h0:sE (tV ev (fK ev i') (bW (eo k s w g ev i') q'))=0:=by
   unfold tV;simpa using hb
  rw[c,Xi]at h2;unfold EW at h2;rw[PaneM.mk.injEq]at h2;obtain⟨e1,e2,e3⟩:=h2;unfold tV at h0⊢;rw[<-e1,<-e2,<-e3];exact h0
 .intro h;unfold fB;rw[W3];refine A6.2 λi hi=> ?_
  have h2:rC k s w g ev i=none:=by
   refine A6.2 λq hq=> ?_
   have:=h i q (o8.1 hi) (o8.1 hq);unfold tV at this;unfold oZ;rw[this];simp
  rw[h2];simp
theorem dH4(h:fB k s w g ev=true){x:Val}(hx:x∈ef k s w g ev ev.length): ∃i q,i<ev.length/\q<(eo k s w g ev i).length/\x=re ev (fK ev i) (bW (eo k s w g ev i) q)/\sE (tV ev (fK ev i) (bW (eo k s w g ev i) q))=0:=by
 grind[PW,XW]
end
end Go.Ev.S9
namespace Go.Ev.S9
open Go Go.Ev
theorem dm6{k s w g:Int}(hR:cT k s w g=true)(h3:k≠3){evs:List dy}(hev:gA evs)(key:List UInt8)(r:Val):
 r∈mP k s w g (evs.map cD) key↔ ∃a b,r= .vl [.vi a,.vi b]/\Tb.Pan (ei k s w g) evs key a b:=by
 have hw:ei k s w g= .win (kz (dz k s w) s):=b9 h3;have e:mP k s w g (evs.map cD) key=(evs.filter λx=>decide (x.1=key)).flatMap λx=>cX k s w g (.vi x.2.1):=by
  unfold mP wx;rw[b9 h3,AF (λr=>cX k s w g (Z7 r 0)),cB9,K8];rfl
 rw[e,hw,C1];constructor
 .rintro⟨x,hx,hr⟩;rw[l7,decide_eq_true_eq]at hx;obtain⟨p1,p2,p3⟩:=GZ hR h3 (hev x hx.1).1;have:=p3 r hr;refine⟨_,_,this,?_⟩;have hm:=(p2 (Z4 r).1 (Z4 r).2).1 (j8.2 ⟨r,hr,rfl⟩);exact⟨hm.1,x.2.1,⟨x,hx.1,hx.2,rfl⟩,hm.2⟩
 .rintro⟨a,b,rfl,h1,t,⟨x,hx,hk,ht⟩,h2⟩;obtain⟨p1,p2,p3⟩:=GZ hR h3 (hev x hx).1;grind
def Bi(g:Int)(T:Int->Prop)(l:List Val):Prop:=(∀r∈l,∃a b,r= .vl [.vi a,.vi b]/\Tb.isR g T a b)/\ ∀t,T t-> ∃r∈l,ci r 0<=t/\t+g<=ci r 1
theorem Tz{l:List Val}{i j:Nat}(r:Val): ∀n,r∈cn (iP l i j) n↔ ∃k,k<n/\k≠i/\k≠j/\r=dV (bW l k)
 |0=>⟨λh=>(by cases h),λ⟨k,h,_⟩=>absurd h (J1 _)⟩
 |n+1=>by
  show r∈cn (iP l i j) n++iP l i j n↔_;rw[x8,Tz r n];unfold iP;grind
theorem cb5{g:Int}{T:Int->Prop}{l:List Val}(h:Bi g T l){i j:Nat}(hij:i<j)(hj:j<l.length)(hl:sr l i j=true):Bi g T (eB l i j):=by
 obtain⟨h1,h2⟩:=h;have hi:i<l.length:=by omega
 obtain⟨a,b,e1,r1⟩:=h1 _ (kl hi);obtain⟨a',b',e2,r2⟩:=h1 _ (kl hj);have hlap:Tb.lap a b a' b':=by
  unfold sr at hl;rw[e1,e2]at hl;obtain⟨q1,q2⟩:=W5 hl;exact⟨j6 q1,j6 q2⟩
 have hH:mv l i j= .vl [.vi (min a a'),.vi (max b b')]:=by unfold mv;rw[e1,e2];rfl
 refine⟨λr hr=> ?_,λt ht=> ?_⟩
 .rcases x8.1 hr with hr|hr
  .rw[n9]at hr;exact⟨_,_,hr.trans hH,r1.join r2 hlap⟩
  .obtain⟨k,k1,_,_,k4⟩:=(Tz r _).1 hr;obtain⟨x,y,e,hx⟩:=h1 _ (kl k1);exact⟨x,y,by rw[k4,e];rfl,hx⟩
 .obtain⟨r,hr,c1,c2⟩:=h2 t ht;obtain⟨k,hk,rfl⟩:=B0 hr;rw[<-nU hk]at c1 c2;by_cases ki:k=i
  .subst ki;refine⟨mv l k j,I1 _ (n9.2 rfl),?_⟩;rw[e1]at c1 c2;rw[hH];have c1:a<=t:=c1;have c2:t+g<=b:=c2;show min a a'<=t/\t+g<=max b b';omega
  .by_cases kj:k=j
   .subst kj;refine⟨mv l i k,I1 _ (n9.2 rfl),?_⟩;rw[e2]at c1 c2;rw[hH];have c1:a'<=t:=c1;have c2:t+g<=b':=c2;show min a a'<=t/\t+g<=max b b';omega
   .refine⟨dV (bW l k),R2 _ ((Tz _ _).2 ⟨k,hk,ki,kj,rfl⟩),?_⟩;exact⟨c1,c2⟩
theorem YZ{g:Int}{T:Int->Prop}: ∀(f:Nat) (l:List Val),l.length<=f->Bi g T l->Bi g T (nX f l)/\nC (nX f l)=none
 |0,l,hf,h=>by
  have:l=[]:=B7 (by omega);subst this;exact⟨h,rfl⟩
 |f+1,l,hf,h=>by
  unfold nX;cases hj:nC l with
  |none=>grind
  |some i=>
   obtain⟨j,h1,h2,h3,h4⟩:=KV hj;have hl:(eB l i j).length+1=l.length:=Rs h2 h3;show Bi g T (nX f (eB l i ((gD l i).getD 0)))/\nC (nX f (eB l i ((gD l i).getD 0)))=none;rw[h1];exact YZ f _ (by grind) (cb5 h h2 h3 h4)
variable{evs:List dy}
theorem cb6{g:Int}(g0:1<=g)(g1:g<=1048576)(hev:gA evs)(key:List UInt8):Bi g (Tb.tms evs key) (fG g (kX (evs.map cD) key))/\((List.range (kX (evs.map cD) key).length).find? (sV (kX (evs.map cD) key)))=none:=by
 have hU:=cB9 evs key;generalize kX (evs.map cD) key=U at hU⊢;have hm: ∀r∈U,∃t,r=iV t/\Tb.tms evs key t/\ep t=true:=λr hr=>by
  rw[hU]at hr;obtain⟨x,hx,rfl⟩:=j8.1 hr;rw[l7,decide_eq_true_eq]at hx;exact⟨x.2.1,rfl,⟨x,hx.1,hx.2,rfl⟩,(hev x hx.1).1⟩
 have hs:fG g U=U.map λr=> .vl [Z7 r 0,.vi (cg .add .i64 (ci r 0) g)]:=An (λr=> .vl [Z7 r 0,.vi (cg .add .i64 (ci r 0) g)]) U
 have ht: ∀t,ep t=true->cg .add .i64 t g=t+g:=λt h=>by
  unfold ep at h;grind[gb]
 refine⟨⟨λr hr=> ?_,λt h=> ?_⟩,?_⟩
 .rw[hs]at hr;obtain⟨u,hu,rfl⟩:=j8.1 hr;obtain⟨t,rfl,h1,h2⟩:=hm u hu;refine⟨t,t+g,?_,Tb.isR.own t h1⟩;show Val.vl [.vi t,.vi (cg .add .i64 t g)]=_;grind
 .obtain⟨x,hx,hk,rfl⟩:=h;refine⟨.vl [.vi x.2.1,.vi (x.2.1+g)],?_,x5 _,x5 _⟩;rw[hs];refine j8.2 ⟨iV x.2.1,?_,?_⟩
  .grind
  .show Val.vl [.vi x.2.1,.vi (cg .add .i64 x.2.1 g)]=_;rw[ht _ (hev x hx).1]
 .refine A6.2 λi hi=> ?_
  obtain⟨t,e,h1,h2⟩:=hm _ (kl (o8.1 hi));unfold sV;rw[e];show¬(!ep t)=true;grind
theorem dm7{s w g:Int}(hR:cT 3 s w g=true)(hev:gA evs)(key:List UInt8)(r:Val):
 r∈mP 3 s w g (evs.map cD) key↔ ∃a b,r= .vl [.vi a,.vi b]/\Tb.Pan (ei 3 s w g) evs key a b:=by
 obtain⟨g0,g1⟩:=Cb hR rfl;obtain⟨hr,hl⟩:=cb6 g0 g1 hev key;unfold mP wx;rw[e8 rfl];have hok:iW g (kX (evs.map cD) key)=true:=by
  grind[iW,decide_eq_true]
 rw[hok,cond_true];generalize kX (evs.map cD) key=U at hr hl hok⊢;obtain⟨h1,h2⟩:=YZ (fG g U).length (fG g U) (i6 _) hr;have hM:nX (fG g U).length (fG g U)=ig (fG g U):=rfl;rw[hM]at h1 h2;unfold iX;generalize ig (fG g U)=M at h1 h2⊢;have hsp: ∀r∈M,dV r=r:=λr hr=>by
  obtain⟨a,b,e,_⟩:=h1.1 r hr;rw[e];rfl
 have hmem: ∀r,r∈gc M M.length↔r∈M:=λr=>by simp_all[c12,i6,A1]
 have hS:cn (λi=>[dV (bW (gc M M.length) i)]) (gc M M.length).length=(gc M M.length).map dV:=An dV _;have hr2:r∈cn (λi=>[dV (bW (gc M M.length) i)]) (gc M M.length).length↔r∈M:=by
  grind
 rw[hr2];have hlapI: ∀i j,i<M.length->j<M.length->Tb.lap (ci (bW M i) 0) (ci (bW M i) 1) (ci (bW M j) 0) (ci (bW M j) 1)->i=j:=λi j hi hj hl=>by
  rcases G5 i j with c|c|c
  .have:=c09 h2 c hj;unfold sr at this;rw[e9 hl.1,e9 hl.2]at this;cases this
  .exact c
  .have:=c09 h2 c hi;unfold sr at this;rw[e9 hl.1,e9 hl.2]at this;cases this
 have hses:Tb.Ses g (Tb.tms evs key) (M.map Z4):=by
  refine Tb.ses_runs (by omega) (λp hp=> ?_) (λt ht=> ?_) (λp hp q hq hl=> ?_)
  .obtain⟨r,hr,rfl⟩:=j8.1 hp;obtain⟨a,b,e,h⟩:=h1.1 r hr;rw[e];exact h
  .obtain⟨r,hr,c1,c2⟩:=h1.2 t ht;exact⟨Z4 r,j8.2 ⟨r,hr,rfl⟩,c1,c2⟩
  .obtain⟨r,hr,rfl⟩:=j8.1 hp;obtain⟨r',hr',rfl⟩:=j8.1 hq;obtain⟨i,hi,rfl⟩:=B0 hr;obtain⟨j,hj,rfl⟩:=B0 hr';rw[<-nU hi,<-nU hj]at hl⊢;rw[hlapI i j hi hj hl]
 constructor
 .intro h;obtain⟨a,b,e,_⟩:=h1.1 r h;refine⟨a,b,e,?_⟩;exact(hses.1 a b).1 (j8.2 ⟨r,h,by rw[e];rfl⟩)
 .rintro⟨a,b,rfl,h⟩;obtain⟨r,hr,hp⟩:=j8.1 ((hses.1 a b).2 h);obtain⟨a',b',e,_⟩:=h1.1 r hr;rw[e]at hp;have hp:(a',b')=(a,b):=hp;grind
theorem HL{k s w g:Int}(hR:cT k s w g=true)(hev:gA evs)(key:List UInt8)(r:Val):
 r∈mP k s w g (evs.map cD) key↔ ∃a b,r= .vl [.vi a,.vi b]/\Tb.Pan (ei k s w g) evs key a b:=by
 grind[dm7,dm6]
end Go.Ev.S9
namespace Go.Ev.S9
open Go Go.Ev
variable{key:List UInt8}
def kM(W:Tb.Wd)(evs:List dy):Prop:= ∀key a b,Tb.Pan W evs key a b->cH (Tb.sumI (Tb.vals evs key a b))
theorem vX{evs:List dy}{i:Nat}(h:i<evs.length):fK (evs.map cD) i= .vs evs[i].1:=by
 unfold fK;rw[nU (by grind),P7];rfl
theorem cC5{evs:List dy}(hev:gA evs)(key:List UInt8)(a b:Int): ∀v∈Tb.vals evs key a b,cH v:=λv hv=>by
 obtain⟨x,hx,rfl⟩:=j8.1 hv;exact(hev x (l7.1 hx).1).2
theorem JB(evs:List dy)(key:List UInt8)(a b:Int):(Tb.vals evs key a b).length<=evs.length:=by
 grind[Tb.vals,List.length_map,List.length_filter_le]
theorem Ta{k s w g:Int}(hR:cT k s w g=true): ∀g',ei k s w g= .ses g'->0<g':=λg' h=>by
 unfold ei at h;by_cases h3:k=3
 .rw[e8 h3,Tb.Wd.ses.injEq]at h;have:=(Cb hR h3).1;omega
 grind
theorem cC7{W:Tb.Wd}{evs:List dy}{a b:Int}(h:Tb.Pan W evs key a b): ∃i,∃h:i<evs.length,evs[i].1=key:=by
 have: ∃t,Tb.tms evs key t:=by
  cases W with
  |ses g=>exact⟨a,h.1.1⟩
  |win P=>exact⟨_,h.2.choose_spec.1⟩
 obtain⟨t,x,hx,hk,_⟩:=this;grind[List.getElem_of_mem]
section
variable{k s w g:Int}(hR:cT k s w g=true){evs:List dy}(hev:gA evs)(hn:evs.length<=24)
include hR hev hn
theorem PE{a b:Int}(hp:Tb.Pan (ei k s w g) evs key a b):(sE (tV (evs.map cD) (.vs key) (.vl [.vi a,.vi b]))=0↔cH (Tb.sumI (Tb.vals evs key a b)))/\
 (sE (tV (evs.map cD) (.vs key) (.vl [.vi a,.vi b]))=0->re (evs.map cD) (.vs key) (.vl [.vi a,.vi b])=gq key a b (Tb.agOf (Tb.vals evs key a b))):=by
 have e:tV (evs.map cD) (.vs key) (.vl [.vi a,.vi b])=(Tb.vals evs key a b).map iV:=dH2 evs key a b;have e2:iB (evs.map cD) (Val.vs key).toS (ci (.vl [.vi a,.vi b]) 0) (ci (.vl [.vi a,.vi b]) 1)=(Tb.vals evs key a b).map iV:=e;obtain⟨h1,h2⟩:=dZ3 (Tb.Pan.ne (Ta hR) hp) (cC5 hev key a b) (by grind[JB]);rw[e];refine⟨h1,λh=> ?_⟩;unfold re;rw[e2,h2 h];rfl
theorem Sc:fB k s w g (evs.map cD)=true↔kM (ei k s w g) evs:=by
 rw[XW];constructor
 .intro h key a b hp;obtain⟨i,hi,hk⟩:=cC7 hp;have hm:Val.vl [.vi a,.vi b]∈eo k s w g (evs.map cD) i:=by
   unfold eo;rw[vX hi,hk];exact(HL hR hev key _).2 ⟨a,b,rfl,hp⟩
  grind[List.getElem_of_mem,List.length_map,nU,vX,PE]
 .intro h i q hi hq;rw[l5]at hi;have hm:=kl hq;have hm2:bW (eo k s w g (evs.map cD) i) q∈mP k s w g (evs.map cD) evs[i].1:=by
   simp_all[eo,vX]
  obtain⟨a,b,e,hp⟩:=(HL hR hev _ _).1 hm2;rw[e,vX hi];exact(PE hR hev hn hp).1.2 (h _ a b hp)
theorem dm9(ho:fB k s w g (evs.map cD)=true){x:Val}(hx:x∈ef k s w g (evs.map cD) (evs.map cD).length): ∃key a b,Tb.Pan (ei k s w g) evs key a b/\x=gq key a b (Tb.agOf (Tb.vals evs key a b))/\ ∃y∈evs,y.1=key:=by
 obtain⟨i,q,hi,hq,e,hs⟩:=dH4 ho hx;rw[l5]at hi;have hm:=kl hq;have hm2:bW (eo k s w g (evs.map cD) i) q∈mP k s w g (evs.map cD) evs[i].1:=by
  unfold eo at hm⊢;rw[vX hi]at hm⊢;exact hm
 grind[HL,vX,PE,List.getElem_mem]
omit hn in
theorem dn0{a b:Int}(hp:Tb.Pan (ei k s w g) evs key a b): ∃x∈ef k s w g (evs.map cD) (evs.map cD).length,Z2 x=⟨key,a,b⟩:=by
 obtain⟨i,hi,hk⟩:=cC7 hp;have hm:Val.vl [.vi a,.vi b]∈eo k s w g (evs.map cD) i:=by
  unfold eo;rw[vX hi,hk];exact(HL hR hev key _).2 ⟨a,b,rfl,hp⟩
 obtain⟨q,hq,he⟩:=B0 hm;obtain⟨x,h1,h2⟩:=SN (k:=k) (s:=s) (w:=w) (g:=g) (ev:=evs.map cD) (evs.map cD).length i q (by grind) hq;refine⟨x,h1,?_⟩;rw[h2,nU hq,he,vX hi,hk];rfl
theorem YX(hva:BT evs)(ho:fB k s w g (evs.map cD)=true):TOK (ei k s w g) evs (ef k s w g (evs.map cD) (evs.map cD).length):=by
 have hrow:=λ{x:Val} (hx:x∈ef k s w g (evs.map cD) (evs.map cD).length)=>dm9 hR hev hn ho hx
 have hhas:=λ{key:List UInt8} {a b:Int} (hp:Tb.Pan (ei k s w g) evs key a b)=>dn0 hR hev hp
 have hfit:=(Sc hR hev hn).1 ho;have hnd:=d56 (k:=k) (s:=s) (w:=w) (g:=g) (ev:=evs.map cD) (evs.map cD).length;refine⟨λkey a b A=> ?_,hnd,λr hr=> ?_,Ta hR⟩
 .constructor
  .intro h;obtain⟨r,hr,hp,hA⟩:=vH h;obtain⟨key',a',b',h1,rfl,_⟩:=hrow hr;obtain⟨rfl,rfl,rfl⟩:=hp;exact⟨h1,hA.symm⟩
  .rintro⟨hp,rfl⟩;obtain⟨x,hx,hpx⟩:=hhas hp;obtain⟨key',a',b',h1,e,_⟩:=hrow hx;rw[e,KS,PaneM.mk.injEq]at hpx;obtain⟨rfl,rfl,rfl⟩:=hpx;have:=tH hnd hx;rw[e,KS,HI]at this;exact this
 .obtain⟨key,a,b,h1,rfl,y,hy,hk⟩:=hrow hr;refine⟨key,a,b,_,rfl,?_,?_⟩
  .have:=(xj (hva y hy) rfl).1;grind
  .have hne:=Tb.Pan.ne (Ta hR) h1;have hv:=cC5 hev key a b;have hl:=JB evs key a b;refine⟨?_,hfit key a b h1,hv _ (Tb.minI_spec hne).1,hv _ (Tb.maxI_spec hne).1⟩;show cH ((Tb.vals evs key a b).length:Int);grind[cH]
end
end Go.Ev.S9
namespace Go.Ev.S9
open Go Go.Ev
theorem Ly{L:List Val}(hL: ∀r∈L,cH (ci r 0))(hn:L.length<=1000000)(h:cH (Tb.sumI (L.map λr=>ci r 0))):fR L=0:=by
 have hg: ∀k,cH (ci (bW L k) 0):=λk=>by
  by_cases c:k<L.length
  .exact hL _ (kl c)
  .have e:bW L k= .vl []:=by simp[bW,j9,t7 (D8.1 c)]
   rw[e];exact Rn
 simp_all[bz6,Ph,fR,fZ,e8]
theorem d57{gs:List Tb.Ag}(hc: ∀a∈gs,1<=a.1/\jP a)(hn:gs.length<=1000000)(h0:cH (Tb.sumI (gs.map (·.1))))(h1:cH (Tb.sumI (gs.map (·.2.1)))):jE (gs.map cQ)=0:=by
 have c0:jC (gs.map cQ)=gs.map λa=> .vl [Z7 (cQ a) 0]:=Kz hc 0
 have c1:jT (gs.map cQ)=gs.map λa=> .vl [Z7 (cQ a) 1]:=Kz hc 1
 have e0:fR (jC (gs.map cQ))=0:=by
  rw[c0];refine Ly (λr hr=> ?_) (by simpa using hn) ?_
  .obtain⟨a,ha,rfl⟩:=j8.1 hr;exact(hc a ha).2.1
  .rw[o7];exact h0
 have e1:fR (jT (gs.map cQ))=0:=by
  rw[c1];refine Ly (λr hr=> ?_) (by simpa using hn) ?_
  .obtain⟨a,ha,rfl⟩:=j8.1 hr;exact(hc a ha).2.2.1
  .rw[o7];exact h1
 simp_all[jE,b9]
theorem cV3{W:Tb.Wd}{evs:List dy}{m:List Val}(h:TOK W evs m){ks:List UInt8}{a b v:Int}(hv:cH v)(hn:evs.length<=1000000)(hs:cH (Tb.sumI (Tb.vals evs ks a b)+v)):kf m (.vs ks) (.vi v) (.vl [.vi a,.vi b])=0:=by
 have hp:Z2 (fx (.vs ks) (.vl [.vi a,.vi b]))=⟨ks,a,b⟩:=rfl;unfold kf qx;cases hl:lk m ks a b with
 |none=>
  obtain⟨_,hc⟩:=UW (m:=m) (p:=fx (.vs ks) (.vl [.vi a,.vi b])) (by exact hl);have hC:jC (pR (.vi 0) (.vi 0) (.vi 0) (.vi 0) (.vi v))=[.vl [.vi 1]]:=rfl;have hT:jT (pR (.vi 0) (.vi 0) (.vi 0) (.vi 0) (.vi v))=[.vl [.vi v]]:=rfl;have e0:fR [.vl [.vi 1]]=0:=Ly (λr hr=>by rw[n9.1 hr];exact wW) (by simp) wW;have e1:fR [.vl [.vi v]]=0:=Ly (λr hr=>by rw[n9.1 hr];exact hv) (by simp) (by show cH (v+0);rw[M4];exact hv);simp_all[jE,b9]
 |some c=>
  obtain⟨q1,q2,q3,_⟩:=h.pos hl;obtain⟨r,hr,_,hA,_,hc⟩:=Be (m:=m) (p:=fx (.vs ks) (.vl [.vi a,.vi b])) (a:=c) (by exact hl);obtain⟨k',x,y,A,rfl,_,_⟩:=h.nrm r hr;have hA:A=c:=hA;subst hA;rw[hc,hc,hc,hc];have e:pR (Z7 (gq k' x y A) 3) (Z7 (gq k' x y A) 4) (Z7 (gq k' x y A) 5) (Z7 (gq k' x y A) 6) (.vi v)=([A,Tb.agOf [v]]:List Tb.Ag).map cQ:=by
   rw[m8,m8,O4,pa];rfl
  rw[e];have hcnt:A.1<=evs.length:=by
   rw[q3];show((Tb.vals evs ks a b).length:Int)<=_;grind[JB]
  refine d57 (λz hz=> ?_) (by simp) ?_ ?_
  .rcases n5.1 hz with rfl|hz
   .grind
   .rw[n9.1 hz,pa];exact⟨x5 _,wW,hv,hv,hv⟩
  .show cH (A.1+(1+0));grind[cH]
  .rw[pa];show cH (A.2.1+(v+0));rw[M4,q3];exact hs
section
variable{k s l g:Int}{m:List Val}{ek:Int}{ks:List UInt8}{t v:Int}
theorem cV4(h3:k≠3)(hR:cT k s l g=true){evs:List dy}(hT:TOK (ei k s l g) evs m)(hn:evs.length<=24)(hv:cH v)(h0:Z9 ek ks t v=0)(h1:ek=1)(hf:kM (ei k s l g) (evs++[(ks,t,v)])):
 dD (cG k s l g m ek ks t v)=0:=by
 have hw:ei k s l g= .win (kz (dz k s l) s):=b9 h3;have ht:=(xj h0 h1).2;obtain⟨p1,p2,p3⟩:=GZ hR h3 ht;rw[oD,b9 (λc=>c h0),b9 (λc=>c h1),b9 h3];generalize cX k s l g (.vi t)=S at p1 p2 p3⊢;have hz: ∀i,i<S.length->kf m (.vs ks) (.vi v) (bW S i)=0:=λi hi=>by
  have hm:=kl hi;have e:=p3 _ hm;have hp:=(p2 (Z4 (bW S i)).1 (Z4 (bW S i)).2).1 (j8.2 ⟨_,hm,rfl⟩);rw[e];generalize (Z4 (bW S i)).1=a at hp⊢;generalize (Z4 (bW S i)).2=b at hp⊢;refine cV3 hT hv (by omega) ?_;have hpan:Tb.Pan (ei k s l g) (evs++[(ks,t,v)]) ks a b:=by
   rw[hw];exact⟨hp.1,t,(Tb.tms_app ..).2 (.inr ⟨rfl,rfl⟩),hp.2⟩
  have:=hf ks a b hpan;have hin:Tb.inP ks a b (ks,t,v)=true:=Tb.inP_iff.2 ⟨rfl,hp.2⟩;rw[Tb.vals_app,e8 hin,Tb.sumI_app]at this;have e2:Tb.sumI [((ks,t,v):dy).2.2]=v:=M4 v;rw[e2]at this;exact this
 simp_all[kL,b9,S3,e8]
end
end Go.Ev.S9
namespace Go.Ev.S9
open Go Go.Ev
variable{evs:List dy}
section
variable{k s l g:Int}{m:List Val}{ek:Int}{ks:List UInt8}{t v:Int}
theorem cV5(hg1:1<=g)(hg2:g<=1048576)(hT:TOK (.ses g) evs m)(hev:gA evs)(hv:cH v)(ht:ep t=true):
 kH m (ja (.vi g) m (.vs ks) (.vi t)) (.vi v)=(Tb.agOf [v]::(Tb.joinedOf g t ((cS m (.vs ks)).map Z4)).map λp=>(lk m ks p.1 p.2).getD (0,0,0,0)).map cQ/\
 ∀a∈(Tb.agOf [v]::(Tb.joinedOf g t ((cS m (.vs ks)).map Z4)).map λp=>(lk m ks p.1 p.2).getD (0,0,0,0)),1<=a.1/\jP a:=by
 have hio:=d37 hT hev ht hg1 hg2 ks;obtain⟨s1,s2,s3⟩:=Jh hT ks;have hown:=ZR ht hg1 hg2;have hjn:kT (.vi g) m (.vs ks) (.vi t)=(Tb.joinedOf g t ((cS m (.vs ks)).map Z4)).map λp=>Val.vl [.vi p.1,.vi p.2]:=by
  unfold kT;rw[a06,a06,hio,cond_true];unfold pL;rw[a06,a06,hown,a06,<-cA2,SA,o7,o7];refine y7 λr hr=> ?_
  have e:=s3 r (l7.1 hr).1;have e2:(Z7 r 0)= .vi (Z4 r).1:=by rw[e];rfl
  have e3:(Z7 r 1)= .vi (Z4 r).2:=by rw[e];rfl
  show Val.vl [Z7 r 0,Z7 r 1]=Val.vl [.vi (Z4 r).1,.vi (Z4 r).2];grind
 have hpn:ja (.vi g) m (.vs ks) (.vi t)=(Tb.joinedOf g t ((cS m (.vs ks)).map Z4)).map (pr ks):=by
  unfold ja;rw[hjn,o7];rfl
 have hjm: ∀p∈Tb.joinedOf g t ((cS m (.vs ks)).map Z4),∃c,lk m ks p.1 p.2=some c:=λp hp=>by
  have h1:=(l7.1 hp).1;cases hl:lk m ks p.1 p.2 with
  |some c=>grind
  |none=>grind
 refine⟨?_,λa ha=> ?_⟩
 .rw[hpn];unfold kH;rw[m8,o7,o7,pa];refine congrArg (List.cons _) (y7 λp hp=> ?_);obtain⟨c,hc⟩:=hjm p hp;show kS m (pr ks p)=cQ ((lk m ks p.1 p.2).getD (0,0,0,0));rw[hc];obtain⟨r,hr,_,hA,_,hcol⟩:=Be (m:=m) (p:=eh (pr ks p)) (a:=c) hc;obtain⟨k',x,y,A,rfl,_,_⟩:=hT.nrm r hr;subst hA;unfold kS tc;rw[hcol,hcol,hcol,hcol];rfl
 .rcases n5.1 ha with rfl|ha
  .rw[pa];exact⟨x5 _,wW,hv,hv,hv⟩
  .obtain⟨p,hp,rfl⟩:=j8.1 ha;obtain⟨c,hc⟩:=hjm p hp;simp_all;exact⟨(hT.pos hc).1,(hT.pos hc).2.1⟩
open Classical in
theorem cV6(h3:k=3)(hR:cT k s l g=true)(hT:TOK (ei k s l g) evs m)(hm:m.length<=400)(hev:gA evs)(hn:evs.length<=24)(hv:cH v)(h0:Z9 ek ks t v=0)(h1:ek=1)(hf:kM (ei k s l g) (evs++[(ks,t,v)])):
 dD (cG k s l g m ek ks t v)=0:=by
 have hw:ei k s l g= .ses g:=e8 h3;rw[hw]at hT hf;have ht:=(xj h0 h1).2;obtain⟨hg1,hg2⟩:=Cb hR h3;obtain⟨hb,hc⟩:=cV5 (ks:=ks) hg1 hg2 hT hev hv ht;obtain⟨s1,s2,s3⟩:=Jh hT ks;have hJl:(Tb.joinedOf g t ((cS m (.vs ks)).map Z4)).length<=400:=by
  have h1:=K6 (λp:Int×Int=>Tb.lapB p.1 p.2 t (t+g)) ((cS m (.vs ks)).map Z4);rw[l5,(OJ m ks).length_eq]at h1;exact n7 h1 (n7 (Fx m ks) hm)
 rw[oD,b9 (λc=>c h0),b9 (λc=>c h1),e8 h3];unfold sM;rw[hb];obtain⟨M',hM'⟩: ∃M':List UInt8->Int->Int->Option Tb.Ag,M'=λk' a b=>if k'=ks/\(a,b)=Tb.nowOf t (t+g) (Tb.joinedOf g t ((cS m (.vs ks)).map Z4))then some (Tb.agAll (Tb.agOf [v]::(Tb.joinedOf g t ((cS m (.vs ks)).map Z4)).map λp=>(lk m ks p.1 p.2).getD (0,0,0,0)))
  else if k'=ks/\(a,b)∈Tb.joinedOf g t ((cS m (.vs ks)).map Z4)then none else lk m k' a b:=⟨_,rfl⟩
 have htab:=Tb.tab_ses (g:=g) (by omega) (M':=M') ((ks,t,v):dy) hT.tab s2 s1 (λa b h=>by
  grind) (λa b hne hin=>by
  grind) (λk' a b h=>by
  grind)
 have hN:=(htab ks (Tb.nowOf t (t+g) (Tb.joinedOf g t ((cS m (.vs ks)).map Z4))).1 (Tb.nowOf t (t+g) (Tb.joinedOf g t ((cS m (.vs ks)).map Z4))).2 _).1 (by rw[hM'];exact e8 ⟨rfl,rfl⟩);generalize Tb.nowOf t (t+g) (Tb.joinedOf g t ((cS m (.vs ks)).map Z4))=N at hN;generalize hgs:(Tb.agOf [v]::(Tb.joinedOf g t ((cS m (.vs ks)).map Z4)).map λp=>(lk m ks p.1 p.2).getD (0,0,0,0))=gs at hc hN⊢;obtain⟨hpan,hag⟩:=hN;have hfit:=hf ks N.1 N.2 hpan;obtain⟨q1,q2⟩:=Ry (gs:=gs);have hl:=JB (evs++[(ks,t,v)]) ks N.1 N.2;refine d57 hc (by grind) ?_ ?_
 .rw[<-q1,hag];show cH ((Tb.vals (evs++[(ks,t,v)]) ks N.1 N.2).length:Int);grind[cH]
 .rw[<-q2,hag];exact hfit
theorem cV7{X:Nat->List Val->Val}(hX:XOk X)(hR:cT k s l g=true)(hT:TOK (ei k s l g) evs m)(hev:gA evs)(hn:evs.length<=24)(hv:cH v)(h0:Z9 ek ks t v=0)(h1:ek=1):
 dD (cG k s l g m ek ks t v)=0↔kM (ei k s l g) (evs++[(ks,t,v)]):=by
 have hm:=(Oj hR hT hev hn).2.2.1;constructor
 .intro h;obtain⟨R,m',a1,a2,a3,a4,a5,a6,a7⟩:=IB hX hR hT hm hev hv h;intro key a b hp;have:=(a5.tab key a b _).2 ⟨hp,rfl⟩;exact(a5.pos this).2.1.2.1
 grind[cV6,cV4]
end
end Go.Ev.S9
namespace Go.Ev.S9
open Go Go.Ev
theorem cV8(L:List Val)(mark:Int)(hL: ∀r∈L,cK r=r):sk L mark=L.filter (eE mark):=by
 have h:=AF (λr=>bif eE mark r then [cK r]else []) L;unfold sk;rw[show dF8 L mark=λi=>(λr=>bif eE mark r then [cK r]else []) (bW L i)from rfl,h,AR (eE mark) cK L];exact(y7 (g:=id) λr hr=>hL r (l7.1 hr).1).trans (G4 _)
theorem cV9{k s w g:Int}{evs:List dy}{m:List Val}(hT:TOK (ei k s w g) evs m):kM (ei k s w g) evs:=λkey a b hp=>(hT.pos ((hT.tab key a b _).2 ⟨hp,rfl⟩)).2.1.2.1
section
variable{X:Nat->List Val->Val}{k s w g:Int}{l:List Val}(hX:XOk X)(hR:cT k s w g=true)(hn:l.length<=24)(ho: ∀r∈l,opOk r=true)
include hX hR hn ho
end
end Go.Ev.S9
namespace Go.Ev.S9
open Go Go.Ev
def oq:Val->Bool
 | .vl [.vi e,.vs k,.vi t,.vi v]=>decide (e=1)&&(decide (Z9 1 k t v=0)&&(decide (-9223372036854775808<=v)&&decide (v<9223372036854775808)))
 |_=>false
def ee1(a:List Val):Val:= .vb (cT (bV a 0).toI (bV a 1).toI (bV a 2).toI (bV a 3).toI&&(decide ((bV a 4).toL.length<=24)&&(bV a 4).toL.all oq))
noncomputable def FE(X:Nat->List Val->Val):Nat->List Val->Val:=λi a=>match i with
 |726=>JP X a
 |763=>e76 a
 |764=>We a
 |810=>MJ a
 |811=>OQ a
 |812=>Ii a
 |813=>Mg a
 |820=>BQ a
 |824=>Iw a
 |825=>QQ a
 |826=>Em a
 |827=>ux a
 |828=>nO X a
 |829=>Fs a
 |830=>Wh a
 |831=>e80 a
 |832=>e81 a
 |833=>ec9 X a
 |834=>ec8 a
 |835=>ed6 a
 |836=>ed5 X a
 |837=>ed4 X a
 |838=>ed7 a
 |839=>ed8 a
 |840=>ee1 a
 |842=> .vi (sR (bV a 0).toL)
 |843=> .vi (sE (bV a 0).toL)
 |850=>Ya a
 |851=>Yi a
 |852=>GN eW (bV a 4).toL (bV a 7).toL
 |853=>YO a
 |854=>e70 a
 |855=>e71 a
 |856=>MV a
 |857=>Co a
 |858=>tR a
 |859=>om a
 |860=>e69 a
 |861=>e72 a
 |862=>YQ a
 |863=>Zm a
 |864=>Wv a
 |865=>VB a
 |866=>Nt a
 |867=>CH a
 |868=>e63 a
 |869=>ec7 a
 |870=>ec3 a
 |871=>ec5 a
 |872=>ed1 X a
 |873=>ec4 a
 |874=>mF (cn (λi=>[cK (bW (bV a 5).toL i)]) (bV a 5).toL.length) (bV a 5).toL.length
 |875=>ee0 a
 |_=>X i a
section
variable{X Y:Nat->List Val->Val}(h: ∀a,X 490 a=Y 490 a)
include h
end
end Go.Ev.S9
