import Derived.Test.YtliadehnohhngaaGreatEP11
set_option linter.all false
noncomputable section
namespace Go.Ev.S9
open Go Go.Ev
def Dt(X:Nat->U0->Val)(a b c d:Val)(l:U0):Nat->Val
 |0=> .A []
 |i+1=>if ci (cg l i) 0=2 then Dt X a b c d l i else fx X (BI a b c d (Dt X a b c d l i) (cg l i))
def RK(X:Nat->U0->Val)(a b c d:Val)(l:U0)(i:Nat):Int:=if Qe l i≠0 then Qe l i else if ci (cg l i) 0=2 then 0 else dD (BI a b c d (Dt X a b c d l i) (cg l i))
def RH(X:Nat->U0->Val)(a b c d:Val)(l:U0):Bj:=(List.range l.length).find? λi=>decide (RK X a b c d l i≠0)
def eq8(X:Nat->U0->Val)(a b c d:Val)(l:U0):Nat×U0:=match RH X a b c d l with
 |some i=>(1,[.D (RK X a b c d l i),pb l i,.D i,Dt X a b c d l i])
 |none=>(0,[.D 0,pb l l.length,.D l.length,Dt X a b c d l l.length])
def eq9(X:Nat->U0->Val)(a:U0):Val:=cC (eq8 X (ce a 4) (ce a 5) (ce a 6) (ce a 7) (ce a 11).L)
def er0(X:Nat->U0->Val)(a b c d:Val)(l:U0):Int:=if cY a.I b.I c.I d.I=true then(match RH X a b c d l with|some i=>RK X a b c d l i|none=>0)else 2
def er1(X:Nat->U0->Val)(a b c d:Val)(l:U0):Val:=if cY a.I b.I c.I d.I=true then(match RH X a b c d l with|some _=> .A []|none=>eI X [Dt X a b c d l l.length,pb l l.length])else .A []
def er2(X:Nat->U0->Val)(a:U0):Val:= .D (er0 X (ce a 0) (ce a 1) (ce a 2) (ce a 3) (ce a 4).L)
def er3(X:Nat->U0->Val)(a:U0):Val:=er1 X (ce a 0) (ce a 1) (ce a 2) (ce a 3) (ce a 4).L
section
variable{X:Nat->U0->Val}{k s w g:Int}{l:U0}
variable{I:Opq}(hf: ∀i a,I.f i a=FT X i a)
include hf
end
section
variable{X:Nat->U0->Val}{k s w g:Int}{l:U0}{I:Opq}(hf: ∀i a,I.f i a=FT X i a)
include hf
end
variable{l:U0}
def er4(a:U0):Val:= .A (ej6 (ce a 0).L)
def er5(a:U0):Val:= .B (lJ (ce a 0)&&(lJ (ce a 1)&&(lJ (ce a 2)&&(lJ (ce a 3)&&(LU (ce a 4)&&decide ((ce a 4).L.length<=24))))))
def er6(a:U0):Val:= .B (lJ (ce a 0)&&(lJ (ce a 1)&&(lJ (ce a 2)&&(lJ (ce a 3)&&LU (ce a 4)))))
def ed5(l:U0)(i:Nat):Bool:=decide (50<(Y5 (cg l i) 1).S.length)
def er7(l:U0):Nat×U0:=gg (.B false) (λk=>[.B true,.D k]) (ed5 l) l.length
def er8(a:U0):Val:=cC (er7 (ce a 4).L)
section
variable{I:Opq}
end
def Er(g:Val->U0)(l:U0):cw (λi=>g (cg l i)) l.length=l.flatMap g:=by
 have: ∀n,n<=l.length->cw (λi=>g (cg l i)) n=(l.take n).flatMap g:=λn=>by
  induction n with
  |zero=>intro _;rfl
  |succ n ih=>
   intro h;show cw (λi=>g (cg l i)) n++g (cg l n)=_;rw[ih (by omega),NN (by omega),O1];simp
 grind
theorem OT{α:Type}(p:α->Bool)(f:α->Val): ∀l:List α,l.flatMap (λr=>bif p r then [f r]else [])=(l.filter p).map f
 | []=>rfl
 |a::l=>by rw[B2,OT p f l];grind
def iV(v:Int):Val:= .A [.D v]
def cH6(evs:List dw)(key:qw):md (evs.map cP) key=(evs.filter λx=>decide (x.1=key)).map λx=>iV x.2.1:=by have h:=Er (λr=>bif decide ((Y5 r 1).S=key)then [.A [Y5 r 2]]else []) (evs.map cP);unfold md;rw[show QU (evs.map cP) key=λi=>(λr=>bif decide ((Y5 r 1).S=key)then [Val.A [Y5 r 2]]else []) (cg (evs.map cP) i)from rfl,h,K9];exact OT (λx:dw=>decide (x.1=key)) (λx=>iV x.2.1) evs
def dT4(evs:List dw)(key:qw)(a b:Int):jf (evs.map cP) key a b=(Tb.vals evs key a b).map iV:=by
 have h:=Er (λr=>bif decide ((Y5 r 1).S=key)&&(decide (a<=ci r 2)&&decide (ci r 2<b))then [.A [Y5 r 3]]else []) (evs.map cP);unfold jf Tb.vals;rw[show(λq=>bif uA (evs.map cP) key a b q then [Val.A [Y5 (cg (evs.map cP) q) 3]]else [])=λi=>(λr=>bif decide ((Y5 r 1).S=key)&&(decide (a<=ci r 2)&&decide (ci r 2<b))then [Val.A [Y5 r 3]]else []) (cg (evs.map cP) i)from rfl,h,K9,o8];have e:(λx:dw=>(λr=>bif decide ((Y5 r 1).S=key)&&(decide (a<=ci r 2)&&decide (ci r 2<b))then [Val.A [Y5 r 3]]else []) (cP x))=λx=>bif Tb.inP key a b x then [iV x.2.2]else []:=by funext x;show(bif decide (x.1=key)&&(decide (a<=x.2.1)&&decide (x.2.1<b))then [iV x.2.2]else [])=_;unfold Tb.inP;rw[Bool.and_assoc]
 grind[OT,Tb.inP,iV]
def cH7{l:aaC}(h:l≠[])(x:Int):Tb.minI (l++[x])=min (Tb.minI l) x:=by
 match l,h with
 |a::l,_=>show(l++[x]).foldl min a=min (l.foldl min a) x;grind
def cH8{l:aaC}(h:l≠[])(x:Int):Tb.maxI (l++[x])=max (Tb.maxI l) x:=by
 match l,h with
 |a::l,_=>show(l++[x]).foldl max a=max (l.foldl max a) x;grind
def dw2(x y:Int):(if x<y then Val.D x else .D y)= .D (min y x):=by grind
def dw3(x y:Int):(if y<x then Val.D x else .D y)= .D (max y x):=by grind
def dd7(vs:aaC): ∀k,k+1<=vs.length->fy (vs.map iV) (k+1)=(.D (Tb.minI (vs.take (k+1))),.D (Tb.maxI (vs.take (k+1))))
 |0,h=>by
  match vs,h with
  |a::l,_=>rfl
 |k+1,h=>by
  have ih:=dd7 vs k (by omega);have hx:Y5 (cg (vs.map iV) (k+1)) 0= .D vs[k+1]:=by rw[pt (by rw[k6];omega),J1];rfl
  have ht:vs.take (k+1+1)=vs.take (k+1)++[vs[k+1]]:=by rw[P7]
  have hne:vs.take (k+1)≠[]:=λe=>by have:=congrArg List.length e;rw[l5,List.length_nil]at this;omega
  rw[ht,cH7 hne,cH8 hne];show(if k+1=0 then _ else _)=_;simp_all[b9,Nat.succ_ne_zero,ci,Tb.minI,Tb.maxI,dw2,dw3]
def ed6{vs:aaC}(hne:vs≠[])(hv: ∀v∈vs,inI v)(hn:vs.length<=100):(sE (vs.map iV)=0↔inI (Tb.sumI vs))/\(sE (vs.map iV)=0->aA (vs.map iV)=[.D (Tb.agOf vs).1,.D (Tb.agOf vs).2.1,.D (Tb.agOf vs).2.2.1,.D (Tb.agOf vs).2.2.2]):=by
 have hs:=eb3 (l:=vs.map iV) (λr hr=>by obtain⟨v,hv',rfl⟩:=j9.1 hr;exact hv v hv') (by grind)
 rw[UA]at hs;have hm:(vs.map iV).map (λr=>ci r 0)=vs:=by rw[o8];exact(y6 (g:=id) λv _=>rfl).trans (F5 vs)
 rw[hm]at hs;refine⟨hs.1,λh=> ?_⟩;unfold aA;rw[b9 (λc=>c h),hs.2 h];have hl:0<vs.length:=M8.2 hne;obtain⟨k,hk⟩: ∃k,vs.length=k+1:=⟨vs.length-1,by omega⟩;rw[k6,hk,dd7 vs k (by omega),<-hk,A6];rfl
def FX(key r:Val):PaneM:=⟨key.S,ci r 0,ci r 1⟩
def uT(ev:U0)(key r:Val):U0:=jf ev key.S (ci r 0) (ci r 1)
def dT5(ev:U0)(key r:Val):Y2 (uF ev key r)=FX key r:=rfl
def c80{M:U0}{key r:Val}:pw M key r=true↔ ∃x∈M,Y2 x=FX key r:=by unfold pw;simp;rfl
section
variable{ev:U0}{key:Val}{R M0:U0}
def cH9: ∀j,∀x∈M0,x∈fa ev key R M0 j
 |0,x,h=>h
 |j+1,x,h=>I0 _ (cH9 j x h)
def c81: ∀j,∀x∈fa ev key R M0 j,x∈M0\/ ∃q,q<j/\x=uF ev key (cg R q)/\pw (fa ev key R M0 q) key (cg R q)=false
 |0,x,h=> .inl h
 |j+1,x,h=>by
  rcases x6.1 h with h|h
  rcases c81 j x h with h|⟨q,h1,h2⟩
  exact .inl h;grind;unfold vu at h;grind
def cI0: ∀j q,q<j-> ∃x∈fa ev key R M0 j,Y2 x=FX key (cg R q)
 |0,q,h=>absurd h (P9 _)
 |j+1,q,h=>by
  by_cases c:q<j;obtain⟨x,h1,h2⟩:=cI0 j q c;exact⟨x,I0 _ h1,h2⟩
  have:q=j:=by omega
  subst this;cases hh:pw (fa ev key R M0 q) key (cg R q)with
  |true=>
   obtain⟨x,h1,h2⟩:=c80.1 hh;exact⟨x,I0 _ h1,h2⟩
  |false=>
   refine⟨uF ev key (cg R q),R5 _ ?_,dT5 ..⟩;unfold vu;rw[hh];exact List.mem_singleton.2 rfl
def dd8(h0:(M0.map Y2).Nodup): ∀j,((fa ev key R M0 j).map Y2).Nodup
 |0=>h0
 |j+1=>by
  have ih:=dd8 h0 j;show((fa ev key R M0 j++vu ev key (fa ev key R M0 j) (cg R j)).map Y2).Nodup;unfold vu;cases hh:pw (fa ev key R M0 j) key (cg R j)with
  |true=>grind
  |false=>
   rw[cond_false,r9,O9];refine⟨ih,by simp,λa ha b hb he=> ?_⟩;obtain⟨x,hx,rfl⟩:=j9.1 ha;rw[m8,P0,o7]at hb;have:pw (fa ev key R M0 j) key (cg R j)=true:=c80.2 ⟨x,hx,by rw[he,hb];rfl⟩;grind
end
section
variable{k s w g:Int}{ev:U0}
theorem WO: ∀i,∀x∈eB k s w g ev i,∃i',i'<i/\ ∃q,q<(eG k s w g ev i').length/\x=uF ev (gr ev i') (cg (eG k s w g ev i') q)/\pw (fa ev (gr ev i') (eG k s w g ev i') (eB k s w g ev i') q) (gr ev i') (cg (eG k s w g ev i') q)=false
 |0,x,h=>(by cases h)
 |i+1,x,h=>by
  rcases c81 _ x h with h|⟨q,h1,h2,h3⟩
  obtain⟨i',a,b⟩:=WO i x h;exact⟨i',by omega,b⟩;grind
def Uq: ∀i i' q,i'<i->q<(eG k s w g ev i').length-> ∃x∈eB k s w g ev i,Y2 x=FX (gr ev i') (cg (eG k s w g ev i') q)
 |0,i',q,h,_=>absurd h (P9 _)
 |i+1,i',q,h,hq=>by
  by_cases c:i'<i;obtain⟨x,h1,h2⟩:=Uq i i' q c hq;exact⟨x,cH9 _ x h1,h2⟩
  have:i'=i:=by omega
  subst this;exact cI0 _ q hq
def dd9: ∀i,((eB k s w g ev i).map Y2).Nodup
 |0=>List.nodup_nil
 |i+1=>dd8 (dd9 i) _
def cI1(h:eY k s w g ev=true){i q:Nat}(hi:i<ev.length)(hq:q<(eG k s w g ev i).length):pN ev (gr ev i) (eG k s w g ev i) (eB k s w g ev i) q=false:=by simp_all[eY,W3,B9,p7,tY]
theorem c82:eY k s w g ev=true↔ ∀i q,i<ev.length->q<(eG k s w g ev i).length->sE (uT ev (gr ev i) (cg (eG k s w g ev i) q))=0:=by
 constructor
 intro h i q hi hq;obtain⟨x,h1,h2⟩:=Uq ev.length i q hi hq;obtain⟨i',a,q',b,c,d⟩:=WO _ x h1;have hb:=cI1 h a b;unfold pN at hb;rw[d]at hb;have h0:sE (uT ev (gr ev i') (cg (eG k s w g ev i') q'))=0:=by unfold uT;simpa using hb
 rw[c,dT5]at h2;unfold FX at h2;rw[PaneM.mk.injEq]at h2;obtain⟨e1,e2,e3⟩:=h2;unfold uT at h0⊢;rw[<-e1,<-e2,<-e3];exact h0
 intro h;unfold eY;rw[W3];refine B9.2 λi hi=> ?_
 have h2:tY k s w g ev i=none:=by
  refine B9.2 λq hq=> ?_
  have:=h i q (p7.1 hi) (p7.1 hq);unfold uT at this;unfold pN;rw[this];simp
 rw[h2];simp
def dT6(h:eY k s w g ev=true){x:Val}(hx:x∈eB k s w g ev ev.length): ∃i q,i<ev.length/\q<(eG k s w g ev i).length/\x=uF ev (gr ev i) (cg (eG k s w g ev i) q)/\sE (uT ev (gr ev i) (cg (eG k s w g ev i) q))=0:=by grind[WO,c82]
end
theorem dw4{k s w g:Int}(hR:cY k s w g=true)(h3:k≠3){evs:List dw}(hev:gZ evs)(key:qw)(r:Val):
 r∈ox k s w g (evs.map cP) key↔ ∃a b,r= .A [.D a,.D b]/\Tb.Pan (eD k s w g) evs key a b:=by
 have hw:eD k s w g= .win (lQ (dJ k s w) s):=b9 h3;have e:ox k s w g (evs.map cP) key=(evs.filter λx=>decide (x.1=key)).flatMap λx=>dy k s w g (.D x.2.1):=by unfold ox BF;rw[b9 h3,Er (λr=>dy k s w g (Y5 r 0)),cH6,K9];rfl
 rw[e,hw,A7];constructor;rintro⟨x,hx,hr⟩;rw[l9,decide_eq_true_eq]at hx;obtain⟨p1,p2,p3⟩:=Kp hR h3 (hev x hx.1).1;have:=p3 r hr;refine⟨_,_,this,?_⟩;have hm:=(p2 (Y7 r).1 (Y7 r).2).1 (j9.2 ⟨r,hr,rfl⟩);exact⟨hm.1,x.2.1,⟨x,hx.1,hx.2,rfl⟩,hm.2⟩;rintro⟨a,b,rfl,h1,t,⟨x,hx,hk,ht⟩,h2⟩;obtain⟨p1,p2,p3⟩:=Kp hR h3 (hev x hx).1;grind
def Dh(g:Int)(T:Int->Prop)(l:U0):Prop:=(∀r∈l,∃a b,r= .A [.D a,.D b]/\Tb.isR g T a b)/\ ∀t,T t-> ∃r∈l,ci r 0<=t/\t+g<=ci r 1
def Uu{l:U0}{i j:Nat}(r:Val): ∀n,r∈cw (jp l i j) n↔ ∃k,k<n/\k≠i/\k≠j/\r=ep (cg l k)
 |0=>⟨λh=>(by cases h),λ⟨k,h,_⟩=>absurd h (P9 _)⟩
 |n+1=>by show r∈cw (jp l i j) n++jp l i j n↔_;rw[x6,Uu r n];unfold jp;grind
def ch4{g:Int}{T:Int->Prop}{l:U0}(h:Dh g T l){i j:Nat}(hij:i<j)(hj:j<l.length)(hl:uE l i j=true):Dh g T (eM l i j):=by
 obtain⟨h1,h2⟩:=h;have hi:i<l.length:=by omega
 obtain⟨a,b,e1,r1⟩:=h1 _ (oR hi);obtain⟨a',b',e2,r2⟩:=h1 _ (oR hj);have hlap:Tb.lap a b a' b':=by unfold uE at hl;rw[e1,e2]at hl;obtain⟨q1,q2⟩:=W7 hl;exact⟨j6 q1,j6 q2⟩
 have hH:mL l i j= .A [.D (min a a'),.D (max b b')]:=by unfold mL;rw[e1,e2];rfl
 refine⟨λr hr=> ?_,λt ht=> ?_⟩
 rcases x6.1 hr with hr|hr
 rw[o7]at hr;exact⟨_,_,hr.trans hH,r1.join r2 hlap⟩;obtain⟨k,k1,_,_,k4⟩:=(Uu r _).1 hr;obtain⟨x,y,e,hx⟩:=h1 _ (oR k1);exact⟨x,y,by rw[k4,e];rfl,hx⟩;obtain⟨r,hr,c1,c2⟩:=h2 t ht;obtain⟨k,hk,rfl⟩:=C3 hr;rw[<-pt hk]at c1 c2;by_cases ki:k=i;subst ki;refine⟨mL l k j,I0 _ (o7.2 rfl),?_⟩;rw[e1]at c1 c2;rw[hH];have c1:a<=t:=c1;have c2:t+g<=b:=c2;show min a a'<=t/\t+g<=max b b';omega;by_cases kj:k=j;subst kj;refine⟨mL l i k,I0 _ (o7.2 rfl),?_⟩;rw[e2]at c1 c2;rw[hH];have c1:a'<=t:=c1;have c2:t+g<=b':=c2;show min a a'<=t/\t+g<=max b b';omega;refine⟨ep (cg l k),R5 _ ((Uu _ _).2 ⟨k,hk,ki,kj,rfl⟩),?_⟩;exact⟨c1,c2⟩
def c83{g:Int}{T:Int->Prop}: ∀(f:Nat) (l:U0),l.length<=f->Dh g T l->Dh g T (pH f l)/\pf (pH f l)=none
 |0,l,hf,h=>by have:l=[]:=C7 (by omega);subst this;exact⟨h,rfl⟩
 |f+1,l,hf,h=>by
  unfold pH;cases hj:pf l with
  |none=>grind
  |some i=>
   obtain⟨j,h1,h2,h3,h4⟩:=MB hj;have hl:(eM l i j).length+1=l.length:=Zf h2 h3;show Dh g T (pH f (eM l i ((ij l i).getD 0)))/\pf (pH f (eM l i ((ij l i).getD 0)))=none;rw[h1];exact c83 f _ (by grind) (ch4 h h2 h3 h4)
variable{evs:List dw}
def ch5{g:Int}(g0:1<=g)(g1:g<=1048576)(hev:gZ evs)(key:qw):Dh g (Tb.tms evs key) (gd g (md (evs.map cP) key))/\((List.range (md (evs.map cP) key).length).find? (uP (md (evs.map cP) key)))=none:=by
 have hU:=cH6 evs key;generalize md (evs.map cP) key=U at hU⊢;have hm: ∀r∈U,∃t,r=iV t/\Tb.tms evs key t/\dW t=true:=λr hr=>by rw[hU]at hr;obtain⟨x,hx,rfl⟩:=j9.1 hr;rw[l9,decide_eq_true_eq]at hx;exact⟨x.2.1,rfl,⟨x,hx.1,hx.2,rfl⟩,(hev x hx.1).1⟩
 have hs:gd g U=U.map λr=> .A [Y5 r 0,.D (cr .add .i64 (ci r 0) g)]:=yd (λr=> .A [Y5 r 0,.D (cr .add .i64 (ci r 0) g)]) U
 have ht: ∀t,dW t=true->cr .add .i64 t g=t+g:=λt h=>by unfold dW at h;grind[gN]
 refine⟨⟨λr hr=> ?_,λt h=> ?_⟩,?_⟩;rw[hs]at hr;obtain⟨u,hu,rfl⟩:=j9.1 hr;obtain⟨t,rfl,h1,h2⟩:=hm u hu;refine⟨t,t+g,?_,Tb.isR.own t h1⟩;show Val.A [.D t,.D (cr .add .i64 t g)]=_;grind;obtain⟨x,hx,hk,rfl⟩:=h;refine⟨.A [.D x.2.1,.D (x.2.1+g)],?_,y8 _,y8 _⟩;rw[hs];refine j9.2 ⟨iV x.2.1,?_,?_⟩;grind;show Val.A [.D x.2.1,.D (cr .add .i64 x.2.1 g)]=_;rw[ht _ (hev x hx).1]
 refine B9.2 λi hi=> ?_
 obtain⟨t,e,h1,h2⟩:=hm _ (oR (p7.1 hi));unfold uP;rw[e];show¬(!dW t)=true;grind
theorem dw5{s w g:Int}(hR:cY 3 s w g=true)(hev:gZ evs)(key:qw)(r:Val):
 r∈ox 3 s w g (evs.map cP) key↔ ∃a b,r= .A [.D a,.D b]/\Tb.Pan (eD 3 s w g) evs key a b:=by
 obtain⟨g0,g1⟩:=CR hR rfl;obtain⟨hr,hl⟩:=ch5 g0 g1 hev key;unfold ox BF;rw[c9 rfl];have hok:jY g (md (evs.map cP) key)=true:=by grind[jY,decide_eq_true]
 rw[hok,cond_true];generalize md (evs.map cP) key=U at hr hl hok⊢;obtain⟨h1,h2⟩:=c83 (gd g U).length (gd g U) (j5 _) hr;have hM:pH (gd g U).length (gd g U)=iH (gd g U):=rfl;rw[hM]at h1 h2;unfold jX;generalize iH (gd g U)=M at h1 h2⊢;have hsp: ∀r∈M,ep r=r:=λr hr=>by obtain⟨a,b,e,_⟩:=h1.1 r hr;rw[e];rfl
 have hmem: ∀r,r∈gL M M.length↔r∈M:=λr=>by simp_all[c73,j5,A6]
 have hS:cw (λi=>[ep (cg (gL M M.length) i)]) (gL M M.length).length=(gL M M.length).map ep:=yd ep _;have hr2:r∈cw (λi=>[ep (cg (gL M M.length) i)]) (gL M M.length).length↔r∈M:=by grind
 rw[hr2];have hlapI: ∀i j,i<M.length->j<M.length->Tb.lap (ci (cg M i) 0) (ci (cg M i) 1) (ci (cg M j) 0) (ci (cg M j) 1)->i=j:=λi j hi hj hl=>by
  rcases G6 i j with c|c|c
  have:=c70 h2 c hj;unfold uE at this;rw[i6 hl.1,i6 hl.2]at this;cases this;exact c;have:=c70 h2 c hi;unfold uE at this;rw[i6 hl.1,i6 hl.2]at this;cases this
 have hses:Tb.Ses g (Tb.tms evs key) (M.map Y7):=by refine Tb.ses_runs (by omega) (λp hp=> ?_) (λt ht=> ?_) (λp hp q hq hl=> ?_);obtain⟨r,hr,rfl⟩:=j9.1 hp;obtain⟨a,b,e,h⟩:=h1.1 r hr;rw[e];exact h;obtain⟨r,hr,c1,c2⟩:=h1.2 t ht;exact⟨Y7 r,j9.2 ⟨r,hr,rfl⟩,c1,c2⟩;obtain⟨r,hr,rfl⟩:=j9.1 hp;obtain⟨r',hr',rfl⟩:=j9.1 hq;obtain⟨i,hi,rfl⟩:=C3 hr;obtain⟨j,hj,rfl⟩:=C3 hr';rw[<-pt hi,<-pt hj]at hl⊢;rw[hlapI i j hi hj hl]
 constructor;intro h;obtain⟨a,b,e,_⟩:=h1.1 r h;refine⟨a,b,e,?_⟩;exact(hses.1 a b).1 (j9.2 ⟨r,h,by rw[e];rfl⟩);rintro⟨a,b,rfl,h⟩;obtain⟨r,hr,hp⟩:=j9.1 ((hses.1 a b).2 h);obtain⟨a',b',e,_⟩:=h1.1 r hr;rw[e]at hp;have hp:(a',b')=(a,b):=hp;grind
theorem QQ{k s w g:Int}(hR:cY k s w g=true)(hev:gZ evs)(key:qw)(r:Val):
 r∈ox k s w g (evs.map cP) key↔ ∃a b,r= .A [.D a,.D b]/\Tb.Pan (eD k s w g) evs key a b:=by
 grind[dw5,dw4]
variable{key:qw}
def lU(W:Tb.Wd)(evs:List dw):Prop:= ∀key a b,Tb.Pan W evs key a b->inI (Tb.sumI (Tb.vals evs key a b))
theorem xc{evs:List dw}{i:Nat}(h:i<evs.length):gr (evs.map cP) i= .vs evs[i].1:=by unfold gr;rw[pt (by grind),J1];rfl
def cI2{evs:List dw}(hev:gZ evs)(key:qw)(a b:Int): ∀v∈Tb.vals evs key a b,inI v:=λv hv=>by obtain⟨x,hx,rfl⟩:=j9.1 hv;exact(hev x (l9.1 hx).1).2
theorem QK(evs:List dw)(key:qw)(a b:Int):(Tb.vals evs key a b).length<=evs.length:=by grind[Tb.vals,List.length_map,List.length_filter_le]
def VV{k s w g:Int}(hR:cY k s w g=true): ∀g',eD k s w g= .ses g'->0<g':=λg' h=>by unfold eD at h;by_cases h3:k=3;rw[c9 h3,Tb.Wd.ses.injEq]at h;have:=(CR hR h3).1;omega;grind
def cI4{W:Tb.Wd}{evs:List dw}{a b:Int}(h:Tb.Pan W evs key a b): ∃i,∃h:i<evs.length,evs[i].1=key:=by
 have: ∃t,Tb.tms evs key t:=by
  cases W with
  |ses g=>exact⟨a,h.1.1⟩
  |win P=>exact⟨_,h.2.choose_spec.1⟩
 obtain⟨t,x,hx,hk,_⟩:=this;grind[List.getElem_of_mem]
section
variable{k s w g:Int}(hR:cY k s w g=true){evs:List dw}(hev:gZ evs)(hn:evs.length<=24)
include hR hev hn
theorem WS{a b:Int}(hp:Tb.Pan (eD k s w g) evs key a b):(sE (uT (evs.map cP) (.vs key) (.A [.D a,.D b]))=0↔inI (Tb.sumI (Tb.vals evs key a b)))/\
 (sE (uT (evs.map cP) (.vs key) (.A [.D a,.D b]))=0->uF (evs.map cP) (.vs key) (.A [.D a,.D b])=gS key a b (Tb.agOf (Tb.vals evs key a b))):=by
 have e:uT (evs.map cP) (.vs key) (.A [.D a,.D b])=(Tb.vals evs key a b).map iV:=dT4 evs key a b;have e2:jf (evs.map cP) (Val.vs key).S (ci (.A [.D a,.D b]) 0) (ci (.A [.D a,.D b]) 1)=(Tb.vals evs key a b).map iV:=e;obtain⟨h1,h2⟩:=ed6 (Tb.Pan.ne (VV hR) hp) (cI2 hev key a b) (by grind[QK]);rw[e];refine⟨h1,λh=> ?_⟩;unfold uF;rw[e2,h2 h];rfl
def Sb:eY k s w g (evs.map cP)=true↔lU (eD k s w g) evs:=by
 rw[c82];constructor
 intro h key a b hp;obtain⟨i,hi,hk⟩:=cI4 hp;have hm:Val.A [.D a,.D b]∈eG k s w g (evs.map cP) i:=by unfold eG;rw[xc hi,hk];exact(QQ hR hev key _).2 ⟨a,b,rfl,hp⟩
 grind[List.getElem_of_mem,List.length_map,pt,xc,WS]
 intro h i q hi hq;rw[k6]at hi;have hm:=oR hq;have hm2:cg (eG k s w g (evs.map cP) i) q∈ox k s w g (evs.map cP) evs[i].1:=by simp_all[eG,xc]
 obtain⟨a,b,e,hp⟩:=(QQ hR hev _ _).1 hm2;rw[e,xc hi];exact(WS hR hev hn hp).1.2 (h _ a b hp)
def dw7(ho:eY k s w g (evs.map cP)=true){x:Val}(hx:x∈eB k s w g (evs.map cP) (evs.map cP).length): ∃key a b,Tb.Pan (eD k s w g) evs key a b/\x=gS key a b (Tb.agOf (Tb.vals evs key a b))/\ ∃y∈evs,y.1=key:=by
 obtain⟨i,q,hi,hq,e,hs⟩:=dT6 ho hx;rw[k6]at hi;have hm:=oR hq;have hm2:cg (eG k s w g (evs.map cP) i) q∈ox k s w g (evs.map cP) evs[i].1:=by unfold eG at hm⊢;rw[xc hi]at hm⊢;exact hm
 grind[QQ,xc,WS,List.getElem_mem]
omit hn in
def dw8{a b:Int}(hp:Tb.Pan (eD k s w g) evs key a b): ∃x∈eB k s w g (evs.map cP) (evs.map cP).length,Y2 x=⟨key,a,b⟩:=by
 obtain⟨i,hi,hk⟩:=cI4 hp;have hm:Val.A [.D a,.D b]∈eG k s w g (evs.map cP) i:=by unfold eG;rw[xc hi,hk];exact(QQ hR hev key _).2 ⟨a,b,rfl,hp⟩
 obtain⟨q,hq,he⟩:=C3 hm;obtain⟨x,h1,h2⟩:=Uq (k:=k) (s:=s) (w:=w) (g:=g) (ev:=evs.map cP) (evs.map cP).length i q (by grind) hq;refine⟨x,h1,?_⟩;rw[h2,pt hq,he,xc hi,hk];rfl
def Rm(hva:EG evs)(ho:eY k s w g (evs.map cP)=true):TOK (eD k s w g) evs (eB k s w g (evs.map cP) (evs.map cP).length):=by
 have hrow:=λ{x:Val} (hx:x∈eB k s w g (evs.map cP) (evs.map cP).length)=>dw7 hR hev hn ho hx
 have hhas:=λ{key:qw} {a b:Int} (hp:Tb.Pan (eD k s w g) evs key a b)=>dw8 hR hev hp
 have hfit:=(Sb hR hev hn).1 ho;have hnd:=dd9 (k:=k) (s:=s) (w:=w) (g:=g) (ev:=evs.map cP) (evs.map cP).length;refine⟨λkey a b A=> ?_,hnd,λr hr=> ?_,VV hR⟩;constructor;intro h;obtain⟨r,hr,hp,hA⟩:=wS h;obtain⟨key',a',b',h1,rfl,_⟩:=hrow hr;obtain⟨rfl,rfl,rfl⟩:=hp;exact⟨h1,hA.symm⟩;rintro⟨hp,rfl⟩;obtain⟨x,hx,hpx⟩:=hhas hp;obtain⟨key',a',b',h1,e,_⟩:=hrow hx;rw[e,LG,PaneM.mk.injEq]at hpx;obtain⟨rfl,rfl,rfl⟩:=hpx;have:=xl hnd hx;rw[e,LG,Mc]at this;exact this;obtain⟨key,a,b,h1,rfl,y,hy,hk⟩:=hrow hr;refine⟨key,a,b,_,rfl,?_,?_⟩;have:=(wF (hva y hy) rfl).1;grind;have hne:=Tb.Pan.ne (VV hR) h1;have hv:=cI2 hev key a b;have hl:=QK evs key a b;refine⟨?_,hfit key a b h1,hv _ (Tb.minI_spec hne).1,hv _ (Tb.maxI_spec hne).1⟩;show inI ((Tb.vals evs key a b).length:Int);grind[inI]
end
def Lw{L:U0}(hL: ∀r∈L,inI (ci r 0))(hn:L.length<=1000000)(h:inI (Tb.sumI (L.map λr=>ci r 0))):gB L=0:=by
 have hg: ∀k,inI (ci (cg L k) 0):=λk=>by
  by_cases c:k<L.length;exact hL _ (oR c)
  have e:cg L k= .A []:=by simp[cg,k5,x5 (E4.1 c)]
  rw[e];exact We
 simp_all[bF8,UA,gB,jo,c9]
def de0{gs:List Tb.Ag}(hc: ∀a∈gs,1<=a.1/\kZ a)(hn:gs.length<=1000000)(h0:inI (Tb.sumI (gs.map (·.1))))(h1:inI (Tb.sumI (gs.map (·.2.1)))):jE (gs.map dp)=0:=by
 have c0:jC (gs.map dp)=gs.map λa=> .A [Y5 (dp a) 0]:=Qr hc 0
 have c1:jT (gs.map dp)=gs.map λa=> .A [Y5 (dp a) 1]:=Qr hc 1
 have e0:gB (jC (gs.map dp))=0:=by rw[c0];refine Lw (λr hr=> ?_) (by simpa using hn) ?_;obtain⟨a,ha,rfl⟩:=j9.1 hr;exact(hc a ha).2.1;rw[o8];exact h0
 have e1:gB (jT (gs.map dp))=0:=by rw[c1];refine Lw (λr hr=> ?_) (by simpa using hn) ?_;obtain⟨a,ha,rfl⟩:=j9.1 hr;exact(hc a ha).2.2.1;rw[o8];exact h1
 simp_all[jE,b9]
def d42{W:Tb.Wd}{evs:List dw}{m:U0}(h:TOK W evs m){ks:qw}{a b v:Int}(hv:inI v)(hn:evs.length<=1000000)(hs:inI (Tb.sumI (Tb.vals evs ks a b)+v)):lD m (.vs ks) (.D v) (.A [.D a,.D b])=0:=by
 have hp:Y2 (fJ (.vs ks) (.A [.D a,.D b]))=⟨ks,a,b⟩:=rfl;unfold lD tr;cases hl:lk m ks a b with
 |none=>
  obtain⟨_,hc⟩:=Vd (m:=m) (p:=fJ (.vs ks) (.A [.D a,.D b])) (by exact hl);have hC:jC (pR (.D 0) (.D 0) (.D 0) (.D 0) (.D v))=[.A [.D 1]]:=rfl;have hT:jT (pR (.D 0) (.D 0) (.D 0) (.D 0) (.D v))=[.A [.D v]]:=rfl;have e0:gB [.A [.D 1]]=0:=Lw (λr hr=>by rw[o7.1 hr];exact CB) (by simp) CB;have e1:gB [.A [.D v]]=0:=Lw (λr hr=>by rw[o7.1 hr];exact hv) (by simp) (by show inI (v+0);rw[M7];exact hv);simp_all[jE,b9]
 |some c=>
  obtain⟨q1,q2,q3,_⟩:=h.pos hl;obtain⟨r,hr,_,hA,_,hc⟩:=He (m:=m) (p:=fJ (.vs ks) (.A [.D a,.D b])) (a:=c) (by exact hl);obtain⟨k',x,y,A,rfl,_,_⟩:=h.nrm r hr;have hA:A=c:=hA;subst hA;rw[hc,hc,hc,hc];have e:pR (Y5 (gS k' x y A) 3) (Y5 (gS k' x y A) 4) (Y5 (gS k' x y A) 5) (Y5 (gS k' x y A) 6) (.D v)=([A,Tb.agOf [v]]:List Tb.Ag).map dp:=by rw[m8,m8,P0,qc];rfl
  rw[e];have hcnt:A.1<=evs.length:=by rw[q3];show((Tb.vals evs ks a b).length:Int)<=_;grind[QK]
  refine de0 (λz hz=> ?_) (by simp) ?_ ?_
  rcases n8.1 hz with rfl|hz
  grind;rw[o7.1 hz,qc];exact⟨y8 _,CB,hv,hv,hv⟩;show inI (A.1+(1+0));grind[inI];rw[qc];show inI (A.2.1+(v+0));rw[M7,q3];exact hs
section
variable{k s l g:Int}{m:U0}{ek:Int}{ks:qw}{t v:Int}
theorem d43(h3:k≠3)(hR:cY k s l g=true){evs:List dw}(hT:TOK (eD k s l g) evs m)(hn:evs.length<=24)(hv:inI v)(h0:Y4 ek ks t v=0)(h1:ek=1)(hf:lU (eD k s l g) (evs++[(ks,t,v)])):
 dD (cL k s l g m ek ks t v)=0:=by
 have hw:eD k s l g= .win (lQ (dJ k s l) s):=b9 h3;have ht:=(wF h0 h1).2;obtain⟨p1,p2,p3⟩:=Kp hR h3 ht;rw[tI,b9 (λc=>c h0),b9 (λc=>c h1),b9 h3];generalize dy k s l g (.D t)=S at p1 p2 p3⊢;have hz: ∀i,i<S.length->lD m (.vs ks) (.D v) (cg S i)=0:=λi hi=>by
  have hm:=oR hi;have e:=p3 _ hm;have hp:=(p2 (Y7 (cg S i)).1 (Y7 (cg S i)).2).1 (j9.2 ⟨_,hm,rfl⟩);rw[e];generalize (Y7 (cg S i)).1=a at hp⊢;generalize (Y7 (cg S i)).2=b at hp⊢;refine d42 hT hv (by omega) ?_;have hpan:Tb.Pan (eD k s l g) (evs++[(ks,t,v)]) ks a b:=by rw[hw];exact⟨hp.1,t,(Tb.tms_app ..).2 (.inr ⟨rfl,rfl⟩),hp.2⟩
  have:=hf ks a b hpan;have hin:Tb.inP ks a b (ks,t,v)=true:=Tb.inP_iff.2 ⟨rfl,hp.2⟩;rw[Tb.vals_app,c9 hin,Tb.sumI_app]at this;have e2:Tb.sumI [((ks,t,v):dw).2.2]=v:=M7 v;rw[e2]at this;exact this
 simp_all[lS,b9,Nat.lt_irrefl,c9]
end
variable{evs:List dw}
section
variable{k s l g:Int}{m:U0}{ek:Int}{ks:qw}{t v:Int}
def d44(hg1:1<=g)(hg2:g<=1048576)(hT:TOK (.ses g) evs m)(hev:gZ evs)(hv:inI v)(ht:dW t=true):
 mn m (jH (.D g) m (.vs ks) (.D t)) (.D v)=(Tb.agOf [v]::(Tb.joinedOf g t ((du m (.vs ks)).map Y7)).map λp=>(lk m ks p.1 p.2).getD (0,0,0,0)).map dp/\
 ∀a∈(Tb.agOf [v]::(Tb.joinedOf g t ((du m (.vs ks)).map Y7)).map λp=>(lk m ks p.1 p.2).getD (0,0,0,0)),1<=a.1/\kZ a:=by
 have hio:=dc6 hT hev ht hg1 hg2 ks;obtain⟨s1,s2,s3⟩:=LL hT ks;have hown:=dc7 ht hg1 hg2;have hjn:mi (.D g) m (.vs ks) (.D t)=(Tb.joinedOf g t ((du m (.vs ks)).map Y7)).map λp=>Val.A [.D p.1,.D p.2]:=by
  unfold mi;rw[a01,a01,hio,cond_true];unfold rI;rw[a01,a01,hown,a01,<-cF5,Tp,o8,o8];refine y6 λr hr=> ?_
  have e:=s3 r (l9.1 hr).1;have e2:(Y5 r 0)= .D (Y7 r).1:=by rw[e];rfl
  have e3:(Y5 r 1)= .D (Y7 r).2:=by rw[e];rfl
  show Val.A [Y5 r 0,Y5 r 1]=Val.A [.D (Y7 r).1,.D (Y7 r).2];grind
 have hpn:jH (.D g) m (.vs ks) (.D t)=(Tb.joinedOf g t ((du m (.vs ks)).map Y7)).map (pr ks):=by unfold jH;rw[hjn,o8];rfl
 have hjm: ∀p∈Tb.joinedOf g t ((du m (.vs ks)).map Y7),∃c,lk m ks p.1 p.2=some c:=λp hp=>by
  have h1:=(l9.1 hp).1;cases hl:lk m ks p.1 p.2 with
  |some c=>grind
  |none=>grind
 refine⟨?_,λa ha=> ?_⟩;rw[hpn];unfold mn;rw[m8,o8,o8,qc];refine congrArg (List.cons _) (y6 λp hp=> ?_);obtain⟨c,hc⟩:=hjm p hp;show mb m (pr ks p)=dp ((lk m ks p.1 p.2).getD (0,0,0,0));rw[hc];obtain⟨r,hr,_,hA,_,hcol⟩:=He (m:=m) (p:=fF (pr ks p)) (a:=c) hc;obtain⟨k',x,y,A,rfl,_,_⟩:=hT.nrm r hr;subst hA;unfold mb Mb;rw[hcol,hcol,hcol,hcol];rfl
 rcases n8.1 ha with rfl|ha
 rw[qc];exact⟨y8 _,CB,hv,hv,hv⟩;obtain⟨p,hp,rfl⟩:=j9.1 ha;obtain⟨c,hc⟩:=hjm p hp;simp_all;exact⟨(hT.pos hc).1,(hT.pos hc).2.1⟩
open Classical in
theorem d45(h3:k=3)(hR:cY k s l g=true)(hT:TOK (eD k s l g) evs m)(hm:m.length<=400)(hev:gZ evs)(hn:evs.length<=24)(hv:inI v)(h0:Y4 ek ks t v=0)(h1:ek=1)(hf:lU (eD k s l g) (evs++[(ks,t,v)])):
 dD (cL k s l g m ek ks t v)=0:=by
 have hw:eD k s l g= .ses g:=c9 h3;rw[hw]at hT hf;have ht:=(wF h0 h1).2;obtain⟨hg1,hg2⟩:=CR hR h3;obtain⟨hb,hc⟩:=d44 (ks:=ks) hg1 hg2 hT hev hv ht;obtain⟨s1,s2,s3⟩:=LL hT ks;have hJl:(Tb.joinedOf g t ((du m (.vs ks)).map Y7)).length<=400:=by have h1:=K3 (λp:Int×Int=>Tb.lapB p.1 p.2 t (t+g)) ((du m (.vs ks)).map Y7);rw[k6,(Za m ks).length_eq]at h1;exact l7 h1 (l7 (Il m ks) hm)
 rw[tI,b9 (λc=>c h0),b9 (λc=>c h1),c9 h3];unfold tR;rw[hb];obtain⟨M',hM'⟩: ∃M':qw->Int->Int->Option Tb.Ag,M'=λk' a b=>if k'=ks/\(a,b)=Tb.nowOf t (t+g) (Tb.joinedOf g t ((du m (.vs ks)).map Y7))then some (Tb.agAll (Tb.agOf [v]::(Tb.joinedOf g t ((du m (.vs ks)).map Y7)).map λp=>(lk m ks p.1 p.2).getD (0,0,0,0)))
  else if k'=ks/\(a,b)∈Tb.joinedOf g t ((du m (.vs ks)).map Y7)then none else lk m k' a b:=⟨_,rfl⟩
 have htab:=Tb.tab_ses (g:=g) (by omega) (M':=M') ((ks,t,v):dw) hT.tab s2 s1 (λa b h=>by
  grind) (λa b hne hin=>by
  grind) (λk' a b h=>by
  grind)
 have hN:=(htab ks (Tb.nowOf t (t+g) (Tb.joinedOf g t ((du m (.vs ks)).map Y7))).1 (Tb.nowOf t (t+g) (Tb.joinedOf g t ((du m (.vs ks)).map Y7))).2 _).1 (by rw[hM'];exact c9 ⟨rfl,rfl⟩);generalize Tb.nowOf t (t+g) (Tb.joinedOf g t ((du m (.vs ks)).map Y7))=N at hN;generalize hgs:(Tb.agOf [v]::(Tb.joinedOf g t ((du m (.vs ks)).map Y7)).map λp=>(lk m ks p.1 p.2).getD (0,0,0,0))=gs at hc hN⊢;obtain⟨hpan,hag⟩:=hN;have hfit:=hf ks N.1 N.2 hpan;obtain⟨q1,q2⟩:=Uc (gs:=gs);have hl:=QK (evs++[(ks,t,v)]) ks N.1 N.2;refine de0 hc (by grind) ?_ ?_;rw[<-q1,hag];show inI ((Tb.vals (evs++[(ks,t,v)]) ks N.1 N.2).length:Int);grind[inI];rw[<-q2,hag];exact hfit
def d47{X:Nat->U0->Val}(hX:XOk X)(hR:cY k s l g=true)(hT:TOK (eD k s l g) evs m)(hev:gZ evs)(hn:evs.length<=24)(hv:inI v)(h0:Y4 ek ks t v=0)(h1:ek=1):
 dD (cL k s l g m ek ks t v)=0↔lU (eD k s l g) (evs++[(ks,t,v)]):=by
 have hm:=(RX hR hT hev hn).2.2.1;constructor;intro h;obtain⟨R,m',a1,a2,a3,a4,a5,a6,a7⟩:=Yp hX hR hT hm hev hv h;intro key a b hp;have:=(a5.tab key a b _).2 ⟨hp,rfl⟩;exact(a5.pos this).2.1.2.1;grind[d45,d43]
end
def d48(L:U0)(mark:Int)(hL: ∀r∈L,cO r=r):sA L mark=L.filter (ia mark):=by have h:=Er (λr=>bif ia mark r then [cO r]else []) L;unfold sA;rw[show dR9 L mark=λi=>(λr=>bif ia mark r then [cO r]else []) (cg L i)from rfl,h,OT (ia mark) cO L];exact(y6 (g:=id) λr hr=>hL r (l9.1 hr).1).trans (F5 _)
def d49{k s w g:Int}{evs:List dw}{m:U0}(hT:TOK (eD k s w g) evs m):lU (eD k s w g) evs:=λkey a b hp=>(hT.pos ((hT.tab key a b _).2 ⟨hp,rfl⟩)).2.1.2.1
section
variable{X:Nat->U0->Val}{k s w g:Int}{l:U0}(hX:XOk X)(hR:cY k s w g=true)(hn:l.length<=24)(ho: ∀r∈l,Yt r=true)
include hX hR hn ho
end
def ug:Val->Bool
 | .A [.D e,.vs k,.D t,.D v]=>decide (e=1)&&(decide (Y4 1 k t v=0)&&(decide (-9223372036854775808<=v)&&decide (v<9223372036854775808)))
 |_=>false
def er9(a:U0):Val:= .B (cY (ce a 0).I (ce a 1).I (ce a 2).I (ce a 3).I&&(decide ((ce a 4).L.length<=24)&&(ce a 4).L.all ug))
def FE(X:Nat->U0->Val):Nat->U0->Val:=λi a=>match i with
 |726=>eI X a
 |763=>el1 a
 |764=>el2 a
 |810=>OG a
 |811=>SE a
 |812=>Pu a
 |813=>Qk a
 |820=>Fd a
 |824=>KE a
 |825=>Ut a
 |826=>Iv a
 |827=>DX a
 |828=>li X a
 |829=>rj a
 |830=>oG a
 |831=>mZ a
 |832=>oU a
 |833=>eq7 X a
 |834=>eq6 a
 |835=>er4 a
 |836=>er3 X a
 |837=>er2 X a
 |838=>er5 a
 |839=>er6 a
 |840=>er9 a
 |842=> .D (sR (ce a 0).L)
 |843=> .D (sE (ce a 0).L)
 |850=>ek1 a
 |851=>ek2 a
 |852=>Gz km (ce a 4).L (ce a 7).L
 |853=>ek3 a
 |854=>ek5 a
 |855=>ek6 a
 |856=>Pm a
 |857=>Ef a
 |858=>uK a
 |859=>pQ a
 |860=>ek4 a
 |861=>ek7 a
 |862=>ZX a
 |863=>ek9 a
 |864=>ek0 a
 |865=>el0 a
 |866=>Wm a
 |867=>Fq a
 |868=>Zm a
 |869=>eq5 a
 |870=>Zn a
 |871=>ej9 a
 |872=>eq9 X a
 |873=>eq2 a
 |874=>lW (cw (λi=>[cO (cg (ce a 5).L i)]) (ce a 5).L.length) (ce a 5).L.length
 |875=>er8 a
 |_=>X i a
section
variable{X Y:Nat->U0->Val}(h: ∀a,X 490 a=Y 490 a)
include h
