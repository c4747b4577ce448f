import Derived.Test.YtpmabjilbokleaaGreatEL3
import Derived.Test.YtpmabjilbokleaaGreatEM1
set_option linter.unusedSimpArgs false
set_option linter.unusedVariables false
namespace Go.Ev.S9
open Go Go.Ev
def rA(r:Val):Tb.Ag:=(ci r 3,ci r 4,ci r 5,ci r 6)
def bO(m:List Val)(p:PaneM):Option Tb.Ag:=(m.find? λr=>decide (R8 r=p)).map rA
def lk(m:List Val)(k:List UInt8)(s e:Int):Option Tb.Ag:=bO m ⟨k,s,e⟩
def set1(m:List Val)(r:Val):List Val:=bif gg m (cC r)then m.set (eI m (cC r)) (W3 r)else m++[W3 r]
def jw(m:List Val)(p:Val):List Val:=m.eraseIdx (eI m (cC p))
theorem cI4(r p:Val):dR [.str,.int .i64,.int .i64] r p=decide (R8 r=R8 p):=by
 show(decide ((S1 p 0).toS=(S1 r 0).toS)&&(decide ((S1 p 1).toI=(S1 r 1).toI)&&(decide ((S1 p 2).toI=(S1 r 2).toI)&&true)))=_;simp[j7,decide_eq_true_eq,R8,PaneM.mk.injEq];grind
theorem cI5(l:List Val)(p:Val):eI l p=l.findIdx λr=>decide (R8 r=R8 p):=by
 grind[eI,cI4]
theorem IM(x:Val)(m:List Val)(p:Val):eI (x::m) p=if R8 x=R8 p then 0 else eI m p+1:=by
 simp_all[cI5,List.findIdx_cons,R8,e8,e9,b9,j5]
theorem zU(x:Val)(m:List Val)(p:Val):gg (x::m) p=(decide (R8 x=R8 p)||gg m p):=by
 unfold gg;rw[IM];grind
theorem dL9(x:Val)(m:List Val)(n:Nat):aO (x::m) (n+1)=aO m n:=rfl
theorem Pk(x:Val)(m:List Val)(p:Val)(j:Nat):lR (x::m) p j=if R8 x=R8 p then S1 x j else lR m p j:=by
 unfold lR;rw[zU,IM];by_cases h:R8 x=R8 p
 .rw[e8 h,e8 h,e9 h];rfl
 simp_all[b9,j5,B5,dL9]
theorem me(x:Val)(m:List Val)(p:PaneM):bO (x::m) p=if R8 x=p then some (rA x)else bO m p:=by
 unfold bO;grind
theorem d88(p:PaneM):bO [] p=none:=rfl
theorem KN(x:Val)(m:List Val)(r:Val):set1 (x::m) r=if R8 x=R8 r then W3 r::m else x::set1 m r:=by
 unfold set1;rw[zU,IM];have e:R8 (cC r)=R8 r:=rfl;grind
theorem Of(r:Val):set1 [] r=[W3 r]:=rfl
theorem co7(x:Val)(m:List Val)(r:Val):jw (x::m) r=if R8 x=R8 r then m else x::jw m r:=by
 unfold jw;rw[IM];have e:R8 (cC r)=R8 r:=rfl;grind
theorem Ej(r:Val)(p:PaneM): ∀m:List Val,bO (set1 m r) p=if R8 r=p then some (rA r)else bO m p
 | []=>by rw[Of,me];rfl
 |x::m=>by
  rw[KN];by_cases h:R8 x=R8 r
  .rw[e8 h,me,me];have e:R8 (W3 r)=R8 r:=rfl;rw[e,h];by_cases h2:R8 r=p
   .rw[e8 h2,e8 h2];rfl
   grind
  .rw[b9 h,me,me,Ej r p m];grind
theorem Nq(r:Val): ∀m:List Val,∀x∈set1 m r,x∈m\/x=W3 r
 | [],x,h=>by grind[Of,List.mem_singleton]
 |y::m,x,h=>by
  rw[KN]at h;by_cases c:R8 y=R8 r
  .grind
  .rw[b9 c]at h;rcases m7.1 h with h|h
   .grind
   .rcases Nq r m x h with h|h
    .exact .inl (y5 _ h)
    grind
theorem Ry(r:Val): ∀m:List Val,(m.map R8).Nodup->((set1 m r).map R8).Nodup
 | [],h=>by rw[Of];simp
 |y::m,h=>by
  rw[n9,C8]at h;rw[KN];by_cases c:R8 y=R8 r
  .have e:R8 (W3 r)=R8 y:=c.symm;grind
  .rw[b9 c,n9,C8];refine⟨λhm=> ?_,Ry r m h.2⟩;obtain⟨x,hx,e⟩:=j8.1 hm;rcases Nq r m x hx with q|q
   .grind
   .subst q;exact c e.symm
theorem Vv(p:Val)(m:List Val):(jw m p).Sublist m:=List.eraseIdx_sublist _ _
theorem cI6{m:List Val}{p:PaneM}(h:p∉m.map R8):bO m p=none:=by
 simp_all[bO,s9,decide_eq_true_eq,j8]
theorem UE(r:Val)(p:PaneM): ∀m:List Val,(m.map R8).Nodup->bO (jw m r) p=if R8 r=p then none else bO m p
 | [],h=>by
   have e:jw [] r=[]:=rfl;rw[e,d88];simp
 |x::m,h=>by
  rw[n9,C8]at h;rw[co7];by_cases c:R8 x=R8 r
  .rw[e8 c,me];by_cases d:R8 r=p
   .rw[e8 d,cI6 (by rw[<-d,<-c];exact h.1)]
   .rw[b9 d,b9 (by rw[c];exact d)]
  .rw[b9 c,me,me,UE r p m h.2];by_cases d:R8 r=p
   .rw[e8 d,e8 d,b9 (by rw[<-d];exact c)]
   .rw[b9 d,b9 d]
theorem AP{m:List Val}{p:PaneM}{a:Tb.Ag}(h:bO m p=some a): ∃r∈m,R8 r=p/\rA r=a:=by
 obtain⟨r,h1,h2⟩:=o8.1 h;grind
theorem yQ: ∀{m:List Val} {r:Val},(m.map R8).Nodup->r∈m->bO m (R8 r)=some (rA r)
 | [],r,_,h=>absurd h (E6)
 |x::m,r,hn,h=>by
  rw[n9,C8]at hn;rw[me];rcases m7.1 h with rfl|h
  .grind
  .rw[b9 λe=>hn.1 (j8.2 ⟨r,h,e.symm⟩)];exact yQ hn.2 h
theorem AD{p:Val}{a:Tb.Ag}: ∀{m:List Val},bO m (R8 p)=some a-> ∃r∈m,R8 r=R8 p/\rA r=a/\gg m p=true/\ ∀j,lR m p j=S1 r j
 | [],h=>by cases h
 |x::m,h=>by
  rw[me]at h;by_cases c:R8 x=R8 p
  .rw[e8 c]at h;exact⟨x,C4 ..,c,P4 h,by grind[zU,decide_eq_true],λj=>by rw[Pk,e8 c]⟩
  .rw[b9 c]at h;obtain⟨r,h1,h2,h3,h4,h5⟩:=AD h;exact⟨r,y5 _ h1,h2,h3,by rw[zU,h4,Bool.or_true],λj=>by simp_all[Pk,b9]⟩
theorem Oo{p:Val}: ∀{m:List Val},bO m (R8 p)=none->gg m p=false/\ ∀j,lR m p j= .vi 0
 | [],h=>⟨rfl,λj=>rfl⟩
 |x::m,h=>by
  rw[me]at h;by_cases c:R8 x=R8 p
  .grind
  .rw[b9 c]at h;obtain⟨h1,h2⟩:=Oo h;simp_all[zU,j5,Pk,b9]
theorem Eo{l:List Val}{n:Nat}(h:n<l.length):l.take (n+1)=l.take n++[aO l n]:=by
 have e:aO l n=l[n]:=by simp[aO,j9,h]
 rw[e,M9]
theorem Xi(m R:List Val): ∀n,n<=R.length->bW (.vl m) R n= .vl ((R.take n).foldl set1 m)
 |0,_=>rfl
 |n+1,h=>by
  rw[Eo (by omega),Q4];unfold bW;rw[Xi m R n (by omega)];show(bif gg ((R.take n).foldl set1 m) (cC (aO R n))then Val.vl (((R.take n).foldl set1 m).set (eI ((R.take n).foldl set1 m) (cC (aO R n))) (W3 (aO R n)))else Val.vl (((R.take n).foldl set1 m)++[W3 (aO R n)]))=Val.vl (set1 ((R.take n).foldl set1 m) (aO R n));grind[set1,gg,cC,aO]
theorem Ti(m R:List Val):bW (.vl m) R R.length= .vl (R.foldl set1 m):=by
 simp_all[Xi,i6,x9]
theorem Ys(m R:List Val): ∀n,n<=R.length->cF (.vl m) R n= .vl ((R.take n).foldl jw m)
 |0,_=>rfl
 |n+1,h=>by
  rw[Eo (by omega),Q4];unfold cF;rw[Ys m R n (by omega)];rfl
theorem cI7(m R:List Val):cF (.vl m) R R.length= .vl (R.foldl jw m):=by
 simp_all[Ys,i6,x9]
theorem KI{p:PaneM}: ∀(R m:List Val),p∉R.map R8->bO (R.foldl set1 m) p=bO m p
 | [],m,h=>rfl
 |r::R,m,h=>by
  rw[n9,m7]at h;rw[List.foldl_cons,KI R _ (λx=>h (.inr x)),Ej,b9 λe=>h (.inl e.symm)]
theorem JY{r:Val}: ∀(R m:List Val),(R.map R8).Nodup->r∈R->bO (R.foldl set1 m) (R8 r)=some (rA r)
 | [],m,_,h=>absurd h (E6)
 |x::R,m,hn,h=>by
  rw[n9,C8]at hn;rw[List.foldl_cons];rcases m7.1 h with rfl|h
  .rw[KI R _ hn.1,Ej,e8 rfl]
  .exact JY R _ hn.2 h
theorem NX: ∀(R m:List Val),∀x∈R.foldl set1 m,x∈m\/ ∃r∈R,x=W3 r
 | [],m,x,h=> .inl h
 |r::R,m,x,h=>by
  rcases NX R (set1 m r) x h with h|⟨y,h1,h2⟩
  .rcases Nq r m x h with h|h
   .exact .inl h
   .exact .inr ⟨r,C4 ..,h⟩
  grind
theorem MM: ∀(R m:List Val),(m.map R8).Nodup->((R.foldl set1 m).map R8).Nodup
 | [],m,h=>h
 |r::R,m,h=>MM R _ (Ry r m h)
theorem Mv: ∀(G m:List Val),(G.foldl jw m).Sublist m
 | [],m=>List.Sublist.refl _
 |g::G,m=>(Mv G (jw m g)).trans (Vv g m)
theorem d89(G m:List Val)(h:(m.map R8).Nodup):((G.foldl jw m).map R8).Nodup:=h.sublist ((Mv G m).map _)
theorem Xu(p:PaneM): ∀(G m:List Val),(m.map R8).Nodup->bO (G.foldl jw m) p=if p∈G.map R8 then none else bO m p
 | [],m,h=>by simp
 |g::G,m,h=>by
  rw[List.foldl_cons,Xu p G _ (h.sublist ((Vv g m).map _)),UE g p m h,n9];grind
end Go.Ev.S9
namespace Go.Ev.S9
open Go Go.Ev
def be(a:Tb.Ag):Val:= .vl [.vi a.1,.vi a.2.1,.vi a.2.2.1,.vi a.2.2.2]
def gd(a:Tb.Ag):Prop:=aY a.1/\aY a.2.1/\aY a.2.2.1/\aY a.2.2.2
theorem Lx:aY 0:=⟨by decide,by decide⟩
theorem ve:aY 1:=⟨by decide,by decide⟩
theorem Lv{g g':Nat->List Val}: ∀n,(∀k,k<n->g k=g' k)->U4 g n=U4 g' n
 |0,_=>rfl
 |n+1,h=>by rw[U4,U4,Lv n (λk hk=>h k (by omega)),h n (by omega)]
theorem br5(L:List Val): ∀n,n<=L.length->lX (λk=>ci (aO L k) 0) n=Tb.sumI ((L.take n).map λr=>ci r 0)
 |0,_=>rfl
 |n+1,h=>by
  rw[Eo (by omega),u4,Tb.sumI_app,<-br5 L n (by omega)];show _+_=_+(ci (aO L n) 0+0);grind
theorem Ro(L:List Val):lX (λk=>ci (aO L k) 0) L.length=Tb.sumI (L.map λr=>ci r 0):=by
 rw[br5 L _ (i6 _),x9]
theorem Sw{L:List Val}(hL: ∀r∈L,aY (ci r 0))(hn:L.length<=1000000)(h:cO L=0):aY (Tb.sumI (L.map λr=>ci r 0))/\mO L=Tb.sumI (L.map λr=>ci r 0):=by
 have hg: ∀k,aY (ci (aO L k) 0):=λk=>by
  by_cases c:k<L.length
  .have e:aO L k=L[k]:=by simp[aO,j9,c]
   rw[e];exact hL _ (B6 c)
  .have e:aO L k= .vl []:=by simp[aO,j9,s7 (C6.1 c)]
   rw[e];exact Lx
 obtain⟨h1,h2⟩:=VQ hg hn;rw[Ro]at h1 h2;have h0:(cx (λk=>ci (aO L k) 0) L.length).2=0:=by
  unfold cO cT at h;by_cases c:(cx (λk=>ci (aO L k) 0) L.length).2=0
  .exact c
  .rw[b9 c]at h;cases h
 simp_all[mO,cT,e8]
theorem cp3{gs:List Tb.Ag}(x:Tb.Ag)(h:gs≠[]):Tb.agAll (gs++[x])=Tb.ag2 (Tb.agAll gs) x:=by
 cases gs with
 |nil=>grind
 |cons a l=>
  show(l++[x]).foldl Tb.ag2 a=_;rw[Q4];rfl
theorem Xf: ∀(l:List Tb.Ag) (a:Tb.Ag),(l.foldl Tb.ag2 a).1=a.1+Tb.sumI (l.map (·.1))/\(l.foldl Tb.ag2 a).2.1=a.2.1+Tb.sumI (l.map (·.2.1))
 | [],a=>⟨(J3 _).symm,(J3 _).symm⟩
 |x::l,a=>by
  obtain⟨h1,h2⟩:=Xf l (Tb.ag2 a x);rw[List.foldl_cons,h1,h2];refine⟨?_,?_⟩
  .show a.1+x.1+_=a.1+(x.1+_);omega
  .show a.2.1+x.2.1+_=a.2.1+(x.2.1+_);omega
theorem NM{gs:List Tb.Ag}:(Tb.agAll gs).1=Tb.sumI (gs.map (·.1))/\(Tb.agAll gs).2.1=Tb.sumI (gs.map (·.2.1)):=by
 cases gs with
 |nil=>exact⟨rfl,rfl⟩
 |cons a l=>exact Xf l a
theorem Zq: ∀(l:List Tb.Ag) (a:Tb.Ag),aY a.2.2.1/\aY a.2.2.2->(∀x∈l,gd x)->aY (l.foldl Tb.ag2 a).2.2.1/\aY (l.foldl Tb.ag2 a).2.2.2
 | [],a,h,_=>h
 |x::l,a,h,hl=>by
  refine Zq l _ ?_ (λy hy=>hl y (y5 _ hy));have hx:=(hl x (C4 ..)).2.2;show aY (min a.2.2.1 x.2.2.1)/\aY (max a.2.2.2 x.2.2.2);grind
theorem cI8{gs:List Tb.Ag}(hne:gs≠[])(h: ∀x∈gs,gd x):aY (Tb.agAll gs).2.2.1/\aY (Tb.agAll gs).2.2.2:=by
 cases gs with
 |nil=>grind
 |cons a l=>exact Zq l a (h a (C4 ..)).2.2 (λx hx=>h x (y5 _ hx))
theorem NS{gs:List Tb.Ag}{k:Nat}(h:k<gs.length):aO (gs.map be) k=be gs[k]:=by simp[aO,j9,h]
theorem KC{a:Tb.Ag}(h:1<=a.1):pf (be a)=false:=by
 show xe a.1 a.2.1 a.2.2.1 a.2.2.2=false;grind[xe,decide_eq_false]
theorem VU{gs:List Tb.Ag}(hc: ∀a∈gs,1<=a.1/\gd a)(c:Nat): ∀k,k<gs.length->jG (gs.map be) c k=[.vl [S1 (aO (gs.map be) k) c]]:=λk hk=>by
 grind[jG,NS,KC,List.getElem_mem]
theorem HP{gs:List Tb.Ag}(hc: ∀a∈gs,1<=a.1/\gd a)(c:Nat):U4 (jG (gs.map be) c) (gs.map be).length=gs.map λa=> .vl [S1 (be a) c]:=by
 rw[Lv (g':=λk=>[(λr=>Val.vl [S1 r c]) (aO (gs.map be) k)]) _ (λk hk=>VU hc c k (by simpa using hk))];refine(rT (λr=>Val.vl [S1 r c]) (gs.map be)).trans ?_;simp_all
theorem OX{gs:List Tb.Ag}(hc: ∀a∈gs,1<=a.1/\gd a): ∀k,k<=gs.length->(U4 (jG (gs.map be) 0) k).length=k
 |0,_=>rfl
 |k+1,h=>by rw[U4,l5,OX hc k (by omega),VU hc 0 k (by omega)];rfl
theorem cS9{gs:List Tb.Ag}(hc: ∀a∈gs,1<=a.1/\gd a): ∀k,k<gs.length-> ∃x y,jS (gs.map be) (k+1)=[x,y,.vi (Tb.agAll (gs.take (k+1))).2.2.1,.vi (Tb.agAll (gs.take (k+1))).2.2.2]
 |0,h=>by
  have e:gs.take 1=[gs[0]]:=by
   rw[<-M9 h];rfl
  unfold jS;rw[NS h,KC (hc _ (B6 h)).1,OX hc 0 (by omega),e,e8 rfl];refine⟨S1 (be gs[0]) 0,S1 (be gs[0]) 1,?_⟩;show [S1 (be gs[0]) 0,S1 (be gs[0]) 1,Val.vi (min gs[0].2.2.1 gs[0].2.2.1),.vi (max gs[0].2.2.2 gs[0].2.2.2)]=[S1 (be gs[0]) 0,S1 (be gs[0]) 1,Val.vi gs[0].2.2.1,.vi gs[0].2.2.2];grind
 |k+1,h=>by
  obtain⟨x,y,e⟩:=cS9 hc k (by omega);have e2:gs.take (k+1+1)=gs.take (k+1)++[gs[k+1]]:=(M9 h).symm;have hne:gs.take (k+1)≠[]:=λc=>by
   simp_all
  rw[e2,cp3 _ hne];rw[show jS (gs.map be) (k+1+1)=(bif pf (aO (gs.map be) (k+1))then jS (gs.map be) (k+1)else
   (if(U4 (jG (gs.map be) 0) (k+1)).length=0 then [S1 (aO (gs.map be) (k+1)) 0,S1 (aO (gs.map be) (k+1)) 1,.vi (min (ci (aO (gs.map be) (k+1)) 2) (ci (aO (gs.map be) (k+1)) 2)),.vi (max (ci (aO (gs.map be) (k+1)) 3) (ci (aO (gs.map be) (k+1)) 3))]
    else [(jS (gs.map be) (k+1)).getD 0 default,(jS (gs.map be) (k+1)).getD 1 default,.vi (min ((jS (gs.map be) (k+1)).getD 2 default).toI (ci (aO (gs.map be) (k+1)) 2)),.vi (max ((jS (gs.map be) (k+1)).getD 3 default).toI (ci (aO (gs.map be) (k+1)) 3))]))from rfl]
  rw[NS h,KC (hc _ (B6 h)).1,OX hc (k+1) (by omega),b9 (by omega),e];exact⟨_,_,rfl⟩
theorem NQ{gs:List Tb.Ag}(hc: ∀a∈gs,1<=a.1/\gd a)(hn:gs.length<=1000000)(hne:gs≠[])(h:jE (gs.map be)=0):
 jR (gs.map be)=[.vi (Tb.agAll gs).1,.vi (Tb.agAll gs).2.1,.vi (Tb.agAll gs).2.2.1,.vi (Tb.agAll gs).2.2.2]/\gd (Tb.agAll gs):=by
 have hn': ¬(cO (jC (gs.map be))≠0\/cO (jT (gs.map be))≠0):=λc=>by
  unfold jE at h;rw[if_pos c]at h;cases h
 have e0:cO (jC (gs.map be))=0:=Classical.byContradiction λc=>hn' (.inl c)
 have e1:cO (jT (gs.map be))=0:=Classical.byContradiction λc=>hn' (.inr c)
 have c0:jC (gs.map be)=gs.map λa=> .vl [S1 (be a) 0]:=HP hc 0
 have c1:jT (gs.map be)=gs.map λa=> .vl [S1 (be a) 1]:=HP hc 1
 rw[c0]at e0;rw[c1]at e1;obtain⟨s1,s2⟩:=Sw (λr hr=>by
  obtain⟨a,ha,rfl⟩:=j8.1 hr;exact(hc a ha).2.1) (by simpa using hn) e0
 obtain⟨s3,s4⟩:=Sw (λr hr=>by
  obtain⟨a,ha,rfl⟩:=j8.1 hr;exact(hc a ha).2.2.1) (by simpa using hn) e1
 rw[o7]at s1 s2 s3 s4;have m1:Tb.sumI (gs.map ((λr=>ci r 0)∘λa=>Val.vl [S1 (be a) 0]))=(Tb.agAll gs).1:=NM.1.symm;have m2:Tb.sumI (gs.map ((λr=>ci r 0)∘λa=>Val.vl [S1 (be a) 1]))=(Tb.agAll gs).2.1:=NM.2.symm;rw[m1]at s1 s2;rw[m2]at s3 s4;have hl:0<gs.length:=N0.2 hne;obtain⟨x,y,e⟩:=cS9 hc (gs.length-1) (by omega);rw[show gs.length-1+1=gs.length by omega,x9]at e;refine⟨?_,s1,s3,cI8 hne λx hx=>(hc x hx).2⟩;simp_all[jR,b9,o9]
theorem kK(v:Int):Tb.agOf [v]=(1,v,v,v):=by
 show((1:Int),v+0,v,v)=_;grind
theorem cI9{a:Tb.Ag}{v:Int}(ha:1<=a.1)(hi:gd a)(hv:aY v)(h:jE (pR (.vi a.1) (.vi a.2.1) (.vi a.2.2.1) (.vi a.2.2.2) (.vi v))=0):
 kr (.vi a.1) (.vi a.2.1) (.vi a.2.2.1) (.vi a.2.2.2) (.vi v)=[.vi (Tb.ag2 a (Tb.agOf [v])).1,.vi (Tb.ag2 a (Tb.agOf [v])).2.1,.vi (Tb.ag2 a (Tb.agOf [v])).2.2.1,.vi (Tb.ag2 a (Tb.agOf [v])).2.2.2]/\gd (Tb.ag2 a (Tb.agOf [v])):=by
 have e:pR (.vi a.1) (.vi a.2.1) (.vi a.2.2.1) (.vi a.2.2.2) (.vi v)=[a,Tb.agOf [v]].map be:=by rw[kK];rfl
 unfold kr;rw[b9 (by omega)];rw[e]at h⊢;refine NQ (λx hx=> ?_) (by simp) (by simp) h;rcases m7.1 hx with rfl|hx
 .grind
 .rw[m9]at hx;subst hx;rw[kK];exact⟨u9 _,ve,hv,hv,hv⟩
theorem cJ0{v:Int}(hv:aY v)(h:jE (pR (.vi 0) (.vi 0) (.vi 0) (.vi 0) (.vi v))=0):
 kr (.vi 0) (.vi 0) (.vi 0) (.vi 0) (.vi v)=[.vi (Tb.agOf [v]).1,.vi (Tb.agOf [v]).2.1,.vi (Tb.agOf [v]).2.2.1,.vi (Tb.agOf [v]).2.2.2]/\gd (Tb.agOf [v]):=by
 have e1:jC (pR (.vi 0) (.vi 0) (.vi 0) (.vi 0) (.vi v))=jC ([Tb.agOf [v]].map be):=by rfl
 have e2:jT (pR (.vi 0) (.vi 0) (.vi 0) (.vi 0) (.vi v))=jT ([Tb.agOf [v]].map be):=by rw[kK];rfl
 have e3:jS (pR (.vi 0) (.vi 0) (.vi 0) (.vi 0) (.vi v)) (pR (.vi 0) (.vi 0) (.vi 0) (.vi 0) (.vi v)).length=jS ([Tb.agOf [v]].map be) ([Tb.agOf [v]].map be).length:=by rw[kK];rfl
 have e4:jE (pR (.vi 0) (.vi 0) (.vi 0) (.vi 0) (.vi v))=jE ([Tb.agOf [v]].map be):=by grind[jE]
 have e5:jR (pR (.vi 0) (.vi 0) (.vi 0) (.vi 0) (.vi v))=jR ([Tb.agOf [v]].map be):=by grind[jR]
 unfold kr;rw[b9 (by omega),e5];rw[e4]at h;refine NQ (gs:=[Tb.agOf [v]]) (λx hx=> ?_) (by simp) (by simp) h;rw[m9]at hx;subst hx;rw[kK];exact⟨u9 _,ve,hv,hv,hv⟩
end Go.Ev.S9
namespace Go.Ev.S9
open Go Go.Ev
def ji(step size:Int)(a b:Int):Prop:=a % step=0/\b=a+size
theorem d92{step s t a:Int}{n:Nat}(h1:1<=step)(hn:(n:Int)*step=s):(∃j:Nat,j<n/\a=cu t step-s+step+(j:Int)*step)↔a % step=0/\a<=t/\t<a+s:=by
 have hq:step*(t/step)+t % step=t:=Int.mul_ediv_add_emod t step;have r1:0<=t % step:=G3 _ (by omega);have r2:t % step<step:=G4 _ (by omega);generalize t/step=q at hq;have hd:cu t step=step*q:=by grind[cu]
 rw[hd];constructor
 .rintro⟨j,hj,rfl⟩;have e:step*q-s+step+(j:Int)*step=step*(q-n+1+j):=by
   rw[<-hn,N1,N1,Int.mul_sub,Int.mul_one,E7 (n:Int) step,E7 (j:Int) step]
  have b1:(j:Int)*step<=((n:Int)-1)*step:=E8 (by omega) (by omega);have b2:0<=(j:Int)*step:=G5 (by omega) (by omega);grind[Int.sub_mul,Int.mul_emod_right]
 .rintro⟨c1,c2,c3⟩;have ha:step*(a/step)=a:=by
   have:=Int.mul_ediv_add_emod a step;omega
  generalize a/step=c at ha;have l1:c<q+1:=Int.lt_of_mul_lt_mul_left (a:=step) (by rw[N1];omega) (by omega);have l2:q<c+n:=Int.lt_of_mul_lt_mul_left (a:=step) (by rw[N1,E7 step (n:Int)];omega) (by omega);refine⟨(c-(q-n+1)).toNat,by omega,?_⟩;grind[Int.toNat_of_nonneg,Int.sub_mul,Int.add_mul,Int.mul_comm]
theorem du1{k s l g:Int}(h:R9 k s l g=true)(h3:k≠3):1<=W8 k s l/\(cg k s l:Int)*W8 k s l=s/\1<=s/\s<=1048576/\cg k s l<=16:=by
 unfold R9 at h;by_cases h1:k=1
 .have e:W8 1 s l=s:=rfl;grind[cg,Cb,Int.emod_self,Int.ediv_self]
 .rw[b9 h1]at h;by_cases h2:k=2
  .subst h2;simp at h;have e:W8 2 s l=l:=rfl;unfold cg;rw[e];obtain⟨m1,m2⟩:=Cb (s:=s) (l:=l) (by omega) (by omega) (by omega);refine⟨by omega,m1,by omega,by omega,by omega⟩
  grind
theorem yB{k s l g:Int}(h:R9 k s l g=true)(h3:k=3):1<=g/\g<=1048576:=by
 simp_all[R9,b9,j7,decide_eq_true_eq]
def Bo(st step s:Int)(n:Nat):List (Int×Int):=(List.range n).map λ(j:Nat)=>(st+(j:Int)*step,st+(j:Int)*step+s)
theorem WE{k s l g t:Int}(h:R9 k s l g=true)(h3:k≠3)(ht:U8 t=true):bh k s l g (.vi t)=(Bo (cu t (W8 k s l)-s+W8 k s l) (W8 k s l) s (cg k s l)).map λp=>Val.vl [.vi p.1,.vi p.2]:=by
 unfold bh;simp_all;rw[nW];unfold Bo;rw[o7,Q3];rfl
theorem DN{k s l g t:Int}(h:R9 k s l g=true)(h3:k≠3)(ht:U8 t=true):
 ((bh k s l g (.vi t)).map R6).Nodup/\(∀a b,(a,b)∈(bh k s l g (.vi t)).map R6↔ji (W8 k s l) s a b/\a<=t/\t<b)/\ ∀r∈bh k s l g (.vi t),r= .vl [.vi (R6 r).1,.vi (R6 r).2]:=by
 obtain⟨w1,w2,w3,w4,w5⟩:=du1 h h3;have e:(bh k s l g (.vi t)).map R6=Bo (cu t (W8 k s l)-s+W8 k s l) (W8 k s l) s (cg k s l):=by
  rw[WE h h3 ht,o7];exact E9 _
 have hi:=λa=>d92 (t:=t) (a:=a) w1 w2
 rw[e];refine⟨?_,λa b=> ?_,λr hr=> ?_⟩
 .unfold Bo;rw[G7,Q5];refine List.Pairwise.imp (λ{i j} hij e=> ?_) (G7.1 (K8 (n:=cg k s l)));grind[W8,Int.eq_of_mul_eq_mul_right]
 .unfold Bo ji;rw[j8];constructor
  .rintro⟨j,hj,e⟩;have e1:=congrArg Prod.fst e;have e2:=congrArg Prod.snd e;obtain⟨c1,c2,c3⟩:=(hi a).1 ⟨j,m8.1 hj,by omega⟩;exact⟨⟨c1,by omega⟩,c2,by omega⟩
  grind
 .rw[WE h h3 ht]at hr;obtain⟨p,_,rfl⟩:=j8.1 hr;rfl
def dv(ks:List UInt8)(a b:Int)(A:Tb.Ag):Val:= .vl [.vs ks,.vi a,.vi b,.vi A.1,.vi A.2.1,.vi A.2.2.1,.vi A.2.2.2]
theorem DZ(ks:List UInt8)(a b:Int)(A:Tb.Ag):R8 (dv ks a b A)=⟨ks,a,b⟩:=rfl
theorem cp9(ks:List UInt8)(a b:Int)(A:Tb.Ag):rA (dv ks a b A)=A:=rfl
theorem d93(ks:List UInt8)(a b:Int)(A:Tb.Ag):W3 (dv ks a b A)=dv ks a b A:=rfl
def nrm(r:Val):Prop:= ∃ks a b A,r=dv ks a b A/\ks.length<=1000/\gd A
theorem wK{r:Val}(h:nrm r):rowS r:=by
 obtain⟨ks,a,b,A,rfl,h1,h2⟩:=h;exact⟨ks,a,b,_,_,_,_,rfl,h1⟩
abbrev bB:=Tb.Evt (List UInt8)
structure TOK (W:Tb.Wd) (evs:List bB) (m:List Val):Prop where
 tab:Tb.Tab W evs (lk m)
 nd:(m.map R8).Nodup
 nrm: ∀r∈m,nrm r
 gap: ∀g,W= .ses g->0<g
theorem TOK.pos{W:Tb.Wd}{evs:List bB}{m:List Val}(h:TOK W evs m){k:List UInt8}{s e:Int}{a:Tb.Ag}(ha:lk m k s e=some a):1<=a.1/\gd a/\a=Tb.agOf (Tb.vals evs k s e)/\Tb.Pan W evs k s e:=by
 obtain⟨h1,h2⟩:=(h.tab k s e a).1 ha;obtain⟨r,hr,_,rfl⟩:=AP ha;obtain⟨ks,x,y,A,rfl,_,hA⟩:=h.nrm r hr;have hne:=Tb.Pan.ne h.gap h1;have:=N0.2 hne;refine⟨?_,hA,h2,h1⟩;rw[h2];show(1:Int)<=((Tb.vals evs k s e).length:Int);omega
theorem du2{W:Tb.Wd}{evs:List bB}{m:List Val}(h:TOK W evs m){ks:List UInt8}{a b v:Int}(hv:aY v)(he:gA m (.vs ks) (.vi v) (.vl [.vi a,.vi b])=0):
 kC m (.vs ks) (.vi v) (.vl [.vi a,.vi b])=dv ks a b (Tb.putA (lk m ks a b) v)/\gd (Tb.putA (lk m ks a b) v):=by
 have hp:R8 (ck (.vs ks) (.vl [.vi a,.vi b]))=⟨ks,a,b⟩:=rfl;unfold kC ws;unfold gA at he;unfold mJ at he⊢;cases hl:lk m ks a b with
 |none=>
  obtain⟨_,hc⟩:=Oo (m:=m) (p:=ck (.vs ks) (.vl [.vi a,.vi b])) (by exact hl);rw[hc,hc,hc,hc]at he⊢;obtain⟨e1,e2⟩:=cJ0 hv he;rw[e1];exact⟨rfl,e2⟩
 |some c=>
  obtain⟨q1,q2,_,_⟩:=h.pos hl;obtain⟨r,hr,_,hA,_,hc⟩:=AD (m:=m) (p:=ck (.vs ks) (.vl [.vi a,.vi b])) (a:=c) (by exact hl);obtain⟨k',x,y,A,rfl,_,_⟩:=h.nrm r hr;subst hA;rw[hc,hc,hc,hc]at he⊢;obtain⟨e1,e2⟩:=cI9 q1 q2 hv he;have e1:kr (S1 (dv k' x y A) 3) (S1 (dv k' x y A) 4) (S1 (dv k' x y A) 5) (S1 (dv k' x y A) 6) (.vi v)=_:=e1;rw[e1];exact⟨rfl,e2⟩
end Go.Ev.S9
namespace Go.Ev.S9
open Go Go.Ev
structure XOk (X:Nat->List Val->Val):Prop where
 x431: ∀l:List Val,(∀r∈l,rowS r)->(X 431 [.vl l]).toB=true
 x491: ∀l:List Val,(l.map R8).Nodup->(X 491 [.vl l]).toB=true
 x490: ∀l:List Val,(∀r∈l,rowS r)-> ∃l',X 490 [.vl l]= .vl l'/\l'.Perm l
 x490u: ∀l l':List Val,(∀r∈l,rowS r)->l.Perm l'->(l.map R8).Nodup->X 490 [.vl l]=X 490 [.vl l']
 x3: ∀v:Val,X 3 [v,v]= .vb true
theorem qQ{ek t v:Int}{ks:List UInt8}(h:S8 ek ks t v=0)(h1:ek=1):ks.length<=32/\U8 t=true:=by
 unfold S8 at h;grind
def bA(k s l g:Int)(m:List Val)(ek:Int)(ks:List UInt8)(t v:Int):List Val:=[.vi k,.vi s,.vi l,.vi g,.vl m,.vi ek,.vs ks,.vi t,.vi v]
section
variable{X:Nat->List Val->Val}{k s l g ek t v:Int}{m:List Val}{ks:List UInt8}
theorem qE:bY (bA k s l g m ek ks t v)=if S8 ek ks t v≠0 then S8 ek ks t v else if ek≠1 then 2 else if k=3 then ou (.vi g) m (.vs ks) (.vi t) (.vi v)else(gW m (bh k s l g (.vi t)) (.vs ks) (.vi v) (.vi 0)).toI:=rfl
theorem PL:dJ (bA k s l g m ek ks t v)=if S8 ek ks t v≠0\/ek≠1 then []else if k=3 then ko (.vi g) m (.vs ks) (.vi t) (.vi v)else []:=rfl
theorem JN:cj X (bA k s l g m ek ks t v)=if S8 ek ks t v≠0\/ek≠1 then .vl []else if k=3 then .vl (jV (.vi g) m (.vs ks) (.vi t) (.vi v))else
 if bY (bA k s l g m ek ks t v)≠0 then .vl []else X 490 [.vl (cS m (bh k s l g (.vi t)) (.vs ks) (.vi v) (bh k s l g (.vi t)).length)]:=rfl
theorem MK:eY X (bA k s l g m ek ks t v)=if bY (bA k s l g m ek ks t v)≠0 then .vl m else bW (cF (.vl m) (dJ (bA k s l g m ek ks t v)) (dJ (bA k s l g m ek ks t v)).length) (cj X (bA k s l g m ek ks t v)).toL (cj X (bA k s l g m ek ks t v)).toL.length:=rfl
theorem du3(h:bY (bA k s l g m ek ks t v)≠0):dJ (bA k s l g m ek ks t v)=[]/\cj X (bA k s l g m ek ks t v)= .vl []/\eY X (bA k s l g m ek ks t v)= .vl m:=by
 refine⟨?_,?_,by rw[MK,e8 h]⟩
 .rw[PL];by_cases c:S8 ek ks t v≠0\/ek≠1
  .grind
  .rw[b9 c];by_cases c3:k=3
   .rw[e8 c3];rw[qE,b9 (λq=>c (.inl q)),b9 (λq=>c (.inr q)),e8 c3]at h;unfold ko;rw[if_pos h]
   grind
 .rw[JN];by_cases c:S8 ek ks t v≠0\/ek≠1
  .grind
  .rw[b9 c];by_cases c3:k=3
   .rw[e8 c3];rw[qE,b9 (λq=>c (.inl q)),b9 (λq=>c (.inr q)),e8 c3]at h;unfold jV;rw[if_pos h]
   grind
theorem cT0(h:bY (bA k s l g m ek ks t v)=0):S8 ek ks t v=0/\ek=1:=by
 rw[qE]at h;omega
theorem Ym(L:List Val):jE L=0\/jE L=30:=by
 unfold jE;omega
theorem du5(h0:S8 ek ks t v=0)(h1:ek=1):bY (bA k s l g m ek ks t v)=0\/bY (bA k s l g m ek ks t v)=30:=by
 rw[qE,b9 (by omega),b9 (by omega)];by_cases c3:k=3
 .rw[e8 c3];exact Ym _
 .rw[b9 c3];unfold gW;split
  .exact Ym _
  simp_all
theorem Co{S:List Val}{r:Val}(h:r∈S): ∃i,i<S.length/\aO S i=r:=by
 obtain⟨i,hi,e⟩:=A1 h;exact⟨i,hi,by simp[aO,j9,hi,e]⟩
theorem cJ1(hX:XOk X)(h3:k≠3)(hR:R9 k s l g=true){evs:List bB}(hT:TOK (.win (ji (W8 k s l) s)) evs m)(hv:aY v)(he:bY (bA k s l g m ek ks t v)=0):
 ∃R,cj X (bA k s l g m ek ks t v)= .vl R/\dJ (bA k s l g m ek ks t v)=[]/\eY X (bA k s l g m ek ks t v)= .vl (R.foldl set1 m)/\R.length<=16/\
  TOK (.win (ji (W8 k s l) s)) (evs++[(ks,t,v)]) (R.foldl set1 m)/\ ∀r∈R,nrm r/\bO (R.foldl set1 m) (R8 r)=some (rA r):=by
 obtain⟨e0,e1⟩:=cT0 he;obtain⟨k32,ht⟩:=qQ e0 e1;obtain⟨p1,p2,p3⟩:=DN (t:=t) hR h3 ht;have hlen:=xN (k:=k) (s:=s) (l:=l) (g:=g) (t:= .vi t) h3;have hG:dJ (bA k s l g m ek ks t v)=[]:=by simp_all[PL,b9]
 have hx:(gW m (bh k s l g (.vi t)) (.vs ks) (.vi v) (.vi 0)).toI=0:=by
  simp_all[qE,b9]
 have hR0:cj X (bA k s l g m ek ks t v)=X 490 [.vl (cS m (bh k s l g (.vi t)) (.vs ks) (.vi v) (bh k s l g (.vi t)).length)]:=by simp_all[JN,b9]
 have hP:eY X (bA k s l g m ek ks t v)=bW (.vl m) (cj X (bA k s l g m ek ks t v)).toL (cj X (bA k s l g m ek ks t v)).toL.length:=by
  rw[MK,b9 (by omega),hG];rfl
 rw[hP,hR0,hG];generalize bh k s l g (.vi t)=S at*
 obtain⟨t1,t2,t3⟩:=OP m S (.vs ks) (.vi v);have hK:dN m S (.vs ks) (.vi v)=S.length:=by
  refine O5 t1 (C6.1 λc=> ?_);simp_all[gW,e8]
 have hrow: ∀r∈S,kC m (.vs ks) (.vi v) r=dv ks (R6 r).1 (R6 r).2 (Tb.putA (lk m ks (R6 r).1 (R6 r).2) v)/\gd (Tb.putA (lk m ks (R6 r).1 (R6 r).2) v):=λr hr=>by
  grind[Co,R6,du2]
 have hL:cS m S (.vs ks) (.vi v) S.length=S.map λr=>dv ks (R6 r).1 (R6 r).2 (Tb.putA (lk m ks (R6 r).1 (R6 r).2) v):=by
  refine(rT (kC m (.vs ks) (.vi v)) S).trans ?_;grind[List.map_congr_left]
 rw[hL];have hn: ∀r∈S.map λr=>dv ks (R6 r).1 (R6 r).2 (Tb.putA (lk m ks (R6 r).1 (R6 r).2) v),nrm r:=λr hr=>by
  obtain⟨x,hx,rfl⟩:=j8.1 hr;exact⟨_,_,_,_,rfl,by omega,(hrow x hx).2⟩
 obtain⟨R,hq,hp⟩:=hX.x490 _ (λr hr=>wK (hn r hr));rw[hq,af3,Ti];have hRn: ∀r∈R,nrm r:=λr hr=>hn r (hp.mem_iff.1 hr)
 have hk:(S.map λr=>dv ks (R6 r).1 (R6 r).2 (Tb.putA (lk m ks (R6 r).1 (R6 r).2) v)).map R8=(S.map R6).map λp=>(⟨ks,p.1,p.2⟩:PaneM):=by
  rw[o7,o7];rfl
 have hkn:(R.map R8).Nodup:=by
  grind
 refine⟨R,rfl,rfl,rfl,?_,⟨?_,MM R m hT.nd,λr hr=> ?_,hT.gap⟩,λr hr=>⟨hRn r hr,JY R m hkn hr⟩⟩
 .rw[hp.length_eq,o9];exact hlen
 .refine Tb.tab_win (ks,t,v) hT.tab (λk' a b c=> ?_) (λk' a b c=> ?_)
  .obtain⟨rfl,c1,c2,c3⟩:=c;have hin:(a,b)∈S.map R6:=(p2 a b).2 ⟨c1,c2,c3⟩;obtain⟨r,hr,er⟩:=j8.1 hin;have hr2:dv k' a b (Tb.putA (lk m k' a b) v)∈R:=hp.mem_iff.2 (j8.2 ⟨r,hr,by grind⟩);exact JY R m hkn hr2
  .refine KI R m λhq=>c ?_
   grind
 .rcases NX R m r hr with h|⟨x,hx,rfl⟩
  .exact hT.nrm r h
  .obtain⟨a,b,c,d,rfl,h1,h2⟩:=hRn x hx;exact⟨a,b,c,d,rfl,h1,h2⟩
end
end Go.Ev.S9
namespace Go.Ev.S9
open Go Go.Ev
theorem Zt(y:Int×Int): ∀(x:List (Int×Int)) (a b:Int),Tb.nowOf a b (x++[y])=(min (Tb.nowOf a b x).1 y.1,max (Tb.nowOf a b x).2 y.2)
 | [],a,b=>rfl
 |p::x,a,b=>by
  show Tb.nowOf (min a p.1) (max b p.2) (x++[y])=_;rw[Zt y x];rfl
theorem Oq(l:List Val)(t o:Int):sL l t o=(l.filter λr=>na t o r).map bE:=by
 unfold sL;rw[nW];refine(Lb (λr=>bif na t o r then [bE r]else []) (.vl []) l).trans ?_;induction l with
 |nil=>rfl
 |cons a l ih=>
  grind
theorem RZ(l:List Val)(t g:Int):(sL l t (t+g)).map R6=Tb.joinedOf g t (l.map R6):=by
 rw[Oq,o7];unfold Tb.joinedOf;rw[List.filter_map];rfl
theorem Vx(l:List Val)(t g:Int): ∀i,i<=l.length->gS l (.vi t) (.vi (t+g)) i=(.vi (Tb.nowOf t (t+g) (Tb.joinedOf g t ((l.take i).map R6))).1,.vi (Tb.nowOf t (t+g) (Tb.joinedOf g t ((l.take i).map R6))).2)
 |0,_=>rfl
 |i+1,h=>by
  rw[show gS l (.vi t) (.vi (t+g)) (i+1)=(bif na t (t+g) (aO l i)then(Val.vi (min (gS l (.vi t) (.vi (t+g)) i).1.toI (ci (aO l i) 0)),Val.vi (max (gS l (.vi t) (.vi (t+g)) i).2.toI (ci (aO l i) 1)))else gS l (.vi t) (.vi (t+g)) i)from rfl];rw[Vx l t g i (by omega),Eo (by omega),u4];have e:Tb.joinedOf g t ((l.take i).map R6++[R6 (aO l i)])=Tb.joinedOf g t ((l.take i).map R6)++(if na t (t+g) (aO l i)then [R6 (aO l i)]else []):=by
   unfold Tb.joinedOf;rw[C5];rw[x7];rfl
  rw[List.map_singleton,e];cases na t (t+g) (aO l i)with
  |false=>simp
  |true=>
   rw[e8 rfl,Zt];rfl
theorem du6(l:List Val)(t g:Int):gS l (.vi t) (.vi (t+g)) l.length=(.vi (Tb.nowOf t (t+g) (Tb.joinedOf g t (l.map R6))).1,.vi (Tb.nowOf t (t+g) (Tb.joinedOf g t (l.map R6))).2):=by
 simp_all[Vx,i6,x9]
theorem MY{m:List Val}{ks:List UInt8}{r:Val}:r∈dy m ks↔ ∃x∈m,(S1 x 0).toS=ks/\r= .vl [S1 x 1,S1 x 2]:=by
 rw[Va,B2];grind[GQ,S1,decide_eq_true,decide_eq_false]
theorem Rd(m:List Val)(ks:List UInt8):(bi m (.vs ks)).Perm (dy m ks):=(yc swo_spanV _).1
theorem Fd{W:Tb.Wd}{evs:List bB}{m:List Val}(h:TOK W evs m)(ks:List UInt8):
 ((bi m (.vs ks)).map R6).Nodup/\(∀s e,(s,e)∈(bi m (.vs ks)).map R6↔lk m ks s e≠none)/\ ∀r∈bi m (.vs ks),r= .vl [.vi (R6 r).1,.vi (R6 r).2]:=by
 have hp:=Rd m ks;refine⟨((hp.map R6).nodup_iff).2 (cS6 ks h.nd),λs e=> ?_,λr hr=> ?_⟩
 .rw[(hp.map R6).mem_iff,j8];constructor
  .rintro⟨r,hr,he⟩;obtain⟨x,hx,rfl,rfl⟩:=MY.1 hr;obtain⟨k',a,b,A,rfl,_,_⟩:=h.nrm x hx;have he:(a,b)=(s,e):=he;have:=yQ h.nd hx;intro hc;have hc:bO m (R8 (dv k' s e A))=none:=hc;grind
  .intro hn;cases hl:lk m ks s e with
   |none=>grind
   |some c=>
    obtain⟨x,hx,hpn,_⟩:=AP hl;cases hpn;exact⟨_,MY.2 ⟨_,hx,rfl,rfl⟩,rfl⟩
 .obtain⟨x,hx,_,rfl⟩:=MY.1 (hp.mem_iff.1 hr);obtain⟨k',a,b,A,rfl,_,_⟩:=h.nrm x hx;rfl
theorem cJ3{a b:Val}(h:ci a 1<ci b 1):spanV a b<0:=by
 simp_all[spanV,yk,e8]
theorem cJ4(m:List Val)(ks:List UInt8){i:Nat}(h0:0<i)(hi:i<(bi m (.vs ks)).length):ci (aO (bi m (.vs ks)) (i-1)) 1<=ci (aO (bi m (.vs ks)) i) 1:=by
 have hs:=(yc swo_spanV (dy m ks)).2;have hi':i<(dT spanV (dy m ks)).length:=hi;have hpw:=M3.1 hs (i-1) i (by omega) hi' (by omega);have e1:aO (bi m (.vs ks)) (i-1)=(dT spanV (dy m ks))[i-1]:=by
  show aO (dT spanV (dy m ks)) (i-1)=_;simp[aO,j9,show i-1<(dT spanV (dy m ks)).length by omega]
 have e2:aO (bi m (.vs ks)) i=(dT spanV (dy m ks))[i]:=by
  show aO (dT spanV (dy m ks)) i=_;simp[aO,j9,hi']
 rw[e1,e2];exact C9.1 λhc=>hpw (cJ3 hc)
def fF(evs:List bB):Prop:= ∀x∈evs,U8 x.2.1=true/\aY x.2.2
theorem LL{t:Int}:U8 t=true↔ -1099511627776<=t/\t<=1099511627776:=by
 simp_all[U8,j7,decide_eq_true_eq]
theorem Ye{g t:Int}{evs:List bB}{m:List Val}(hT:TOK (.ses g) evs m)(hev:fF evs)(ht:U8 t=true)(hg1:1<=g)(hg2:g<=1048576)(ks:List UInt8):fc g t (bi m (.vs ks))=true:=by
 obtain⟨h1,h2,h3⟩:=Fd hT ks;have hord:=λ{i}=>cJ4 m ks (i:=i)
 generalize bi m (.vs ks)=S at*
 have hs: ∀r∈S,Tb.isS g (Tb.tms evs ks) (R6 r).1 (R6 r).2:=λr hr=>by
  have hm:((R6 r).1,(R6 r).2)∈S.map R6:=j8.2 ⟨r,hr,rfl⟩;cases hl:lk m ks (R6 r).1 (R6 r).2 with
  |none=>exact absurd hl ((h2 _ _).1 hm)
  |some c=>exact(hT.pos hl).2.2.2
 have hb: ∀i,i<S.length->iz g S i=false:=λi hi=>by
  have e:aO S i=S[i]:=by simp[aO,j9,hi]
  have hr:aO S i∈S:=by rw[e];exact B6 hi
  have q:=hs _ hr;have hb:=q.1.2.2.1;obtain⟨x1,hx1,_,ex1⟩:=q.1.1;obtain⟨x2,hx2,_,ex2⟩:=q.1.2.1;have b1:=LL.1 (hev x1 hx1).1;have b2:=LL.1 (hev x2 hx2).1;have s1:(R6 (aO S i)).1=ci (aO S i) 0:=rfl;have s2:(R6 (aO S i)).2=ci (aO S i) 1:=rfl;have e64:aS .sub .i64 (ci (aO S i) 1) (ci (aO S i) 0)=ci (aO S i) 1-ci (aO S i) 0:=gv (by omega) (by omega);unfold iz;rw[e64,j5 (by omega),j5 (by omega: ¬ci (aO S i) 1-ci (aO S i) 0<g),Bool.and_false,B5,B5];by_cases h0:0<i
  .have e':aO S (i-1)=S[i-1]:=by simp[aO,j9,show i-1<S.length by omega]
   have hr':aO S (i-1)∈S:=by rw[e'];exact B6 _
   have q':=hs _ hr';have ho:=hord h0 hi;have b':=q'.1.2.2.1;rw[e9 h0,A5];refine j5 λhc=> ?_
   have s1':(R6 (aO S (i-1))).1=ci (aO S (i-1)) 0:=rfl;have s2':(R6 (aO S (i-1))).2=ci (aO S (i-1)) 1:=rfl;have:=q'.one q ⟨by omega,by exact hc⟩;have hp:=M3.1 (G7.1 h1) (i-1) i (by simp;omega) (by simpa using hi) (by omega);rw[N2,N2,<-e,<-e']at hp;exact hp (Prod.ext this.1 this.2)
  .rw[j5 h0];rfl
 unfold fc;rw[e9 hg1,e9 hg2,ht];have:(List.range S.length).any (iz g S)=false:=by
  rw[O3];intro i hi;rw[hb i (m8.1 hi)];decide
 rw[this];rfl
end Go.Ev.S9
namespace Go.Ev.S9
open Go Go.Ev
def pr(ks:List UInt8)(p:Int×Int):Val:= .vl [.vs ks,.vi p.1,.vi p.2]
section
variable{X:Nat->List Val->Val}{k s l g ek t v:Int}{m:List Val}{ks:List UInt8}
theorem cT2(ht:U8 t=true)(hg1:1<=g)(hg2:g<=1048576):lh g t= .vi (t+g):=by
 grind[LL,lh,cV]
theorem du7{J:List (Int×Int)}{n1 n2:Int}{x:Val}:x∈gK (J.map (pr ks)) (.vs ks) (.vi n1) (.vi n2)↔ ∃p∈J,p≠(n1,n2)/\x=pr ks p:=by
 have e:gK (J.map (pr ks)) (.vs ks) (.vi n1) (.vi n2)=(J.map (pr ks)).flatMap (jy (.vs ks) (.vi n1) (.vi n2)):=by
  unfold gK;rw[nW];exact Lb (jy (.vs ks) (.vi n1) (.vi n2)) (.vl []) (J.map (pr ks))
 rw[e,B2];constructor
 .rintro⟨y,hy,hx⟩;obtain⟨p,hp,rfl⟩:=j8.1 hy;refine⟨p,hp,?_⟩;unfold jy at hx;have hs:ym (.vs ks) (.vi n1) (.vi n2) (pr ks p)=(decide (ks=ks)&&(decide (p.1=n1)&&decide (p.2=n2))):=rfl;rw[hs]at hx;by_cases c:p.1=n1/\p.2=n2
  .grind
  .have hz:(decide (ks=ks)&&(decide (p.1=n1)&&decide (p.2=n2)))=false:=by grind
   rw[hz]at hx;have hx:x∈[cC (pr ks p)]:=hx;rw[m9]at hx;exact⟨λq=>c ⟨by rw[q],by rw[q]⟩,hx⟩
 .rintro⟨p,hp,hne,rfl⟩;refine⟨_,j8.2 ⟨p,hp,rfl⟩,?_⟩;unfold jy;have hs:ym (.vs ks) (.vi n1) (.vi n2) (pr ks p)=(decide (ks=ks)&&(decide (p.1=n1)&&decide (p.2=n2))):=rfl;have hz:(decide (ks=ks)&&(decide (p.1=n1)&&decide (p.2=n2)))=false:=by
   grind
  rw[hs,hz];exact m9.2 rfl
theorem du8{J:List (Int×Int)}{n1 n2:Int}:(gK (J.map (pr ks)) (.vs ks) (.vi n1) (.vi n2)).length<=J.length:=by
 unfold gK;have:=Y7 (g:=λi=>jy (.vs ks) (.vi n1) (.vi n2) (aO (J.map (pr ks)) i)) (m:=1) (λi=>Oz _ _ _ _) (J.map (pr ks)).length;grind
theorem KL(hk:k=3)(hR:R9 k s l g=true){evs:List bB}(hT:TOK (.ses g) evs m)(hm:m.length<=400)(hev:fF evs)(hv:aY v)(he:bY (bA k s l g m ek ks t v)=0):
 ∃R m',cj X (bA k s l g m ek ks t v)= .vl R/\eY X (bA k s l g m ek ks t v)= .vl m'/\R.length<=16/\(dJ (bA k s l g m ek ks t v)).length<=400/\
  TOK (.ses g) (evs++[(ks,t,v)]) m'/\(∀r∈R,nrm r/\bO m' (R8 r)=some (rA r))/\ ∀p∈dJ (bA k s l g m ek ks t v),bO m' (R8 p)=none/\ ∃a b,p= .vl [.vs ks,.vi a,.vi b]:=by
 obtain⟨e0,e1⟩:=cT0 he;obtain⟨k32,ht⟩:=qQ e0 e1;obtain⟨hg1,hg2⟩:=yB hR hk;have hd: ¬(S8 ek ks t v≠0\/ek≠1):=λc=>c.elim (λc=>c e0) (λc=>c e1)
 have hio:=Ye hT hev ht hg1 hg2 ks;obtain⟨s1,s2,s3⟩:=Fd hT ks;have hsl:(bi m (.vs ks)).length<=400:=by
  rw[(Rd m ks).length_eq];grind[Nat.le_trans,Dm]
 have hown:=cT2 ht hg1 hg2;have hse:ou (.vi g) m (.vs ks) (.vi t) (.vi v)=0:=by
  simp_all[qE,b9,e8]
 have hG:dJ (bA k s l g m ek ks t v)=ko (.vi g) m (.vs ks) (.vi t) (.vi v):=by rw[PL,b9 hd,e8 hk]
 have hR0:cj X (bA k s l g m ek ks t v)= .vl (jV (.vi g) m (.vs ks) (.vi t) (.vi v)):=by rw[JN,b9 hd,e8 hk]
 have hP:eY X (bA k s l g m ek ks t v)=bW (cF (.vl m) (ko (.vi g) m (.vs ks) (.vi t) (.vi v)) (ko (.vi g) m (.vs ks) (.vi t) (.vi v)).length) (jV (.vi g) m (.vs ks) (.vi t) (.vi v)) (jV (.vi g) m (.vs ks) (.vi t) (.vi v)).length:=by
  simp_all[MK,b9]
 have hjn:gP (.vi g) m (.vs ks) (.vi t)=(Tb.joinedOf g t ((bi m (.vs ks)).map R6)).map λp=>Val.vl [.vi p.1,.vi p.2]:=by
  unfold gP;rw[S6,S6,hio,cond_true];unfold nf;rw[S6,S6,hown,S6,<-RZ,Oq,o7,o7];refine x6 λr hr=> ?_
  have e:=s3 r (n7.1 hr).1;have e2:(S1 r 0)= .vi (R6 r).1:=by rw[e];rfl
  have e3:(S1 r 1)= .vi (R6 r).2:=by rw[e];rfl
  show Val.vl [S1 r 0,S1 r 1]=Val.vl [.vi (R6 r).1,.vi (R6 r).2];grind
 have hnw:gJ (.vi g) m (.vs ks) (.vi t)=[.vi (Tb.nowOf t (t+g) (Tb.joinedOf g t ((bi m (.vs ks)).map R6))).1,.vi (Tb.nowOf t (t+g) (Tb.joinedOf g t ((bi m (.vs ks)).map R6))).2]:=by
  simp_all[gJ,S6,cond_true,eL,du6]
 have hpn:fh (.vi g) m (.vs ks) (.vi t)=(Tb.joinedOf g t ((bi m (.vs ks)).map R6)).map (pr ks):=by
  unfold fh;rw[hjn,o7];rfl
 have hjl:(Tb.joinedOf g t ((bi m (.vs ks)).map R6)).length<=400:=by
  have h1:=I9 (λp:Int×Int=>Tb.lapB p.1 p.2 t (t+g)) ((bi m (.vs ks)).map R6);rw[o9]at h1;exact n8 h1 hsl
 have hjm: ∀p∈Tb.joinedOf g t ((bi m (.vs ks)).map R6),∃c,lk m ks p.1 p.2=some c:=λp hp=>by
  have h1:=(n7.1 hp).1;cases hl:lk m ks p.1 p.2 with
  |some c=>grind
  |none=>grind
 have htab:=λM'=>Tb.tab_ses (g:=g) (by omega) (M':=M') (ks,t,v) hT.tab s2 s1
 have hbase:gO m (fh (.vi g) m (.vs ks) (.vi t)) (.vi v)=(Tb.agOf [v]::(Tb.joinedOf g t ((bi m (.vs ks)).map R6)).map λp=>(lk m ks p.1 p.2).getD (0,0,0,0)).map be:=by
  rw[hpn];unfold gO;rw[n9,o7,o7,kK];refine congrArg (List.cons _) (x6 λp hp=> ?_);obtain⟨c,hc⟩:=hjm p hp;show gQ m (pr ks p)=be ((lk m ks p.1 p.2).getD (0,0,0,0));rw[hc];obtain⟨r,hr,_,hA,_,hcol⟩:=AD (m:=m) (p:=cC (pr ks p)) (a:=c) hc;obtain⟨k',x,y,A,rfl,_,_⟩:=hT.nrm r hr;subst hA;unfold gQ HF;rw[hcol,hcol,hcol,hcol];rfl
 have hcs: ∀a∈(Tb.agOf [v]::(Tb.joinedOf g t ((bi m (.vs ks)).map R6)).map λp=>(lk m ks p.1 p.2).getD (0,0,0,0)),1<=a.1/\gd a:=λa ha=>by
  rcases m7.1 ha with rfl|ha
  .rw[kK];exact⟨u9 _,ve,hv,hv,hv⟩
  .obtain⟨p,hp,rfl⟩:=j8.1 ha;obtain⟨c,hc⟩:=hjm p hp;simp_all;exact⟨(hT.pos hc).1,(hT.pos hc).2.1⟩
 have hje:jE ((Tb.agOf [v]::(Tb.joinedOf g t ((bi m (.vs ks)).map R6)).map λp=>(lk m ks p.1 p.2).getD (0,0,0,0)).map be)=0:=by
  rw[<-hbase];exact hse
 obtain⟨hjr,hia⟩:=NQ hcs (by grind) (by simp) hje;have hsr:jV (.vi g) m (.vs ks) (.vi t) (.vi v)=[dv ks (Tb.nowOf t (t+g) (Tb.joinedOf g t ((bi m (.vs ks)).map R6))).1 (Tb.nowOf t (t+g) (Tb.joinedOf g t ((bi m (.vs ks)).map R6))).2 (Tb.agAll (Tb.agOf [v]::(Tb.joinedOf g t ((bi m (.vs ks)).map R6)).map λp=>(lk m ks p.1 p.2).getD (0,0,0,0)))]:=by
  unfold jV;rw[b9 (by omega),hbase,hnw,hjr];rfl
 have hsg:ko (.vi g) m (.vs ks) (.vi t) (.vi v)=gK ((Tb.joinedOf g t ((bi m (.vs ks)).map R6)).map (pr ks)) (.vs ks) (.vi (Tb.nowOf t (t+g) (Tb.joinedOf g t ((bi m (.vs ks)).map R6))).1) (.vi (Tb.nowOf t (t+g) (Tb.joinedOf g t ((bi m (.vs ks)).map R6))).2):=by
  simp_all[ko,b9]
 rw[hsg,hsr]at hP;rw[hsr]at hR0;rw[hG,hsg,hR0,hP,cI7,Ti];have gm:=λx=>du7 (ks:=ks) (J:=Tb.joinedOf g t ((bi m (.vs ks)).map R6)) (n1:=(Tb.nowOf t (t+g) (Tb.joinedOf g t ((bi m (.vs ks)).map R6))).1) (n2:=(Tb.nowOf t (t+g) (Tb.joinedOf g t ((bi m (.vs ks)).map R6))).2) (x:=x)
 have gl:=du8 (ks:=ks) (J:=Tb.joinedOf g t ((bi m (.vs ks)).map R6)) (n1:=(Tb.nowOf t (t+g) (Tb.joinedOf g t ((bi m (.vs ks)).map R6))).1) (n2:=(Tb.nowOf t (t+g) (Tb.joinedOf g t ((bi m (.vs ks)).map R6))).2);generalize hAA:Tb.agAll (Tb.agOf [v]::(Tb.joinedOf g t ((bi m (.vs ks)).map R6)).map λp=>(lk m ks p.1 p.2).getD (0,0,0,0))=A at*
 generalize Tb.nowOf t (t+g) (Tb.joinedOf g t ((bi m (.vs ks)).map R6))=N at*
 generalize Tb.joinedOf g t ((bi m (.vs ks)).map R6)=J at*
 generalize gK (J.map (pr ks)) (.vs ks) (.vi N.1) (.vi N.2)=G at*
 have hlk: ∀q,bO ([dv ks N.1 N.2 A].foldl set1 (G.foldl jw m)) q=if(⟨ks,N.1,N.2⟩:PaneM)=q then some A else if q∈G.map R8 then none else bO m q:=λq=>by
  show bO (set1 (G.foldl jw m) (dv ks N.1 N.2 A)) q=_;rw[Ej,Xu q G m hT.nd,DZ,cp9]
 have hgq: ∀k' a b,(⟨k',a,b⟩:PaneM)∈G.map R8↔k'=ks/\(a,b)∈J/\(a,b)≠N:=λk' a b=>by
  rw[j8];constructor
  .rintro⟨x,hx,e⟩;obtain⟨p,hp,hne,rfl⟩:=(gm x).1 hx;have e:(⟨ks,p.1,p.2⟩:PaneM)=⟨k',a,b⟩:=e;grind
  .rintro⟨rfl,h1,h2⟩;exact⟨pr k' (a,b),(gm _).2 ⟨(a,b),h1,h2,rfl⟩,rfl⟩
 refine⟨_,_,rfl,rfl,by simp,by omega,⟨htab _ (λa b h=> ?_) (λa b h1 h2=> ?_) (λk' a b h=> ?_),?_,λr hr=> ?_,hT.gap⟩,λr hr=> ?_,λp hp=> ?_⟩
 .show bO _ ⟨ks,a,b⟩=some A;grind
 .show bO _ ⟨ks,a,b⟩=none;grind
 .show bO _ ⟨k',a,b⟩=bO m ⟨k',a,b⟩;grind
 .exact MM _ _ (d89 G m hT.nd)
 .rcases NX _ _ r hr with h|⟨x,hx,rfl⟩
  .exact hT.nrm r ((Mv G m).subset h)
  .rw[m9]at hx;subst hx;exact⟨ks,N.1,N.2,A,rfl,by omega,hia⟩
 .rw[m9]at hr;subst hr;exact⟨⟨ks,N.1,N.2,A,rfl,by omega,hia⟩,by rw[hlk,DZ,e8 rfl];rfl⟩
 .obtain⟨q,h1,h2,rfl⟩:=(gm p).1 hp;refine⟨?_,q.1,q.2,rfl⟩;grind
def bP(k s l g:Int):Tb.Wd:=if k=3 then .ses g else .win (ji (W8 k s l) s)
theorem Yp(hX:XOk X)(hR:R9 k s l g=true){evs:List bB}(hT:TOK (bP k s l g) evs m)(hm:m.length<=400)(hev:fF evs)(hv:aY v)(he:bY (bA k s l g m ek ks t v)=0):
 ∃R m',cj X (bA k s l g m ek ks t v)= .vl R/\eY X (bA k s l g m ek ks t v)= .vl m'/\R.length<=16/\(dJ (bA k s l g m ek ks t v)).length<=400/\
  TOK (bP k s l g) (evs++[(ks,t,v)]) m'/\(∀r∈R,nrm r/\bO m' (R8 r)=some (rA r))/\ ∀p∈dJ (bA k s l g m ek ks t v),bO m' (R8 p)=none/\ ∃a b,p= .vl [.vs ks,.vi a,.vi b]:=by
 by_cases hk:k=3
 .have hw:bP k s l g= .ses g:=e8 hk;rw[hw]at hT⊢;exact KL hk hR hT hm hev hv he
 .have hw:bP k s l g= .win (ji (W8 k s l) s):=b9 hk;grind[a3,cJ1]
end
end Go.Ev.S9
namespace Go.Ev.S9
open Go Go.Ev
theorem Pb{α:Type}(f:α->Nat)(c:Nat): ∀l:List α,(∀x∈l,f x<=c)->Tb.sumN (l.map f)<=c*l.length
 | [],_=>by exact p7 _
 |x::l,h=>by
  have h2:=Pb f c l (λy hy=>h y (y5 _ hy));grind[Tb.sumN,Nat.mul_add]
theorem Un{α:Type}(f:α->Nat): ∀l:List α,(∀x∈l,1<=f x)->l.length<=Tb.sumN (l.map f)
 | [],_=>i6 _
 |x::l,h=>by
  have h2:=Un f l (λy hy=>h y (y5 _ hy));grind[Tb.sumN]
def lj(r:Val)(x:bB):Bool:=Tb.inP (R8 r).key (R8 r).a (R8 r).b x
def AW(r:Val):Int×Int:=((R8 r).a,(R8 r).b)
theorem c07{W:Tb.Wd}{evs:List bB}{m:List Val}(hT:TOK W evs m)(x:bB):
 ((m.filter λr=>lj r x).map AW).Nodup/\ ∀a b,(a,b)∈(m.filter λr=>lj r x).map AW↔Tb.Pan W evs x.1 a b/\a<=x.2.1/\x.2.1<b:=by
 have hkey: ∀r∈m.filter λr=>lj r x,(R8 r).key=x.1/\(R8 r).a<=x.2.1/\x.2.1<(R8 r).b:=λr hr=>by
  obtain⟨q1,q2,q3⟩:=Tb.inP_iff.1 (n7.1 hr).2;grind
 have hnd:((m.filter λr=>lj r x).map R8).Nodup:=hT.nd.sublist (List.filter_sublist.map _);refine⟨?_,λa b=> ?_⟩
 .rw[G7,Q5]at hnd⊢;refine hnd.imp_of_mem λ{r r'} hr hr' hne e=>hne ?_
  have e1:(R8 r).a=(R8 r').a:=congrArg Prod.fst e;have e2:(R8 r).b=(R8 r').b:=congrArg Prod.snd e;grind[R8]
 .rw[j8];constructor
  .rintro⟨r,hr,e⟩;obtain⟨q1,q2,q3⟩:=hkey r hr;have hm:=(n7.1 hr).1;have hl:=yQ hT.nd hm;have e1:(R8 r).a=a:=congrArg Prod.fst e;have e2:(R8 r).b=b:=congrArg Prod.snd e;have hp:R8 r=⟨x.1,a,b⟩:=by
    grind[R8]
   rw[hp]at hl;rw[e1]at q2;rw[e2]at q3;exact⟨((hT.tab _ _ _ _).1 hl).1,q2,q3⟩
  .rintro⟨h1,h2,h3⟩;have hl:=(hT.tab x.1 a b _).2 ⟨h1,rfl⟩;obtain⟨r,hr,hp,_⟩:=AP hl;refine⟨r,n7.2 ⟨hr,?_⟩,?_⟩
   .unfold lj;rw[hp];exact Tb.inP_iff.2 ⟨rfl,h2,h3⟩
   grind[AW]
section
variable{k s l g:Int}{m:List Val}
theorem cJ5(hR:R9 k s l g=true){evs:List bB}(hT:TOK (bP k s l g) evs m)(hev:fF evs){x:bB}(hx:x∈evs):(m.filter λr=>lj r x).length=(bh k s l g (.vi x.2.1)).length:=by
 obtain⟨h1,h2⟩:=c07 hT x;have ht:=(hev x hx).1;have lm:((m.filter λr=>lj r x).map AW).length=(m.filter λr=>lj r x).length:=o9 ..;rw[<-lm];by_cases hk:k=3
 .have hw:bP k s l g= .ses g:=e8 hk;rw[hw]at h2;obtain⟨hg1,_⟩:=yB hR hk;obtain⟨L,q1,q2⟩:=Tb.ses_ex (g:=g) (by omega) x.1 evs;obtain⟨p,p1,p2,p3⟩:=q2 x.2.1 ⟨x,hx,rfl,rfl⟩;have hs:=(q1 p.1 p.2).1 p1;have hp:((m.filter λr=>lj r x).map AW).Perm [p]:=by
   refine(I8 h1 (by simp)).2 λab=> ?_
   rw[m9];refine(h2 ab.1 ab.2).trans ⟨λ⟨c1,c2,c3⟩=> ?_,λc=> ?_⟩
   .have:=Tb.isS.one c1 hs ⟨by omega,by omega⟩;exact Prod.ext this.1 this.2
   .subst c;exact⟨hs,p2,by omega⟩
  rw[hp.length_eq];grind[bh,S6]
 .have hw:bP k s l g= .win (ji (W8 k s l) s):=b9 hk;rw[hw]at h2;obtain⟨p1,p2,p3⟩:=DN (t:=x.2.1) hR hk ht;have lo:((bh k s l g (.vi x.2.1)).map R6).length=(bh k s l g (.vi x.2.1)).length:=o9 ..;rw[<-lo];refine List.Perm.length_eq ((I8 h1 p1).2 λab=> ?_);refine(h2 ab.1 ab.2).trans (Iff.trans ?_ (p2 ab.1 ab.2).symm);constructor
  .rintro⟨⟨c1,_⟩,c2,c3⟩;grind
  .rintro⟨c1,c2,c3⟩;exact⟨⟨c1,x.2.1,⟨x,hx,rfl,rfl⟩,c2,c3⟩,c2,c3⟩
theorem YI{W:Tb.Wd}{evs:List bB}(hT:TOK W evs m){r:Val}(hr:r∈m):1<=ci r 3/\(ci r 3).toNat=(evs.filter (lj r)).length/\rA r=Tb.agOf (Tb.vals evs (R8 r).key (R8 r).a (R8 r).b)/\Tb.vals evs (R8 r).key (R8 r).a (R8 r).b≠[]:=by
 have hl:=yQ hT.nd hr;obtain⟨q1,q2,q3,q4⟩:=hT.pos hl;have e:ci r 3=((Tb.vals evs (R8 r).key (R8 r).a (R8 r).b).length:Int):=congrArg Prod.fst q3;refine⟨q1,?_,q3,Tb.Pan.ne hT.gap q4⟩;rw[e,Int.toNat_natCast];unfold Tb.vals;rw[o9];rfl
def Nm(m:List Val):Nat:=Tb.sumN (m.map λr=>(ci r 3).toNat)
def Fs(k s l g:Int)(evs:List bB):Nat:=Tb.sumN (evs.map λx=>(bh k s l g (.vi x.2.1)).length)
theorem cJ7(hR:R9 k s l g=true){evs:List bB}(hT:TOK (bP k s l g) evs m)(hev:fF evs):Nm m=Fs k s l g evs:=by
 unfold Nm Fs;rw[x6 (λr hr=>(YI hT hr).2.1),Tb.twice (λr x=>lj r x) evs m];congr 1;exact x6 λx hx=>cJ5 hR hT hev hx
theorem cT3(k s l g:Int)(t:Val):(bh k s l g t).length<=16:=by
 by_cases hk:k=3
 .unfold bh;grind
 .exact xN hk
theorem d94(k s l g:Int)(t:Val)(hk:k=3):(bh k s l g t).length<=1:=by
 unfold bh;grind
theorem d95(k s l g:Int)(evs:List bB):Fs k s l g evs<=16*evs.length/\(k=3->Fs k s l g evs<=evs.length):=by
 refine⟨Pb _ 16 evs λx _=>cT3 k s l g _,λhk=> ?_⟩;have:=Pb (λx:bB=>(bh k s l g (.vi x.2.1)).length) 1 evs λx _=>d94 k s l g _ hk
 rw[E2]at this;exact this
theorem d96(hR:R9 k s l g=true){evs:List bB}(hT:TOK (bP k s l g) evs m)(hev:fF evs):m.length<=16*evs.length/\(k=3->m.length<=evs.length):=by
 have h1:m.length<=Nm m:=Un _ m λr hr=>by
  have:=(YI hT hr).1;omega
 rw[cJ7 hR hT hev]at h1;grind[d95]
end
end Go.Ev.S9
namespace Go.Ev.S9
open Go Go.Ev
theorem GM{I:Opq}(a b:SX):dB I (.op (.cmp .gtr) [a,b])=decide ((aM I b).toI<(aM I a).toI):=rfl
theorem W5{I:Opq}(a b:SX):dB I (zs a b)=decide ((aM I a).toI<(aM I b).toI):=rfl
theorem gp{l:List Val}{i:Nat}(h:i<l.length):aO l i∈l:=by
 have e:aO l i=l[i]:=by simp[aO,j9,h]
 rw[e];exact B6 h
section
variable{X:Nat->List Val->Val}{I:Opq}(hf: ∀i a,I.f i a=FT X i a)
include hf
end
end Go.Ev.S9
namespace Go.Ev.S9
open Go Go.Ev
structure RC (I:Opq) (k s l g:Int) (ops:List Val) (i:Nat) (m:List Val) (ek:Int) (ks:List UInt8) (t v:Int):Prop where
 w0:I.w 0= .vi k
 w1:I.w 1= .vi s
 w2:I.w 2= .vi l
 w3:I.w 3= .vi g
 w4:I.w 4= .vl ops
 wi:I.w 2003= .vi i
 wm:I.w 2004= .vl m
 row:aO ops i= .vl [.vi ek,.vs ks,.vi t,.vi v]
def xR(k:Int)(m:List Val):Prop:=(∀r∈m,nrm r)/\(m.map R8).Nodup/\m.length<=400/\(k=3->m.length<=24)
section
variable{X:Nat->List Val->Val}{I:Opq}{k s l g:Int}{ops:List Val}{i:Nat}{m:List Val}{ek:Int}{ks:List UInt8}{t v:Int}
theorem RC.up(h:RC I k s l g ops i m ek ks t v)(vs:List Val):RC (I.upd 4000 vs) k s l g ops i m ek ks t v:=by
 have W: ∀n:Nat,n<4000->(I.upd 4000 vs).w n=I.w n:=λn hn=>by simp_all[T1,b9]
 exact⟨(W 0 (by omega)).trans h.w0,(W 1 (by omega)).trans h.w1,(W 2 (by omega)).trans h.w2,(W 3 (by omega)).trans h.w3,(W 4 (by omega)).trans h.w4,(W 2003 (by omega)).trans h.wi,(W 2004 (by omega)).trans h.wm,h.row⟩
variable(hf: ∀i a,I.f i a=FT X i a)
include hf
theorem XK(hX:XOk X){x:SX}(hd:aM I x= .vl m)(ho:xR k m):dB I (e08 x)=true:=by
 show((decide (((aM I x).toL.length:Int)<=400)&&(I.f 431 [aM I x]).toB)&&(I.f 491 [aM I x]).toB)=true;rw[hf,hf,hd];have h1:=hX.x431 m (λr hr=>wK (ho.1 r hr));have h2:=hX.x491 m ho.2.1;show((decide ((m.length:Int)<=400)&&(X 431 [.vl m]).toB)&&(X 491 [.vl m]).toB)=true;have h3:=ho.2.2.1;grind
theorem dv0{e0 e1 e2:SX}(h0:aM I e0= .vi k)(h1:aM I e1= .vl m)(h2:aM I e2= .vs ks)(ho:xR k m):dB I (.app 739 [e0,e1,e2])=true:=by
 show(I.f 739 [aM I e0,aM I e1,aM I e2]).toB=true;rw[hf,h0,h1,h2];show((!decide (k=3)||decide (m.length<=24))&&true)=true;by_cases c:k=3
 .rw[e9 c,e9 (ho.2.2.2 c)];rfl
 grind
end
end Go.Ev.S9
namespace Go.Ev.S9
open Go Go.Ev
def bm(x:bB):Val:= .vl [.vi 1,.vs x.1,.vi x.2.1,.vi x.2.2]
def MT(evs:List bB):Prop:= ∀x∈evs,S8 1 x.1 x.2.1 x.2.2=0
theorem zS{r:Val}(h:opOk r=true): ∃ek ks t v,r= .vl [.vi ek,.vs ks,.vi t,.vi v]/\aY v:=by
 unfold opOk at h;split at h
 .rename_i ek ks t v;rw[j7,decide_eq_true_eq,decide_eq_true_eq]at h;exact⟨ek,ks,t,v,rfl,h⟩
 .cases h
section
variable{X:Nat->List Val->Val}{k s l g:Int}{m:List Val}
theorem wz(hR:R9 k s l g=true){evs:List bB}(hT:TOK (bP k s l g) evs m)(hev:fF evs)(hl:evs.length<=24):xR k m:=by
 obtain⟨h1,h2⟩:=d96 hR hT hev;exact⟨hT.nrm,hT.nd,by omega,λhk=>by omega⟩
theorem d98(hR:R9 k s l g=true):TOK (bP k s l g) [] []:=
 ⟨Tb.tab_nil _,List.nodup_nil,λr h=>absurd h (E6),λg' h=>by
  unfold bP at h;by_cases hk:k=3
  .rw[e8 hk]at h;cases h;have:=(yB hR hk).1;omega
  grind⟩
theorem Nb{ops:List Val}{i:Nat}{ek:Int}{ks:List UInt8}{t v:Int}{M:Val}(hM:M= .vl m)(h:aO ops i= .vl [.vi ek,.vs ks,.vi t,.vi v]):oI (.vi k) (.vi s) (.vi l) (.vi g) M (aO ops i)=bA k s l g m ek ks t v:=by
 rw[h,hM];rfl
variable{I:Opq}(hf: ∀i a,I.f i a=FT X i a)
include hf
end
end Go.Ev.S9
namespace Go.Ev.S9
open Go Go.Ev
section
variable{X:Nat->List Val->Val}{I:Opq}(hf: ∀i a,I.f i a=FT X i a)
include hf
end
end Go.Ev.S9
namespace Go.Ev.S9
open Go Go.Ev
section
variable{X:Nat->List Val->Val}{k s l g:Int}
variable{I:Opq}(hf: ∀i a,I.f i a=FT X i a)
include hf
end
theorem cJ9{W:Tb.Wd}{evs evs':List bB}{m m':List Val}(h:TOK W evs m)(h':TOK W evs' m')(hp:evs'.Perm evs):m'.Perm m:=by
 have hu:=Tb.Tab.uniq (h'.tab.perm hp) h.tab;have nd: ∀{q:List Val},(q.map R8).Nodup->q.Nodup:=λ{q} hq=>by
  rw[G7,Q5]at hq;exact G7.2 (hq.imp λhne e=>hne (by rw[e]))
 have one: ∀{q q':List Val},(∀r∈q,nrm r)->(∀r∈q',nrm r)->(q.map R8).Nodup->(∀p,bO q p=bO q' p)-> ∀r∈q,r∈q':=λ{q q'} n1 n2 hq he r hr=>by
  have h1:=yQ hq hr;rw[he]at h1;obtain⟨r',hr',e1,e2⟩:=AP h1;obtain⟨a,b,c,d,rfl,_,_⟩:=n1 r hr;obtain⟨a',b',c',d',rfl,_,_⟩:=n2 r' hr';have e1:(⟨a',b',c'⟩:PaneM)=⟨a,b,c⟩:=e1;have e2:d'=d:=e2;grind
 have hall: ∀p:PaneM,bO m' p=bO m p:=λp=>hu p.key p.a p.b
 exact(I8 (nd h'.nd) (nd h.nd)).2 λr=>⟨one h'.nrm h.nrm h'.nd hall r,one h.nrm h'.nrm h.nd (λp=>(hall p).symm) r⟩
end Go.Ev.S9
namespace Go.Ev.S9
open Go Go.Ev
theorem rP{v:Val}(h:isVi v=true): ∃n,v= .vi n:=by
 cases v with
 |vi n=>grind
 |vs _=>cases h
 |vb _=>cases h
 |vl _=>cases h
theorem Uy{v:Val}(h:opsOk v=true): ∃l,v= .vl l/\ ∀r∈l,opOk r=true:=by
 cases v with
 |vl l=>exact⟨l,rfl,k6.1 h⟩
 |vs _=>cases h
 |vb _=>cases h
 |vi _=>cases h
section
variable{X:Nat->List Val->Val}{I:Opq}(hf: ∀i a,I.f i a=FT X i a)
include hf
end
end Go.Ev.S9
