import Derived.Test.YtipefnncbnbliaaGreatEL3
import Derived.Test.YtipefnncbnbliaaGreatEM1
set_option linter.unusedSimpArgs false
set_option linter.unusedVariables false
namespace Go.Ev.S9
open Go Go.Ev
def rA(r:Val):Tb.Ag:=(ci r 3,ci r 4,ci r 5,ci r 6)
def dP(m:List Val)(p:PaneM):Option Tb.Ag:=(m.find? λr=>decide (Z2 r=p)).map rA
def lk(m:List Val)(k:List UInt8)(s e:Int):Option Tb.Ag:=dP m ⟨k,s,e⟩
def set1(m:List Val)(r:Val):List Val:=bif gy m (eh r)then m.set (gw m (eh r)) (cK r)else m++[cK r]
def lW(m:List Val)(p:Val):List Val:=m.eraseIdx (gw m (eh p))
theorem cR7(r p:Val):gP [.str,.int .i64,.int .i64] r p=decide (Z2 r=Z2 p):=by
 show(decide ((Z7 p 0).toS=(Z7 r 0).toS)&&(decide ((Z7 p 1).toI=(Z7 r 1).toI)&&(decide ((Z7 p 2).toI=(Z7 r 2).toI)&&true)))=_;simp[j7,decide_eq_true_eq,Z2,PaneM.mk.injEq];grind
theorem cR8(l:List Val)(p:Val):gw l p=l.findIdx λr=>decide (Z2 r=Z2 p):=by
 grind[gw,cR7]
theorem Iy(x:Val)(m:List Val)(p:Val):gw (x::m) p=if Z2 x=Z2 p then 0 else gw m p+1:=by
 simp_all[cR8,List.findIdx_cons,Z2,e8,e9,b9,j5]
theorem CN(x:Val)(m:List Val)(p:Val):gy (x::m) p=(decide (Z2 x=Z2 p)||gy m p):=by
 unfold gy;rw[Iy];grind
theorem dV1(x:Val)(m:List Val)(n:Nat):bW (x::m) (n+1)=bW m n:=rfl
theorem QS(x:Val)(m:List Val)(p:Val)(j:Nat):iZ (x::m) p j=if Z2 x=Z2 p then Z7 x j else iZ m p j:=by
 unfold iZ;rw[CN,Iy];by_cases h:Z2 x=Z2 p
 .rw[e8 h,e8 h,e9 h];rfl
 simp_all[b9,j5,A9,dV1]
theorem qr(x:Val)(m:List Val)(p:PaneM):dP (x::m) p=if Z2 x=p then some (rA x)else dP m p:=by
 unfold dP;grind
theorem dj8(p:PaneM):dP [] p=none:=rfl
theorem OB(x:Val)(m:List Val)(r:Val):set1 (x::m) r=if Z2 x=Z2 r then cK r::m else x::set1 m r:=by
 unfold set1;rw[CN,Iy];have e:Z2 (eh r)=Z2 r:=rfl;grind
theorem Rf(r:Val):set1 [] r=[cK r]:=rfl
theorem cy9(x:Val)(m:List Val)(r:Val):lW (x::m) r=if Z2 x=Z2 r then m else x::lW m r:=by
 unfold lW;rw[Iy];have e:Z2 (eh r)=Z2 r:=rfl;grind
theorem Jv(r:Val)(p:PaneM): ∀m:List Val,dP (set1 m r) p=if Z2 r=p then some (rA r)else dP m p
 | []=>by rw[Rf,qr];rfl
 |x::m=>by
  rw[OB];by_cases h:Z2 x=Z2 r
  .rw[e8 h,qr,qr];have e:Z2 (cK r)=Z2 r:=rfl;rw[e,h];by_cases h2:Z2 r=p
   .rw[e8 h2,e8 h2];rfl
   grind
  .rw[b9 h,qr,qr,Jv r p m];grind
theorem Sm(r:Val): ∀m:List Val,∀x∈set1 m r,x∈m\/x=cK r
 | [],x,h=>by grind[Rf,List.mem_singleton]
 |y::m,x,h=>by
  rw[OB]at h;by_cases c:Z2 y=Z2 r
  .grind
  .rw[b9 c]at h;rcases n5.1 h with h|h
   .grind
   .rcases Sm r m x h with h|h
    .exact .inl (x9 _ h)
    grind
theorem cz0(r:Val): ∀m:List Val,(m.map Z2).Nodup->((set1 m r).map Z2).Nodup
 | [],h=>by rw[Rf];simp
 |y::m,h=>by
  rw[m8,E8]at h;rw[OB];by_cases c:Z2 y=Z2 r
  .have e:Z2 (cK r)=Z2 y:=c.symm;grind
  .rw[b9 c,m8,E8];refine⟨λhm=> ?_,cz0 r m h.2⟩;obtain⟨x,hx,e⟩:=j8.1 hm;rcases Sm r m x hx with q|q
   .grind
   .subst q;exact c e.symm
theorem bZ7(p:Val)(m:List Val):(lW m p).Sublist m:=U6 _ _
theorem cR9{m:List Val}{p:PaneM}(h:p∉m.map Z2):dP m p=none:=by
 simp_all[dP,A6,decide_eq_true_eq,j8]
theorem YE(r:Val)(p:PaneM): ∀m:List Val,(m.map Z2).Nodup->dP (lW m r) p=if Z2 r=p then none else dP m p
 | [],h=>by
   have e:lW [] r=[]:=rfl;rw[e,dj8];simp
 |x::m,h=>by
  rw[m8,E8]at h;rw[cy9];by_cases c:Z2 x=Z2 r
  .rw[e8 c,qr];by_cases d:Z2 r=p
   .rw[e8 d,cR9 (by rw[<-d,<-c];exact h.1)]
   .rw[b9 d,b9 (by rw[c];exact d)]
  .rw[b9 c,qr,qr,YE r p m h.2];by_cases d:Z2 r=p
   .rw[e8 d,e8 d,b9 (by rw[<-d];exact c)]
   .rw[b9 d,b9 d]
theorem vH{m:List Val}{p:PaneM}{a:Tb.Ag}(h:dP m p=some a): ∃r∈m,Z2 r=p/\rA r=a:=by
 obtain⟨r,h1,h2⟩:=o9.1 h;grind
theorem tH: ∀{m:List Val} {r:Val},(m.map Z2).Nodup->r∈m->dP m (Z2 r)=some (rA r)
 | [],r,_,h=>absurd h (G1)
 |x::m,r,hn,h=>by
  rw[m8,E8]at hn;rw[qr];rcases n5.1 h with rfl|h
  .grind
  .rw[b9 λe=>hn.1 (j8.2 ⟨r,h,e.symm⟩)];exact tH hn.2 h
theorem Be{p:Val}{a:Tb.Ag}: ∀{m:List Val},dP m (Z2 p)=some a-> ∃r∈m,Z2 r=Z2 p/\rA r=a/\gy m p=true/\ ∀j,iZ m p j=Z7 r j
 | [],h=>by cases h
 |x::m,h=>by
  rw[qr]at h;by_cases c:Z2 x=Z2 p
  .rw[e8 c]at h;exact⟨x,B6 ..,c,R8 h,by grind[CN,decide_eq_true],λj=>by rw[QS,e8 c]⟩
  .rw[b9 c]at h;obtain⟨r,h1,h2,h3,h4,h5⟩:=Be h;exact⟨r,x9 _ h1,h2,h3,by rw[CN,h4,Bool.or_true],λj=>by simp_all[QS,b9]⟩
theorem UW{p:Val}: ∀{m:List Val},dP m (Z2 p)=none->gy m p=false/\ ∀j,iZ m p j= .vi 0
 | [],h=>⟨rfl,λj=>rfl⟩
 |x::m,h=>by
  rw[qr]at h;by_cases c:Z2 x=Z2 p
  .grind
  .rw[b9 c]at h;obtain⟨h1,h2⟩:=UW h;simp_all[CN,j5,QS,b9]
theorem CK{l:List Val}{n:Nat}(h:n<l.length):l.take (n+1)=l.take n++[bW l n]:=by
 have e:bW l n=l[n]:=by simp[bW,j9,h]
 rw[e,P4]
theorem Yz(m R:List Val): ∀n,n<=R.length->eU (.vl m) R n= .vl ((R.take n).foldl set1 m)
 |0,_=>rfl
 |n+1,h=>by
  rw[CK (by omega),T4];unfold eU;rw[Yz m R n (by omega)];show(bif gy ((R.take n).foldl set1 m) (eh (bW R n))then Val.vl (((R.take n).foldl set1 m).set (gw ((R.take n).foldl set1 m) (eh (bW R n))) (cK (bW R n)))else Val.vl (((R.take n).foldl set1 m)++[cK (bW R n)]))=Val.vl (set1 ((R.take n).foldl set1 m) (bW R n));grind[set1,gy,eh,bW]
theorem PN(m R:List Val):eU (.vl m) R R.length= .vl (R.foldl set1 m):=by
 simp_all[Yz,i6,A1]
theorem cz2(m R:List Val): ∀n,n<=R.length->fI (.vl m) R n= .vl ((R.take n).foldl lW m)
 |0,_=>rfl
 |n+1,h=>by
  rw[CK (by omega),T4];unfold fI;rw[cz2 m R n (by omega)];rfl
theorem Wg(m R:List Val):fI (.vl m) R R.length= .vl (R.foldl lW m):=by
 simp_all[cz2,i6,A1]
theorem HO{p:PaneM}: ∀(R m:List Val),p∉R.map Z2->dP (R.foldl set1 m) p=dP m p
 | [],m,h=>rfl
 |r::R,m,h=>by
  rw[m8,n5]at h;rw[List.foldl_cons,HO R _ (λx=>h (.inr x)),Jv,b9 λe=>h (.inl e.symm)]
theorem Lf{r:Val}: ∀(R m:List Val),(R.map Z2).Nodup->r∈R->dP (R.foldl set1 m) (Z2 r)=some (rA r)
 | [],m,_,h=>absurd h (G1)
 |x::R,m,hn,h=>by
  rw[m8,E8]at hn;rw[List.foldl_cons];rcases n5.1 h with rfl|h
  .rw[HO R _ hn.1,Jv,e8 rfl]
  .exact Lf R _ hn.2 h
theorem MH: ∀(R m:List Val),∀x∈R.foldl set1 m,x∈m\/ ∃r∈R,x=cK r
 | [],m,x,h=> .inl h
 |r::R,m,x,h=>by
  rcases MH R (set1 m r) x h with h|⟨y,h1,h2⟩
  .rcases Sm r m x h with h|h
   .exact .inl h
   .exact .inr ⟨r,B6 ..,h⟩
  grind
theorem Vd: ∀(R m:List Val),(m.map Z2).Nodup->((R.foldl set1 m).map Z2).Nodup
 | [],m,h=>h
 |r::R,m,h=>Vd R _ (cz0 r m h)
theorem Nd: ∀(G m:List Val),(G.foldl lW m).Sublist m
 | [],m=>List.Sublist.refl _
 |g::G,m=>(Nd G (lW m g)).trans (bZ7 g m)
theorem dj9(G m:List Val)(h:(m.map Z2).Nodup):((G.foldl lW m).map Z2).Nodup:=h.sublist ((Nd G m).map _)
theorem SR(p:PaneM): ∀(G m:List Val),(m.map Z2).Nodup->dP (G.foldl lW m) p=if p∈G.map Z2 then none else dP m p
 | [],m,h=>by simp
 |g::G,m,h=>by
  rw[List.foldl_cons,SR p G _ (h.sublist ((bZ7 g m).map _)),YE g p m h,m8];grind
def cQ(a:Tb.Ag):Val:= .vl [.vi a.1,.vi a.2.1,.vi a.2.2.1,.vi a.2.2.2]
def jP(a:Tb.Ag):Prop:=cH a.1/\cH a.2.1/\cH a.2.2.1/\cH a.2.2.2
theorem Rn:cH 0:=⟨by decide,by decide⟩
theorem wW:cH 1:=⟨by decide,by decide⟩
theorem c00{g g':Nat->List Val}: ∀n,(∀k,k<n->g k=g' k)->cn g n=cn g' n
 |0,_=>rfl
 |n+1,h=>by rw[cn,cn,c00 n (λk hk=>h k (by omega)),h n (by omega)]
theorem bz7(L:List Val): ∀n,n<=L.length->qS (λk=>ci (bW L k) 0) n=Tb.sumI ((L.take n).map λr=>ci r 0)
 |0,_=>rfl
 |n+1,h=>by
  rw[CK (by omega),u9,Tb.sumI_app,<-bz7 L n (by omega)];show _+_=_+(ci (bW L n) 0+0);grind
theorem Ph(L:List Val):qS (λk=>ci (bW L k) 0) L.length=Tb.sumI (L.map λr=>ci r 0):=by
 rw[bz7 L _ (i6 _),A1]
theorem Zf{L:List Val}(hL: ∀r∈L,cH (ci r 0))(hn:L.length<=1000000)(h:fR L=0):cH (Tb.sumI (L.map λr=>ci r 0))/\qa L=Tb.sumI (L.map λr=>ci r 0):=by
 have hg: ∀k,cH (ci (bW L k) 0):=λk=>by
  by_cases c:k<L.length
  .have e:bW L k=L[k]:=by simp[bW,j9,c]
   rw[e];exact hL _ (C7 c)
  .have e:bW L k= .vl []:=by simp[bW,j9,t7 (D8.1 c)]
   rw[e];exact Rn
 obtain⟨h1,h2⟩:=bz6 hg hn;rw[Ph]at h1 h2;have h0:(fw (λk=>ci (bW L k) 0) L.length).2=0:=by
  unfold fR fZ at h;by_cases c:(fw (λk=>ci (bW L k) 0) L.length).2=0
  .exact c
  .rw[b9 c]at h;cases h
 simp_all[qa,fZ,e8]
theorem cz4{gs:List Tb.Ag}(x:Tb.Ag)(h:gs≠[]):Tb.agAll (gs++[x])=Tb.ag2 (Tb.agAll gs) x:=by
 cases gs with
 |nil=>grind
 |cons a l=>
  show(l++[x]).foldl Tb.ag2 a=_;rw[T4];rfl
theorem Xx: ∀(l:List Tb.Ag) (a:Tb.Ag),(l.foldl Tb.ag2 a).1=a.1+Tb.sumI (l.map (·.1))/\(l.foldl Tb.ag2 a).2.1=a.2.1+Tb.sumI (l.map (·.2.1))
 | [],a=>⟨(M4 _).symm,(M4 _).symm⟩
 |x::l,a=>by
  obtain⟨h1,h2⟩:=Xx l (Tb.ag2 a x);rw[List.foldl_cons,h1,h2];refine⟨?_,?_⟩
  .show a.1+x.1+_=a.1+(x.1+_);omega
  .show a.2.1+x.2.1+_=a.2.1+(x.2.1+_);omega
theorem Ry{gs:List Tb.Ag}:(Tb.agAll gs).1=Tb.sumI (gs.map (·.1))/\(Tb.agAll gs).2.1=Tb.sumI (gs.map (·.2.1)):=by
 cases gs with
 |nil=>exact⟨rfl,rfl⟩
 |cons a l=>exact Xx l a
theorem cz5: ∀(l:List Tb.Ag) (a:Tb.Ag),cH a.2.2.1/\cH a.2.2.2->(∀x∈l,jP x)->cH (l.foldl Tb.ag2 a).2.2.1/\cH (l.foldl Tb.ag2 a).2.2.2
 | [],a,h,_=>h
 |x::l,a,h,hl=>by
  refine cz5 l _ ?_ (λy hy=>hl y (x9 _ hy));have hx:=(hl x (B6 ..)).2.2;show cH (min a.2.2.1 x.2.2.1)/\cH (max a.2.2.2 x.2.2.2);grind
theorem cS0{gs:List Tb.Ag}(hne:gs≠[])(h: ∀x∈gs,jP x):cH (Tb.agAll gs).2.2.1/\cH (Tb.agAll gs).2.2.2:=by
 cases gs with
 |nil=>grind
 |cons a l=>exact cz5 l a (h a (B6 ..)).2.2 (λx hx=>h x (x9 _ hx))
theorem Tx{gs:List Tb.Ag}{k:Nat}(h:k<gs.length):bW (gs.map cQ) k=cQ gs[k]:=by simp[bW,j9,h]
theorem UJ{a:Tb.Ag}(h:1<=a.1):tN (cQ a)=false:=by
 show Bu a.1 a.2.1 a.2.2.1 a.2.2.2=false;grind[Bu,decide_eq_false]
theorem YJ{gs:List Tb.Ag}(hc: ∀a∈gs,1<=a.1/\jP a)(c:Nat): ∀k,k<gs.length->jG (gs.map cQ) c k=[.vl [Z7 (bW (gs.map cQ) k) c]]:=λk hk=>by
 grind[jG,Tx,UJ,List.getElem_mem]
theorem Kz{gs:List Tb.Ag}(hc: ∀a∈gs,1<=a.1/\jP a)(c:Nat):cn (jG (gs.map cQ) c) (gs.map cQ).length=gs.map λa=> .vl [Z7 (cQ a) c]:=by
 rw[c00 (g':=λk=>[(λr=>Val.vl [Z7 r c]) (bW (gs.map cQ) k)]) _ (λk hk=>YJ hc c k (by simpa using hk))];refine(An (λr=>Val.vl [Z7 r c]) (gs.map cQ)).trans ?_;simp_all
theorem TD{gs:List Tb.Ag}(hc: ∀a∈gs,1<=a.1/\jP a): ∀k,k<=gs.length->(cn (jG (gs.map cQ) 0) k).length=k
 |0,_=>rfl
 |k+1,h=>by rw[cn,k7,TD hc k (by omega),YJ hc 0 k (by omega)];rfl
theorem d36{gs:List Tb.Ag}(hc: ∀a∈gs,1<=a.1/\jP a): ∀k,k<gs.length-> ∃x y,jS (gs.map cQ) (k+1)=[x,y,.vi (Tb.agAll (gs.take (k+1))).2.2.1,.vi (Tb.agAll (gs.take (k+1))).2.2.2]
 |0,h=>by
  have e:gs.take 1=[gs[0]]:=by
   rw[<-P4 h];rfl
  unfold jS;rw[Tx h,UJ (hc _ (C7 h)).1,TD hc 0 (by omega),e,e8 rfl];refine⟨Z7 (cQ gs[0]) 0,Z7 (cQ gs[0]) 1,?_⟩;show [Z7 (cQ gs[0]) 0,Z7 (cQ gs[0]) 1,Val.vi (min gs[0].2.2.1 gs[0].2.2.1),.vi (max gs[0].2.2.2 gs[0].2.2.2)]=[Z7 (cQ gs[0]) 0,Z7 (cQ gs[0]) 1,Val.vi gs[0].2.2.1,.vi gs[0].2.2.2];grind
 |k+1,h=>by
  obtain⟨x,y,e⟩:=d36 hc k (by omega);have e2:gs.take (k+1+1)=gs.take (k+1)++[gs[k+1]]:=(P4 h).symm;have hne:gs.take (k+1)≠[]:=λc=>by
   simp_all
  rw[e2,cz4 _ hne];rw[show jS (gs.map cQ) (k+1+1)=(bif tN (bW (gs.map cQ) (k+1))then jS (gs.map cQ) (k+1)else
   (if(cn (jG (gs.map cQ) 0) (k+1)).length=0 then [Z7 (bW (gs.map cQ) (k+1)) 0,Z7 (bW (gs.map cQ) (k+1)) 1,.vi (min (ci (bW (gs.map cQ) (k+1)) 2) (ci (bW (gs.map cQ) (k+1)) 2)),.vi (max (ci (bW (gs.map cQ) (k+1)) 3) (ci (bW (gs.map cQ) (k+1)) 3))]
    else [(jS (gs.map cQ) (k+1)).getD 0 default,(jS (gs.map cQ) (k+1)).getD 1 default,.vi (min ((jS (gs.map cQ) (k+1)).getD 2 default).toI (ci (bW (gs.map cQ) (k+1)) 2)),.vi (max ((jS (gs.map cQ) (k+1)).getD 3 default).toI (ci (bW (gs.map cQ) (k+1)) 3))]))from rfl]
  rw[Tx h,UJ (hc _ (C7 h)).1,TD hc (k+1) (by omega),b9 (by omega),e];exact⟨_,_,rfl⟩
theorem Ny{gs:List Tb.Ag}(hc: ∀a∈gs,1<=a.1/\jP a)(hn:gs.length<=1000000)(hne:gs≠[])(h:jE (gs.map cQ)=0):
 jR (gs.map cQ)=[.vi (Tb.agAll gs).1,.vi (Tb.agAll gs).2.1,.vi (Tb.agAll gs).2.2.1,.vi (Tb.agAll gs).2.2.2]/\jP (Tb.agAll gs):=by
 have hn': ¬(fR (jC (gs.map cQ))≠0\/fR (jT (gs.map cQ))≠0):=λc=>by
  unfold jE at h;rw[if_pos c]at h;cases h
 have e0:fR (jC (gs.map cQ))=0:=Classical.byContradiction λc=>hn' (.inl c)
 have e1:fR (jT (gs.map cQ))=0:=Classical.byContradiction λc=>hn' (.inr c)
 have c0:jC (gs.map cQ)=gs.map λa=> .vl [Z7 (cQ a) 0]:=Kz hc 0
 have c1:jT (gs.map cQ)=gs.map λa=> .vl [Z7 (cQ a) 1]:=Kz hc 1
 rw[c0]at e0;rw[c1]at e1;obtain⟨s1,s2⟩:=Zf (λr hr=>by
  obtain⟨a,ha,rfl⟩:=j8.1 hr;exact(hc a ha).2.1) (by simpa using hn) e0
 obtain⟨s3,s4⟩:=Zf (λr hr=>by
  obtain⟨a,ha,rfl⟩:=j8.1 hr;exact(hc a ha).2.2.1) (by simpa using hn) e1
 rw[o7]at s1 s2 s3 s4;have m1:Tb.sumI (gs.map ((λr=>ci r 0)∘λa=>Val.vl [Z7 (cQ a) 0]))=(Tb.agAll gs).1:=Ry.1.symm;have m2:Tb.sumI (gs.map ((λr=>ci r 0)∘λa=>Val.vl [Z7 (cQ a) 1]))=(Tb.agAll gs).2.1:=Ry.2.symm;rw[m1]at s1 s2;rw[m2]at s3 s4;have hl:0<gs.length:=P5.2 hne;obtain⟨x,y,e⟩:=d36 hc (gs.length-1) (by omega);rw[show gs.length-1+1=gs.length by omega,A1]at e;refine⟨?_,s1,s3,cS0 hne λx hx=>(hc x hx).2⟩;simp_all[jR,b9,l5]
theorem pa(v:Int):Tb.agOf [v]=(1,v,v,v):=by
 show((1:Int),v+0,v,v)=_;grind
theorem cS1{a:Tb.Ag}{v:Int}(ha:1<=a.1)(hi:jP a)(hv:cH v)(h:jE (pR (.vi a.1) (.vi a.2.1) (.vi a.2.2.1) (.vi a.2.2.2) (.vi v))=0):
 nR (.vi a.1) (.vi a.2.1) (.vi a.2.2.1) (.vi a.2.2.2) (.vi v)=[.vi (Tb.ag2 a (Tb.agOf [v])).1,.vi (Tb.ag2 a (Tb.agOf [v])).2.1,.vi (Tb.ag2 a (Tb.agOf [v])).2.2.1,.vi (Tb.ag2 a (Tb.agOf [v])).2.2.2]/\jP (Tb.ag2 a (Tb.agOf [v])):=by
 have e:pR (.vi a.1) (.vi a.2.1) (.vi a.2.2.1) (.vi a.2.2.2) (.vi v)=[a,Tb.agOf [v]].map cQ:=by rw[pa];rfl
 unfold nR;rw[b9 (by omega)];rw[e]at h⊢;refine Ny (λx hx=> ?_) (by simp) (by simp) h;rcases n5.1 hx with rfl|hx
 .grind
 .rw[n9]at hx;subst hx;rw[pa];exact⟨x5 _,wW,hv,hv,hv⟩
theorem cS2{v:Int}(hv:cH v)(h:jE (pR (.vi 0) (.vi 0) (.vi 0) (.vi 0) (.vi v))=0):
 nR (.vi 0) (.vi 0) (.vi 0) (.vi 0) (.vi v)=[.vi (Tb.agOf [v]).1,.vi (Tb.agOf [v]).2.1,.vi (Tb.agOf [v]).2.2.1,.vi (Tb.agOf [v]).2.2.2]/\jP (Tb.agOf [v]):=by
 have e1:jC (pR (.vi 0) (.vi 0) (.vi 0) (.vi 0) (.vi v))=jC ([Tb.agOf [v]].map cQ):=by rfl
 have e2:jT (pR (.vi 0) (.vi 0) (.vi 0) (.vi 0) (.vi v))=jT ([Tb.agOf [v]].map cQ):=by rw[pa];rfl
 have e3:jS (pR (.vi 0) (.vi 0) (.vi 0) (.vi 0) (.vi v)) (pR (.vi 0) (.vi 0) (.vi 0) (.vi 0) (.vi v)).length=jS ([Tb.agOf [v]].map cQ) ([Tb.agOf [v]].map cQ).length:=by rw[pa];rfl
 have e4:jE (pR (.vi 0) (.vi 0) (.vi 0) (.vi 0) (.vi v))=jE ([Tb.agOf [v]].map cQ):=by grind[jE]
 have e5:jR (pR (.vi 0) (.vi 0) (.vi 0) (.vi 0) (.vi v))=jR ([Tb.agOf [v]].map cQ):=by grind[jR]
 unfold nR;rw[b9 (by omega),e5];rw[e4]at h;refine Ny (gs:=[Tb.agOf [v]]) (λx hx=> ?_) (by simp) (by simp) h;rw[n9]at hx;subst hx;rw[pa];exact⟨x5 _,wW,hv,hv,hv⟩
variable{s k l g:Int}
def kz(step size:Int)(a b:Int):Prop:=a % step=0/\b=a+size
theorem dk2{step t a:Int}{n:Nat}(h1:1<=step)(hn:(n:Int)*step=s):(∃j:Nat,j<n/\a=fk t step-s+step+(j:Int)*step)↔a % step=0/\a<=t/\t<a+s:=by
 have hq:step*(t/step)+t % step=t:=V4 t step;have r1:0<=t % step:=I4 _ (by omega);have r2:t % step<step:=I5 _ (by omega);generalize t/step=q at hq;have hd:fk t step=step*q:=by grind[fk]
 rw[hd];constructor
 .rintro⟨j,hj,rfl⟩;have e:step*q-s+step+(j:Int)*step=step*(q-n+1+j):=by
   rw[<-hn,P6,P6,Int.mul_sub,Int.mul_one,G2 (n:Int) step,G2 (j:Int) step]
  have b1:(j:Int)*step<=((n:Int)-1)*step:=G3 (by omega) (by omega);have b2:0<=(j:Int)*step:=I6 (by omega) (by omega);grind[Int.sub_mul,Int.mul_emod_right]
 .rintro⟨c1,c2,c3⟩;have ha:step*(a/step)=a:=by
   have:=V4 a step;omega
  generalize a/step=c at ha;have l1:c<q+1:=V5 (a:=step) (by rw[P6];omega) (by omega);have l2:q<c+n:=V5 (a:=step) (by rw[P6,G2 step (n:Int)];omega) (by omega);refine⟨(c-(q-n+1)).toNat,by omega,?_⟩;grind[Int.toNat_of_nonneg,Int.sub_mul,Int.add_mul,Int.mul_comm]
theorem dD9(h:cT k s l g=true)(h3:k≠3):1<=dz k s l/\(fe k s l:Int)*dz k s l=s/\1<=s/\s<=1048576/\fe k s l<=16:=by
 unfold cT at h;by_cases h1:k=1
 .have e:dz 1 s l=s:=rfl;grind[fe,Di,Int.emod_self,Int.ediv_self]
 .rw[b9 h1]at h;by_cases h2:k=2
  .subst h2;simp at h;have e:dz 2 s l=l:=rfl;unfold fe;rw[e];obtain⟨m1,m2⟩:=Di (s:=s) (l:=l) (by omega) (by omega) (by omega);refine⟨by omega,m1,by omega,by omega,by omega⟩
  grind
theorem Cb(h:cT k s l g=true)(h3:k=3):1<=g/\g<=1048576:=by
 simp_all[cT,b9,j7,decide_eq_true_eq]
def DO(st step s:Int)(n:Nat):List (Int×Int):=(List.range n).map λ(j:Nat)=>(st+(j:Int)*step,st+(j:Int)*step+s)
theorem cz8{t:Int}(h:cT k s l g=true)(h3:k≠3)(ht:ep t=true):cX k s l g (.vi t)=(DO (fk t (dz k s l)-s+dz k s l) (dz k s l) s (fe k s l)).map λp=>Val.vl [.vi p.1,.vi p.2]:=by
 unfold cX;simp_all;rw[qN];unfold DO;rw[o7,T3];rfl
theorem GZ{t:Int}(h:cT k s l g=true)(h3:k≠3)(ht:ep t=true):
 ((cX k s l g (.vi t)).map Z4).Nodup/\(∀a b,(a,b)∈(cX k s l g (.vi t)).map Z4↔kz (dz k s l) s a b/\a<=t/\t<b)/\ ∀r∈cX k s l g (.vi t),r= .vl [.vi (Z4 r).1,.vi (Z4 r).2]:=by
 obtain⟨w1,w2,w3,w4,w5⟩:=dD9 h h3;have e:(cX k s l g (.vi t)).map Z4=DO (fk t (dz k s l)-s+dz k s l) (dz k s l) s (fe k s l):=by
  rw[cz8 h h3 ht,o7];exact G4 _
 have hi:=λa=>dk2 (t:=t) (a:=a) w1 w2
 rw[e];refine⟨?_,λa b=> ?_,λr hr=> ?_⟩
 .unfold DO;rw[I8,I9];refine J0 (λ{i j} hij e=> ?_) (I8.1 (O3 (n:=fe k s l)));grind[dz,Int.eq_of_mul_eq_mul_right]
 .unfold DO kz;rw[j8];constructor
  .rintro⟨j,hj,e⟩;have e1:=congrArg Prod.fst e;have e2:=congrArg Prod.snd e;obtain⟨c1,c2,c3⟩:=(hi a).1 ⟨j,o8.1 hj,by omega⟩;exact⟨⟨c1,by omega⟩,c2,by omega⟩
  grind
 .rw[cz8 h h3 ht]at hr;obtain⟨p,_,rfl⟩:=j8.1 hr;rfl
def gq(ks:List UInt8)(a b:Int)(A:Tb.Ag):Val:= .vl [.vs ks,.vi a,.vi b,.vi A.1,.vi A.2.1,.vi A.2.2.1,.vi A.2.2.2]
theorem KS(ks:List UInt8)(a b:Int)(A:Tb.Ag):Z2 (gq ks a b A)=⟨ks,a,b⟩:=rfl
theorem HI(ks:List UInt8)(a b:Int)(A:Tb.Ag):rA (gq ks a b A)=A:=rfl
theorem cA0(ks:List UInt8)(a b:Int)(A:Tb.Ag):cK (gq ks a b A)=gq ks a b A:=rfl
def nrm(r:Val):Prop:= ∃ks a b A,r=gq ks a b A/\ks.length<=1000/\jP A
theorem Bv{r:Val}(h:nrm r):rowS r:=by
 obtain⟨ks,a,b,A,rfl,h1,h2⟩:=h;exact⟨ks,a,b,_,_,_,_,rfl,h1⟩
abbrev dy:=Tb.Evt (List UInt8)
structure TOK (W:Tb.Wd) (evs:List dy) (m:List Val):Prop where
 tab:Tb.Tab W evs (lk m)
 nd:(m.map Z2).Nodup
 nrm: ∀r∈m,nrm r
 gap: ∀g,W= .ses g->0<g
theorem TOK.pos{W:Tb.Wd}{evs:List dy}{m:List Val}(h:TOK W evs m){k:List UInt8}{e:Int}{a:Tb.Ag}(ha:lk m k s e=some a):1<=a.1/\jP a/\a=Tb.agOf (Tb.vals evs k s e)/\Tb.Pan W evs k s e:=by
 obtain⟨h1,h2⟩:=(h.tab k s e a).1 ha;obtain⟨r,hr,_,rfl⟩:=vH ha;obtain⟨ks,x,y,A,rfl,_,hA⟩:=h.nrm r hr;have hne:=Tb.Pan.ne h.gap h1;have:=P5.2 hne;refine⟨?_,hA,h2,h1⟩;rw[h2];show(1:Int)<=((Tb.vals evs k s e).length:Int);omega
theorem dE0{W:Tb.Wd}{evs:List dy}{m:List Val}(h:TOK W evs m){ks:List UInt8}{a b v:Int}(hv:cH v)(he:kf m (.vs ks) (.vi v) (.vl [.vi a,.vi b])=0):
 nP m (.vs ks) (.vi v) (.vl [.vi a,.vi b])=gq ks a b (Tb.putA (lk m ks a b) v)/\jP (Tb.putA (lk m ks a b) v):=by
 have hp:Z2 (fx (.vs ks) (.vl [.vi a,.vi b]))=⟨ks,a,b⟩:=rfl;unfold nP Aj;unfold kf at he;unfold qx at he⊢;cases hl:lk m ks a b with
 |none=>
  obtain⟨_,hc⟩:=UW (m:=m) (p:=fx (.vs ks) (.vl [.vi a,.vi b])) (by exact hl);rw[hc,hc,hc,hc]at he⊢;obtain⟨e1,e2⟩:=cS2 hv he;rw[e1];exact⟨rfl,e2⟩
 |some c=>
  obtain⟨q1,q2,_,_⟩:=h.pos hl;obtain⟨r,hr,_,hA,_,hc⟩:=Be (m:=m) (p:=fx (.vs ks) (.vl [.vi a,.vi b])) (a:=c) (by exact hl);obtain⟨k',x,y,A,rfl,_,_⟩:=h.nrm r hr;subst hA;rw[hc,hc,hc,hc]at he⊢;obtain⟨e1,e2⟩:=cS1 q1 q2 hv he;have e1:nR (Z7 (gq k' x y A) 3) (Z7 (gq k' x y A) 4) (Z7 (gq k' x y A) 5) (Z7 (gq k' x y A) 6) (.vi v)=_:=e1;rw[e1];exact⟨rfl,e2⟩
end Go.Ev.S9
namespace Go.Ev.S9
open Go Go.Ev
structure XOk (X:Nat->List Val->Val):Prop where
 x431: ∀l:List Val,(∀r∈l,rowS r)->(X 431 [.vl l]).toB=true
 x491: ∀l:List Val,(l.map Z2).Nodup->(X 491 [.vl l]).toB=true
 x490: ∀l:List Val,(∀r∈l,rowS r)-> ∃l',X 490 [.vl l]= .vl l'/\l'.Perm l
 x490u: ∀l l':List Val,(∀r∈l,rowS r)->l.Perm l'->(l.map Z2).Nodup->X 490 [.vl l]=X 490 [.vl l']
 x3: ∀v:Val,X 3 [v,v]= .vb true
theorem xj{ek t v:Int}{ks:List UInt8}(h:Z9 ek ks t v=0)(h1:ek=1):ks.length<=32/\ep t=true:=by
 unfold Z9 at h;grind
def Vc(ks:List UInt8)(t:Int)(p:PaneM):Prop:=p.key=ks/\p.a<=t/\t<p.b
def cG(k s l g:Int)(m:List Val)(ek:Int)(ks:List UInt8)(t v:Int):List Val:=[.vi k,.vi s,.vi l,.vi g,.vl m,.vi ek,.vs ks,.vi t,.vi v]
section
variable{X:Nat->List Val->Val}{k s l g ek t v:Int}{m:List Val}{ks:List UInt8}
theorem oD:dD (cG k s l g m ek ks t v)=if Z9 ek ks t v≠0 then Z9 ek ks t v else if ek≠1 then 2 else if k=3 then sM (.vi g) m (.vs ks) (.vi t) (.vi v)else(kL m (cX k s l g (.vi t)) (.vs ks) (.vi v) (.vi 0)).toI:=rfl
theorem To:ew (cG k s l g m ek ks t v)=if Z9 ek ks t v≠0\/ek≠1 then []else if k=3 then nB (.vi g) m (.vs ks) (.vi t) (.vi v)else []:=rfl
theorem Un:eJ X (cG k s l g m ek ks t v)=if Z9 ek ks t v≠0\/ek≠1 then .vl []else if k=3 then .vl (nQ (.vi g) m (.vs ks) (.vi t) (.vi v))else
 if dD (cG k s l g m ek ks t v)≠0 then .vl []else X 490 [.vl (fV m (cX k s l g (.vi t)) (.vs ks) (.vi v) (cX k s l g (.vi t)).length)]:=rfl
theorem Ni:fN X (cG k s l g m ek ks t v)=if dD (cG k s l g m ek ks t v)≠0 then .vl m else eU (fI (.vl m) (ew (cG k s l g m ek ks t v)) (ew (cG k s l g m ek ks t v)).length) (eJ X (cG k s l g m ek ks t v)).toL (eJ X (cG k s l g m ek ks t v)).toL.length:=rfl
theorem dE1(h:dD (cG k s l g m ek ks t v)≠0):ew (cG k s l g m ek ks t v)=[]/\eJ X (cG k s l g m ek ks t v)= .vl []/\fN X (cG k s l g m ek ks t v)= .vl m:=by
 refine⟨?_,?_,by rw[Ni,e8 h]⟩
 .rw[To];by_cases c:Z9 ek ks t v≠0\/ek≠1
  .grind
  .rw[b9 c];by_cases c3:k=3
   .rw[e8 c3];rw[oD,b9 (λq=>c (.inl q)),b9 (λq=>c (.inr q)),e8 c3]at h;unfold nB;rw[if_pos h]
   grind
 .rw[Un];by_cases c:Z9 ek ks t v≠0\/ek≠1
  .grind
  .rw[b9 c];by_cases c3:k=3
   .rw[e8 c3];rw[oD,b9 (λq=>c (.inl q)),b9 (λq=>c (.inr q)),e8 c3]at h;unfold nQ;rw[if_pos h]
   grind
theorem IW(h:dD (cG k s l g m ek ks t v)=0):Z9 ek ks t v=0/\ek=1:=by
 rw[oD]at h;omega
theorem dE2(L:List Val):jE L=0\/jE L=30:=by
 unfold jE;omega
theorem dE3(h0:Z9 ek ks t v=0)(h1:ek=1):dD (cG k s l g m ek ks t v)=0\/dD (cG k s l g m ek ks t v)=30:=by
 rw[oD,b9 (by omega),b9 (by omega)];by_cases c3:k=3
 .rw[e8 c3];exact dE2 _
 .rw[b9 c3];unfold kL;split
  .exact dE2 _
  simp_all
theorem Fm{S:List Val}{r:Val}(h:r∈S): ∃i,i<S.length/\bW S i=r:=by
 obtain⟨i,hi,e⟩:=B0 h;exact⟨i,hi,by simp[bW,j9,hi,e]⟩
theorem XN(hX:XOk X)(h3:k≠3)(hR:cT k s l g=true){evs:List dy}(hT:TOK (.win (kz (dz k s l) s)) evs m)(hv:cH v)(he:dD (cG k s l g m ek ks t v)=0):
 ∃R,eJ X (cG k s l g m ek ks t v)= .vl R/\ew (cG k s l g m ek ks t v)=[]/\fN X (cG k s l g m ek ks t v)= .vl (R.foldl set1 m)/\R.length<=16/\
  TOK (.win (kz (dz k s l) s)) (evs++[(ks,t,v)]) (R.foldl set1 m)/\(∀r∈R,nrm r/\dP (R.foldl set1 m) (Z2 r)=some (rA r))/\(R.map Z2).Nodup/\(∃L,eJ X (cG k s l g m ek ks t v)=X 490 [.vl L])/\ ∀r∈R,Vc ks t (Z2 r):=by
 obtain⟨e0,e1⟩:=IW he;obtain⟨k32,ht⟩:=xj e0 e1;obtain⟨p1,p2,p3⟩:=GZ (t:=t) hR h3 ht;have hlen:=CL (k:=k) (s:=s) (l:=l) (g:=g) (t:= .vi t) h3;have hG:ew (cG k s l g m ek ks t v)=[]:=by simp_all[To,b9]
 have hx:(kL m (cX k s l g (.vi t)) (.vs ks) (.vi v) (.vi 0)).toI=0:=by
  simp_all[oD,b9]
 have hR0:eJ X (cG k s l g m ek ks t v)=X 490 [.vl (fV m (cX k s l g (.vi t)) (.vs ks) (.vi v) (cX k s l g (.vi t)).length)]:=by simp_all[Un,b9]
 have hP:fN X (cG k s l g m ek ks t v)=eU (.vl m) (eJ X (cG k s l g m ek ks t v)).toL (eJ X (cG k s l g m ek ks t v)).toL.length:=by
  rw[Ni,b9 (by omega),hG];rfl
 rw[hP,hR0,hG];generalize cX k s l g (.vi t)=S at*
 obtain⟨t1,t2,t3⟩:=QW m S (.vs ks) (.vi v);have hK:gI m S (.vs ks) (.vi v)=S.length:=by
  refine Q9 t1 (D8.1 λc=> ?_);simp_all[kL,e8]
 have hrow: ∀r∈S,nP m (.vs ks) (.vi v) r=gq ks (Z4 r).1 (Z4 r).2 (Tb.putA (lk m ks (Z4 r).1 (Z4 r).2) v)/\jP (Tb.putA (lk m ks (Z4 r).1 (Z4 r).2) v):=λr hr=>by
  grind[Fm,Z4,dE0]
 have hL:fV m S (.vs ks) (.vi v) S.length=S.map λr=>gq ks (Z4 r).1 (Z4 r).2 (Tb.putA (lk m ks (Z4 r).1 (Z4 r).2) v):=by
  refine(An (nP m (.vs ks) (.vi v)) S).trans ?_;grind[List.map_congr_left]
 rw[hL];have hn: ∀r∈S.map λr=>gq ks (Z4 r).1 (Z4 r).2 (Tb.putA (lk m ks (Z4 r).1 (Z4 r).2) v),nrm r:=λr hr=>by
  obtain⟨x,hx,rfl⟩:=j8.1 hr;exact⟨_,_,_,_,rfl,by omega,(hrow x hx).2⟩
 obtain⟨R,hq,hp⟩:=hX.x490 _ (λr hr=>Bv (hn r hr));rw[hq,a84,PN];have hRn: ∀r∈R,nrm r:=λr hr=>hn r (hp.mem_iff.1 hr)
 have hk:(S.map λr=>gq ks (Z4 r).1 (Z4 r).2 (Tb.putA (lk m ks (Z4 r).1 (Z4 r).2) v)).map Z2=(S.map Z4).map λp=>(⟨ks,p.1,p.2⟩:PaneM):=by
  rw[o7,o7];rfl
 have hkn:(R.map Z2).Nodup:=by
  grind
 have hmem: ∀q:PaneM,q∈R.map Z2↔q.key=ks/\(q.a,q.b)∈S.map Z4:=λq=>by
  rw[(hp.map Z2).mem_iff,hk,j8];constructor
  .grind
  .rintro⟨h1,h2⟩;exact⟨(q.a,q.b),h2,by rw[<-h1]⟩
 refine⟨R,rfl,rfl,rfl,?_,⟨?_,Vd R m hT.nd,λr hr=> ?_,hT.gap⟩,λr hr=>⟨hRn r hr,Lf R m hkn hr⟩,hkn,⟨_,hq.symm⟩,λr hr=> ?_⟩
 .rw[hp.length_eq,l5];exact hlen
 .refine Tb.tab_win (ks,t,v) hT.tab (λk' a b c=> ?_) (λk' a b c=> ?_)
  .obtain⟨rfl,c1,c2,c3⟩:=c;have hin:(a,b)∈S.map Z4:=(p2 a b).2 ⟨c1,c2,c3⟩;obtain⟨r,hr,er⟩:=j8.1 hin;have hr2:gq k' a b (Tb.putA (lk m k' a b) v)∈R:=hp.mem_iff.2 (j8.2 ⟨r,hr,by grind⟩);exact Lf R m hkn hr2
  .refine HO R m λhq=>c ?_
   grind
 .rcases MH R m r hr with h|⟨x,hx,rfl⟩
  .exact hT.nrm r h
  .obtain⟨a,b,c,d,rfl,h1,h2⟩:=hRn x hx;exact⟨a,b,c,d,rfl,h1,h2⟩
 .obtain⟨h1,h2⟩:=(hmem _).1 (j8.2 ⟨r,hr,rfl⟩);obtain⟨_,c2,c3⟩:=(p2 _ _).1 h2;exact⟨h1,c2,c3⟩
theorem cS3(hX:XOk X)(h3:k≠3)(hR:cT k s l g=true){evs:List dy}(hT:TOK (.win (kz (dz k s l) s)) evs m)(hv:cH v)(he:dD (cG k s l g m ek ks t v)=0):
 ∃R,eJ X (cG k s l g m ek ks t v)= .vl R/\ew (cG k s l g m ek ks t v)=[]/\fN X (cG k s l g m ek ks t v)= .vl (R.foldl set1 m)/\R.length<=16/\
  TOK (.win (kz (dz k s l) s)) (evs++[(ks,t,v)]) (R.foldl set1 m)/\ ∀r∈R,nrm r/\dP (R.foldl set1 m) (Z2 r)=some (rA r):=by
 grind[XN]
end
end Go.Ev.S9
namespace Go.Ev.S9
open Go Go.Ev
variable{m:List Val}
theorem XD(y:Int×Int): ∀(x:List (Int×Int)) (a b:Int),Tb.nowOf a b (x++[y])=(min (Tb.nowOf a b x).1 y.1,max (Tb.nowOf a b x).2 y.2)
 | [],a,b=>rfl
 |p::x,a,b=>by
  show Tb.nowOf (min a p.1) (max b p.2) (x++[y])=_;rw[XD y x];rfl
theorem SA(l:List Val)(t o:Int):yi l t o=(l.filter λr=>ql t o r).map dV:=by
 unfold yi;rw[qN];refine(MY (λr=>bif ql t o r then [dV r]else []) (.vl []) l).trans ?_;induction l with
 |nil=>rfl
 |cons a l ih=>
  grind
theorem cA2(l:List Val)(t g:Int):(yi l t (t+g)).map Z4=Tb.joinedOf g t (l.map Z4):=by
 rw[SA,o7];unfold Tb.joinedOf;rw[List.filter_map];rfl
theorem cA3(l:List Val)(t g:Int): ∀i,i<=l.length->kI l (.vi t) (.vi (t+g)) i=(.vi (Tb.nowOf t (t+g) (Tb.joinedOf g t ((l.take i).map Z4))).1,.vi (Tb.nowOf t (t+g) (Tb.joinedOf g t ((l.take i).map Z4))).2)
 |0,_=>rfl
 |i+1,h=>by
  rw[show kI l (.vi t) (.vi (t+g)) (i+1)=(bif ql t (t+g) (bW l i)then(Val.vi (min (kI l (.vi t) (.vi (t+g)) i).1.toI (ci (bW l i) 0)),Val.vi (max (kI l (.vi t) (.vi (t+g)) i).2.toI (ci (bW l i) 1)))else kI l (.vi t) (.vi (t+g)) i)from rfl];rw[cA3 l t g i (by omega),CK (by omega),u9];have e:Tb.joinedOf g t ((l.take i).map Z4++[Z4 (bW l i)])=Tb.joinedOf g t ((l.take i).map Z4)++(if ql t (t+g) (bW l i)then [Z4 (bW l i)]else []):=by
   unfold Tb.joinedOf;rw[C6];rw[z8];rfl
  rw[List.map_singleton,e];cases ql t (t+g) (bW l i)with
  |false=>simp
  |true=>
   rw[e8 rfl,XD];rfl
theorem dE4(l:List Val)(t g:Int):kI l (.vi t) (.vi (t+g)) l.length=(.vi (Tb.nowOf t (t+g) (Tb.joinedOf g t (l.map Z4))).1,.vi (Tb.nowOf t (t+g) (Tb.joinedOf g t (l.map Z4))).2):=by
 simp_all[cA3,i6,A1]
theorem So{ks:List UInt8}{r:Val}:r∈gg m ks↔ ∃x∈m,(Z7 x 0).toS=ks/\r= .vl [Z7 x 1,Z7 x 2]:=by
 rw[bZ5,C1];grind[HV,Z7,decide_eq_true,decide_eq_false]
theorem OJ(m:List Val)(ks:List UInt8):(cS m (.vs ks)).Perm (gg m ks):=(xE swo_spanV _).1
theorem Jh{W:Tb.Wd}{evs:List dy}(h:TOK W evs m)(ks:List UInt8):
 ((cS m (.vs ks)).map Z4).Nodup/\(∀s e,(s,e)∈(cS m (.vs ks)).map Z4↔lk m ks s e≠none)/\ ∀r∈cS m (.vs ks),r= .vl [.vi (Z4 r).1,.vi (Z4 r).2]:=by
 have hp:=OJ m ks;refine⟨((hp.map Z4).nodup_iff).2 (d33 ks h.nd),λs e=> ?_,λr hr=> ?_⟩
 .rw[(hp.map Z4).mem_iff,j8];constructor
  .rintro⟨r,hr,he⟩;obtain⟨x,hx,rfl,rfl⟩:=So.1 hr;obtain⟨k',a,b,A,rfl,_,_⟩:=h.nrm x hx;have he:(a,b)=(s,e):=he;have:=tH h.nd hx;intro hc;have hc:dP m (Z2 (gq k' s e A))=none:=hc;grind
  .intro hn;cases hl:lk m ks s e with
   |none=>grind
   |some c=>
    obtain⟨x,hx,hpn,_⟩:=vH hl;cases hpn;exact⟨_,So.2 ⟨_,hx,rfl,rfl⟩,rfl⟩
 .obtain⟨x,hx,_,rfl⟩:=So.1 (hp.mem_iff.1 hr);obtain⟨k',a,b,A,rfl,_,_⟩:=h.nrm x hx;rfl
theorem cS5{a b:Val}(h:ci a 1<ci b 1):spanV a b<0:=by
 simp_all[spanV,AI,e8]
theorem cS6(m:List Val)(ks:List UInt8){i:Nat}(h0:0<i)(hi:i<(cS m (.vs ks)).length):ci (bW (cS m (.vs ks)) (i-1)) 1<=ci (bW (cS m (.vs ks)) i) 1:=by
 have hs:=(xE swo_spanV (gg m ks)).2;have hi':i<(gK spanV (gg m ks)).length:=hi;have hpw:=O5.1 hs (i-1) i (by omega) hi' (by omega);have e1:bW (cS m (.vs ks)) (i-1)=(gK spanV (gg m ks))[i-1]:=by
  show bW (gK spanV (gg m ks)) (i-1)=_;simp[bW,j9,show i-1<(gK spanV (gg m ks)).length by omega]
 have e2:bW (cS m (.vs ks)) i=(gK spanV (gg m ks))[i]:=by
  show bW (gK spanV (gg m ks)) i=_;simp[bW,j9,hi']
 rw[e1,e2];exact E9.1 λhc=>hpw (cS5 hc)
def gA(evs:List dy):Prop:= ∀x∈evs,ep x.2.1=true/\cH x.2.2
theorem OX{t:Int}:ep t=true↔ -1099511627776<=t/\t<=1099511627776:=by
 simp_all[ep,j7,decide_eq_true_eq]
theorem d37{g t:Int}{evs:List dy}(hT:TOK (.ses g) evs m)(hev:gA evs)(ht:ep t=true)(hg1:1<=g)(hg2:g<=1048576)(ks:List UInt8):iM g t (cS m (.vs ks))=true:=by
 obtain⟨h1,h2,h3⟩:=Jh hT ks;have hord:=λ{i}=>cS6 m ks (i:=i)
 generalize cS m (.vs ks)=S at*
 have hs: ∀r∈S,Tb.isS g (Tb.tms evs ks) (Z4 r).1 (Z4 r).2:=λr hr=>by
  have hm:((Z4 r).1,(Z4 r).2)∈S.map Z4:=j8.2 ⟨r,hr,rfl⟩;cases hl:lk m ks (Z4 r).1 (Z4 r).2 with
  |none=>exact absurd hl ((h2 _ _).1 hm)
  |some c=>exact(hT.pos hl).2.2.2
 have hb: ∀i,i<S.length->mK g S i=false:=λi hi=>by
  have e:bW S i=S[i]:=by simp[bW,j9,hi]
  have hr:bW S i∈S:=by rw[e];exact C7 hi
  have q:=hs _ hr;have hb:=q.1.2.2.1;obtain⟨x1,hx1,_,ex1⟩:=q.1.1;obtain⟨x2,hx2,_,ex2⟩:=q.1.2.1;have b1:=OX.1 (hev x1 hx1).1;have b2:=OX.1 (hev x2 hx2).1;have s1:(Z4 (bW S i)).1=ci (bW S i) 0:=rfl;have s2:(Z4 (bW S i)).2=ci (bW S i) 1:=rfl;have e64:cg .sub .i64 (ci (bW S i) 1) (ci (bW S i) 0)=ci (bW S i) 1-ci (bW S i) 0:=lQ (by omega) (by omega);unfold mK;rw[e64,j5 (by omega),j5 (by omega: ¬ci (bW S i) 1-ci (bW S i) 0<g),T2,A9,A9];by_cases h0:0<i
  .have e':bW S (i-1)=S[i-1]:=by simp[bW,j9,show i-1<S.length by omega]
   have hr':bW S (i-1)∈S:=by rw[e'];exact C7 _
   have q':=hs _ hr';have ho:=hord h0 hi;have b':=q'.1.2.2.1;rw[e9 h0,B4];refine j5 λhc=> ?_
   have s1':(Z4 (bW S (i-1))).1=ci (bW S (i-1)) 0:=rfl;have s2':(Z4 (bW S (i-1))).2=ci (bW S (i-1)) 1:=rfl;have:=q'.one q ⟨by omega,by exact hc⟩;have hp:=O5.1 (I8.1 h1) (i-1) i (by simp;omega) (by simpa using hi) (by omega);rw[P7,P7,<-e,<-e']at hp;exact hp (O7 this.1 this.2)
  .rw[j5 h0];rfl
 unfold iM;rw[e9 hg1,e9 hg2,ht];have:(List.range S.length).any (mK g S)=false:=by
  rw[E7];intro i hi;rw[hb i (o8.1 hi)];decide
 rw[this];rfl
end Go.Ev.S9
namespace Go.Ev.S9
open Go Go.Ev
def pr(ks:List UInt8)(p:Int×Int):Val:= .vl [.vs ks,.vi p.1,.vi p.2]
section
variable{X:Nat->List Val->Val}{k s l g ek t v:Int}{m:List Val}{ks:List UInt8}
theorem ZR(ht:ep t=true)(hg1:1<=g)(hg2:g<=1048576):ou g t= .vi (t+g):=by
 grind[OX,ou,gb]
theorem dE5{J:List (Int×Int)}{n1 n2:Int}{x:Val}:x∈iS (J.map (pr ks)) (.vs ks) (.vi n1) (.vi n2)↔ ∃p∈J,p≠(n1,n2)/\x=pr ks p:=by
 have e:iS (J.map (pr ks)) (.vs ks) (.vi n1) (.vi n2)=(J.map (pr ks)).flatMap (kv (.vs ks) (.vi n1) (.vi n2)):=by
  unfold iS;rw[qN];exact MY (kv (.vs ks) (.vi n1) (.vi n2)) (.vl []) (J.map (pr ks))
 rw[e,C1];constructor
 .rintro⟨y,hy,hx⟩;obtain⟨p,hp,rfl⟩:=j8.1 hy;refine⟨p,hp,?_⟩;unfold kv at hx;have hs:zV (.vs ks) (.vi n1) (.vi n2) (pr ks p)=(decide (ks=ks)&&(decide (p.1=n1)&&decide (p.2=n2))):=rfl;rw[hs]at hx;by_cases c:p.1=n1/\p.2=n2
  .grind
  .have hz:(decide (ks=ks)&&(decide (p.1=n1)&&decide (p.2=n2)))=false:=by grind
   rw[hz]at hx;have hx:x∈[eh (pr ks p)]:=hx;rw[n9]at hx;exact⟨λq=>c ⟨by rw[q],by rw[q]⟩,hx⟩
 .rintro⟨p,hp,hne,rfl⟩;refine⟨_,j8.2 ⟨p,hp,rfl⟩,?_⟩;unfold kv;have hs:zV (.vs ks) (.vi n1) (.vi n2) (pr ks p)=(decide (ks=ks)&&(decide (p.1=n1)&&decide (p.2=n2))):=rfl;have hz:(decide (ks=ks)&&(decide (p.1=n1)&&decide (p.2=n2)))=false:=by
   grind
  rw[hs,hz];exact n9.2 rfl
theorem dE6{J:List (Int×Int)}{n1 n2:Int}:(iS (J.map (pr ks)) (.vs ks) (.vi n1) (.vi n2)).length<=J.length:=by
 unfold iS;have:=je (g:=λi=>kv (.vs ks) (.vi n1) (.vi n2) (bW (J.map (pr ks)) i)) (m:=1) (λi=>Vf _ _ _ _) (J.map (pr ks)).length;grind
theorem c04{α:Type}{f:α->List α}: ∀l:List α,(∀y∈l,f y=[]\/f y=[y])->(l.flatMap f).Sublist l
 | [],_=> .slnil
 |a::l,h=>by
  have ih:=c04 l λy hy=>h y (x9 _ hy)
  grind
theorem dE7{J:List (Int×Int)}{n1 n2:Int}:(iS (J.map (pr ks)) (.vs ks) (.vi n1) (.vi n2)).Sublist (J.map (pr ks)):=by
 have e:iS (J.map (pr ks)) (.vs ks) (.vi n1) (.vi n2)=(J.map (pr ks)).flatMap (kv (.vs ks) (.vi n1) (.vi n2)):=by
  unfold iS;rw[qN];exact MY (kv (.vs ks) (.vi n1) (.vi n2)) (.vl []) (J.map (pr ks))
 rw[e];refine c04 _ λy hy=> ?_
 obtain⟨p,_,rfl⟩:=j8.1 hy;unfold kv;cases zV (.vs ks) (.vi n1) (.vi n2) (pr ks p)
 .exact .inr rfl
 grind
theorem dV2(m:List Val)(ks:List UInt8)(h:((cS m (.vs ks)).map Z4).Nodup):((cS m (.vs ks)).map Z4).Pairwise (λp q=>p.2<q.2\/p.2=q.2/\p.1<q.1):=by
 have h2:=(xE swo_spanV (gg m ks)).2;have h3:((cS m (.vs ks)).map Z4).Pairwise (λp q=> ¬(q.2<p.2\/q.2=p.2/\q.1<p.1)):=by
  rw[I9];refine J0 ?_ h2;intro a b hab c;apply hab;have:=Gh b a;have c:ci b 1<ci a 1\/ci b 1=ci a 1/\ci b 0<ci a 0:=c;rw[e9 c]at this;exact j6 (p:=spanV b a<0) this
 refine J0 ?_ (h3.and h);grind
theorem Wz(hk:k=3)(hR:cT k s l g=true){evs:List dy}(hT:TOK (.ses g) evs m)(hm:m.length<=400)(hev:gA evs)(hv:cH v)(he:dD (cG k s l g m ek ks t v)=0):
 ∃R m',eJ X (cG k s l g m ek ks t v)= .vl R/\fN X (cG k s l g m ek ks t v)= .vl m'/\R.length<=16/\(ew (cG k s l g m ek ks t v)).length<=400/\
  TOK (.ses g) (evs++[(ks,t,v)]) m'/\(∀r∈R,nrm r/\dP m' (Z2 r)=some (rA r))/\(∀p∈ew (cG k s l g m ek ks t v),dP m' (Z2 p)=none/\ ∃a b,p= .vl [.vs ks,.vi a,.vi b])/\R.length<=1/\(∀r∈R,Vc ks t (Z2 r))/\((ew (cG k s l g m ek ks t v)).map Z2).Pairwise (λp q=>fW p q=true)/\ ∀p∈ew (cG k s l g m ek ks t v),dP m (Z2 p)≠none:=by
 obtain⟨e0,e1⟩:=IW he;obtain⟨k32,ht⟩:=xj e0 e1;obtain⟨hg1,hg2⟩:=Cb hR hk;have hd: ¬(Z9 ek ks t v≠0\/ek≠1):=λc=>c.elim (λc=>c e0) (λc=>c e1)
 have hio:=d37 hT hev ht hg1 hg2 ks;obtain⟨s1,s2,s3⟩:=Jh hT ks;have hsl:(cS m (.vs ks)).length<=400:=by
  rw[(OJ m ks).length_eq];grind[Nat.le_trans,Fx]
 have hown:=ZR ht hg1 hg2;have hse:sM (.vi g) m (.vs ks) (.vi t) (.vi v)=0:=by
  simp_all[oD,b9,e8]
 have hG:ew (cG k s l g m ek ks t v)=nB (.vi g) m (.vs ks) (.vi t) (.vi v):=by rw[To,b9 hd,e8 hk]
 have hR0:eJ X (cG k s l g m ek ks t v)= .vl (nQ (.vi g) m (.vs ks) (.vi t) (.vi v)):=by rw[Un,b9 hd,e8 hk]
 have hP:fN X (cG k s l g m ek ks t v)=eU (fI (.vl m) (nB (.vi g) m (.vs ks) (.vi t) (.vi v)) (nB (.vi g) m (.vs ks) (.vi t) (.vi v)).length) (nQ (.vi g) m (.vs ks) (.vi t) (.vi v)) (nQ (.vi g) m (.vs ks) (.vi t) (.vi v)).length:=by
  simp_all[Ni,b9]
 have hjn:kT (.vi g) m (.vs ks) (.vi t)=(Tb.joinedOf g t ((cS m (.vs ks)).map Z4)).map λp=>Val.vl [.vi p.1,.vi p.2]:=by
  unfold kT;rw[a06,a06,hio,cond_true];unfold pL;rw[a06,a06,hown,a06,<-cA2,SA,o7,o7];refine y7 λr hr=> ?_
  have e:=s3 r (l7.1 hr).1;have e2:(Z7 r 0)= .vi (Z4 r).1:=by rw[e];rfl
  have e3:(Z7 r 1)= .vi (Z4 r).2:=by rw[e];rfl
  show Val.vl [Z7 r 0,Z7 r 1]=Val.vl [.vi (Z4 r).1,.vi (Z4 r).2];grind
 have hnw:kN (.vi g) m (.vs ks) (.vi t)=[.vi (Tb.nowOf t (t+g) (Tb.joinedOf g t ((cS m (.vs ks)).map Z4))).1,.vi (Tb.nowOf t (t+g) (Tb.joinedOf g t ((cS m (.vs ks)).map Z4))).2]:=by
  simp_all[kN,a06,cond_true,ix,dE4]
 have hpn:ja (.vi g) m (.vs ks) (.vi t)=(Tb.joinedOf g t ((cS m (.vs ks)).map Z4)).map (pr ks):=by
  unfold ja;rw[hjn,o7];rfl
 have hjl:(Tb.joinedOf g t ((cS m (.vs ks)).map Z4)).length<=400:=by
  have h1:=K6 (λp:Int×Int=>Tb.lapB p.1 p.2 t (t+g)) ((cS m (.vs ks)).map Z4);rw[l5]at h1;exact n7 h1 hsl
 have hjm: ∀p∈Tb.joinedOf g t ((cS m (.vs ks)).map Z4),∃c,lk m ks p.1 p.2=some c:=λp hp=>by
  have h1:=(l7.1 hp).1;cases hl:lk m ks p.1 p.2 with
  |some c=>grind
  |none=>grind
 have htab:=λM'=>Tb.tab_ses (g:=g) (by omega) (M':=M') (ks,t,v) hT.tab s2 s1
 have hbase:kH m (ja (.vi g) m (.vs ks) (.vi t)) (.vi v)=(Tb.agOf [v]::(Tb.joinedOf g t ((cS m (.vs ks)).map Z4)).map λp=>(lk m ks p.1 p.2).getD (0,0,0,0)).map cQ:=by
  rw[hpn];unfold kH;rw[m8,o7,o7,pa];refine congrArg (List.cons _) (y7 λp hp=> ?_);obtain⟨c,hc⟩:=hjm p hp;show kS m (pr ks p)=cQ ((lk m ks p.1 p.2).getD (0,0,0,0));rw[hc];obtain⟨r,hr,_,hA,_,hcol⟩:=Be (m:=m) (p:=eh (pr ks p)) (a:=c) hc;obtain⟨k',x,y,A,rfl,_,_⟩:=hT.nrm r hr;subst hA;unfold kS tc;rw[hcol,hcol,hcol,hcol];rfl
 have hcs: ∀a∈(Tb.agOf [v]::(Tb.joinedOf g t ((cS m (.vs ks)).map Z4)).map λp=>(lk m ks p.1 p.2).getD (0,0,0,0)),1<=a.1/\jP a:=λa ha=>by
  rcases n5.1 ha with rfl|ha
  .rw[pa];exact⟨x5 _,wW,hv,hv,hv⟩
  .obtain⟨p,hp,rfl⟩:=j8.1 ha;obtain⟨c,hc⟩:=hjm p hp;simp_all;exact⟨(hT.pos hc).1,(hT.pos hc).2.1⟩
 have hje:jE ((Tb.agOf [v]::(Tb.joinedOf g t ((cS m (.vs ks)).map Z4)).map λp=>(lk m ks p.1 p.2).getD (0,0,0,0)).map cQ)=0:=by
  rw[<-hbase];exact hse
 obtain⟨hjr,hia⟩:=Ny hcs (by grind) (by simp) hje;have hsr:nQ (.vi g) m (.vs ks) (.vi t) (.vi v)=[gq ks (Tb.nowOf t (t+g) (Tb.joinedOf g t ((cS m (.vs ks)).map Z4))).1 (Tb.nowOf t (t+g) (Tb.joinedOf g t ((cS m (.vs ks)).map Z4))).2 (Tb.agAll (Tb.agOf [v]::(Tb.joinedOf g t ((cS m (.vs ks)).map Z4)).map λp=>(lk m ks p.1 p.2).getD (0,0,0,0)))]:=by
  unfold nQ;rw[b9 (by omega),hbase,hnw,hjr];rfl
 have hsg:nB (.vi g) m (.vs ks) (.vi t) (.vi v)=iS ((Tb.joinedOf g t ((cS m (.vs ks)).map Z4)).map (pr ks)) (.vs ks) (.vi (Tb.nowOf t (t+g) (Tb.joinedOf g t ((cS m (.vs ks)).map Z4))).1) (.vi (Tb.nowOf t (t+g) (Tb.joinedOf g t ((cS m (.vs ks)).map Z4))).2):=by
  simp_all[nB,b9]
 rw[hsg,hsr]at hP;rw[hsr]at hR0;rw[hG,hsg,hR0,hP,Wg,PN];have gm:=λx=>dE5 (ks:=ks) (J:=Tb.joinedOf g t ((cS m (.vs ks)).map Z4)) (n1:=(Tb.nowOf t (t+g) (Tb.joinedOf g t ((cS m (.vs ks)).map Z4))).1) (n2:=(Tb.nowOf t (t+g) (Tb.joinedOf g t ((cS m (.vs ks)).map Z4))).2) (x:=x)
 have gl:=dE6 (ks:=ks) (J:=Tb.joinedOf g t ((cS m (.vs ks)).map Z4)) (n1:=(Tb.nowOf t (t+g) (Tb.joinedOf g t ((cS m (.vs ks)).map Z4))).1) (n2:=(Tb.nowOf t (t+g) (Tb.joinedOf g t ((cS m (.vs ks)).map Z4))).2);generalize hAA:Tb.agAll (Tb.agOf [v]::(Tb.joinedOf g t ((cS m (.vs ks)).map Z4)).map λp=>(lk m ks p.1 p.2).getD (0,0,0,0))=A at*
 generalize hJJ:Tb.joinedOf g t ((cS m (.vs ks)).map Z4)=J at*
 generalize hNN:Tb.nowOf t (t+g) J=N at*
 have hjs:J.Pairwise (λp q=>p.2<q.2\/p.2=q.2/\p.1<q.1):=by rw[<-hJJ];exact(dV2 m ks s1).filter _
 have hgs:((iS (J.map (pr ks)) (.vs ks) (.vi N.1) (.vi N.2)).map Z2).Pairwise (λp q=>fW p q=true):=by
  refine List.Pairwise.sublist (dE7.map _) ?_;rw[o7,I9];refine J0 ?_ hjs;intro p q c;exact(Fg _ _).2 (.inr ⟨rfl,c⟩)
 have hnow:N.1<=t/\t<N.2:=by
  obtain⟨h1,h2,_⟩:=Tb.nowOf_le J t (t+g);grind
 generalize iS (J.map (pr ks)) (.vs ks) (.vi N.1) (.vi N.2)=G at*
 have hlk: ∀q,dP ([gq ks N.1 N.2 A].foldl set1 (G.foldl lW m)) q=if(⟨ks,N.1,N.2⟩:PaneM)=q then some A else if q∈G.map Z2 then none else dP m q:=λq=>by
  show dP (set1 (G.foldl lW m) (gq ks N.1 N.2 A)) q=_;rw[Jv,SR q G m hT.nd,KS,HI]
 have hgq: ∀k' a b,(⟨k',a,b⟩:PaneM)∈G.map Z2↔k'=ks/\(a,b)∈J/\(a,b)≠N:=λk' a b=>by
  rw[j8];constructor
  .rintro⟨x,hx,e⟩;obtain⟨p,hp,hne,rfl⟩:=(gm x).1 hx;have e:(⟨ks,p.1,p.2⟩:PaneM)=⟨k',a,b⟩:=e;grind
  .rintro⟨rfl,h1,h2⟩;exact⟨pr k' (a,b),(gm _).2 ⟨(a,b),h1,h2,rfl⟩,rfl⟩
 refine⟨_,_,rfl,rfl,by simp,by omega,⟨htab _ (λa b h=> ?_) (λa b h1 h2=> ?_) (λk' a b h=> ?_),?_,λr hr=> ?_,hT.gap⟩,λr hr=> ?_,λp hp=> ?_,by simp,λr hr=> ?_,hgs,λp hp=> ?_⟩
 .show dP _ ⟨ks,a,b⟩=some A;grind
 .show dP _ ⟨ks,a,b⟩=none;grind
 .show dP _ ⟨k',a,b⟩=dP m ⟨k',a,b⟩;grind
 .exact Vd _ _ (dj9 G m hT.nd)
 .rcases MH _ _ r hr with h|⟨x,hx,rfl⟩
  .exact hT.nrm r ((Nd G m).subset h)
  .rw[n9]at hx;subst hx;exact⟨ks,N.1,N.2,A,rfl,by omega,hia⟩
 .rw[n9]at hr;subst hr;exact⟨⟨ks,N.1,N.2,A,rfl,by omega,hia⟩,by rw[hlk,KS,e8 rfl];rfl⟩
 .obtain⟨q,h1,h2,rfl⟩:=(gm p).1 hp;refine⟨?_,q.1,q.2,rfl⟩;grind
 .rw[n9]at hr;subst hr;exact⟨rfl,hnow⟩
 .obtain⟨q,h1,h2,rfl⟩:=(gm p).1 hp;obtain⟨c,hc⟩:=hjm q h1;exactλe=>by rw[show dP m (Z2 (pr ks q))=lk m ks q.1 q.2 from rfl,hc]at e;cases e
theorem PL(hk:k=3)(hR:cT k s l g=true){evs:List dy}(hT:TOK (.ses g) evs m)(hm:m.length<=400)(hev:gA evs)(hv:cH v)(he:dD (cG k s l g m ek ks t v)=0):
 ∃R m',eJ X (cG k s l g m ek ks t v)= .vl R/\fN X (cG k s l g m ek ks t v)= .vl m'/\R.length<=16/\(ew (cG k s l g m ek ks t v)).length<=400/\
  TOK (.ses g) (evs++[(ks,t,v)]) m'/\(∀r∈R,nrm r/\dP m' (Z2 r)=some (rA r))/\ ∀p∈ew (cG k s l g m ek ks t v),dP m' (Z2 p)=none/\ ∃a b,p= .vl [.vs ks,.vi a,.vi b]:=by
 obtain⟨R,m',a,b,c,d,e,f,g',_⟩:=Wz hk hR hT hm hev hv he;exact⟨R,m',a,b,c,d,e,f,g'⟩
def ei(k s l g:Int):Tb.Wd:=if k=3 then .ses g else .win (kz (dz k s l) s)
theorem IB(hX:XOk X)(hR:cT k s l g=true){evs:List dy}(hT:TOK (ei k s l g) evs m)(hm:m.length<=400)(hev:gA evs)(hv:cH v)(he:dD (cG k s l g m ek ks t v)=0):
 ∃R m',eJ X (cG k s l g m ek ks t v)= .vl R/\fN X (cG k s l g m ek ks t v)= .vl m'/\R.length<=16/\(ew (cG k s l g m ek ks t v)).length<=400/\
  TOK (ei k s l g) (evs++[(ks,t,v)]) m'/\(∀r∈R,nrm r/\dP m' (Z2 r)=some (rA r))/\ ∀p∈ew (cG k s l g m ek ks t v),dP m' (Z2 p)=none/\ ∃a b,p= .vl [.vs ks,.vi a,.vi b]:=by
 by_cases hk:k=3
 .have hw:ei k s l g= .ses g:=e8 hk;rw[hw]at hT⊢;exact PL hk hR hT hm hev hv he
 .have hw:ei k s l g= .win (kz (dz k s l) s):=b9 hk;grind[a3,cS3]
theorem cS7(hX:XOk X)(hR:cT k s l g=true){evs:List dy}(hT:TOK (ei k s l g) evs m)(hm:m.length<=400)(hev:gA evs)(hv:cH v)(he:dD (cG k s l g m ek ks t v)=0):
 ∃R,eJ X (cG k s l g m ek ks t v)= .vl R/\(R.map Z2).Nodup/\(∀r∈R,Vc ks t (Z2 r))/\(R.length<=1\/ ∃L,Val.vl R=X 490 [.vl L])/\((ew (cG k s l g m ek ks t v)).map Z2).Pairwise (λp q=>fW p q=true)/\ ∀p∈ew (cG k s l g m ek ks t v),dP m (Z2 p)≠none:=by
 by_cases hk:k=3
 .rw[ei,e8 hk]at hT;obtain⟨R,m',a,b,c,d,e,f,g',h1,h2,h3,h4⟩:=Wz hk hR hT hm hev hv he;refine⟨R,a,?_,h2,.inl h1,h3,h4⟩
  match R,h1 with
  | [],_=>exact .nil
  | [x],_=>simp
 .rw[ei,b9 hk]at hT;obtain⟨R,a1,a2,a3,a4,a5,a6,a7,a8,a9⟩:=XN hX hk hR hT hv he;simp_all
end
end Go.Ev.S9
namespace Go.Ev.S9
open Go Go.Ev
variable{evs:List dy}
theorem Ur{α:Type}(f:α->Nat)(c:Nat): ∀l:List α,(∀x∈l,f x<=c)->Tb.sumN (l.map f)<=c*l.length
 | [],_=>by exact r9 _
 |x::l,h=>by
  have h2:=Ur f c l (λy hy=>h y (x9 _ hy));grind[Tb.sumN,Nat.mul_add]
theorem Xd{α:Type}(f:α->Nat): ∀l:List α,(∀x∈l,1<=f x)->l.length<=Tb.sumN (l.map f)
 | [],_=>i6 _
 |x::l,h=>by
  have h2:=Xd f l (λy hy=>h y (x9 _ hy));grind[Tb.sumN]
def oO(r:Val)(x:dy):Bool:=Tb.inP (Z2 r).key (Z2 r).a (Z2 r).b x
def GU(r:Val):Int×Int:=((Z2 r).a,(Z2 r).b)
theorem ca7{W:Tb.Wd}{m:List Val}(hT:TOK W evs m)(x:dy):
 ((m.filter λr=>oO r x).map GU).Nodup/\ ∀a b,(a,b)∈(m.filter λr=>oO r x).map GU↔Tb.Pan W evs x.1 a b/\a<=x.2.1/\x.2.1<b:=by
 have hkey: ∀r∈m.filter λr=>oO r x,(Z2 r).key=x.1/\(Z2 r).a<=x.2.1/\x.2.1<(Z2 r).b:=λr hr=>by
  obtain⟨q1,q2,q3⟩:=Tb.inP_iff.1 (l7.1 hr).2;grind
 have hnd:((m.filter λr=>oO r x).map Z2).Nodup:=hT.nd.sublist (T5.map _);refine⟨?_,λa b=> ?_⟩
 .rw[I8,I9]at hnd⊢;refine hnd.imp_of_mem λ{r r'} hr hr' hne e=>hne ?_
  have e1:(Z2 r).a=(Z2 r').a:=congrArg Prod.fst e;have e2:(Z2 r).b=(Z2 r').b:=congrArg Prod.snd e;grind[Z2]
 .rw[j8];constructor
  .rintro⟨r,hr,e⟩;obtain⟨q1,q2,q3⟩:=hkey r hr;have hm:=(l7.1 hr).1;have hl:=tH hT.nd hm;have e1:(Z2 r).a=a:=congrArg Prod.fst e;have e2:(Z2 r).b=b:=congrArg Prod.snd e;have hp:Z2 r=⟨x.1,a,b⟩:=by
    grind[Z2]
   rw[hp]at hl;rw[e1]at q2;rw[e2]at q3;exact⟨((hT.tab _ _ _ _).1 hl).1,q2,q3⟩
  .rintro⟨h1,h2,h3⟩;have hl:=(hT.tab x.1 a b _).2 ⟨h1,rfl⟩;obtain⟨r,hr,hp,_⟩:=vH hl;refine⟨r,l7.2 ⟨hr,?_⟩,?_⟩
   .unfold oO;rw[hp];exact Tb.inP_iff.2 ⟨rfl,h2,h3⟩
   grind[GU]
section
variable{k s l g:Int}{m:List Val}
theorem cS8(hR:cT k s l g=true)(hT:TOK (ei k s l g) evs m)(hev:gA evs){x:dy}(hx:x∈evs):(m.filter λr=>oO r x).length=(cX k s l g (.vi x.2.1)).length:=by
 obtain⟨h1,h2⟩:=ca7 hT x;have ht:=(hev x hx).1;have lm:((m.filter λr=>oO r x).map GU).length=(m.filter λr=>oO r x).length:=l5 ..;rw[<-lm];by_cases hk:k=3
 .have hw:ei k s l g= .ses g:=e8 hk;rw[hw]at h2;obtain⟨hg1,_⟩:=Cb hR hk;obtain⟨L,q1,q2⟩:=Tb.ses_ex (g:=g) (by omega) x.1 evs;obtain⟨p,p1,p2,p3⟩:=q2 x.2.1 ⟨x,hx,rfl,rfl⟩;have hs:=(q1 p.1 p.2).1 p1;have hp:((m.filter λr=>oO r x).map GU).Perm [p]:=by
   refine(I3 h1 (by simp)).2 λab=> ?_
   rw[n9];refine(h2 ab.1 ab.2).trans ⟨λ⟨c1,c2,c3⟩=> ?_,λc=> ?_⟩
   .have:=Tb.isS.one c1 hs ⟨by omega,by omega⟩;exact O7 this.1 this.2
   .subst c;exact⟨hs,p2,by omega⟩
  rw[hp.length_eq];grind[cX,a06]
 .have hw:ei k s l g= .win (kz (dz k s l) s):=b9 hk;rw[hw]at h2;obtain⟨p1,p2,p3⟩:=GZ (t:=x.2.1) hR hk ht;have lo:((cX k s l g (.vi x.2.1)).map Z4).length=(cX k s l g (.vi x.2.1)).length:=l5 ..;rw[<-lo];refine List.Perm.length_eq ((I3 h1 p1).2 λab=> ?_);refine(h2 ab.1 ab.2).trans (Iff.trans ?_ (p2 ab.1 ab.2).symm);constructor
  .rintro⟨⟨c1,_⟩,c2,c3⟩;grind
  .rintro⟨c1,c2,c3⟩;exact⟨⟨c1,x.2.1,⟨x,hx,rfl,rfl⟩,c2,c3⟩,c2,c3⟩
theorem MG{W:Tb.Wd}(hT:TOK W evs m){r:Val}(hr:r∈m):1<=ci r 3/\(ci r 3).toNat=(evs.filter (oO r)).length/\rA r=Tb.agOf (Tb.vals evs (Z2 r).key (Z2 r).a (Z2 r).b)/\Tb.vals evs (Z2 r).key (Z2 r).a (Z2 r).b≠[]:=by
 have hl:=tH hT.nd hr;obtain⟨q1,q2,q3,q4⟩:=hT.pos hl;have e:ci r 3=((Tb.vals evs (Z2 r).key (Z2 r).a (Z2 r).b).length:Int):=congrArg Prod.fst q3;refine⟨q1,?_,q3,Tb.Pan.ne hT.gap q4⟩;rw[e,Int.toNat_natCast];unfold Tb.vals;rw[l5];rfl
def TW(m:List Val):Nat:=Tb.sumN (m.map λr=>(ci r 3).toNat)
def JM(k s l g:Int)(evs:List dy):Nat:=Tb.sumN (evs.map λx=>(cX k s l g (.vi x.2.1)).length)
theorem cU0(hR:cT k s l g=true)(hT:TOK (ei k s l g) evs m)(hev:gA evs):TW m=JM k s l g evs:=by
 unfold TW JM;rw[y7 (λr hr=>(MG hT hr).2.1),Tb.twice (λr x=>oO r x) evs m];congr 1;exact y7 λx hx=>cS8 hR hT hev hx
theorem d39(k s l g:Int)(t:Val):(cX k s l g t).length<=16:=by
 by_cases hk:k=3
 .unfold cX;grind
 .exact CL hk
theorem dk3(k s l g:Int)(t:Val)(hk:k=3):(cX k s l g t).length<=1:=by
 unfold cX;grind
theorem dk4(k s l g:Int)(evs:List dy):JM k s l g evs<=16*evs.length/\(k=3->JM k s l g evs<=evs.length):=by
 refine⟨Ur _ 16 evs λx _=>d39 k s l g _,λhk=> ?_⟩;have:=Ur (λx:dy=>(cX k s l g (.vi x.2.1)).length) 1 evs λx _=>dk3 k s l g _ hk
 rw[F7]at this;exact this
theorem dk5(hR:cT k s l g=true)(hT:TOK (ei k s l g) evs m)(hev:gA evs):m.length<=16*evs.length/\(k=3->m.length<=evs.length):=by
 have h1:m.length<=TW m:=Xd _ m λr hr=>by
  have:=(MG hT hr).1;omega
 rw[cU0 hR hT hev]at h1;grind[dk4]
end
end Go.Ev.S9
namespace Go.Ev.S9
open Go Go.Ev
theorem dE8{I:Opq}(a b:SX):dB I (fm a b)=decide ((bU I b).toI<(bU I a).toI):=rfl
theorem cP{I:Opq}(a b:SX):dB I (zs a b)=decide ((bU I a).toI<(bU I b).toI):=rfl
theorem kl{l:List Val}{i:Nat}(h:i<l.length):bW l i∈l:=by
 have e:bW l i=l[i]:=by simp[bW,j9,h]
 rw[e];exact C7 h
section
variable{X:Nat->List Val->Val}{I:Opq}(hf: ∀i a,I.f i a=FT X i a)
include hf
end
end Go.Ev.S9
namespace Go.Ev.S9
open Go Go.Ev
structure RC (I:Opq) (k s l g:Int) (ops:List Val) (i:Nat) (m:List Val) (ek:Int) (ks:List UInt8) (t v:Int):Prop where
 w0:I.w 0= .vi k
 w1:I.w 1= .vi s
 w2:I.w 2= .vi l
 w3:I.w 3= .vi g
 w4:I.w 4= .vl ops
 wi:I.w 2003= .vi i
 wm:I.w 2004= .vl m
 row:bW ops i= .vl [.vi ek,.vs ks,.vi t,.vi v]
def DH(k:Int)(m:List Val):Prop:=(∀r∈m,nrm r)/\(m.map Z2).Nodup/\m.length<=400/\(k=3->m.length<=24)
section
variable{X:Nat->List Val->Val}{I:Opq}{k s l g:Int}{ops:List Val}{i:Nat}{m:List Val}{ek:Int}{ks:List UInt8}{t v:Int}
theorem RC.up(h:RC I k s l g ops i m ek ks t v)(vs:List Val):RC (I.upd 4000 vs) k s l g ops i m ek ks t v:=by
 have W: ∀n:Nat,n<4000->(I.upd 4000 vs).w n=I.w n:=λn hn=>by simp_all[cM,b9]
 exact⟨(W 0 (by omega)).trans h.w0,(W 1 (by omega)).trans h.w1,(W 2 (by omega)).trans h.w2,(W 3 (by omega)).trans h.w3,(W 4 (by omega)).trans h.w4,(W 2003 (by omega)).trans h.wi,(W 2004 (by omega)).trans h.wm,h.row⟩
theorem RC.ex(h:RC I k s l g ops i m ek ks t v)(j:Nat):bU I (ex j)=Z7 (.vl [.vi ek,.vs ks,.vi t,.vi v]) j:=by
 show bZ (I.w 4).toL (I.w 2003).toI (j:Int)=_;rw[h.w4,h.wi,<-h.row];rfl
variable(hf: ∀i a,I.f i a=FT X i a)
include hf
theorem Je(hX:XOk X){x:SX}(hd:bU I x= .vl m)(ho:DH k m):dB I (eb8 x)=true:=by
 show((decide (((bU I x).toL.length:Int)<=400)&&(I.f 431 [bU I x]).toB)&&(I.f 491 [bU I x]).toB)=true;rw[hf,hf,hd];have h1:=hX.x431 m (λr hr=>Bv (ho.1 r hr));have h2:=hX.x491 m ho.2.1;show((decide ((m.length:Int)<=400)&&(X 431 [.vl m]).toB)&&(X 491 [.vl m]).toB)=true;have h3:=ho.2.2.1;grind
theorem Xp{e0 e1 e2:SX}(h0:bU I e0= .vi k)(h1:bU I e1= .vl m)(h2:bU I e2= .vs ks)(ho:DH k m):dB I (.app 739 [e0,e1,e2])=true:=by
 show(I.f 739 [bU I e0,bU I e1,bU I e2]).toB=true;rw[hf,h0,h1,h2];show((!decide (k=3)||decide (m.length<=24))&&true)=true;by_cases c:k=3
 .rw[e9 c,e9 (ho.2.2.2 c)];rfl
 grind
end
end Go.Ev.S9
namespace Go.Ev.S9
open Go Go.Ev
def cD(x:dy):Val:= .vl [.vi 1,.vs x.1,.vi x.2.1,.vi x.2.2]
def BT(evs:List dy):Prop:= ∀x∈evs,Z9 1 x.1 x.2.1 x.2.2=0
theorem NI{r:Val}(h:opOk r=true): ∃ek ks t v,r= .vl [.vi ek,.vs ks,.vi t,.vi v]/\cH v:=by
 unfold opOk at h;split at h
 .rename_i ek ks t v;rw[j7,decide_eq_true_eq,decide_eq_true_eq]at h;exact⟨ek,ks,t,v,rfl,h⟩
 .cases h
section
variable{X:Nat->List Val->Val}{k s l g:Int}{m:List Val}
theorem Oj(hR:cT k s l g=true){evs:List dy}(hT:TOK (ei k s l g) evs m)(hev:gA evs)(hl:evs.length<=24):DH k m:=by
 obtain⟨h1,h2⟩:=dk5 hR hT hev;exact⟨hT.nrm,hT.nd,by omega,λhk=>by omega⟩
theorem dk6(hR:cT k s l g=true):TOK (ei k s l g) [] []:=
 ⟨Tb.tab_nil _,List.nodup_nil,λr h=>absurd h (G1),λg' h=>by
  unfold ei at h;by_cases hk:k=3
  .rw[e8 hk]at h;cases h;have:=(Cb hR hk).1;omega
  grind⟩
theorem cA6{evs:List dy}{x:dy}(h:gA evs)(ht:ep x.2.1=true)(hv:cH x.2.2):gA (evs++[x]):=λy hy=>by
 rcases x8.1 hy with h1|h1
 .exact h y h1
 grind
theorem bA1{evs:List dy}{x:dy}(h:BT evs)(hv:Z9 1 x.1 x.2.1 x.2.2=0):BT (evs++[x]):=λy hy=>by
 rcases x8.1 hy with h1|h1
 .exact h y h1
 grind
theorem YV{ops:List Val}{i:Nat}{ek:Int}{ks:List UInt8}{t v:Int}{M:Val}(hM:M= .vl m)(h:bW ops i= .vl [.vi ek,.vs ks,.vi t,.vi v]):iO (.vi k) (.vi s) (.vi l) (.vi g) M (bW ops i)=cG k s l g m ek ks t v:=by
 rw[h,hM];rfl
variable{I:Opq}(hf: ∀i a,I.f i a=FT X i a)
include hf
end
end Go.Ev.S9
namespace Go.Ev.S9
open Go Go.Ev
section
variable{X:Nat->List Val->Val}{I:Opq}(hf: ∀i a,I.f i a=FT X i a)
include hf
end
end Go.Ev.S9
namespace Go.Ev.S9
open Go Go.Ev
section
variable{X:Nat->List Val->Val}{k s l g:Int}
theorem RE(X:Nat->List Val->Val)(a b c d:Val)(U:List Val):jz X a b c d U<=U.length/\(∀i,i<jz X a b c d U->jN X a b c d U i=0)/\(jz X a b c d U<U.length->jN X a b c d U (jz X a b c d U)≠0):=by
 unfold jz;cases h:(List.range U.length).find? λi=>decide (jN X a b c d U i≠0)with
 |none=>
  grind
 |some j=>
  grind[oI,Nat.le_of_lt]
variable{I:Opq}(hf: ∀i a,I.f i a=FT X i a)
include hf
end
theorem cU2{W:Tb.Wd}{evs evs':List dy}{m m':List Val}(h:TOK W evs m)(h':TOK W evs' m')(hp:evs'.Perm evs):m'.Perm m:=by
 have hu:=Tb.Tab.uniq (h'.tab.perm hp) h.tab;have nd: ∀{q:List Val},(q.map Z2).Nodup->q.Nodup:=λ{q} hq=>by
  rw[I8,I9]at hq;exact I8.2 (hq.imp λhne e=>hne (by rw[e]))
 have one: ∀{q q':List Val},(∀r∈q,nrm r)->(∀r∈q',nrm r)->(q.map Z2).Nodup->(∀p,dP q p=dP q' p)-> ∀r∈q,r∈q':=λ{q q'} n1 n2 hq he r hr=>by
  have h1:=tH hq hr;rw[he]at h1;obtain⟨r',hr',e1,e2⟩:=vH h1;obtain⟨a,b,c,d,rfl,_,_⟩:=n1 r hr;obtain⟨a',b',c',d',rfl,_,_⟩:=n2 r' hr';have e1:(⟨a',b',c'⟩:PaneM)=⟨a,b,c⟩:=e1;have e2:d'=d:=e2;grind
 have hall: ∀p:PaneM,dP m' p=dP m p:=λp=>hu p.key p.a p.b
 exact(I3 (nd h'.nd) (nd h.nd)).2 λr=>⟨one h'.nrm h.nrm h'.nd hall r,one h.nrm h'.nrm h.nd (λp=>(hall p).symm) r⟩
end Go.Ev.S9
namespace Go.Ev.S9
open Go Go.Ev
theorem Ln{v:Val}(h:isVi v=true): ∃n,v= .vi n:=by
 cases v with
 |vi n=>grind
 |vs _=>cases h
 |vb _=>cases h
 |vl _=>cases h
theorem dk7{v:Val}(h:opsOk v=true): ∃l,v= .vl l/\ ∀r∈l,opOk r=true:=by
 cases v with
 |vl l=>exact⟨l,rfl,k6.1 h⟩
 |vs _=>cases h
 |vb _=>cases h
 |vi _=>cases h
section
variable{X:Nat->List Val->Val}{I:Opq}(hf: ∀i a,I.f i a=FT X i a)
include hf
end
end Go.Ev.S9
