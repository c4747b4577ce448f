import Derived.Test.YtliadehnohhngaaGreatEL3
import Derived.Test.YtliadehnohhngaaGreatEM1
set_option linter.all false
namespace Go.Ev.S9
open Go Go.Ev
def rA(r:Val):Tb.Ag:=(ci r 3,ci r 4,ci r 5,ci r 6)
def ed(m:U0)(p:PaneM):Option Tb.Ag:=(m.find? λr=>decide (Y2 r=p)).map rA
def lk(m:U0)(k:qw)(s e:Int):Option Tb.Ag:=ed m ⟨k,s,e⟩
def set1(m:U0)(r:Val):U0:=bif kY m (fF r)then m.set (ja m (fF r)) (cO r)else m++[cO r]
def nj(m:U0)(p:Val):U0:=m.eraseIdx (ja m (fF p))
theorem d09(r p:Val):gV [.str,.int .i64,.int .i64] r p=decide (Y2 r=Y2 p):=by show(decide ((Y5 p 0).S=(Y5 r 0).S)&&(decide ((Y5 p 1).I=(Y5 r 1).I)&&(decide ((Y5 p 2).I=(Y5 r 2).I)&&true)))=_;simp[j8,decide_eq_true_eq,Y2,PaneM.mk.injEq];grind
def d13(l:U0)(p:Val):ja l p=l.findIdx λr=>decide (Y2 r=Y2 p):=by grind[ja,d09]
def Oh(x:Val)(m:U0)(p:Val):ja (x::m) p=if Y2 x=Y2 p then 0 else ja m p+1:=by simp_all[d13,List.findIdx_cons,Y2,c9,i6,b9,j7]
theorem GB(x:Val)(m:U0)(p:Val):kY (x::m) p=(decide (Y2 x=Y2 p)||kY m p):=by unfold kY;rw[Oh];grind
def e92(x:Val)(m:U0)(n:Nat):cg (x::m) (n+1)=cg m n:=rfl
def Th(x:Val)(m:U0)(p:Val)(j:Nat):rM (x::m) p j=if Y2 x=Y2 p then Y5 x j else rM m p j:=by unfold rM;rw[GB,Oh];by_cases h:Y2 x=Y2 p;rw[c9 h,c9 h,i6 h];rfl;simp_all[b9,j7,B6,e92]
def sX(x:Val)(m:U0)(p:PaneM):ed (x::m) p=if Y2 x=p then some (rA x)else ed m p:=by unfold ed;grind
def dt6(p:PaneM):ed [] p=none:=rfl
def SS(x:Val)(m:U0)(r:Val):set1 (x::m) r=if Y2 x=Y2 r then cO r::m else x::set1 m r:=by unfold set1;rw[GB,Oh];have e:Y2 (fF r)=Y2 r:=rfl;grind
theorem Yv(r:Val):set1 [] r=[cO r]:=rfl
def cE1(x:Val)(m:U0)(r:Val):nj (x::m) r=if Y2 x=Y2 r then m else x::nj m r:=by unfold nj;rw[Oh];have e:Y2 (fF r)=Y2 r:=rfl;grind
def Lj(r:Val)(p:PaneM): ∀m:U0,ed (set1 m r) p=if Y2 r=p then some (rA r)else ed m p
 | []=>by rw[Yv,sX];rfl
 |x::m=>by rw[SS];by_cases h:Y2 x=Y2 r;rw[c9 h,sX,sX];have e:Y2 (cO r)=Y2 r:=rfl;rw[e,h];by_cases h2:Y2 r=p;rw[c9 h2,c9 h2];rfl;grind;rw[b9 h,sX,sX,Lj r p m];grind
def YW(r:Val): ∀m:U0,∀x∈set1 m r,x∈m\/x=cO r
 | [],x,h=>by grind[Yv,List.mem_singleton]
 |y::m,x,h=>by
  rw[SS]at h;by_cases c:Y2 y=Y2 r;grind
  rw[b9 c]at h;rcases n8.1 h with h|h
  grind
  rcases YW r m x h with h|h
  exact .inl (y7 _ h);grind
def cE2(r:Val): ∀m:U0,(m.map Y2).Nodup->((set1 m r).map Y2).Nodup
 | [],h=>by rw[Yv];simp
 |y::m,h=>by
  rw[m8,E7]at h;rw[SS];by_cases c:Y2 y=Y2 r;have e:Y2 (cO r)=Y2 y:=c.symm;grind
  rw[b9 c,m8,E7];refine⟨λhm=> ?_,cE2 r m h.2⟩;obtain⟨x,hx,e⟩:=j9.1 hm;rcases YW r m x hx with q|q
  grind;subst q;exact c e.symm
def c59(p:Val)(m:U0):(nj m p).Sublist m:=U3 _ _
def d14{m:U0}{p:PaneM}(h:p∉m.map Y2):ed m p=none:=by simp_all[ed,B9,decide_eq_true_eq,j9]
def c60(r:Val)(p:PaneM): ∀m:U0,(m.map Y2).Nodup->ed (nj m r) p=if Y2 r=p then none else ed m p
 | [],h=>by have e:nj [] r=[]:=rfl;rw[e,dt6];simp
 |x::m,h=>by rw[m8,E7]at h;rw[cE1];by_cases c:Y2 x=Y2 r;rw[c9 c,sX];by_cases d:Y2 r=p;rw[c9 d,d14 (by rw[<-d,<-c];exact h.1)];rw[b9 d,b9 (by rw[c];exact d)];rw[b9 c,sX,sX,c60 r p m h.2];by_cases d:Y2 r=p;rw[c9 d,c9 d,b9 (by rw[<-d];exact c)];rw[b9 d,b9 d]
def wS{m:U0}{p:PaneM}{a:Tb.Ag}(h:ed m p=some a): ∃r∈m,Y2 r=p/\rA r=a:=by obtain⟨r,h1,h2⟩:=u9.1 h;grind
def xl: ∀{m:U0} {r:Val},(m.map Y2).Nodup->r∈m->ed m (Y2 r)=some (rA r)
 | [],r,_,h=>absurd h (G3)
 |x::m,r,hn,h=>by
  rw[m8,E7]at hn;rw[sX];rcases n8.1 h with rfl|h
  grind;rw[b9 λe=>hn.1 (j9.2 ⟨r,h,e.symm⟩)];exact xl hn.2 h
def He{p:Val}{a:Tb.Ag}: ∀{m:U0},ed m (Y2 p)=some a-> ∃r∈m,Y2 r=Y2 p/\rA r=a/\kY m p=true/\ ∀j,rM m p j=Y5 r j
 | [],h=>by cases h
 |x::m,h=>by rw[sX]at h;by_cases c:Y2 x=Y2 p;rw[c9 c]at h;exact⟨x,C4 ..,c,R9 h,by grind[GB,decide_eq_true],λj=>by rw[Th,c9 c]⟩;rw[b9 c]at h;obtain⟨r,h1,h2,h3,h4,h5⟩:=He h;exact⟨r,y7 _ h1,h2,h3,by rw[GB,h4,Bool.or_true],λj=>by simp_all[Th,b9]⟩
def Vd{p:Val}: ∀{m:U0},ed m (Y2 p)=none->kY m p=false/\ ∀j,rM m p j= .D 0
 | [],h=>⟨rfl,λj=>rfl⟩
 |x::m,h=>by rw[sX]at h;by_cases c:Y2 x=Y2 p;grind;rw[b9 c]at h;obtain⟨h1,h2⟩:=Vd h;simp_all[GB,j7,Th,b9]
def PR{l:U0}{n:Nat}(h:n<l.length):l.take (n+1)=l.take n++[cg l n]:=by
 have e:cg l n=l[n]:=by simp[cg,k5,h]
 rw[e,P7]
def cE3(m R:U0): ∀n,n<=R.length->fp (.A m) R n= .A ((R.take n).foldl set1 m)
 |0,_=>rfl
 |n+1,h=>by rw[PR (by omega),I6];unfold fp;rw[cE3 m R n (by omega)];show(bif kY ((R.take n).foldl set1 m) (fF (cg R n))then Val.A (((R.take n).foldl set1 m).set (ja ((R.take n).foldl set1 m) (fF (cg R n))) (cO (cg R n)))else Val.A (((R.take n).foldl set1 m)++[cO (cg R n)]))=Val.A (set1 ((R.take n).foldl set1 m) (cg R n));grind[set1,kY,fF,cg]
def Ue(m R:U0):fp (.A m) R R.length= .A (R.foldl set1 m):=by simp_all[cE3,j5,A6]
def cE4(m R:U0): ∀n,n<=R.length->fY (.A m) R n= .A ((R.take n).foldl nj m)
 |0,_=>rfl
 |n+1,h=>by rw[PR (by omega),I6];unfold fY;rw[cE4 m R n (by omega)];rfl
def c61(m R:U0):fY (.A m) R R.length= .A (R.foldl nj m):=by simp_all[cE4,j5,A6]
def MR{p:PaneM}: ∀(R m:U0),p∉R.map Y2->ed (R.foldl set1 m) p=ed m p
 | [],m,h=>rfl
 |r::R,m,h=>by rw[m8,n8]at h;rw[List.foldl_cons,MR R _ (λx=>h (.inr x)),Lj,b9 λe=>h (.inl e.symm)]
def PM{r:Val}: ∀(R m:U0),(R.map Y2).Nodup->r∈R->ed (R.foldl set1 m) (Y2 r)=some (rA r)
 | [],m,_,h=>absurd h (G3)
 |x::R,m,hn,h=>by
  rw[m8,E7]at hn;rw[List.foldl_cons];rcases n8.1 h with rfl|h
  rw[MR R _ hn.1,Lj,c9 rfl];exact PM R _ hn.2 h
def Oe: ∀(R m:U0),∀x∈R.foldl set1 m,x∈m\/ ∃r∈R,x=cO r
 | [],m,x,h=> .inl h
 |r::R,m,x,h=>by
  rcases Oe R (set1 m r) x h with h|⟨y,h1,h2⟩
  rcases YW r m x h with h|h
  exact .inl h;exact .inr ⟨r,C4 ..,h⟩;grind
def XL: ∀(R m:U0),(m.map Y2).Nodup->((R.foldl set1 m).map Y2).Nodup
 | [],m,h=>h
 |r::R,m,h=>XL R _ (cE2 r m h)
def Ly: ∀(G m:U0),(G.foldl nj m).Sublist m
 | [],m=>List.Sublist.refl _
 |g::G,m=>(Ly G (nj m g)).trans (c59 g m)
def dt7(G m:U0)(h:(m.map Y2).Nodup):((G.foldl nj m).map Y2).Nodup:=h.sublist ((Ly G m).map _)
def WD(p:PaneM): ∀(G m:U0),(m.map Y2).Nodup->ed (G.foldl nj m) p=if p∈G.map Y2 then none else ed m p
 | [],m,h=>by simp
 |g::G,m,h=>by rw[List.foldl_cons,WD p G _ (h.sublist ((c59 g m).map _)),c60 g p m h,m8];grind
def dp(a:Tb.Ag):Val:= .A [.D a.1,.D a.2.1,.D a.2.2.1,.D a.2.2.2]
def kZ(a:Tb.Ag):Prop:=inI a.1/\inI a.2.1/\inI a.2.2.1/\inI a.2.2.2
def We:inI 0:=⟨by decide,by decide⟩
def CB:inI 1:=⟨by decide,by decide⟩
def c62{g g':Nat->U0}: ∀n,(∀k,k<n->g k=g' k)->cw g n=cw g' n
 |0,_=>rfl
 |n+1,h=>by rw[cw,cw,c62 n (λk hk=>h k (by omega)),h n (by omega)]
def bF9(L:U0): ∀n,n<=L.length->sk (λk=>ci (cg L k) 0) n=Tb.sumI ((L.take n).map λr=>ci r 0)
 |0,_=>rfl
 |n+1,h=>by rw[PR (by omega),r9,Tb.sumI_app,<-bF9 L n (by omega)];show _+_=_+(ci (cg L n) 0+0);grind
def UA(L:U0):sk (λk=>ci (cg L k) 0) L.length=Tb.sumI (L.map λr=>ci r 0):=by rw[bF9 L _ (j5 _),A6]
def cE5{L:U0}(hL: ∀r∈L,inI (ci r 0))(hn:L.length<=1000000)(h:gB L=0):inI (Tb.sumI (L.map λr=>ci r 0))/\sF L=Tb.sumI (L.map λr=>ci r 0):=by
 have hg: ∀k,inI (ci (cg L k) 0):=λk=>by
  by_cases c:k<L.length
  have e:cg L k=L[k]:=by simp[cg,k5,c]
  rw[e];exact hL _ (C6 c)
  have e:cg L k= .A []:=by simp[cg,k5,x5 (E4.1 c)]
  rw[e];exact We
 obtain⟨h1,h2⟩:=bF8 hg hn;rw[UA]at h1 h2;have h0:(fO (λk=>ci (cg L k) 0) L.length).2=0:=by unfold gB jo at h;by_cases c:(fO (λk=>ci (cg L k) 0) L.length).2=0;exact c;rw[b9 c]at h;cases h
 simp_all[sF,jo,c9]
def cE6{gs:List Tb.Ag}(x:Tb.Ag)(h:gs≠[]):Tb.agAll (gs++[x])=Tb.ag2 (Tb.agAll gs) x:=by
 cases gs with
 |nil=>grind
 |cons a l=>
  show(l++[x]).foldl Tb.ag2 a=_;rw[I6];rfl
def c63: ∀(l:List Tb.Ag) (a:Tb.Ag),(l.foldl Tb.ag2 a).1=a.1+Tb.sumI (l.map (·.1))/\(l.foldl Tb.ag2 a).2.1=a.2.1+Tb.sumI (l.map (·.2.1))
 | [],a=>⟨(M7 _).symm,(M7 _).symm⟩
 |x::l,a=>by obtain⟨h1,h2⟩:=c63 l (Tb.ag2 a x);rw[List.foldl_cons,h1,h2];refine⟨?_,?_⟩;show a.1+x.1+_=a.1+(x.1+_);omega;show a.2.1+x.2.1+_=a.2.1+(x.2.1+_);omega
def Uc{gs:List Tb.Ag}:(Tb.agAll gs).1=Tb.sumI (gs.map (·.1))/\(Tb.agAll gs).2.1=Tb.sumI (gs.map (·.2.1)):=by
 cases gs with
 |nil=>exact⟨rfl,rfl⟩
 |cons a l=>exact c63 l a
def cE7: ∀(l:List Tb.Ag) (a:Tb.Ag),inI a.2.2.1/\inI a.2.2.2->(∀x∈l,kZ x)->inI (l.foldl Tb.ag2 a).2.2.1/\inI (l.foldl Tb.ag2 a).2.2.2
 | [],a,h,_=>h
 |x::l,a,h,hl=>by refine cE7 l _ ?_ (λy hy=>hl y (y7 _ hy));have hx:=(hl x (C4 ..)).2.2;show inI (min a.2.2.1 x.2.2.1)/\inI (max a.2.2.2 x.2.2.2);grind
def d15{gs:List Tb.Ag}(hne:gs≠[])(h: ∀x∈gs,kZ x):inI (Tb.agAll gs).2.2.1/\inI (Tb.agAll gs).2.2.2:=by
 cases gs with
 |nil=>grind
 |cons a l=>exact cE7 l a (h a (C4 ..)).2.2 (λx hx=>h x (y7 _ hx))
theorem XC{gs:List Tb.Ag}{k:Nat}(h:k<gs.length):cg (gs.map dp) k=dp gs[k]:=by simp[cg,k5,h]
theorem Xo{a:Tb.Ag}(h:1<=a.1):vB (dp a)=false:=by show Fg a.1 a.2.1 a.2.2.1 a.2.2.2=false;grind[Fg,decide_eq_false]
def dc4{gs:List Tb.Ag}(hc: ∀a∈gs,1<=a.1/\kZ a)(c:Nat): ∀k,k<gs.length->jG (gs.map dp) c k=[.A [Y5 (cg (gs.map dp) k) c]]:=λk hk=>by grind[jG,XC,Xo,List.getElem_mem]
def Qr{gs:List Tb.Ag}(hc: ∀a∈gs,1<=a.1/\kZ a)(c:Nat):cw (jG (gs.map dp) c) (gs.map dp).length=gs.map λa=> .A [Y5 (dp a) c]:=by rw[c62 (g':=λk=>[(λr=>Val.A [Y5 r c]) (cg (gs.map dp) k)]) _ (λk hk=>dc4 hc c k (by simpa using hk))];refine(yd (λr=>Val.A [Y5 r c]) (gs.map dp)).trans ?_;simp_all
def Rj{gs:List Tb.Ag}(hc: ∀a∈gs,1<=a.1/\kZ a): ∀k,k<=gs.length->(cw (jG (gs.map dp) 0) k).length=k
 |0,_=>rfl
 |k+1,h=>by rw[cw,k7,Rj hc k (by omega),dc4 hc 0 k (by omega)];rfl
def dc5{gs:List Tb.Ag}(hc: ∀a∈gs,1<=a.1/\kZ a): ∀k,k<gs.length-> ∃x y,jS (gs.map dp) (k+1)=[x,y,.D (Tb.agAll (gs.take (k+1))).2.2.1,.D (Tb.agAll (gs.take (k+1))).2.2.2]
 |0,h=>by
  have e:gs.take 1=[gs[0]]:=by rw[<-P7 h];rfl
  unfold jS;rw[XC h,Xo (hc _ (C6 h)).1,Rj hc 0 (by omega),e,c9 rfl];refine⟨Y5 (dp gs[0]) 0,Y5 (dp gs[0]) 1,?_⟩;show [Y5 (dp gs[0]) 0,Y5 (dp gs[0]) 1,Val.D (min gs[0].2.2.1 gs[0].2.2.1),.D (max gs[0].2.2.2 gs[0].2.2.2)]=[Y5 (dp gs[0]) 0,Y5 (dp gs[0]) 1,Val.D gs[0].2.2.1,.D gs[0].2.2.2];grind
 |k+1,h=>by
  obtain⟨x,y,e⟩:=dc5 hc k (by omega);have e2:gs.take (k+1+1)=gs.take (k+1)++[gs[k+1]]:=(P7 h).symm;have hne:gs.take (k+1)≠[]:=λc=>by simp_all
  rw[e2,cE6 _ hne];rw[show jS (gs.map dp) (k+1+1)=(bif vB (cg (gs.map dp) (k+1))then jS (gs.map dp) (k+1)else
   (if(cw (jG (gs.map dp) 0) (k+1)).length=0 then [Y5 (cg (gs.map dp) (k+1)) 0,Y5 (cg (gs.map dp) (k+1)) 1,.D (min (ci (cg (gs.map dp) (k+1)) 2) (ci (cg (gs.map dp) (k+1)) 2)),.D (max (ci (cg (gs.map dp) (k+1)) 3) (ci (cg (gs.map dp) (k+1)) 3))]
    else [(jS (gs.map dp) (k+1)).getD 0 default,(jS (gs.map dp) (k+1)).getD 1 default,.D (min ((jS (gs.map dp) (k+1)).getD 2 default).I (ci (cg (gs.map dp) (k+1)) 2)),.D (max ((jS (gs.map dp) (k+1)).getD 3 default).I (ci (cg (gs.map dp) (k+1)) 3))]))from rfl]
  rw[XC h,Xo (hc _ (C6 h)).1,Rj hc (k+1) (by omega),b9 (by omega),e];exact⟨_,_,rfl⟩
def UZ{gs:List Tb.Ag}(hc: ∀a∈gs,1<=a.1/\kZ a)(hn:gs.length<=1000000)(hne:gs≠[])(h:jE (gs.map dp)=0):
 jR (gs.map dp)=[.D (Tb.agAll gs).1,.D (Tb.agAll gs).2.1,.D (Tb.agAll gs).2.2.1,.D (Tb.agAll gs).2.2.2]/\kZ (Tb.agAll gs):=by
 have hn': ¬(gB (jC (gs.map dp))≠0\/gB (jT (gs.map dp))≠0):=λc=>by unfold jE at h;rw[if_pos c]at h;cases h
 have e0:gB (jC (gs.map dp))=0:=Classical.byContradiction λc=>hn' (.inl c)
 have e1:gB (jT (gs.map dp))=0:=Classical.byContradiction λc=>hn' (.inr c)
 have c0:jC (gs.map dp)=gs.map λa=> .A [Y5 (dp a) 0]:=Qr hc 0
 have c1:jT (gs.map dp)=gs.map λa=> .A [Y5 (dp a) 1]:=Qr hc 1
 rw[c0]at e0;rw[c1]at e1;obtain⟨s1,s2⟩:=cE5 (λr hr=>by obtain⟨a,ha,rfl⟩:=j9.1 hr;exact(hc a ha).2.1) (by simpa using hn) e0;obtain⟨s3,s4⟩:=cE5 (λr hr=>by obtain⟨a,ha,rfl⟩:=j9.1 hr;exact(hc a ha).2.2.1) (by simpa using hn) e1;rw[o8]at s1 s2 s3 s4;have m1:Tb.sumI (gs.map ((λr=>ci r 0)∘λa=>Val.A [Y5 (dp a) 0]))=(Tb.agAll gs).1:=Uc.1.symm;have m2:Tb.sumI (gs.map ((λr=>ci r 0)∘λa=>Val.A [Y5 (dp a) 1]))=(Tb.agAll gs).2.1:=Uc.2.symm;rw[m1]at s1 s2;rw[m2]at s3 s4;have hl:0<gs.length:=M8.2 hne;obtain⟨x,y,e⟩:=dc5 hc (gs.length-1) (by omega);rw[show gs.length-1+1=gs.length by omega,A6]at e;refine⟨?_,s1,s3,d15 hne λx hx=>(hc x hx).2⟩;simp_all[jR,b9,k6]
def qc(v:Int):Tb.agOf [v]=(1,v,v,v):=by show((1:Int),v+0,v,v)=_;grind
def d18{a:Tb.Ag}{v:Int}(ha:1<=a.1)(hi:kZ a)(hv:inI v)(h:jE (pR (.D a.1) (.D a.2.1) (.D a.2.2.1) (.D a.2.2.2) (.D v))=0):
 pz (.D a.1) (.D a.2.1) (.D a.2.2.1) (.D a.2.2.2) (.D v)=[.D (Tb.ag2 a (Tb.agOf [v])).1,.D (Tb.ag2 a (Tb.agOf [v])).2.1,.D (Tb.ag2 a (Tb.agOf [v])).2.2.1,.D (Tb.ag2 a (Tb.agOf [v])).2.2.2]/\kZ (Tb.ag2 a (Tb.agOf [v])):=by
 have e:pR (.D a.1) (.D a.2.1) (.D a.2.2.1) (.D a.2.2.2) (.D v)=[a,Tb.agOf [v]].map dp:=by rw[qc];rfl
 unfold pz;rw[b9 (by omega)];rw[e]at h⊢;refine UZ (λx hx=> ?_) (by simp) (by simp) h;rcases n8.1 hx with rfl|hx
 grind;rw[o7]at hx;subst hx;rw[qc];exact⟨y8 _,CB,hv,hv,hv⟩
def d19{v:Int}(hv:inI v)(h:jE (pR (.D 0) (.D 0) (.D 0) (.D 0) (.D v))=0):
 pz (.D 0) (.D 0) (.D 0) (.D 0) (.D v)=[.D (Tb.agOf [v]).1,.D (Tb.agOf [v]).2.1,.D (Tb.agOf [v]).2.2.1,.D (Tb.agOf [v]).2.2.2]/\kZ (Tb.agOf [v]):=by
 have e1:jC (pR (.D 0) (.D 0) (.D 0) (.D 0) (.D v))=jC ([Tb.agOf [v]].map dp):=by rfl
 have e2:jT (pR (.D 0) (.D 0) (.D 0) (.D 0) (.D v))=jT ([Tb.agOf [v]].map dp):=by rw[qc];rfl
 have e3:jS (pR (.D 0) (.D 0) (.D 0) (.D 0) (.D v)) (pR (.D 0) (.D 0) (.D 0) (.D 0) (.D v)).length=jS ([Tb.agOf [v]].map dp) ([Tb.agOf [v]].map dp).length:=by rw[qc];rfl
 have e4:jE (pR (.D 0) (.D 0) (.D 0) (.D 0) (.D v))=jE ([Tb.agOf [v]].map dp):=by grind[jE]
 have e5:jR (pR (.D 0) (.D 0) (.D 0) (.D 0) (.D v))=jR ([Tb.agOf [v]].map dp):=by grind[jR]
 unfold pz;rw[b9 (by omega),e5];rw[e4]at h;refine UZ (gs:=[Tb.agOf [v]]) (λx hx=> ?_) (by simp) (by simp) h;rw[o7]at hx;subst hx;rw[qc];exact⟨y8 _,CB,hv,hv,hv⟩
variable{s k l g:Int}
def lQ(step size:Int)(a b:Int):Prop:=a % step=0/\b=a+size
def du0{step t a:Int}{n:Nat}(h1:1<=step)(hn:(n:Int)*step=s):(∃j:Nat,j<n/\a=fI t step-s+step+(j:Int)*step)↔a % step=0/\a<=t/\t<a+s:=by
 have hq:step*(t/step)+t % step=t:=V4 t step;have r1:0<=t % step:=I3 _ (by omega);have r2:t % step<step:=I4 _ (by omega);generalize t/step=q at hq;have hd:fI t step=step*q:=by grind[fI]
 rw[hd];constructor
 rintro⟨j,hj,rfl⟩;have e:step*q-s+step+(j:Int)*step=step*(q-n+1+j):=by rw[<-hn,P8,P8,Int.mul_sub,Int.mul_one,G4 (n:Int) step,G4 (j:Int) step]
 have b1:(j:Int)*step<=((n:Int)-1)*step:=G5 (by omega) (by omega);have b2:0<=(j:Int)*step:=I5 (by omega) (by omega);grind[Int.sub_mul,Int.mul_emod_right]
 rintro⟨c1,c2,c3⟩;have ha:step*(a/step)=a:=by have:=V4 a step;omega
 generalize a/step=c at ha;have l1:c<q+1:=V5 (a:=step) (by rw[P8];omega) (by omega);have l2:q<c+n:=V5 (a:=step) (by rw[P8,G4 step (n:Int)];omega) (by omega);refine⟨(c-(q-n+1)).toNat,by omega,?_⟩;grind[Int.toNat_of_nonneg,Int.sub_mul,Int.add_mul,Int.mul_comm]
def dQ1(h:cY k s l g=true)(h3:k≠3):1<=dJ k s l/\(fC k s l:Int)*dJ k s l=s/\1<=s/\s<=1048576/\fC k s l<=16:=by unfold cY at h;by_cases h1:k=1;have e:dJ 1 s l=s:=rfl;grind[fC,Kq,Int.emod_self,Int.ediv_self];rw[b9 h1]at h;by_cases h2:k=2;subst h2;simp at h;have e:dJ 2 s l=l:=rfl;unfold fC;rw[e];obtain⟨m1,m2⟩:=Kq (s:=s) (l:=l) (by omega) (by omega) (by omega);refine⟨by omega,m1,by omega,by omega,by omega⟩;grind
def CR(h:cY k s l g=true)(h3:k=3):1<=g/\g<=1048576:=by simp_all[cY,b9,j8,decide_eq_true_eq]
def FV(st step s:Int)(n:Nat):aaB:=(List.range n).map λ(j:Nat)=>(st+(j:Int)*step,st+(j:Int)*step+s)
def Zs{t:Int}(h:cY k s l g=true)(h3:k≠3)(ht:dW t=true):dy k s l g (.D t)=(FV (fI t (dJ k s l)-s+dJ k s l) (dJ k s l) s (fC k s l)).map λp=>Val.A [.D p.1,.D p.2]:=by unfold dy;simp_all;rw[nw];unfold FV;rw[o8,T2];rfl
def Kp{t:Int}(h:cY k s l g=true)(h3:k≠3)(ht:dW t=true):
 ((dy k s l g (.D t)).map Y7).Nodup/\(∀a b,(a,b)∈(dy k s l g (.D t)).map Y7↔lQ (dJ k s l) s a b/\a<=t/\t<b)/\ ∀r∈dy k s l g (.D t),r= .A [.D (Y7 r).1,.D (Y7 r).2]:=by
 obtain⟨w1,w2,w3,w4,w5⟩:=dQ1 h h3;have e:(dy k s l g (.D t)).map Y7=FV (fI t (dJ k s l)-s+dJ k s l) (dJ k s l) s (fC k s l):=by rw[Zs h h3 ht,o8];exact F5 _
 have hi:=λa=>du0 (t:=t) (a:=a) w1 w2
 rw[e];refine⟨?_,λa b=> ?_,λr hr=> ?_⟩;unfold FV;rw[I8,I9];refine J0 (λ{i j} hij e=> ?_) (I8.1 (O8 (n:=fC k s l)));grind[dJ,Int.eq_of_mul_eq_mul_right];unfold FV lQ;rw[j9];constructor;rintro⟨j,hj,e⟩;have e1:=congrArg Prod.fst e;have e2:=congrArg Prod.snd e;obtain⟨c1,c2,c3⟩:=(hi a).1 ⟨j,p7.1 hj,by omega⟩;exact⟨⟨c1,by omega⟩,c2,by omega⟩;grind;rw[Zs h h3 ht]at hr;obtain⟨p,_,rfl⟩:=j9.1 hr;rfl
def gS(ks:qw)(a b:Int)(A:Tb.Ag):Val:= .A [.vs ks,.D a,.D b,.D A.1,.D A.2.1,.D A.2.2.1,.D A.2.2.2]
def LG(ks:qw)(a b:Int)(A:Tb.Ag):Y2 (gS ks a b A)=⟨ks,a,b⟩:=rfl
def Mc(ks:qw)(a b:Int)(A:Tb.Ag):rA (gS ks a b A)=A:=rfl
theorem cF2(ks:qw)(a b:Int)(A:Tb.Ag):cO (gS ks a b A)=gS ks a b A:=rfl
def nrm(r:Val):Prop:= ∃ks a b A,r=gS ks a b A/\ks.length<=1000/\kZ A
def BM{r:Val}(h:nrm r):rowS r:=by obtain⟨ks,a,b,A,rfl,h1,h2⟩:=h;exact⟨ks,a,b,_,_,_,_,rfl,h1⟩
abbrev dw:=Tb.Evt qw
structure TOK (W:Tb.Wd) (evs:List dw) (m:U0):Prop where
 tab:Tb.Tab W evs (lk m)
 nd:(m.map Y2).Nodup
 nrm: ∀r∈m,nrm r
 gap: ∀g,W= .ses g->0<g
def TOK.pos{W:Tb.Wd}{evs:List dw}{m:U0}(h:TOK W evs m){k:qw}{e:Int}{a:Tb.Ag}(ha:lk m k s e=some a):1<=a.1/\kZ a/\a=Tb.agOf (Tb.vals evs k s e)/\Tb.Pan W evs k s e:=by obtain⟨h1,h2⟩:=(h.tab k s e a).1 ha;obtain⟨r,hr,_,rfl⟩:=wS ha;obtain⟨ks,x,y,A,rfl,_,hA⟩:=h.nrm r hr;have hne:=Tb.Pan.ne h.gap h1;have:=M8.2 hne;refine⟨?_,hA,h2,h1⟩;rw[h2];show(1:Int)<=((Tb.vals evs k s e).length:Int);omega
theorem dQ2{W:Tb.Wd}{evs:List dw}{m:U0}(h:TOK W evs m){ks:qw}{a b v:Int}(hv:inI v)(he:lD m (.vs ks) (.D v) (.A [.D a,.D b])=0):
 pu m (.vs ks) (.D v) (.A [.D a,.D b])=gS ks a b (Tb.putA (lk m ks a b) v)/\kZ (Tb.putA (lk m ks a b) v):=by
 have hp:Y2 (fJ (.vs ks) (.A [.D a,.D b]))=⟨ks,a,b⟩:=rfl;unfold pu yF;unfold lD at he;unfold tr at he⊢;cases hl:lk m ks a b with
 |none=>
  obtain⟨_,hc⟩:=Vd (m:=m) (p:=fJ (.vs ks) (.A [.D a,.D b])) (by exact hl);rw[hc,hc,hc,hc]at he⊢;obtain⟨e1,e2⟩:=d19 hv he;rw[e1];exact⟨rfl,e2⟩
 |some c=>
  obtain⟨q1,q2,_,_⟩:=h.pos hl;obtain⟨r,hr,_,hA,_,hc⟩:=He (m:=m) (p:=fJ (.vs ks) (.A [.D a,.D b])) (a:=c) (by exact hl);obtain⟨k',x,y,A,rfl,_,_⟩:=h.nrm r hr;subst hA;rw[hc,hc,hc,hc]at he⊢;obtain⟨e1,e2⟩:=d18 q1 q2 hv he;have e1:pz (Y5 (gS k' x y A) 3) (Y5 (gS k' x y A) 4) (Y5 (gS k' x y A) 5) (Y5 (gS k' x y A) 6) (.D v)=_:=e1;rw[e1];exact⟨rfl,e2⟩
structure XOk (X:Nat->U0->Val):Prop where
 x431: ∀l:U0,(∀r∈l,rowS r)->(X 431 [.A l]).Z=true
 x491: ∀l:U0,(l.map Y2).Nodup->(X 491 [.A l]).Z=true
 x490: ∀l:U0,(∀r∈l,rowS r)-> ∃l',X 490 [.A l]= .A l'/\l'.Perm l
 x490u: ∀l l':U0,(∀r∈l,rowS r)->l.Perm l'->(l.map Y2).Nodup->X 490 [.A l]=X 490 [.A l']
 x3: ∀v:Val,X 3 [v,v]= .B true
def wF{ek t v:Int}{ks:qw}(h:Y4 ek ks t v=0)(h1:ek=1):ks.length<=32/\dW t=true:=by unfold Y4 at h;grind
def Yg(ks:qw)(t:Int)(p:PaneM):Prop:=p.key=ks/\p.a<=t/\t<p.b
def cL(k s l g:Int)(m:U0)(ek:Int)(ks:qw)(t v:Int):U0:=[.D k,.D s,.D l,.D g,.A m,.D ek,.vs ks,.D t,.D v]
section
variable{X:Nat->U0->Val}{k s l g ek t v:Int}{m:U0}{ks:qw}
def tI:dD (cL k s l g m ek ks t v)=if Y4 ek ks t v≠0 then Y4 ek ks t v else if ek≠1 then 2 else if k=3 then tR (.D g) m (.vs ks) (.D t) (.D v)else(lS m (dy k s l g (.D t)) (.vs ks) (.D v) (.D 0)).I:=rfl
def TS:eP (cL k s l g m ek ks t v)=if Y4 ek ks t v≠0\/ek≠1 then []else if k=3 then pF (.D g) m (.vs ks) (.D t) (.D v)else []:=rfl
def Sp:eT X (cL k s l g m ek ks t v)=if Y4 ek ks t v≠0\/ek≠1 then .A []else if k=3 then .A (pa (.D g) m (.vs ks) (.D t) (.D v))else
 if dD (cL k s l g m ek ks t v)≠0 then .A []else X 490 [.A (gF m (dy k s l g (.D t)) (.vs ks) (.D v) (dy k s l g (.D t)).length)]:=rfl
def NH:fx X (cL k s l g m ek ks t v)=if dD (cL k s l g m ek ks t v)≠0 then .A m else fp (fY (.A m) (eP (cL k s l g m ek ks t v)) (eP (cL k s l g m ek ks t v)).length) (eT X (cL k s l g m ek ks t v)).L (eT X (cL k s l g m ek ks t v)).L.length:=rfl
def dQ3(h:dD (cL k s l g m ek ks t v)≠0):eP (cL k s l g m ek ks t v)=[]/\eT X (cL k s l g m ek ks t v)= .A []/\fx X (cL k s l g m ek ks t v)= .A m:=by refine⟨?_,?_,by rw[NH,c9 h]⟩;rw[TS];by_cases c:Y4 ek ks t v≠0\/ek≠1;grind;rw[b9 c];by_cases c3:k=3;rw[c9 c3];rw[tI,b9 (λq=>c (.inl q)),b9 (λq=>c (.inr q)),c9 c3]at h;unfold pF;rw[if_pos h];grind;rw[Sp];by_cases c:Y4 ek ks t v≠0\/ek≠1;grind;rw[b9 c];by_cases c3:k=3;rw[c9 c3];rw[tI,b9 (λq=>c (.inl q)),b9 (λq=>c (.inr q)),c9 c3]at h;unfold pa;rw[if_pos h];grind
def SK(h:dD (cL k s l g m ek ks t v)=0):Y4 ek ks t v=0/\ek=1:=by rw[tI]at h;omega
def dQ4(L:U0):jE L=0\/jE L=30:=by unfold jE;omega
def dQ5(h0:Y4 ek ks t v=0)(h1:ek=1):dD (cL k s l g m ek ks t v)=0\/dD (cL k s l g m ek ks t v)=30:=by rw[tI,b9 (by omega),b9 (by omega)];by_cases c3:k=3;rw[c9 c3];exact dQ4 _;rw[b9 c3];unfold lS;split;exact dQ4 _;simp_all
theorem Hj{S:U0}{r:Val}(h:r∈S): ∃i,i<S.length/\cg S i=r:=by obtain⟨i,hi,e⟩:=C3 h;exact⟨i,hi,by simp[cg,k5,hi,e]⟩
theorem ZN(hX:XOk X)(h3:k≠3)(hR:cY k s l g=true){evs:List dw}(hT:TOK (.win (lQ (dJ k s l) s)) evs m)(hv:inI v)(he:dD (cL k s l g m ek ks t v)=0):
 ∃R,eT X (cL k s l g m ek ks t v)= .A R/\eP (cL k s l g m ek ks t v)=[]/\fx X (cL k s l g m ek ks t v)= .A (R.foldl set1 m)/\R.length<=16/\
  TOK (.win (lQ (dJ k s l) s)) (evs++[(ks,t,v)]) (R.foldl set1 m)/\(∀r∈R,nrm r/\ed (R.foldl set1 m) (Y2 r)=some (rA r))/\(R.map Y2).Nodup/\(∃L,eT X (cL k s l g m ek ks t v)=X 490 [.A L])/\ ∀r∈R,Yg ks t (Y2 r):=by
 obtain⟨e0,e1⟩:=SK he;obtain⟨k32,ht⟩:=wF e0 e1;obtain⟨p1,p2,p3⟩:=Kp (t:=t) hR h3 ht;have hlen:=DA (k:=k) (s:=s) (l:=l) (g:=g) (t:= .D t) h3;have hG:eP (cL k s l g m ek ks t v)=[]:=by simp_all[TS,b9]
 have hx:(lS m (dy k s l g (.D t)) (.vs ks) (.D v) (.D 0)).I=0:=by simp_all[tI,b9]
 have hR0:eT X (cL k s l g m ek ks t v)=X 490 [.A (gF m (dy k s l g (.D t)) (.vs ks) (.D v) (dy k s l g (.D t)).length)]:=by simp_all[Sp,b9]
 have hP:fx X (cL k s l g m ek ks t v)=fp (.A m) (eT X (cL k s l g m ek ks t v)).L (eT X (cL k s l g m ek ks t v)).L.length:=by rw[NH,b9 (by omega),hG];rfl
 rw[hP,hR0,hG];generalize dy k s l g (.D t)=S at*
 obtain⟨t1,t2,t3⟩:=Wj m S (.vs ks) (.D v);have hK:ir m S (.vs ks) (.D v)=S.length:=by refine Nat.le_antisymm t1 (E4.1 λc=> ?_);simp_all[lS,c9]
 have hrow: ∀r∈S,pu m (.vs ks) (.D v) r=gS ks (Y7 r).1 (Y7 r).2 (Tb.putA (lk m ks (Y7 r).1 (Y7 r).2) v)/\kZ (Tb.putA (lk m ks (Y7 r).1 (Y7 r).2) v):=λr hr=>by grind[Hj,Y7,dQ2]
 have hL:gF m S (.vs ks) (.D v) S.length=S.map λr=>gS ks (Y7 r).1 (Y7 r).2 (Tb.putA (lk m ks (Y7 r).1 (Y7 r).2) v):=by refine(yd (pu m (.vs ks) (.D v)) S).trans ?_;grind[List.map_congr_left]
 rw[hL];have hn: ∀r∈S.map λr=>gS ks (Y7 r).1 (Y7 r).2 (Tb.putA (lk m ks (Y7 r).1 (Y7 r).2) v),nrm r:=λr hr=>by obtain⟨x,hx,rfl⟩:=j9.1 hr;exact⟨_,_,_,_,rfl,by omega,(hrow x hx).2⟩
 obtain⟨R,hq,hp⟩:=hX.x490 _ (λr hr=>BM (hn r hr));rw[hq,a41,Ue];have hRn: ∀r∈R,nrm r:=λr hr=>hn r (hp.mem_iff.1 hr)
 have hk:(S.map λr=>gS ks (Y7 r).1 (Y7 r).2 (Tb.putA (lk m ks (Y7 r).1 (Y7 r).2) v)).map Y2=(S.map Y7).map λp=>(⟨ks,p.1,p.2⟩:PaneM):=by rw[o8,o8];rfl
 have hkn:(R.map Y2).Nodup:=by grind
 have hmem: ∀q:PaneM,q∈R.map Y2↔q.key=ks/\(q.a,q.b)∈S.map Y7:=λq=>by rw[(hp.map Y2).mem_iff,hk,j9];constructor;grind;rintro⟨h1,h2⟩;exact⟨(q.a,q.b),h2,by rw[<-h1]⟩
 refine⟨R,rfl,rfl,rfl,?_,⟨?_,XL R m hT.nd,λr hr=> ?_,hT.gap⟩,λr hr=>⟨hRn r hr,PM R m hkn hr⟩,hkn,⟨_,hq.symm⟩,λr hr=> ?_⟩;rw[hp.length_eq,k6];exact hlen;refine Tb.tab_win (ks,t,v) hT.tab (λk' a b c=> ?_) (λk' a b c=> ?_);obtain⟨rfl,c1,c2,c3⟩:=c;have hin:(a,b)∈S.map Y7:=(p2 a b).2 ⟨c1,c2,c3⟩;obtain⟨r,hr,er⟩:=j9.1 hin;have hr2:gS k' a b (Tb.putA (lk m k' a b) v)∈R:=hp.mem_iff.2 (j9.2 ⟨r,hr,by grind⟩);exact PM R m hkn hr2
 refine MR R m λhq=>c ?_
 grind
 rcases Oe R m r hr with h|⟨x,hx,rfl⟩
 exact hT.nrm r h;obtain⟨a,b,c,d,rfl,h1,h2⟩:=hRn x hx;exact⟨a,b,c,d,rfl,h1,h2⟩;obtain⟨h1,h2⟩:=(hmem _).1 (j9.2 ⟨r,hr,rfl⟩);obtain⟨_,c2,c3⟩:=(p2 _ _).1 h2;exact⟨h1,c2,c3⟩
theorem d20(hX:XOk X)(h3:k≠3)(hR:cY k s l g=true){evs:List dw}(hT:TOK (.win (lQ (dJ k s l) s)) evs m)(hv:inI v)(he:dD (cL k s l g m ek ks t v)=0):
 ∃R,eT X (cL k s l g m ek ks t v)= .A R/\eP (cL k s l g m ek ks t v)=[]/\fx X (cL k s l g m ek ks t v)= .A (R.foldl set1 m)/\R.length<=16/\
  TOK (.win (lQ (dJ k s l) s)) (evs++[(ks,t,v)]) (R.foldl set1 m)/\ ∀r∈R,nrm r/\ed (R.foldl set1 m) (Y2 r)=some (rA r):=by
 grind[ZN]
end
variable{m:U0}
def bG2(y:Int×Int): ∀(x:aaB) (a b:Int),Tb.nowOf a b (x++[y])=(min (Tb.nowOf a b x).1 y.1,max (Tb.nowOf a b x).2 y.2)
 | [],a,b=>rfl
 |p::x,a,b=>by show Tb.nowOf (min a p.1) (max b p.2) (x++[y])=_;rw[bG2 y x];rfl
def Tp(l:U0)(t o:Int):Aq l t o=(l.filter λr=>rW t o r).map ep:=by
 unfold Aq;rw[nw];refine(zW (λr=>bif rW t o r then [ep r]else []) (.A []) l).trans ?_;induction l with
 |nil=>rfl
 |cons a l ih=>
  grind
def cF5(l:U0)(t g:Int):(Aq l t (t+g)).map Y7=Tb.joinedOf g t (l.map Y7):=by rw[Tp,o8];unfold Tb.joinedOf;rw[List.filter_map];rfl
def cF6(l:U0)(t g:Int): ∀i,i<=l.length->mu l (.D t) (.D (t+g)) i=(.D (Tb.nowOf t (t+g) (Tb.joinedOf g t ((l.take i).map Y7))).1,.D (Tb.nowOf t (t+g) (Tb.joinedOf g t ((l.take i).map Y7))).2)
 |0,_=>rfl
 |i+1,h=>by
  rw[show mu l (.D t) (.D (t+g)) (i+1)=(bif rW t (t+g) (cg l i)then(Val.D (min (mu l (.D t) (.D (t+g)) i).1.I (ci (cg l i) 0)),Val.D (max (mu l (.D t) (.D (t+g)) i).2.I (ci (cg l i) 1)))else mu l (.D t) (.D (t+g)) i)from rfl];rw[cF6 l t g i (by omega),PR (by omega),r9];have e:Tb.joinedOf g t ((l.take i).map Y7++[Y7 (cg l i)])=Tb.joinedOf g t ((l.take i).map Y7)++(if rW t (t+g) (cg l i)then [Y7 (cg l i)]else []):=by unfold Tb.joinedOf;rw[E3];rw[B1];rfl
  rw[List.map_singleton,e];cases rW t (t+g) (cg l i)with
  |false=>simp
  |true=>
   rw[c9 rfl,bG2];rfl
def dQ6(l:U0)(t g:Int):mu l (.D t) (.D (t+g)) l.length=(.D (Tb.nowOf t (t+g) (Tb.joinedOf g t (l.map Y7))).1,.D (Tb.nowOf t (t+g) (Tb.joinedOf g t (l.map Y7))).2):=by simp_all[cF6,j5,A6]
def Tf{ks:qw}{r:Val}:r∈gQ m ks↔ ∃x∈m,(Y5 x 0).S=ks/\r= .A [Y5 x 1,Y5 x 2]:=by rw[c57,A7];grind[QD,Y5,decide_eq_true,decide_eq_false]
def Za(m:U0)(ks:qw):(du m (.vs ks)).Perm (gQ m ks):=(xS swo_spanV _).1
def LL{W:Tb.Wd}{evs:List dw}(h:TOK W evs m)(ks:qw):
 ((du m (.vs ks)).map Y7).Nodup/\(∀s e,(s,e)∈(du m (.vs ks)).map Y7↔lk m ks s e≠none)/\ ∀r∈du m (.vs ks),r= .A [.D (Y7 r).1,.D (Y7 r).2]:=by
 have hp:=Za m ks;refine⟨((hp.map Y7).nodup_iff).2 (dc2 ks h.nd),λs e=> ?_,λr hr=> ?_⟩;rw[(hp.map Y7).mem_iff,j9];constructor;rintro⟨r,hr,he⟩;obtain⟨x,hx,rfl,rfl⟩:=Tf.1 hr;obtain⟨k',a,b,A,rfl,_,_⟩:=h.nrm x hx;have he:(a,b)=(s,e):=he;have:=xl h.nd hx;intro hc;have hc:ed m (Y2 (gS k' s e A))=none:=hc;grind
 intro hn;cases hl:lk m ks s e with
 |none=>grind
 |some c=>
  obtain⟨x,hx,hpn,_⟩:=wS hl;cases hpn;exact⟨_,Tf.2 ⟨_,hx,rfl,rfl⟩,rfl⟩
 .obtain⟨x,hx,_,rfl⟩:=Tf.1 (hp.mem_iff.1 hr);obtain⟨k',a,b,A,rfl,_,_⟩:=h.nrm x hx;rfl
def d23{a b:Val}(h:ci a 1<ci b 1):spanV a b<0:=by simp_all[spanV,Fi,c9]
def d24(m:U0)(ks:qw){i:Nat}(h0:0<i)(hi:i<(du m (.vs ks)).length):ci (cg (du m (.vs ks)) (i-1)) 1<=ci (cg (du m (.vs ks)) i) 1:=by
 have hs:=(xS swo_spanV (gQ m ks)).2;have hi':i<(gn spanV (gQ m ks)).length:=hi;have hpw:=K6.1 hs (i-1) i (by omega) hi' (by omega);have e1:cg (du m (.vs ks)) (i-1)=(gn spanV (gQ m ks))[i-1]:=by show cg (gn spanV (gQ m ks)) (i-1)=_;simp[cg,k5,show i-1<(gn spanV (gQ m ks)).length by omega]
 have e2:cg (du m (.vs ks)) i=(gn spanV (gQ m ks))[i]:=by show cg (gn spanV (gQ m ks)) i=_;simp[cg,k5,hi']
 rw[e1,e2];exact E8.1 λhc=>hpw (d23 hc)
def gZ(evs:List dw):Prop:= ∀x∈evs,dW x.2.1=true/\inI x.2.2
theorem Ww{t:Int}:dW t=true↔ -1099511627776<=t/\t<=1099511627776:=by simp_all[dW,j8,decide_eq_true_eq]
def dc6{g t:Int}{evs:List dw}(hT:TOK (.ses g) evs m)(hev:gZ evs)(ht:dW t=true)(hg1:1<=g)(hg2:g<=1048576)(ks:qw):jD g t (du m (.vs ks))=true:=by
 obtain⟨h1,h2,h3⟩:=LL hT ks;have hord:=λ{i}=>d24 m ks (i:=i)
 generalize du m (.vs ks)=S at*
 have hs: ∀r∈S,Tb.isS g (Tb.tms evs ks) (Y7 r).1 (Y7 r).2:=λr hr=>by
  have hm:((Y7 r).1,(Y7 r).2)∈S.map Y7:=j9.2 ⟨r,hr,rfl⟩;cases hl:lk m ks (Y7 r).1 (Y7 r).2 with
  |none=>exact absurd hl ((h2 _ _).1 hm)
  |some c=>exact(hT.pos hl).2.2.2
 have hb: ∀i,i<S.length->nR g S i=false:=λi hi=>by
  have e:cg S i=S[i]:=by simp[cg,k5,hi]
  have hr:cg S i∈S:=by rw[e];exact C6 hi
  have q:=hs _ hr;have hb:=q.1.2.2.1;obtain⟨x1,hx1,_,ex1⟩:=q.1.1;obtain⟨x2,hx2,_,ex2⟩:=q.1.2.1;have b1:=Ww.1 (hev x1 hx1).1;have b2:=Ww.1 (hev x2 hx2).1;have s1:(Y7 (cg S i)).1=ci (cg S i) 0:=rfl;have s2:(Y7 (cg S i)).2=ci (cg S i) 1:=rfl;have e64:cr .sub .i64 (ci (cg S i) 1) (ci (cg S i) 0)=ci (cg S i) 1-ci (cg S i) 0:=lN (by omega) (by omega);unfold nR;rw[e64,j7 (by omega),j7 (by omega: ¬ci (cg S i) 1-ci (cg S i) 0<g),M5,B6,B6];by_cases h0:0<i
  have e':cg S (i-1)=S[i-1]:=by simp[cg,k5,show i-1<S.length by omega]
  have hr':cg S (i-1)∈S:=by rw[e'];exact C6 _
  have q':=hs _ hr';have ho:=hord h0 hi;have b':=q'.1.2.2.1;rw[i6 h0,B0];refine j7 λhc=> ?_
  have s1':(Y7 (cg S (i-1))).1=ci (cg S (i-1)) 0:=rfl;have s2':(Y7 (cg S (i-1))).2=ci (cg S (i-1)) 1:=rfl;have:=q'.one q ⟨by omega,by exact hc⟩;have hp:=K6.1 (I8.1 h1) (i-1) i (by simp;omega) (by simpa using hi) (by omega);rw[J1,J1,<-e,<-e']at hp;exact hp (M3 this.1 this.2);rw[j7 h0];rfl
 unfold jD;rw[i6 hg1,i6 hg2,ht];have:(List.range S.length).any (nR g S)=false:=by rw[C9];intro i hi;rw[hb i (p7.1 hi)];decide
 rw[this];rfl
def pr(ks:qw)(p:Int×Int):Val:= .A [.vs ks,.D p.1,.D p.2]
section
variable{X:Nat->U0->Val}{k s l g ek t v:Int}{m:U0}{ks:qw}
def dc7(ht:dW t=true)(hg1:1<=g)(hg2:g<=1048576):qi g t= .D (t+g):=by grind[Ww,qi,gN]
def dQ7{J:aaB}{n1 n2:Int}{x:Val}:x∈jJ (J.map (pr ks)) (.vs ks) (.D n1) (.D n2)↔ ∃p∈J,p≠(n1,n2)/\x=pr ks p:=by
 have e:jJ (J.map (pr ks)) (.vs ks) (.D n1) (.D n2)=(J.map (pr ks)).flatMap (lv (.vs ks) (.D n1) (.D n2)):=by unfold jJ;rw[nw];exact zW (lv (.vs ks) (.D n1) (.D n2)) (.A []) (J.map (pr ks))
 rw[e,A7];constructor;rintro⟨y,hy,hx⟩;obtain⟨p,hp,rfl⟩:=j9.1 hy;refine⟨p,hp,?_⟩;unfold lv at hx;have hs:zM (.vs ks) (.D n1) (.D n2) (pr ks p)=(decide (ks=ks)&&(decide (p.1=n1)&&decide (p.2=n2))):=rfl;rw[hs]at hx;by_cases c:p.1=n1/\p.2=n2;grind
 have hz:(decide (ks=ks)&&(decide (p.1=n1)&&decide (p.2=n2)))=false:=by grind
 rw[hz]at hx;have hx:x∈[fF (pr ks p)]:=hx;rw[o7]at hx;exact⟨λq=>c ⟨by rw[q],by rw[q]⟩,hx⟩
 rintro⟨p,hp,hne,rfl⟩;refine⟨_,j9.2 ⟨p,hp,rfl⟩,?_⟩;unfold lv;have hs:zM (.vs ks) (.D n1) (.D n2) (pr ks p)=(decide (ks=ks)&&(decide (p.1=n1)&&decide (p.2=n2))):=rfl;have hz:(decide (ks=ks)&&(decide (p.1=n1)&&decide (p.2=n2)))=false:=by grind
 rw[hs,hz];exact o7.2 rfl
def dQ8{J:aaB}{n1 n2:Int}:(jJ (J.map (pr ks)) (.vs ks) (.D n1) (.D n2)).length<=J.length:=by unfold jJ;have:=jz (g:=λi=>lv (.vs ks) (.D n1) (.D n2) (cg (J.map (pr ks)) i)) (m:=1) (λi=>Xv _ _ _ _) (J.map (pr ks)).length;grind
def c65{α:Type}{f:α->List α}: ∀l:List α,(∀y∈l,f y=[]\/f y=[y])->(l.flatMap f).Sublist l
 | [],_=> .slnil
 |a::l,h=>by
  have ih:=c65 l λy hy=>h y (y7 _ hy)
  grind
def dQ9{J:aaB}{n1 n2:Int}:(jJ (J.map (pr ks)) (.vs ks) (.D n1) (.D n2)).Sublist (J.map (pr ks)):=by
 have e:jJ (J.map (pr ks)) (.vs ks) (.D n1) (.D n2)=(J.map (pr ks)).flatMap (lv (.vs ks) (.D n1) (.D n2)):=by unfold jJ;rw[nw];exact zW (lv (.vs ks) (.D n1) (.D n2)) (.A []) (J.map (pr ks))
 rw[e];refine c65 _ λy hy=> ?_
 obtain⟨p,_,rfl⟩:=j9.1 hy;unfold lv;cases zM (.vs ks) (.D n1) (.D n2) (pr ks p);exact .inr rfl;grind
def e93(m:U0)(ks:qw)(h:((du m (.vs ks)).map Y7).Nodup):((du m (.vs ks)).map Y7).Pairwise (λp q=>p.2<q.2\/p.2=q.2/\p.1<q.1):=by
 have h2:=(xS swo_spanV (gQ m ks)).2;have h3:((du m (.vs ks)).map Y7).Pairwise (λp q=> ¬(q.2<p.2\/q.2=p.2/\q.1<p.1)):=by rw[I9];refine J0 ?_ h2;intro a b hab c;apply hab;have:=FY b a;have c:ci b 1<ci a 1\/ci b 1=ci a 1/\ci b 0<ci a 0:=c;rw[i6 c]at this;exact j6 (p:=spanV b a<0) this
 refine J0 ?_ (h3.and h);grind
def bG3(hk:k=3)(hR:cY k s l g=true){evs:List dw}(hT:TOK (.ses g) evs m)(hm:m.length<=400)(hev:gZ evs)(hv:inI v)(he:dD (cL k s l g m ek ks t v)=0):
 ∃R m',eT X (cL k s l g m ek ks t v)= .A R/\fx X (cL k s l g m ek ks t v)= .A m'/\R.length<=16/\(eP (cL k s l g m ek ks t v)).length<=400/\
  TOK (.ses g) (evs++[(ks,t,v)]) m'/\(∀r∈R,nrm r/\ed m' (Y2 r)=some (rA r))/\(∀p∈eP (cL k s l g m ek ks t v),ed m' (Y2 p)=none/\ ∃a b,p= .A [.vs ks,.D a,.D b])/\R.length<=1/\(∀r∈R,Yg ks t (Y2 r))/\((eP (cL k s l g m ek ks t v)).map Y2).Pairwise (λp q=>fX p q=true)/\ ∀p∈eP (cL k s l g m ek ks t v),ed m (Y2 p)≠none:=by
 obtain⟨e0,e1⟩:=SK he;obtain⟨k32,ht⟩:=wF e0 e1;obtain⟨hg1,hg2⟩:=CR hR hk;have hd: ¬(Y4 ek ks t v≠0\/ek≠1):=λc=>c.elim (λc=>c e0) (λc=>c e1)
 have hio:=dc6 hT hev ht hg1 hg2 ks;obtain⟨s1,s2,s3⟩:=LL hT ks;have hsl:(du m (.vs ks)).length<=400:=by rw[(Za m ks).length_eq];grind[Nat.le_trans,Il]
 have hown:=dc7 ht hg1 hg2;have hse:tR (.D g) m (.vs ks) (.D t) (.D v)=0:=by simp_all[tI,b9,c9]
 have hG:eP (cL k s l g m ek ks t v)=pF (.D g) m (.vs ks) (.D t) (.D v):=by rw[TS,b9 hd,c9 hk]
 have hR0:eT X (cL k s l g m ek ks t v)= .A (pa (.D g) m (.vs ks) (.D t) (.D v)):=by rw[Sp,b9 hd,c9 hk]
 have hP:fx X (cL k s l g m ek ks t v)=fp (fY (.A m) (pF (.D g) m (.vs ks) (.D t) (.D v)) (pF (.D g) m (.vs ks) (.D t) (.D v)).length) (pa (.D g) m (.vs ks) (.D t) (.D v)) (pa (.D g) m (.vs ks) (.D t) (.D v)).length:=by simp_all[NH,b9]
 have hjn:mi (.D g) m (.vs ks) (.D t)=(Tb.joinedOf g t ((du m (.vs ks)).map Y7)).map λp=>Val.A [.D p.1,.D p.2]:=by
  unfold mi;rw[a01,a01,hio,cond_true];unfold rI;rw[a01,a01,hown,a01,<-cF5,Tp,o8,o8];refine y6 λr hr=> ?_
  have e:=s3 r (l9.1 hr).1;have e2:(Y5 r 0)= .D (Y7 r).1:=by rw[e];rfl
  have e3:(Y5 r 1)= .D (Y7 r).2:=by rw[e];rfl
  show Val.A [Y5 r 0,Y5 r 1]=Val.A [.D (Y7 r).1,.D (Y7 r).2];grind
 have hnw:mj (.D g) m (.vs ks) (.D t)=[.D (Tb.nowOf t (t+g) (Tb.joinedOf g t ((du m (.vs ks)).map Y7))).1,.D (Tb.nowOf t (t+g) (Tb.joinedOf g t ((du m (.vs ks)).map Y7))).2]:=by simp_all[mj,a01,cond_true,ji,dQ6]
 have hpn:jH (.D g) m (.vs ks) (.D t)=(Tb.joinedOf g t ((du m (.vs ks)).map Y7)).map (pr ks):=by unfold jH;rw[hjn,o8];rfl
 have hjl:(Tb.joinedOf g t ((du m (.vs ks)).map Y7)).length<=400:=by have h1:=K3 (λp:Int×Int=>Tb.lapB p.1 p.2 t (t+g)) ((du m (.vs ks)).map Y7);rw[k6]at h1;exact l7 h1 hsl
 have hjm: ∀p∈Tb.joinedOf g t ((du m (.vs ks)).map Y7),∃c,lk m ks p.1 p.2=some c:=λp hp=>by
  have h1:=(l9.1 hp).1;cases hl:lk m ks p.1 p.2 with
  |some c=>grind
  |none=>grind
 have htab:=λM'=>Tb.tab_ses (g:=g) (by omega) (M':=M') (ks,t,v) hT.tab s2 s1
 have hbase:mn m (jH (.D g) m (.vs ks) (.D t)) (.D v)=(Tb.agOf [v]::(Tb.joinedOf g t ((du m (.vs ks)).map Y7)).map λp=>(lk m ks p.1 p.2).getD (0,0,0,0)).map dp:=by rw[hpn];unfold mn;rw[m8,o8,o8,qc];refine congrArg (List.cons _) (y6 λp hp=> ?_);obtain⟨c,hc⟩:=hjm p hp;show mb m (pr ks p)=dp ((lk m ks p.1 p.2).getD (0,0,0,0));rw[hc];obtain⟨r,hr,_,hA,_,hcol⟩:=He (m:=m) (p:=fF (pr ks p)) (a:=c) hc;obtain⟨k',x,y,A,rfl,_,_⟩:=hT.nrm r hr;subst hA;unfold mb Mb;rw[hcol,hcol,hcol,hcol];rfl
 have hcs: ∀a∈(Tb.agOf [v]::(Tb.joinedOf g t ((du m (.vs ks)).map Y7)).map λp=>(lk m ks p.1 p.2).getD (0,0,0,0)),1<=a.1/\kZ a:=λa ha=>by
  rcases n8.1 ha with rfl|ha
  rw[qc];exact⟨y8 _,CB,hv,hv,hv⟩;obtain⟨p,hp,rfl⟩:=j9.1 ha;obtain⟨c,hc⟩:=hjm p hp;simp_all;exact⟨(hT.pos hc).1,(hT.pos hc).2.1⟩
 have hje:jE ((Tb.agOf [v]::(Tb.joinedOf g t ((du m (.vs ks)).map Y7)).map λp=>(lk m ks p.1 p.2).getD (0,0,0,0)).map dp)=0:=by rw[<-hbase];exact hse
 obtain⟨hjr,hia⟩:=UZ hcs (by grind) (by simp) hje;have hsr:pa (.D g) m (.vs ks) (.D t) (.D v)=[gS ks (Tb.nowOf t (t+g) (Tb.joinedOf g t ((du m (.vs ks)).map Y7))).1 (Tb.nowOf t (t+g) (Tb.joinedOf g t ((du m (.vs ks)).map Y7))).2 (Tb.agAll (Tb.agOf [v]::(Tb.joinedOf g t ((du m (.vs ks)).map Y7)).map λp=>(lk m ks p.1 p.2).getD (0,0,0,0)))]:=by unfold pa;rw[b9 (by omega),hbase,hnw,hjr];rfl
 have hsg:pF (.D g) m (.vs ks) (.D t) (.D v)=jJ ((Tb.joinedOf g t ((du m (.vs ks)).map Y7)).map (pr ks)) (.vs ks) (.D (Tb.nowOf t (t+g) (Tb.joinedOf g t ((du m (.vs ks)).map Y7))).1) (.D (Tb.nowOf t (t+g) (Tb.joinedOf g t ((du m (.vs ks)).map Y7))).2):=by simp_all[pF,b9]
 rw[hsg,hsr]at hP;rw[hsr]at hR0;rw[hG,hsg,hR0,hP,c61,Ue];have gm:=λx=>dQ7 (ks:=ks) (J:=Tb.joinedOf g t ((du m (.vs ks)).map Y7)) (n1:=(Tb.nowOf t (t+g) (Tb.joinedOf g t ((du m (.vs ks)).map Y7))).1) (n2:=(Tb.nowOf t (t+g) (Tb.joinedOf g t ((du m (.vs ks)).map Y7))).2) (x:=x)
 have gl:=dQ8 (ks:=ks) (J:=Tb.joinedOf g t ((du m (.vs ks)).map Y7)) (n1:=(Tb.nowOf t (t+g) (Tb.joinedOf g t ((du m (.vs ks)).map Y7))).1) (n2:=(Tb.nowOf t (t+g) (Tb.joinedOf g t ((du m (.vs ks)).map Y7))).2);generalize hAA:Tb.agAll (Tb.agOf [v]::(Tb.joinedOf g t ((du m (.vs ks)).map Y7)).map λp=>(lk m ks p.1 p.2).getD (0,0,0,0))=A at*
 generalize hJJ:Tb.joinedOf g t ((du m (.vs ks)).map Y7)=J at*
 generalize hNN:Tb.nowOf t (t+g) J=N at*
 have hjs:J.Pairwise (λp q=>p.2<q.2\/p.2=q.2/\p.1<q.1):=by rw[<-hJJ];exact(e93 m ks s1).filter _
 have hgs:((jJ (J.map (pr ks)) (.vs ks) (.D N.1) (.D N.2)).map Y2).Pairwise (λp q=>fX p q=true):=by refine List.Pairwise.sublist (dQ9.map _) ?_;rw[o8,I9];refine J0 ?_ hjs;intro p q c;exact(Jh _ _).2 (.inr ⟨rfl,c⟩)
 have hnow:N.1<=t/\t<N.2:=by obtain⟨h1,h2,_⟩:=Tb.nowOf_le J t (t+g);grind
 generalize jJ (J.map (pr ks)) (.vs ks) (.D N.1) (.D N.2)=G at*
 have hlk: ∀q,ed ([gS ks N.1 N.2 A].foldl set1 (G.foldl nj m)) q=if(⟨ks,N.1,N.2⟩:PaneM)=q then some A else if q∈G.map Y2 then none else ed m q:=λq=>by show ed (set1 (G.foldl nj m) (gS ks N.1 N.2 A)) q=_;rw[Lj,WD q G m hT.nd,LG,Mc]
 have hgq: ∀k' a b,(⟨k',a,b⟩:PaneM)∈G.map Y2↔k'=ks/\(a,b)∈J/\(a,b)≠N:=λk' a b=>by rw[j9];constructor;rintro⟨x,hx,e⟩;obtain⟨p,hp,hne,rfl⟩:=(gm x).1 hx;have e:(⟨ks,p.1,p.2⟩:PaneM)=⟨k',a,b⟩:=e;grind;rintro⟨rfl,h1,h2⟩;exact⟨pr k' (a,b),(gm _).2 ⟨(a,b),h1,h2,rfl⟩,rfl⟩
 refine⟨_,_,rfl,rfl,by simp,by omega,⟨htab _ (λa b h=> ?_) (λa b h1 h2=> ?_) (λk' a b h=> ?_),?_,λr hr=> ?_,hT.gap⟩,λr hr=> ?_,λp hp=> ?_,by simp,λr hr=> ?_,hgs,λp hp=> ?_⟩;show ed _ ⟨ks,a,b⟩=some A;grind;show ed _ ⟨ks,a,b⟩=none;grind;show ed _ ⟨k',a,b⟩=ed m ⟨k',a,b⟩;grind;exact XL _ _ (dt7 G m hT.nd)
 rcases Oe _ _ r hr with h|⟨x,hx,rfl⟩
 exact hT.nrm r ((Ly G m).subset h);rw[o7]at hx;subst hx;exact⟨ks,N.1,N.2,A,rfl,by omega,hia⟩;rw[o7]at hr;subst hr;exact⟨⟨ks,N.1,N.2,A,rfl,by omega,hia⟩,by rw[hlk,LG,c9 rfl];rfl⟩;obtain⟨q,h1,h2,rfl⟩:=(gm p).1 hp;refine⟨?_,q.1,q.2,rfl⟩;grind;rw[o7]at hr;subst hr;exact⟨rfl,hnow⟩;obtain⟨q,h1,h2,rfl⟩:=(gm p).1 hp;obtain⟨c,hc⟩:=hjm q h1;exactλe=>by rw[show ed m (Y2 (pr ks q))=lk m ks q.1 q.2 from rfl,hc]at e;cases e
def Uz(hk:k=3)(hR:cY k s l g=true){evs:List dw}(hT:TOK (.ses g) evs m)(hm:m.length<=400)(hev:gZ evs)(hv:inI v)(he:dD (cL k s l g m ek ks t v)=0):
 ∃R m',eT X (cL k s l g m ek ks t v)= .A R/\fx X (cL k s l g m ek ks t v)= .A m'/\R.length<=16/\(eP (cL k s l g m ek ks t v)).length<=400/\
  TOK (.ses g) (evs++[(ks,t,v)]) m'/\(∀r∈R,nrm r/\ed m' (Y2 r)=some (rA r))/\ ∀p∈eP (cL k s l g m ek ks t v),ed m' (Y2 p)=none/\ ∃a b,p= .A [.vs ks,.D a,.D b]:=by
 obtain⟨R,m',a,b,c,d,e,f,g',_⟩:=bG3 hk hR hT hm hev hv he;exact⟨R,m',a,b,c,d,e,f,g'⟩
def eD(k s l g:Int):Tb.Wd:=if k=3 then .ses g else .win (lQ (dJ k s l) s)
def Yp(hX:XOk X)(hR:cY k s l g=true){evs:List dw}(hT:TOK (eD k s l g) evs m)(hm:m.length<=400)(hev:gZ evs)(hv:inI v)(he:dD (cL k s l g m ek ks t v)=0):
 ∃R m',eT X (cL k s l g m ek ks t v)= .A R/\fx X (cL k s l g m ek ks t v)= .A m'/\R.length<=16/\(eP (cL k s l g m ek ks t v)).length<=400/\
  TOK (eD k s l g) (evs++[(ks,t,v)]) m'/\(∀r∈R,nrm r/\ed m' (Y2 r)=some (rA r))/\ ∀p∈eP (cL k s l g m ek ks t v),ed m' (Y2 p)=none/\ ∃a b,p= .A [.vs ks,.D a,.D b]:=by
 by_cases hk:k=3;have hw:eD k s l g= .ses g:=c9 hk;rw[hw]at hT⊢;exact Uz hk hR hT hm hev hv he;have hw:eD k s l g= .win (lQ (dJ k s l) s):=b9 hk;grind[a3,d20]
def d25(hX:XOk X)(hR:cY k s l g=true){evs:List dw}(hT:TOK (eD k s l g) evs m)(hm:m.length<=400)(hev:gZ evs)(hv:inI v)(he:dD (cL k s l g m ek ks t v)=0):
 ∃R,eT X (cL k s l g m ek ks t v)= .A R/\(R.map Y2).Nodup/\(∀r∈R,Yg ks t (Y2 r))/\(R.length<=1\/ ∃L,Val.A R=X 490 [.A L])/\((eP (cL k s l g m ek ks t v)).map Y2).Pairwise (λp q=>fX p q=true)/\ ∀p∈eP (cL k s l g m ek ks t v),ed m (Y2 p)≠none:=by
 by_cases hk:k=3;rw[eD,c9 hk]at hT;obtain⟨R,m',a,b,c,d,e,f,g',h1,h2,h3,h4⟩:=bG3 hk hR hT hm hev hv he;refine⟨R,a,?_,h2,.inl h1,h3,h4⟩
 match R,h1 with
 | [],_=>exact .nil
 | [x],_=>simp
 .rw[eD,b9 hk]at hT;obtain⟨R,a1,a2,a3,a4,a5,a6,a7,a8,a9⟩:=ZN hX hk hR hT hv he;simp_all
end
variable{evs:List dw}
def QX{α:Type}(f:α->Nat)(c:Nat): ∀l:List α,(∀x∈l,f x<=c)->Tb.sumN (l.map f)<=c*l.length
 | [],_=>by exact p8 _
 |x::l,h=>by have h2:=QX f c l (λy hy=>h y (y7 _ hy));grind[Tb.sumN,Nat.mul_add]
def ZL{α:Type}(f:α->Nat): ∀l:List α,(∀x∈l,1<=f x)->l.length<=Tb.sumN (l.map f)
 | [],_=>j5 _
 |x::l,h=>by have h2:=ZL f l (λy hy=>h y (y7 _ hy));grind[Tb.sumN]
def qd(r:Val)(x:dw):Bool:=Tb.inP (Y2 r).key (Y2 r).a (Y2 r).b x
def FD(r:Val):Int×Int:=((Y2 r).a,(Y2 r).b)
def cg6{W:Tb.Wd}{m:U0}(hT:TOK W evs m)(x:dw):
 ((m.filter λr=>qd r x).map FD).Nodup/\ ∀a b,(a,b)∈(m.filter λr=>qd r x).map FD↔Tb.Pan W evs x.1 a b/\a<=x.2.1/\x.2.1<b:=by
 have hkey: ∀r∈m.filter λr=>qd r x,(Y2 r).key=x.1/\(Y2 r).a<=x.2.1/\x.2.1<(Y2 r).b:=λr hr=>by obtain⟨q1,q2,q3⟩:=Tb.inP_iff.1 (l9.1 hr).2;grind
 have hnd:((m.filter λr=>qd r x).map Y2).Nodup:=hT.nd.sublist (T3.map _);refine⟨?_,λa b=> ?_⟩
 rw[I8,I9]at hnd⊢;refine hnd.imp_of_mem λ{r r'} hr hr' hne e=>hne ?_
 have e1:(Y2 r).a=(Y2 r').a:=congrArg Prod.fst e;have e2:(Y2 r).b=(Y2 r').b:=congrArg Prod.snd e;grind[Y2];rw[j9];constructor
 rintro⟨r,hr,e⟩;obtain⟨q1,q2,q3⟩:=hkey r hr;have hm:=(l9.1 hr).1;have hl:=xl hT.nd hm;have e1:(Y2 r).a=a:=congrArg Prod.fst e;have e2:(Y2 r).b=b:=congrArg Prod.snd e;have hp:Y2 r=⟨x.1,a,b⟩:=by grind[Y2]
 rw[hp]at hl;rw[e1]at q2;rw[e2]at q3;exact⟨((hT.tab _ _ _ _).1 hl).1,q2,q3⟩;rintro⟨h1,h2,h3⟩;have hl:=(hT.tab x.1 a b _).2 ⟨h1,rfl⟩;obtain⟨r,hr,hp,_⟩:=wS hl;refine⟨r,l9.2 ⟨hr,?_⟩,?_⟩;unfold qd;rw[hp];exact Tb.inP_iff.2 ⟨rfl,h2,h3⟩;grind[FD]
section
variable{k s l g:Int}{m:U0}
def d26(hR:cY k s l g=true)(hT:TOK (eD k s l g) evs m)(hev:gZ evs){x:dw}(hx:x∈evs):(m.filter λr=>qd r x).length=(dy k s l g (.D x.2.1)).length:=by
 obtain⟨h1,h2⟩:=cg6 hT x;have ht:=(hev x hx).1;have lm:((m.filter λr=>qd r x).map FD).length=(m.filter λr=>qd r x).length:=k6 ..;rw[<-lm];by_cases hk:k=3
 have hw:eD k s l g= .ses g:=c9 hk;rw[hw]at h2;obtain⟨hg1,_⟩:=CR hR hk;obtain⟨L,q1,q2⟩:=Tb.ses_ex (g:=g) (by omega) x.1 evs;obtain⟨p,p1,p2,p3⟩:=q2 x.2.1 ⟨x,hx,rfl,rfl⟩;have hs:=(q1 p.1 p.2).1 p1;have hp:((m.filter λr=>qd r x).map FD).Perm [p]:=by
  refine(I1 h1 (by simp)).2 λab=> ?_
  rw[o7];refine(h2 ab.1 ab.2).trans ⟨λ⟨c1,c2,c3⟩=> ?_,λc=> ?_⟩;have:=Tb.isS.one c1 hs ⟨by omega,by omega⟩;exact M3 this.1 this.2;subst c;exact⟨hs,p2,by omega⟩
 rw[hp.length_eq];grind[dy,a01];have hw:eD k s l g= .win (lQ (dJ k s l) s):=b9 hk;rw[hw]at h2;obtain⟨p1,p2,p3⟩:=Kp (t:=x.2.1) hR hk ht;have lo:((dy k s l g (.D x.2.1)).map Y7).length=(dy k s l g (.D x.2.1)).length:=k6 ..;rw[<-lo];refine List.Perm.length_eq ((I1 h1 p1).2 λab=> ?_);refine(h2 ab.1 ab.2).trans (Iff.trans ?_ (p2 ab.1 ab.2).symm);constructor;rintro⟨⟨c1,_⟩,c2,c3⟩;grind;rintro⟨c1,c2,c3⟩;exact⟨⟨c1,x.2.1,⟨x,hx,rfl,rfl⟩,c2,c3⟩,c2,c3⟩
def NA{W:Tb.Wd}(hT:TOK W evs m){r:Val}(hr:r∈m):1<=ci r 3/\(ci r 3).toNat=(evs.filter (qd r)).length/\rA r=Tb.agOf (Tb.vals evs (Y2 r).key (Y2 r).a (Y2 r).b)/\Tb.vals evs (Y2 r).key (Y2 r).a (Y2 r).b≠[]:=by have hl:=xl hT.nd hr;obtain⟨q1,q2,q3,q4⟩:=hT.pos hl;have e:ci r 3=((Tb.vals evs (Y2 r).key (Y2 r).a (Y2 r).b).length:Int):=congrArg Prod.fst q3;refine⟨q1,?_,q3,Tb.Pan.ne hT.gap q4⟩;rw[e,Int.toNat_natCast];unfold Tb.vals;rw[k6];rfl
def Rn(m:U0):Nat:=Tb.sumN (m.map λr=>(ci r 3).toNat)
def KN(k s l g:Int)(evs:List dw):Nat:=Tb.sumN (evs.map λx=>(dy k s l g (.D x.2.1)).length)
def d28(hR:cY k s l g=true)(hT:TOK (eD k s l g) evs m)(hev:gZ evs):Rn m=KN k s l g evs:=by unfold Rn KN;rw[y6 (λr hr=>(NA hT hr).2.1),Tb.twice (λr x=>qd r x) evs m];congr 1;exact y6 λx hx=>d26 hR hT hev hx
theorem dc8(k s l g:Int)(t:Val):(dy k s l g t).length<=16:=by by_cases hk:k=3;unfold dy;grind;exact DA hk
def du1(k s l g:Int)(t:Val)(hk:k=3):(dy k s l g t).length<=1:=by unfold dy;grind
theorem du2(k s l g:Int)(evs:List dw):KN k s l g evs<=16*evs.length/\(k=3->KN k s l g evs<=evs.length):=by
 refine⟨QX _ 16 evs λx _=>dc8 k s l g _,λhk=> ?_⟩;have:=QX (λx:dw=>(dy k s l g (.D x.2.1)).length) 1 evs λx _=>du1 k s l g _ hk
 rw[F7]at this;exact this
def du3(hR:cY k s l g=true)(hT:TOK (eD k s l g) evs m)(hev:gZ evs):m.length<=16*evs.length/\(k=3->m.length<=evs.length):=by
 have h1:m.length<=Rn m:=ZL _ m λr hr=>by have:=(NA hT hr).1;omega
 rw[d28 hR hT hev]at h1;grind[du2]
end
theorem tD{I:Opq}(a b:SX):dB I (dF a b)=decide ((bZ I b).I<(bZ I a).I):=rfl
theorem cW{I:Opq}(a b:SX):dB I (zs a b)=decide ((bZ I a).I<(bZ I b).I):=rfl
def oR{l:U0}{i:Nat}(h:i<l.length):cg l i∈l:=by
 have e:cg l i=l[i]:=by simp[cg,k5,h]
 rw[e];exact C6 h
section
variable{X:Nat->U0->Val}{I:Opq}(hf: ∀i a,I.f i a=FT X i a)
include hf
end
structure RC (I:Opq) (k s l g:Int) (ops:U0) (i:Nat) (m:U0) (ek:Int) (ks:qw) (t v:Int):Prop where
 w0:I.w 0= .D k
 w1:I.w 1= .D s
 w2:I.w 2= .D l
 w3:I.w 3= .D g
 w4:I.w 4= .A ops
 wi:I.w 2003= .D i
 wm:I.w 2004= .A m
 row:cg ops i= .A [.D ek,.vs ks,.D t,.D v]
def SP(k:Int)(m:U0):Prop:=(∀r∈m,nrm r)/\(m.map Y2).Nodup/\m.length<=400/\(k=3->m.length<=24)
section
variable{X:Nat->U0->Val}{I:Opq}{k s l g:Int}{ops:U0}{i:Nat}{m:U0}{ek:Int}{ks:qw}{t v:Int}
def RC.up(h:RC I k s l g ops i m ek ks t v)(vs:U0):RC (I.U 4000 vs) k s l g ops i m ek ks t v:=by
 have W: ∀n:Nat,n<4000->(I.U 4000 vs).w n=I.w n:=λn hn=>by simp_all[Y8,b9]
 exact⟨(W 0 (by omega)).trans h.w0,(W 1 (by omega)).trans h.w1,(W 2 (by omega)).trans h.w2,(W 3 (by omega)).trans h.w3,(W 4 (by omega)).trans h.w4,(W 2003 (by omega)).trans h.wi,(W 2004 (by omega)).trans h.wm,h.row⟩
def RC.ex(h:RC I k s l g ops i m ek ks t v)(j:Nat):bZ I (ex j)=Y5 (.A [.D ek,.vs ks,.D t,.D v]) j:=by show ck (I.w 4).L (I.w 2003).I (j:Int)=_;rw[h.w4,h.wi,<-h.row];rfl
def RC.aX(h:RC I k s l g ops i m ek ks t v):Y6 I aX=cL k s l g m ek ks t v:=by show [I.w 0,I.w 1,I.w 2,I.w 3,I.w 2004,bZ I (S9.ex (0:Nat)),bZ I (S9.ex (1:Nat)),bZ I (S9.ex (2:Nat)),bZ I (S9.ex (3:Nat))]=_;rw[h.w0,h.w1,h.w2,h.w3,h.wm,h.ex,h.ex,h.ex,h.ex];rfl
variable(hf: ∀i a,I.f i a=FT X i a)
include hf
def RC.x730(h:RC I k s l g ops i m ek ks t v):bZ I x730= .A (eP (cL k s l g m ek ks t v)):=by show I.f 730 (Y6 I S9.aX)=_;rw[h.aX,hf];rfl
def RC.x731(h:RC I k s l g ops i m ek ks t v):bZ I x731=eT X (cL k s l g m ek ks t v):=by show I.f 731 (Y6 I S9.aX)=_;rw[h.aX,hf];rfl
def RC.x733(h:RC I k s l g ops i m ek ks t v):bZ I x733=fx X (cL k s l g m ek ks t v):=by show I.f 733 (Y6 I S9.aX)=_;rw[h.aX,hf];rfl
def EY(hX:XOk X){x:SX}(hd:bZ I x= .A m)(ho:SP k m):dB I (ep8 x)=true:=by show((decide (((bZ I x).L.length:Int)<=400)&&(I.f 431 [bZ I x]).Z)&&(I.f 491 [bZ I x]).Z)=true;rw[hf,hf,hd];have h1:=hX.x431 m (λr hr=>BM (ho.1 r hr));have h2:=hX.x491 m ho.2.1;show((decide ((m.length:Int)<=400)&&(X 431 [.A m]).Z)&&(X 491 [.A m]).Z)=true;have h3:=ho.2.2.1;grind
end
def cP(x:dw):Val:= .A [.D 1,.vs x.1,.D x.2.1,.D x.2.2]
def EG(evs:List dw):Prop:= ∀x∈evs,Y4 1 x.1 x.2.1 x.2.2=0
section
variable{X:Nat->U0->Val}{k s l g:Int}{m:U0}
def RX(hR:cY k s l g=true){evs:List dw}(hT:TOK (eD k s l g) evs m)(hev:gZ evs)(hl:evs.length<=24):SP k m:=by obtain⟨h1,h2⟩:=du3 hR hT hev;exact⟨hT.nrm,hT.nd,by omega,λhk=>by omega⟩
def du4(hR:cY k s l g=true):TOK (eD k s l g) [] []:=
 ⟨Tb.tab_nil _,List.nodup_nil,λr h=>absurd h (G3),λg' h=>by
  unfold eD at h;by_cases hk:k=3;rw[c9 hk]at h;cases h;have:=(CR hR hk).1;omega
  grind⟩
def cF8{evs:List dw}{x:dw}(h:gZ evs)(ht:dW x.2.1=true)(hv:inI x.2.2):gZ (evs++[x]):=λy hy=>by
 rcases x6.1 hy with h1|h1
 exact h y h1;grind
def cF9{evs:List dw}{x:dw}(h:EG evs)(hv:Y4 1 x.1 x.2.1 x.2.2=0):EG (evs++[x]):=λy hy=>by
 rcases x6.1 hy with h1|h1
 exact h y h1;grind
variable{I:Opq}(hf: ∀i a,I.f i a=FT X i a)
include hf
end
section
variable{X:Nat->U0->Val}{I:Opq}(hf: ∀i a,I.f i a=FT X i a)
include hf
end
section
variable{X:Nat->U0->Val}{k s l g:Int}
variable{I:Opq}(hf: ∀i a,I.f i a=FT X i a)
include hf
end
def d29{W:Tb.Wd}{evs evs':List dw}{m m':U0}(h:TOK W evs m)(h':TOK W evs' m')(hp:evs'.Perm evs):m'.Perm m:=by
 have hu:=Tb.Tab.uniq (h'.tab.perm hp) h.tab;have nd: ∀{q:U0},(q.map Y2).Nodup->q.Nodup:=λ{q} hq=>by rw[I8,I9]at hq;exact I8.2 (hq.imp λhne e=>hne (by rw[e]))
 have one: ∀{q q':U0},(∀r∈q,nrm r)->(∀r∈q',nrm r)->(q.map Y2).Nodup->(∀p,ed q p=ed q' p)-> ∀r∈q,r∈q':=λ{q q'} n1 n2 hq he r hr=>by have h1:=xl hq hr;rw[he]at h1;obtain⟨r',hr',e1,e2⟩:=wS h1;obtain⟨a,b,c,d,rfl,_,_⟩:=n1 r hr;obtain⟨a',b',c',d',rfl,_,_⟩:=n2 r' hr';have e1:(⟨a',b',c'⟩:PaneM)=⟨a,b,c⟩:=e1;have e2:d'=d:=e2;grind
 have hall: ∀p:PaneM,ed m' p=ed m p:=λp=>hu p.key p.a p.b
 exact(I1 (nd h'.nd) (nd h.nd)).2 λr=>⟨one h'.nrm h.nrm h'.nd hall r,one h.nrm h'.nrm h.nd (λp=>(hall p).symm) r⟩
section
variable{X:Nat->U0->Val}{I:Opq}(hf: ∀i a,I.f i a=FT X i a)
include hf
