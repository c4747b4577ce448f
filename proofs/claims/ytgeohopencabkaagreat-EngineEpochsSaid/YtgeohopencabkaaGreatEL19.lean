import Derived.Test.YtgeohopencabkaaGreatEL3
import Derived.Test.YtgeohopencabkaaGreatEM1
set_option linter.all false
namespace Go.Ev.S9
open Go Go.Ev
def rA(r:Val):Tb.Ag:=(ci r 3,ci r 4,ci r 5,ci r 6)
def dH(m:U7)(p:PaneM):Option Tb.Ag:=(m.find? λr=>decide (W7 r=p)).map rA
def lk(m:U7)(k:zR)(s e:Int):Option Tb.Ag:=dH m ⟨k,s,e⟩
def set1(m:U7)(r:Val):U7:=bif jD m (eR r)then m.set (gT m (eR r)) (X8 r)else m++[X8 r]
def mw(m:U7)(p:Val):U7:=m.eraseIdx (gT m (eR p))
theorem d24(r p:Val):eF [.str,.int .i64,.int .i64] r p=decide (W7 r=W7 p):=by show(decide ((X1 p 0).toS=(X1 r 0).toS)&&(decide ((X1 p 1).I=(X1 r 1).I)&&(decide ((X1 p 2).I=(X1 r 2).I)&&true)))=_;simp[j8,decide_eq_true_eq,W7,PaneM.mk.injEq];grind
def d25(l:U7)(p:Val):gT l p=l.findIdx λr=>decide (W7 r=W7 p):=by grind[gT,d24]
def JS(x:Val)(m:U7)(p:Val):gT (x::m) p=if W7 x=W7 p then 0 else gT m p+1:=by simp_all[d25,List.findIdx_cons,W7,i6,j0,b9,j9]
theorem GO(x:Val)(m:U7)(p:Val):jD (x::m) p=(decide (W7 x=W7 p)||jD m p):=by unfold jD;rw[JS];grind
def e79(x:Val)(m:U7)(n:Nat):cg (x::m) (n+1)=cg m n:=rfl
def Sq(x:Val)(m:U7)(p:Val)(j:Nat):pV (x::m) p j=if W7 x=W7 p then X1 x j else pV m p j:=by unfold pV;rw[GO,JS];by_cases h:W7 x=W7 p;rw[i6 h,i6 h,j0 h];rfl;simp_all[b9,j9,C1,e79]
def qY(x:Val)(m:U7)(p:PaneM):dH (x::m) p=if W7 x=p then some (rA x)else dH m p:=by unfold dH;grind
def dv5(p:PaneM):dH [] p=none:=rfl
def QQ(x:Val)(m:U7)(r:Val):set1 (x::m) r=if W7 x=W7 r then X8 r::m else x::set1 m r:=by unfold set1;rw[GO,JS];have e:W7 (eR r)=W7 r:=rfl;grind
theorem OG(r:Val):set1 [] r=[X8 r]:=rfl
def cE1(x:Val)(m:U7)(r:Val):mw (x::m) r=if W7 x=W7 r then m else x::mw m r:=by unfold mw;rw[JS];have e:W7 (eR r)=W7 r:=rfl;grind
def NG(r:Val)(p:PaneM): ∀m:U7,dH (set1 m r) p=if W7 r=p then some (rA r)else dH m p
 | []=>by rw[OG,qY];rfl
 |x::m=>by rw[QQ];by_cases h:W7 x=W7 r;rw[i6 h,qY,qY];have e:W7 (X8 r)=W7 r:=rfl;rw[e,h];by_cases h2:W7 r=p;rw[i6 h2,i6 h2];rfl;grind;rw[b9 h,qY,qY,NG r p m];grind
def SF(r:Val): ∀m:U7,∀x∈set1 m r,x∈m\/x=X8 r
 | [],x,h=>by grind[OG,List.mem_singleton]
 |y::m,x,h=>by
  rw[QQ]at h;by_cases c:W7 y=W7 r;grind
  rw[b9 c]at h;rcases p7.1 h with h|h
  grind
  rcases SF r m x h with h|h
  exact .inl (y9 _ h);grind
def cE2(r:Val): ∀m:U7,(m.map W7).Nodup->((set1 m r).map W7).Nodup
 | [],h=>by rw[OG];simp
 |y::m,h=>by
  rw[m8,E4]at h;rw[QQ];by_cases c:W7 y=W7 r;have e:W7 (X8 r)=W7 y:=c.symm;grind
  rw[b9 c,m8,E4];refine⟨λhm=> ?_,cE2 r m h.2⟩;obtain⟨x,hx,e⟩:=k6.1 hm;rcases SF r m x hx with q|q
  grind;subst q;exact c e.symm
def c30(p:Val)(m:U7):(mw m p).Sublist m:=U9 _ _
def d27{m:U7}{p:PaneM}(h:p∉m.map W7):dH m p=none:=by simp_all[dH,A8,decide_eq_true_eq,k6]
def c31(r:Val)(p:PaneM): ∀m:U7,(m.map W7).Nodup->dH (mw m r) p=if W7 r=p then none else dH m p
 | [],h=>by have e:mw [] r=[]:=rfl;rw[e,dv5];simp
 |x::m,h=>by rw[m8,E4]at h;rw[cE1];by_cases c:W7 x=W7 r;rw[i6 c,qY];by_cases d:W7 r=p;rw[i6 d,d27 (by rw[<-d,<-c];exact h.1)];rw[b9 d,b9 (by rw[c];exact d)];rw[b9 c,qY,qY,c31 r p m h.2];by_cases d:W7 r=p;rw[i6 d,i6 d,b9 (by rw[<-d];exact c)];rw[b9 d,b9 d]
def wk{m:U7}{p:PaneM}{a:Tb.Ag}(h:dH m p=some a): ∃r∈m,W7 r=p/\rA r=a:=by obtain⟨r,h1,h2⟩:=u9.1 h;grind
def tP: ∀{m:U7} {r:Val},(m.map W7).Nodup->r∈m->dH m (W7 r)=some (rA r)
 | [],r,_,h=>absurd h (D9)
 |x::m,r,hn,h=>by
  rw[m8,E4]at hn;rw[qY];rcases p7.1 h with rfl|h
  grind;rw[b9 λe=>hn.1 (k6.2 ⟨r,h,e.symm⟩)];exact tP hn.2 h
def Fc{p:Val}{a:Tb.Ag}: ∀{m:U7},dH m (W7 p)=some a-> ∃r∈m,W7 r=W7 p/\rA r=a/\jD m p=true/\ ∀j,pV m p j=X1 r j
 | [],h=>by cases h
 |x::m,h=>by rw[qY]at h;by_cases c:W7 x=W7 p;rw[i6 c]at h;exact⟨x,A7 ..,c,O2 h,by grind[GO,decide_eq_true],λj=>by rw[Sq,i6 c]⟩;rw[b9 c]at h;obtain⟨r,h1,h2,h3,h4,h5⟩:=Fc h;exact⟨r,y9 _ h1,h2,h3,by rw[GO,h4,S4],λj=>by simp_all[Sq,b9]⟩
def Vm{p:Val}: ∀{m:U7},dH m (W7 p)=none->jD m p=false/\ ∀j,pV m p j= .D 0
 | [],h=>⟨rfl,λj=>rfl⟩
 |x::m,h=>by rw[qY]at h;by_cases c:W7 x=W7 p;grind;rw[b9 c]at h;obtain⟨h1,h2⟩:=Vm h;simp_all[GO,j9,Sq,b9]
def Kq{l:U7}{n:Nat}(h:n<l.length):l.take (n+1)=l.take n++[cg l n]:=by
 have e:cg l n=l[n]:=by simp[cg,k5,h]
 rw[e,P3]
def cE3(m R:U7): ∀n,n<=R.length->eN (.A m) R n= .A ((R.take n).foldl set1 m)
 |0,_=>rfl
 |n+1,h=>by rw[Kq (by omega),J5];unfold eN;rw[cE3 m R n (by omega)];show(bif jD ((R.take n).foldl set1 m) (eR (cg R n))then Val.A (((R.take n).foldl set1 m).set (gT ((R.take n).foldl set1 m) (eR (cg R n))) (X8 (cg R n)))else Val.A (((R.take n).foldl set1 m)++[X8 (cg R n)]))=Val.A (set1 ((R.take n).foldl set1 m) (cg R n));grind[set1,jD,eR,cg]
def Oe(m R:U7):eN (.A m) R R.length= .A (R.foldl set1 m):=by simp_all[cE3,j6,B1]
def cE4(m R:U7): ∀n,n<=R.length->fw (.A m) R n= .A ((R.take n).foldl mw m)
 |0,_=>rfl
 |n+1,h=>by rw[Kq (by omega),J5];unfold fw;rw[cE4 m R n (by omega)];rfl
def c32(m R:U7):fw (.A m) R R.length= .A (R.foldl mw m):=by simp_all[cE4,j6,B1]
def JX{p:PaneM}: ∀(R m:U7),p∉R.map W7->dH (R.foldl set1 m) p=dH m p
 | [],m,h=>rfl
 |r::R,m,h=>by rw[m8,p7]at h;rw[List.foldl_cons,JX R _ (λx=>h (.inr x)),NG,b9 λe=>h (.inl e.symm)]
def JC{r:Val}: ∀(R m:U7),(R.map W7).Nodup->r∈R->dH (R.foldl set1 m) (W7 r)=some (rA r)
 | [],m,_,h=>absurd h (D9)
 |x::R,m,hn,h=>by
  rw[m8,E4]at hn;rw[List.foldl_cons];rcases p7.1 h with rfl|h
  rw[JX R _ hn.1,NG,i6 rfl];exact JC R _ hn.2 h
def JZ: ∀(R m:U7),∀x∈R.foldl set1 m,x∈m\/ ∃r∈R,x=X8 r
 | [],m,x,h=> .inl h
 |r::R,m,x,h=>by
  rcases JZ R (set1 m r) x h with h|⟨y,h1,h2⟩
  rcases SF r m x h with h|h
  exact .inl h;exact .inr ⟨r,A7 ..,h⟩;grind
def Uz: ∀(R m:U7),(m.map W7).Nodup->((R.foldl set1 m).map W7).Nodup
 | [],m,h=>h
 |r::R,m,h=>Uz R _ (cE2 r m h)
def JG: ∀(G m:U7),(G.foldl mw m).Sublist m
 | [],m=>List.Sublist.refl _
 |g::G,m=>(JG G (mw m g)).trans (c30 g m)
def dv6(G m:U7)(h:(m.map W7).Nodup):((G.foldl mw m).map W7).Nodup:=h.sublist ((JG G m).map _)
def Ur(p:PaneM): ∀(G m:U7),(m.map W7).Nodup->dH (G.foldl mw m) p=if p∈G.map W7 then none else dH m p
 | [],m,h=>by simp
 |g::G,m,h=>by rw[List.foldl_cons,Ur p G _ (h.sublist ((c30 g m).map _)),c31 g p m h,m8];grind
def cP(a:Tb.Ag):Val:= .A [.D a.1,.D a.2.1,.D a.2.2.1,.D a.2.2.2]
def jJ(a:Tb.Ag):Prop:=inI a.1/\inI a.2.1/\inI a.2.2.1/\inI a.2.2.2
def Oq:inI 0:=⟨by decide,by decide⟩
def AF:inI 1:=⟨by decide,by decide⟩
def OI{g g':Nat->U7}: ∀n,(∀k,k<n->g k=g' k)->cw g n=cw g' n
 |0,_=>rfl
 |n+1,h=>by rw[cw,cw,OI n (λk hk=>h k (by omega)),h n (by omega)]
def XJ(L:U7): ∀n,n<=L.length->rC (λk=>ci (cg L k) 0) n=Tb.sumI ((L.take n).map λr=>ci r 0)
 |0,_=>rfl
 |n+1,h=>by rw[Kq (by omega),s6,Tb.sumI_app,<-XJ L n (by omega)];show _+_=_+(ci (cg L n) 0+0);grind
def Wa(L:U7):rC (λk=>ci (cg L k) 0) L.length=Tb.sumI (L.map λr=>ci r 0):=by rw[XJ L _ (j6 _),B1]
def XF{L:U7}(hL: ∀r∈L,inI (ci r 0))(hn:L.length<=1000000)(h:fQ L=0):inI (Tb.sumI (L.map λr=>ci r 0))/\qF L=Tb.sumI (L.map λr=>ci r 0):=by
 have hg: ∀k,inI (ci (cg L k) 0):=λk=>by
  by_cases c:k<L.length
  have e:cg L k=L[k]:=by simp[cg,k5,c]
  rw[e];exact hL _ (B6 c)
  have e:cg L k= .A []:=by simp[cg,k5,v8 (E6.1 c)]
  rw[e];exact Oq
 obtain⟨h1,h2⟩:=bA8 hg hn;rw[Wa]at h1 h2;have h0:(eW (λk=>ci (cg L k) 0) L.length).2=0:=by unfold fQ fI at h;by_cases c:(eW (λk=>ci (cg L k) 0) L.length).2=0;exact c;rw[b9 c]at h;cases h
 simp_all[qF,fI,i6]
def cE6{gs:List Tb.Ag}(x:Tb.Ag)(h:gs≠[]):Tb.agAll (gs++[x])=Tb.ag2 (Tb.agAll gs) x:=by
 cases gs with
 |nil=>grind
 |cons a l=>
  show(l++[x]).foldl Tb.ag2 a=_;rw[J5];rfl
def c33: ∀(l:List Tb.Ag) (a:Tb.Ag),(l.foldl Tb.ag2 a).1=a.1+Tb.sumI (l.map (·.1))/\(l.foldl Tb.ag2 a).2.1=a.2.1+Tb.sumI (l.map (·.2.1))
 | [],a=>⟨(N0 _).symm,(N0 _).symm⟩
 |x::l,a=>by obtain⟨h1,h2⟩:=c33 l (Tb.ag2 a x);rw[List.foldl_cons,h1,h2];refine⟨?_,?_⟩;show a.1+x.1+_=a.1+(x.1+_);omega;show a.2.1+x.2.1+_=a.2.1+(x.2.1+_);omega
def SO{gs:List Tb.Ag}:(Tb.agAll gs).1=Tb.sumI (gs.map (·.1))/\(Tb.agAll gs).2.1=Tb.sumI (gs.map (·.2.1)):=by
 cases gs with
 |nil=>exact⟨rfl,rfl⟩
 |cons a l=>exact c33 l a
def Ze: ∀(l:List Tb.Ag) (a:Tb.Ag),inI a.2.2.1/\inI a.2.2.2->(∀x∈l,jJ x)->inI (l.foldl Tb.ag2 a).2.2.1/\inI (l.foldl Tb.ag2 a).2.2.2
 | [],a,h,_=>h
 |x::l,a,h,hl=>by refine Ze l _ ?_ (λy hy=>hl y (y9 _ hy));have hx:=(hl x (A7 ..)).2.2;show inI (min a.2.2.1 x.2.2.1)/\inI (max a.2.2.2 x.2.2.2);grind
def d32{gs:List Tb.Ag}(hne:gs≠[])(h: ∀x∈gs,jJ x):inI (Tb.agAll gs).2.2.1/\inI (Tb.agAll gs).2.2.2:=by
 cases gs with
 |nil=>grind
 |cons a l=>exact Ze l a (h a (A7 ..)).2.2 (λx hx=>h x (y9 _ hx))
theorem Sn{gs:List Tb.Ag}{k:Nat}(h:k<gs.length):cg (gs.map cP) k=cP gs[k]:=by simp[cg,k5,h]
theorem SG{a:Tb.Ag}(h:1<=a.1):ui (cP a)=false:=by show BB a.1 a.2.1 a.2.2.1 a.2.2.2=false;grind[BB,decide_eq_false]
def de2{gs:List Tb.Ag}(hc: ∀a∈gs,1<=a.1/\jJ a)(c:Nat): ∀k,k<gs.length->jG (gs.map cP) c k=[.A [X1 (cg (gs.map cP) k) c]]:=λk hk=>by grind[jG,Sn,SG,List.getElem_mem]
def KU{gs:List Tb.Ag}(hc: ∀a∈gs,1<=a.1/\jJ a)(c:Nat):cw (jG (gs.map cP) c) (gs.map cP).length=gs.map λa=> .A [X1 (cP a) c]:=by rw[OI (g':=λk=>[(λr=>Val.A [X1 r c]) (cg (gs.map cP) k)]) _ (λk hk=>de2 hc c k (by simpa using hk))];refine(Bl (λr=>Val.A [X1 r c]) (gs.map cP)).trans ?_;simp_all
def VO{gs:List Tb.Ag}(hc: ∀a∈gs,1<=a.1/\jJ a): ∀k,k<=gs.length->(cw (jG (gs.map cP) 0) k).length=k
 |0,_=>rfl
 |k+1,h=>by rw[cw,k9,VO hc k (by omega),de2 hc 0 k (by omega)];rfl
def ZL{gs:List Tb.Ag}(hc: ∀a∈gs,1<=a.1/\jJ a): ∀k,k<gs.length-> ∃x y,jS (gs.map cP) (k+1)=[x,y,.D (Tb.agAll (gs.take (k+1))).2.2.1,.D (Tb.agAll (gs.take (k+1))).2.2.2]
 |0,h=>by
  have e:gs.take 1=[gs[0]]:=by rw[<-P3 h];rfl
  unfold jS;rw[Sn h,SG (hc _ (B6 h)).1,VO hc 0 (by omega),e,i6 rfl];refine⟨X1 (cP gs[0]) 0,X1 (cP gs[0]) 1,?_⟩;show [X1 (cP gs[0]) 0,X1 (cP gs[0]) 1,Val.D (min gs[0].2.2.1 gs[0].2.2.1),.D (max gs[0].2.2.2 gs[0].2.2.2)]=[X1 (cP gs[0]) 0,X1 (cP gs[0]) 1,Val.D gs[0].2.2.1,.D gs[0].2.2.2];grind
 |k+1,h=>by
  obtain⟨x,y,e⟩:=ZL hc k (by omega);have e2:gs.take (k+1+1)=gs.take (k+1)++[gs[k+1]]:=(P3 h).symm;have hne:gs.take (k+1)≠[]:=λc=>by simp_all
  rw[e2,cE6 _ hne];rw[show jS (gs.map cP) (k+1+1)=(bif ui (cg (gs.map cP) (k+1))then jS (gs.map cP) (k+1)else
   (if(cw (jG (gs.map cP) 0) (k+1)).length=0 then [X1 (cg (gs.map cP) (k+1)) 0,X1 (cg (gs.map cP) (k+1)) 1,.D (min (ci (cg (gs.map cP) (k+1)) 2) (ci (cg (gs.map cP) (k+1)) 2)),.D (max (ci (cg (gs.map cP) (k+1)) 3) (ci (cg (gs.map cP) (k+1)) 3))]
    else [(jS (gs.map cP) (k+1)).getD 0 default,(jS (gs.map cP) (k+1)).getD 1 default,.D (min ((jS (gs.map cP) (k+1)).getD 2 default).I (ci (cg (gs.map cP) (k+1)) 2)),.D (max ((jS (gs.map cP) (k+1)).getD 3 default).I (ci (cg (gs.map cP) (k+1)) 3))]))from rfl]
  rw[Sn h,SG (hc _ (B6 h)).1,VO hc (k+1) (by omega),b9 (by omega),e];exact⟨_,_,rfl⟩
def SH{gs:List Tb.Ag}(hc: ∀a∈gs,1<=a.1/\jJ a)(hn:gs.length<=1000000)(hne:gs≠[])(h:jE (gs.map cP)=0):
 jR (gs.map cP)=[.D (Tb.agAll gs).1,.D (Tb.agAll gs).2.1,.D (Tb.agAll gs).2.2.1,.D (Tb.agAll gs).2.2.2]/\jJ (Tb.agAll gs):=by
 have hn': ¬(fQ (jC (gs.map cP))≠0\/fQ (jT (gs.map cP))≠0):=λc=>by unfold jE at h;rw[if_pos c]at h;cases h
 have e0:fQ (jC (gs.map cP))=0:=Classical.byContradiction λc=>hn' (.inl c)
 have e1:fQ (jT (gs.map cP))=0:=Classical.byContradiction λc=>hn' (.inr c)
 have c0:jC (gs.map cP)=gs.map λa=> .A [X1 (cP a) 0]:=KU hc 0
 have c1:jT (gs.map cP)=gs.map λa=> .A [X1 (cP a) 1]:=KU hc 1
 rw[c0]at e0;rw[c1]at e1;obtain⟨s1,s2⟩:=XF (λr hr=>by obtain⟨a,ha,rfl⟩:=k6.1 hr;exact(hc a ha).2.1) (by simpa using hn) e0;obtain⟨s3,s4⟩:=XF (λr hr=>by obtain⟨a,ha,rfl⟩:=k6.1 hr;exact(hc a ha).2.2.1) (by simpa using hn) e1;rw[o9]at s1 s2 s3 s4;have m1:Tb.sumI (gs.map ((λr=>ci r 0)∘λa=>Val.A [X1 (cP a) 0]))=(Tb.agAll gs).1:=SO.1.symm;have m2:Tb.sumI (gs.map ((λr=>ci r 0)∘λa=>Val.A [X1 (cP a) 1]))=(Tb.agAll gs).2.1:=SO.2.symm;rw[m1]at s1 s2;rw[m2]at s3 s4;have hl:0<gs.length:=P4.2 hne;obtain⟨x,y,e⟩:=ZL hc (gs.length-1) (by omega);rw[show gs.length-1+1=gs.length by omega,B1]at e;refine⟨?_,s1,s3,d32 hne λx hx=>(hc x hx).2⟩;simp_all[jR,b9,k7]
def oX(v:Int):Tb.agOf [v]=(1,v,v,v):=by show((1:Int),v+0,v,v)=_;grind
def d33{a:Tb.Ag}{v:Int}(ha:1<=a.1)(hi:jJ a)(hv:inI v)(h:jE (pR (.D a.1) (.D a.2.1) (.D a.2.2.1) (.D a.2.2.2) (.D v))=0):
 nK (.D a.1) (.D a.2.1) (.D a.2.2.1) (.D a.2.2.2) (.D v)=[.D (Tb.ag2 a (Tb.agOf [v])).1,.D (Tb.ag2 a (Tb.agOf [v])).2.1,.D (Tb.ag2 a (Tb.agOf [v])).2.2.1,.D (Tb.ag2 a (Tb.agOf [v])).2.2.2]/\jJ (Tb.ag2 a (Tb.agOf [v])):=by
 have e:pR (.D a.1) (.D a.2.1) (.D a.2.2.1) (.D a.2.2.2) (.D v)=[a,Tb.agOf [v]].map cP:=by rw[oX];rfl
 unfold nK;rw[b9 (by omega)];rw[e]at h⊢;refine SH (λx hx=> ?_) (by simp) (by simp) h;rcases p7.1 hx with rfl|hx
 grind;rw[m9]at hx;subst hx;rw[oX];exact⟨x8 _,AF,hv,hv,hv⟩
def d34{v:Int}(hv:inI v)(h:jE (pR (.D 0) (.D 0) (.D 0) (.D 0) (.D v))=0):
 nK (.D 0) (.D 0) (.D 0) (.D 0) (.D v)=[.D (Tb.agOf [v]).1,.D (Tb.agOf [v]).2.1,.D (Tb.agOf [v]).2.2.1,.D (Tb.agOf [v]).2.2.2]/\jJ (Tb.agOf [v]):=by
 have e1:jC (pR (.D 0) (.D 0) (.D 0) (.D 0) (.D v))=jC ([Tb.agOf [v]].map cP):=by rfl
 have e2:jT (pR (.D 0) (.D 0) (.D 0) (.D 0) (.D v))=jT ([Tb.agOf [v]].map cP):=by rw[oX];rfl
 have e3:jS (pR (.D 0) (.D 0) (.D 0) (.D 0) (.D v)) (pR (.D 0) (.D 0) (.D 0) (.D 0) (.D v)).length=jS ([Tb.agOf [v]].map cP) ([Tb.agOf [v]].map cP).length:=by rw[oX];rfl
 have e4:jE (pR (.D 0) (.D 0) (.D 0) (.D 0) (.D v))=jE ([Tb.agOf [v]].map cP):=by grind[jE]
 have e5:jR (pR (.D 0) (.D 0) (.D 0) (.D 0) (.D v))=jR ([Tb.agOf [v]].map cP):=by grind[jR]
 unfold nK;rw[b9 (by omega),e5];rw[e4]at h;refine SH (gs:=[Tb.agOf [v]]) (λx hx=> ?_) (by simp) (by simp) h;rw[m9]at hx;subst hx;rw[oX];exact⟨x8 _,AF,hv,hv,hv⟩
variable{s k l g:Int}
def ku(step size:Int)(a b:Int):Prop:=a % step=0/\b=a+size
def dv9{step t a:Int}{n:Nat}(h1:1<=step)(hn:(n:Int)*step=s):(∃j:Nat,j<n/\a=kp t step-s+step+(j:Int)*step)↔a % step=0/\a<=t/\t<a+s:=by
 have hq:step*(t/step)+t % step=t:=V9 t step;have r1:0<=t % step:=O9 _ (by omega);have r2:t % step<step:=P0 _ (by omega);generalize t/step=q at hq;have hd:kp t step=step*q:=by grind[kp]
 rw[hd];constructor
 rintro⟨j,hj,rfl⟩;have e:step*q-s+step+(j:Int)*step=step*(q-n+1+j):=by rw[<-hn,P5,P5,Int.mul_sub,Int.mul_one,M8 (n:Int) step,M8 (j:Int) step]
 have b1:(j:Int)*step<=((n:Int)-1)*step:=T2 (by omega) (by omega);have b2:0<=(j:Int)*step:=T3 (by omega) (by omega);grind[Int.sub_mul,Int.mul_emod_right]
 rintro⟨c1,c2,c3⟩;have ha:step*(a/step)=a:=by have:=V9 a step;omega
 generalize a/step=c at ha;have l1:c<q+1:=W0 (a:=step) (by rw[P5];omega) (by omega);have l2:q<c+n:=W0 (a:=step) (by rw[P5,M8 step (n:Int)];omega) (by omega);refine⟨(c-(q-n+1)).toNat,by omega,?_⟩;grind[Int.toNat_of_nonneg,Int.sub_mul,Int.add_mul,Int.mul_comm]
def dP9(h:X9 k s l g=true)(h3:k≠3):1<=dY k s l/\(gi k s l:Int)*dY k s l=s/\1<=s/\s<=1048576/\gi k s l<=16:=by unfold X9 at h;by_cases h1:k=1;have e:dY 1 s l=s:=rfl;grind[gi,LG,Int.emod_self,Int.ediv_self];rw[b9 h1]at h;by_cases h2:k=2;subst h2;simp at h;have e:dY 2 s l=l:=rfl;unfold gi;rw[e];obtain⟨m1,m2⟩:=LG (s:=s) (l:=l) (by omega) (by omega) (by omega);refine⟨by omega,m1,by omega,by omega,by omega⟩;grind
def Cv(h:X9 k s l g=true)(h3:k=3):1<=g/\g<=1048576:=by simp_all[X9,b9,j8,decide_eq_true_eq]
def Ia(st step s:Int)(n:Nat):aaB:=(List.range n).map λ(j:Nat)=>(st+(j:Int)*step,st+(j:Int)*step+s)
def cF0{t:Int}(h:X9 k s l g=true)(h3:k≠3)(ht:ei t=true):dF k s l g (.D t)=(Ia (kp t (dY k s l)-s+dY k s l) (dY k s l) s (gi k s l)).map λp=>Val.A [.D p.1,.D p.2]:=by unfold dF;simp_all;rw[mX];unfold Ia;rw[o9,T5];rfl
def Dx{t:Int}(h:X9 k s l g=true)(h3:k≠3)(ht:ei t=true):
 ((dF k s l g (.D t)).map X3).Nodup/\(∀a b,(a,b)∈(dF k s l g (.D t)).map X3↔ku (dY k s l) s a b/\a<=t/\t<b)/\ ∀r∈dF k s l g (.D t),r= .A [.D (X3 r).1,.D (X3 r).2]:=by
 obtain⟨w1,w2,w3,w4,w5⟩:=dP9 h h3;have e:(dF k s l g (.D t)).map X3=Ia (kp t (dY k s l)-s+dY k s l) (dY k s l) s (gi k s l):=by rw[cF0 h h3 ht,o9];exact G6 _
 have hi:=λa=>dv9 (t:=t) (a:=a) w1 w2
 rw[e];refine⟨?_,λa b=> ?_,λr hr=> ?_⟩;unfold Ia;rw[G7,F7];refine J6 (λ{i j} hij e=> ?_) (G7.1 (O5 (n:=gi k s l)));grind[dY,Int.eq_of_mul_eq_mul_right];unfold Ia ku;rw[k6];constructor;rintro⟨j,hj,e⟩;have e1:=congrArg Prod.fst e;have e2:=congrArg Prod.snd e;obtain⟨c1,c2,c3⟩:=(hi a).1 ⟨j,o7.1 hj,by omega⟩;exact⟨⟨c1,by omega⟩,c2,by omega⟩;grind;rw[cF0 h h3 ht]at hr;obtain⟨p,_,rfl⟩:=k6.1 hr;rfl
def gq(ks:zR)(a b:Int)(A:Tb.Ag):Val:= .A [.vs ks,.D a,.D b,.D A.1,.D A.2.1,.D A.2.2.1,.D A.2.2.2]
def KE(ks:zR)(a b:Int)(A:Tb.Ag):W7 (gq ks a b A)=⟨ks,a,b⟩:=rfl
def KK(ks:zR)(a b:Int)(A:Tb.Ag):rA (gq ks a b A)=A:=rfl
theorem cF2(ks:zR)(a b:Int)(A:Tb.Ag):X8 (gq ks a b A)=gq ks a b A:=rfl
def nrm(r:Val):Prop:= ∃ks a b A,r=gq ks a b A/\ks.length<=1000/\jJ A
def Bn{r:Val}(h:nrm r):rowS r:=by obtain⟨ks,a,b,A,rfl,h1,h2⟩:=h;exact⟨ks,a,b,_,_,_,_,rfl,h1⟩
abbrev cU:=Tb.Evt zR
structure TOK (W:Tb.Wd) (evs:List cU) (m:U7):Prop where
 tab:Tb.Tab W evs (lk m)
 nd:(m.map W7).Nodup
 nrm: ∀r∈m,nrm r
 gap: ∀g,W= .ses g->0<g
def TOK.pos{W:Tb.Wd}{evs:List cU}{m:U7}(h:TOK W evs m){k:zR}{e:Int}{a:Tb.Ag}(ha:lk m k s e=some a):1<=a.1/\jJ a/\a=Tb.agOf (Tb.vals evs k s e)/\Tb.Pan W evs k s e:=by obtain⟨h1,h2⟩:=(h.tab k s e a).1 ha;obtain⟨r,hr,_,rfl⟩:=wk ha;obtain⟨ks,x,y,A,rfl,_,hA⟩:=h.nrm r hr;have hne:=Tb.Pan.ne h.gap h1;have:=P4.2 hne;refine⟨?_,hA,h2,h1⟩;rw[h2];show(1:Int)<=((Tb.vals evs k s e).length:Int);omega
theorem dQ0{W:Tb.Wd}{evs:List cU}{m:U7}(h:TOK W evs m){ks:zR}{a b v:Int}(hv:inI v)(he:ky m (.vs ks) (.D v) (.A [.D a,.D b])=0):
 nY m (.vs ks) (.D v) (.A [.D a,.D b])=gq ks a b (Tb.putA (lk m ks a b) v)/\jJ (Tb.putA (lk m ks a b) v):=by
 have hp:W7 (eV (.vs ks) (.A [.D a,.D b]))=⟨ks,a,b⟩:=rfl;unfold nY wF;unfold ky at he;unfold qv at he⊢;cases hl:lk m ks a b with
 |none=>
  obtain⟨_,hc⟩:=Vm (m:=m) (p:=eV (.vs ks) (.A [.D a,.D b])) (by exact hl);rw[hc,hc,hc,hc]at he⊢;obtain⟨e1,e2⟩:=d34 hv he;rw[e1];exact⟨rfl,e2⟩
 |some c=>
  obtain⟨q1,q2,_,_⟩:=h.pos hl;obtain⟨r,hr,_,hA,_,hc⟩:=Fc (m:=m) (p:=eV (.vs ks) (.A [.D a,.D b])) (a:=c) (by exact hl);obtain⟨k',x,y,A,rfl,_,_⟩:=h.nrm r hr;subst hA;rw[hc,hc,hc,hc]at he⊢;obtain⟨e1,e2⟩:=d33 q1 q2 hv he;have e1:nK (X1 (gq k' x y A) 3) (X1 (gq k' x y A) 4) (X1 (gq k' x y A) 5) (X1 (gq k' x y A) 6) (.D v)=_:=e1;rw[e1];exact⟨rfl,e2⟩
structure XOk (X:Nat->U7->Val):Prop where
 x431: ∀l:U7,(∀r∈l,rowS r)->(X 431 [.A l]).Z=true
 x491: ∀l:U7,(l.map W7).Nodup->(X 491 [.A l]).Z=true
 x490: ∀l:U7,(∀r∈l,rowS r)-> ∃l',X 490 [.A l]= .A l'/\l'.Perm l
 x490u: ∀l l':U7,(∀r∈l,rowS r)->l.Perm l'->(l.map W7).Nodup->X 490 [.A l]=X 490 [.A l']
 x3: ∀v:Val,X 3 [v,v]= .B true
def wQ{ek t v:Int}{ks:zR}(h:X5 ek ks t v=0)(h1:ek=1):ks.length<=32/\ei t=true:=by unfold X5 at h;grind
def Qn(ks:zR)(t:Int)(p:PaneM):Prop:=p.key=ks/\p.a<=t/\t<p.b
def cE(k s l g:Int)(m:U7)(ek:Int)(ks:zR)(t v:Int):U7:=[.D k,.D s,.D l,.D g,.A m,.D ek,.vs ks,.D t,.D v]
section
variable{X:Nat->U7->Val}{k s l g ek t v:Int}{m:U7}{ks:zR}
def tz:dp (cE k s l g m ek ks t v)=if X5 ek ks t v≠0 then X5 ek ks t v else if ek≠1 then 2 else if k=3 then sr (.D g) m (.vs ks) (.D t) (.D v)else(kM m (dF k s l g (.D t)) (.vs ks) (.D v) (.D 0)).I:=rfl
def Pz:eA (cE k s l g m ek ks t v)=if X5 ek ks t v≠0\/ek≠1 then []else if k=3 then nD (.D g) m (.vs ks) (.D t) (.D v)else []:=rfl
def Su:eo X (cE k s l g m ek ks t v)=if X5 ek ks t v≠0\/ek≠1 then .A []else if k=3 then .A (nq (.D g) m (.vs ks) (.D t) (.D v))else
 if dp (cE k s l g m ek ks t v)≠0 then .A []else X 490 [.A (fK m (dF k s l g (.D t)) (.vs ks) (.D v) (dF k s l g (.D t)).length)]:=rfl
def IW:dR X (cE k s l g m ek ks t v)=if dp (cE k s l g m ek ks t v)≠0 then .A m else eN (fw (.A m) (eA (cE k s l g m ek ks t v)) (eA (cE k s l g m ek ks t v)).length) (eo X (cE k s l g m ek ks t v)).L (eo X (cE k s l g m ek ks t v)).L.length:=rfl
def XN(h:dp (cE k s l g m ek ks t v)≠0):eA (cE k s l g m ek ks t v)=[]/\eo X (cE k s l g m ek ks t v)= .A []/\dR X (cE k s l g m ek ks t v)= .A m:=by refine⟨?_,?_,by rw[IW,i6 h]⟩;rw[Pz];by_cases c:X5 ek ks t v≠0\/ek≠1;grind;rw[b9 c];by_cases c3:k=3;rw[i6 c3];rw[tz,b9 (λq=>c (.inl q)),b9 (λq=>c (.inr q)),i6 c3]at h;unfold nD;rw[if_pos h];grind;rw[Su];by_cases c:X5 ek ks t v≠0\/ek≠1;grind;rw[b9 c];by_cases c3:k=3;rw[i6 c3];rw[tz,b9 (λq=>c (.inl q)),b9 (λq=>c (.inr q)),i6 c3]at h;unfold nq;rw[if_pos h];grind
def TT(h:dp (cE k s l g m ek ks t v)=0):X5 ek ks t v=0/\ek=1:=by rw[tz]at h;omega
def dQ1(L:U7):jE L=0\/jE L=30:=by unfold jE;omega
def dQ2(h0:X5 ek ks t v=0)(h1:ek=1):dp (cE k s l g m ek ks t v)=0\/dp (cE k s l g m ek ks t v)=30:=by rw[tz,b9 (by omega),b9 (by omega)];by_cases c3:k=3;rw[i6 c3];exact dQ1 _;rw[b9 c3];unfold kM;split;exact dQ1 _;simp_all
theorem atV_mem{S:U7}{r:Val}(h:r∈S): ∃i,i<S.length/\cg S i=r:=by obtain⟨i,hi,e⟩:=B4 h;exact⟨i,hi,by simp[cg,k5,hi,e]⟩
theorem bB0(hX:XOk X)(h3:k≠3)(hR:X9 k s l g=true){evs:List cU}(hT:TOK (.win (ku (dY k s l) s)) evs m)(hv:inI v)(he:dp (cE k s l g m ek ks t v)=0):
 ∃R,eo X (cE k s l g m ek ks t v)= .A R/\eA (cE k s l g m ek ks t v)=[]/\dR X (cE k s l g m ek ks t v)= .A (R.foldl set1 m)/\R.length<=16/\
  TOK (.win (ku (dY k s l) s)) (evs++[(ks,t,v)]) (R.foldl set1 m)/\(∀r∈R,nrm r/\dH (R.foldl set1 m) (W7 r)=some (rA r))/\(R.map W7).Nodup/\(∃L,eo X (cE k s l g m ek ks t v)=X 490 [.A L])/\ ∀r∈R,Qn ks t (W7 r):=by
 obtain⟨e0,e1⟩:=TT he;obtain⟨k32,ht⟩:=wQ e0 e1;obtain⟨p1,p2,p3⟩:=Dx (t:=t) hR h3 ht;have hlen:=TS (k:=k) (s:=s) (l:=l) (g:=g) (t:= .D t) h3;have hG:eA (cE k s l g m ek ks t v)=[]:=by simp_all[Pz,b9]
 have hx:(kM m (dF k s l g (.D t)) (.vs ks) (.D v) (.D 0)).I=0:=by simp_all[tz,b9]
 have hR0:eo X (cE k s l g m ek ks t v)=X 490 [.A (fK m (dF k s l g (.D t)) (.vs ks) (.D v) (dF k s l g (.D t)).length)]:=by simp_all[Su,b9]
 have hP:dR X (cE k s l g m ek ks t v)=eN (.A m) (eo X (cE k s l g m ek ks t v)).L (eo X (cE k s l g m ek ks t v)).L.length:=by rw[IW,b9 (by omega),hG];rfl
 rw[hP,hR0,hG];generalize dF k s l g (.D t)=S at*
 obtain⟨t1,t2,t3⟩:=OD m S (.vs ks) (.D v);have hK:gD m S (.vs ks) (.D v)=S.length:=by refine Nat.le_antisymm t1 (E6.1 λc=> ?_);simp_all[kM,i6]
 have hrow: ∀r∈S,nY m (.vs ks) (.D v) r=gq ks (X3 r).1 (X3 r).2 (Tb.putA (lk m ks (X3 r).1 (X3 r).2) v)/\jJ (Tb.putA (lk m ks (X3 r).1 (X3 r).2) v):=λr hr=>by grind[atV_mem,X3,dQ0]
 have hL:fK m S (.vs ks) (.D v) S.length=S.map λr=>gq ks (X3 r).1 (X3 r).2 (Tb.putA (lk m ks (X3 r).1 (X3 r).2) v):=by refine(Bl (nY m (.vs ks) (.D v)) S).trans ?_;grind[List.map_congr_left]
 rw[hL];have hn: ∀r∈S.map λr=>gq ks (X3 r).1 (X3 r).2 (Tb.putA (lk m ks (X3 r).1 (X3 r).2) v),nrm r:=λr hr=>by obtain⟨x,hx,rfl⟩:=k6.1 hr;exact⟨_,_,_,_,rfl,by omega,(hrow x hx).2⟩
 obtain⟨R,hq,hp⟩:=hX.x490 _ (λr hr=>Bn (hn r hr));rw[hq,a71,Oe];have hRn: ∀r∈R,nrm r:=λr hr=>hn r (hp.mem_iff.1 hr)
 have hk:(S.map λr=>gq ks (X3 r).1 (X3 r).2 (Tb.putA (lk m ks (X3 r).1 (X3 r).2) v)).map W7=(S.map X3).map λp=>(⟨ks,p.1,p.2⟩:PaneM):=by rw[o9,o9];rfl
 have hkn:(R.map W7).Nodup:=by grind
 have hmem: ∀q:PaneM,q∈R.map W7↔q.key=ks/\(q.a,q.b)∈S.map X3:=λq=>by rw[(hp.map W7).mem_iff,hk,k6];constructor;grind;rintro⟨h1,h2⟩;exact⟨(q.a,q.b),h2,by rw[<-h1]⟩
 refine⟨R,rfl,rfl,rfl,?_,⟨?_,Uz R m hT.nd,λr hr=> ?_,hT.gap⟩,λr hr=>⟨hRn r hr,JC R m hkn hr⟩,hkn,⟨_,hq.symm⟩,λr hr=> ?_⟩;rw[hp.length_eq,k7];exact hlen;refine Tb.tab_win (ks,t,v) hT.tab (λk' a b c=> ?_) (λk' a b c=> ?_);obtain⟨rfl,c1,c2,c3⟩:=c;have hin:(a,b)∈S.map X3:=(p2 a b).2 ⟨c1,c2,c3⟩;obtain⟨r,hr,er⟩:=k6.1 hin;have hr2:gq k' a b (Tb.putA (lk m k' a b) v)∈R:=hp.mem_iff.2 (k6.2 ⟨r,hr,by grind⟩);exact JC R m hkn hr2
 refine JX R m λhq=>c ?_
 grind
 rcases JZ R m r hr with h|⟨x,hx,rfl⟩
 exact hT.nrm r h;obtain⟨a,b,c,d,rfl,h1,h2⟩:=hRn x hx;exact⟨a,b,c,d,rfl,h1,h2⟩;obtain⟨h1,h2⟩:=(hmem _).1 (k6.2 ⟨r,hr,rfl⟩);obtain⟨_,c2,c3⟩:=(p2 _ _).1 h2;exact⟨h1,c2,c3⟩
theorem d35(hX:XOk X)(h3:k≠3)(hR:X9 k s l g=true){evs:List cU}(hT:TOK (.win (ku (dY k s l) s)) evs m)(hv:inI v)(he:dp (cE k s l g m ek ks t v)=0):
 ∃R,eo X (cE k s l g m ek ks t v)= .A R/\eA (cE k s l g m ek ks t v)=[]/\dR X (cE k s l g m ek ks t v)= .A (R.foldl set1 m)/\R.length<=16/\
  TOK (.win (ku (dY k s l) s)) (evs++[(ks,t,v)]) (R.foldl set1 m)/\ ∀r∈R,nrm r/\dH (R.foldl set1 m) (W7 r)=some (rA r):=by
 grind[bB0]
end
variable{m:U7}
def bB1(y:Int×Int): ∀(x:aaB) (a b:Int),Tb.nowOf a b (x++[y])=(min (Tb.nowOf a b x).1 y.1,max (Tb.nowOf a b x).2 y.2)
 | [],a,b=>rfl
 |p::x,a,b=>by show Tb.nowOf (min a p.1) (max b p.2) (x++[y])=_;rw[bB1 y x];rfl
def TG(l:U7)(t o:Int):xm l t o=(l.filter λr=>pY t o r).map fX:=by
 unfold xm;rw[mX];refine(Dd (λr=>bif pY t o r then [fX r]else []) (.A []) l).trans ?_;induction l with
 |nil=>rfl
 |cons a l ih=>
  grind
def Xe(l:U7)(t g:Int):(xm l t (t+g)).map X3=Tb.joinedOf g t (l.map X3):=by rw[TG,o9];unfold Tb.joinedOf;rw[List.filter_map];rfl
def cF6(l:U7)(t g:Int): ∀i,i<=l.length->kz l (.D t) (.D (t+g)) i=(.D (Tb.nowOf t (t+g) (Tb.joinedOf g t ((l.take i).map X3))).1,.D (Tb.nowOf t (t+g) (Tb.joinedOf g t ((l.take i).map X3))).2)
 |0,_=>rfl
 |i+1,h=>by
  rw[show kz l (.D t) (.D (t+g)) (i+1)=(bif pY t (t+g) (cg l i)then(Val.D (min (kz l (.D t) (.D (t+g)) i).1.I (ci (cg l i) 0)),Val.D (max (kz l (.D t) (.D (t+g)) i).2.I (ci (cg l i) 1)))else kz l (.D t) (.D (t+g)) i)from rfl];rw[cF6 l t g i (by omega),Kq (by omega),s6];have e:Tb.joinedOf g t ((l.take i).map X3++[X3 (cg l i)])=Tb.joinedOf g t ((l.take i).map X3)++(if pY t (t+g) (cg l i)then [X3 (cg l i)]else []):=by unfold Tb.joinedOf;rw[C4];rw[B0];rfl
  rw[List.map_singleton,e];cases pY t (t+g) (cg l i)with
  |false=>simp
  |true=>
   rw[i6 rfl,bB1];rfl
def dQ3(l:U7)(t g:Int):kz l (.D t) (.D (t+g)) l.length=(.D (Tb.nowOf t (t+g) (Tb.joinedOf g t (l.map X3))).1,.D (Tb.nowOf t (t+g) (Tb.joinedOf g t (l.map X3))).2):=by simp_all[cF6,j6,B1]
def Se{ks:zR}{r:Val}:r∈fU m ks↔ ∃x∈m,(X1 x 0).toS=ks/\r= .A [X1 x 1,X1 x 2]:=by rw[c28,x7];grind[IS,X1,decide_eq_true,decide_eq_false]
def NY(m:U7)(ks:zR):(cQ m (.vs ks)).Perm (fU m ks):=(vT swo_spanV _).1
def Js{W:Tb.Wd}{evs:List cU}(h:TOK W evs m)(ks:zR):
 ((cQ m (.vs ks)).map X3).Nodup/\(∀s e,(s,e)∈(cQ m (.vs ks)).map X3↔lk m ks s e≠none)/\ ∀r∈cQ m (.vs ks),r= .A [.D (X3 r).1,.D (X3 r).2]:=by
 have hp:=NY m ks;refine⟨((hp.map X3).nodup_iff).2 (de0 ks h.nd),λs e=> ?_,λr hr=> ?_⟩;rw[(hp.map X3).mem_iff,k6];constructor;rintro⟨r,hr,he⟩;obtain⟨x,hx,rfl,rfl⟩:=Se.1 hr;obtain⟨k',a,b,A,rfl,_,_⟩:=h.nrm x hx;have he:(a,b)=(s,e):=he;have:=tP h.nd hx;intro hc;have hc:dH m (W7 (gq k' s e A))=none:=hc;grind
 intro hn;cases hl:lk m ks s e with
 |none=>grind
 |some c=>
  obtain⟨x,hx,hpn,_⟩:=wk hl;cases hpn;exact⟨_,Se.2 ⟨_,hx,rfl,rfl⟩,rfl⟩
 .obtain⟨x,hx,_,rfl⟩:=Se.1 (hp.mem_iff.1 hr);obtain⟨k',a,b,A,rfl,_,_⟩:=h.nrm x hx;rfl
def d39{a b:Val}(h:ci a 1<ci b 1):spanV a b<0:=by simp_all[spanV,AY,i6]
def d40(m:U7)(ks:zR){i:Nat}(h0:0<i)(hi:i<(cQ m (.vs ks)).length):ci (cg (cQ m (.vs ks)) (i-1)) 1<=ci (cg (cQ m (.vs ks)) i) 1:=by
 have hs:=(vT swo_spanV (fU m ks)).2;have hi':i<(fD spanV (fU m ks)).length:=hi;have hpw:=G4.1 hs (i-1) i (by omega) hi' (by omega);have e1:cg (cQ m (.vs ks)) (i-1)=(fD spanV (fU m ks))[i-1]:=by show cg (fD spanV (fU m ks)) (i-1)=_;simp[cg,k5,show i-1<(fD spanV (fU m ks)).length by omega]
 have e2:cg (cQ m (.vs ks)) i=(fD spanV (fU m ks))[i]:=by show cg (fD spanV (fU m ks)) i=_;simp[cg,k5,hi']
 rw[e1,e2];exact O6.1 λhc=>hpw (d39 hc)
def ga(evs:List cU):Prop:= ∀x∈evs,ei x.2.1=true/\inI x.2.2
theorem Qb{t:Int}:ei t=true↔ -1099511627776<=t/\t<=1099511627776:=by simp_all[ei,j8,decide_eq_true_eq]
def WH{g t:Int}{evs:List cU}(hT:TOK (.ses g) evs m)(hev:ga evs)(ht:ei t=true)(hg1:1<=g)(hg2:g<=1048576)(ks:zR):iD g t (cQ m (.vs ks))=true:=by
 obtain⟨h1,h2,h3⟩:=Js hT ks;have hord:=λ{i}=>d40 m ks (i:=i)
 generalize cQ m (.vs ks)=S at*
 have hs: ∀r∈S,Tb.isS g (Tb.tms evs ks) (X3 r).1 (X3 r).2:=λr hr=>by
  have hm:((X3 r).1,(X3 r).2)∈S.map X3:=k6.2 ⟨r,hr,rfl⟩;cases hl:lk m ks (X3 r).1 (X3 r).2 with
  |none=>exact absurd hl ((h2 _ _).1 hm)
  |some c=>exact(hT.pos hl).2.2.2
 have hb: ∀i,i<S.length->mn g S i=false:=λi hi=>by
  have e:cg S i=S[i]:=by simp[cg,k5,hi]
  have hr:cg S i∈S:=by rw[e];exact B6 hi
  have q:=hs _ hr;have hb:=q.1.2.2.1;obtain⟨x1,hx1,_,ex1⟩:=q.1.1;obtain⟨x2,hx2,_,ex2⟩:=q.1.2.1;have b1:=Qb.1 (hev x1 hx1).1;have b2:=Qb.1 (hev x2 hx2).1;have s1:(X3 (cg S i)).1=ci (cg S i) 0:=rfl;have s2:(X3 (cg S i)).2=ci (cg S i) 1:=rfl;have e64:cq .sub .i64 (ci (cg S i) 1) (ci (cg S i) 0)=ci (cg S i) 1-ci (cg S i) 0:=rZ (by omega) (by omega);unfold mn;rw[e64,j9 (by omega),j9 (by omega: ¬ci (cg S i) 1-ci (cg S i) 0<g),T1,C1,C1];by_cases h0:0<i
  have e':cg S (i-1)=S[i-1]:=by simp[cg,k5,show i-1<S.length by omega]
  have hr':cg S (i-1)∈S:=by rw[e'];exact B6 _
  have q':=hs _ hr';have ho:=hord h0 hi;have b':=q'.1.2.2.1;rw[j0 h0,I2];refine j9 λhc=> ?_
  have s1':(X3 (cg S (i-1))).1=ci (cg S (i-1)) 0:=rfl;have s2':(X3 (cg S (i-1))).2=ci (cg S (i-1)) 1:=rfl;have:=q'.one q ⟨by omega,by exact hc⟩;have hp:=G4.1 (G7.1 h1) (i-1) i (by simp;omega) (by simpa using hi) (by omega);rw[G8,G8,<-e,<-e']at hp;exact hp (O7 this.1 this.2);rw[j9 h0];rfl
 unfold iD;rw[j0 hg1,j0 hg2,ht];have:(List.range S.length).any (mn g S)=false:=by rw[A4];intro i hi;rw[hb i (o7.1 hi)];decide
 rw[this];rfl
def pr(ks:zR)(p:Int×Int):Val:= .A [.vs ks,.D p.1,.D p.2]
section
variable{X:Nat->U7->Val}{k s l g ek t v:Int}{m:U7}{ks:zR}
def de6(ht:ei t=true)(hg1:1<=g)(hg2:g<=1048576):oV g t= .D (t+g):=by grind[Qb,oV,ij]
def dQ4{J:aaB}{n1 n2:Int}{x:Val}:x∈iM (J.map (pr ks)) (.vs ks) (.D n1) (.D n2)↔ ∃p∈J,p≠(n1,n2)/\x=pr ks p:=by
 have e:iM (J.map (pr ks)) (.vs ks) (.D n1) (.D n2)=(J.map (pr ks)).flatMap (kh (.vs ks) (.D n1) (.D n2)):=by unfold iM;rw[mX];exact Dd (kh (.vs ks) (.D n1) (.D n2)) (.A []) (J.map (pr ks))
 rw[e,x7];constructor;rintro⟨y,hy,hx⟩;obtain⟨p,hp,rfl⟩:=k6.1 hy;refine⟨p,hp,?_⟩;unfold kh at hx;have hs:xd (.vs ks) (.D n1) (.D n2) (pr ks p)=(decide (ks=ks)&&(decide (p.1=n1)&&decide (p.2=n2))):=rfl;rw[hs]at hx;by_cases c:p.1=n1/\p.2=n2;grind
 have hz:(decide (ks=ks)&&(decide (p.1=n1)&&decide (p.2=n2)))=false:=by grind
 rw[hz]at hx;have hx:x∈[eR (pr ks p)]:=hx;rw[m9]at hx;exact⟨λq=>c ⟨by rw[q],by rw[q]⟩,hx⟩
 rintro⟨p,hp,hne,rfl⟩;refine⟨_,k6.2 ⟨p,hp,rfl⟩,?_⟩;unfold kh;have hs:xd (.vs ks) (.D n1) (.D n2) (pr ks p)=(decide (ks=ks)&&(decide (p.1=n1)&&decide (p.2=n2))):=rfl;have hz:(decide (ks=ks)&&(decide (p.1=n1)&&decide (p.2=n2)))=false:=by grind
 rw[hs,hz];exact m9.2 rfl
def dQ5{J:aaB}{n1 n2:Int}:(iM (J.map (pr ks)) (.vs ks) (.D n1) (.D n2)).length<=J.length:=by unfold iM;have:=rG (g:=λi=>kh (.vs ks) (.D n1) (.D n2) (cg (J.map (pr ks)) i)) (m:=1) (λi=>Sj _ _ _ _) (J.map (pr ks)).length;grind
def c35{α:Type}{f:α->List α}: ∀l:List α,(∀y∈l,f y=[]\/f y=[y])->(l.flatMap f).Sublist l
 | [],_=> .slnil
 |a::l,h=>by
  have ih:=c35 l λy hy=>h y (y9 _ hy)
  grind
def dQ6{J:aaB}{n1 n2:Int}:(iM (J.map (pr ks)) (.vs ks) (.D n1) (.D n2)).Sublist (J.map (pr ks)):=by
 have e:iM (J.map (pr ks)) (.vs ks) (.D n1) (.D n2)=(J.map (pr ks)).flatMap (kh (.vs ks) (.D n1) (.D n2)):=by unfold iM;rw[mX];exact Dd (kh (.vs ks) (.D n1) (.D n2)) (.A []) (J.map (pr ks))
 rw[e];refine c35 _ λy hy=> ?_
 obtain⟨p,_,rfl⟩:=k6.1 hy;unfold kh;cases xd (.vs ks) (.D n1) (.D n2) (pr ks p);exact .inr rfl;grind
def e80(m:U7)(ks:zR)(h:((cQ m (.vs ks)).map X3).Nodup):((cQ m (.vs ks)).map X3).Pairwise (λp q=>p.2<q.2\/p.2=q.2/\p.1<q.1):=by
 have h2:=(vT swo_spanV (fU m ks)).2;have h3:((cQ m (.vs ks)).map X3).Pairwise (λp q=> ¬(q.2<p.2\/q.2=p.2/\q.1<p.1)):=by rw[F7];refine J6 ?_ h2;intro a b hab c;apply hab;have:=DB b a;have c:ci b 1<ci a 1\/ci b 1=ci a 1/\ci b 0<ci a 0:=c;rw[j0 c]at this;exact j7 (p:=spanV b a<0) this
 refine J6 ?_ (h3.and h);grind
def bB2(hk:k=3)(hR:X9 k s l g=true){evs:List cU}(hT:TOK (.ses g) evs m)(hm:m.length<=400)(hev:ga evs)(hv:inI v)(he:dp (cE k s l g m ek ks t v)=0):
 ∃R m',eo X (cE k s l g m ek ks t v)= .A R/\dR X (cE k s l g m ek ks t v)= .A m'/\R.length<=16/\(eA (cE k s l g m ek ks t v)).length<=400/\
  TOK (.ses g) (evs++[(ks,t,v)]) m'/\(∀r∈R,nrm r/\dH m' (W7 r)=some (rA r))/\(∀p∈eA (cE k s l g m ek ks t v),dH m' (W7 p)=none/\ ∃a b,p= .A [.vs ks,.D a,.D b])/\R.length<=1/\(∀r∈R,Qn ks t (W7 r))/\((eA (cE k s l g m ek ks t v)).map W7).Pairwise (λp q=>fE p q=true)/\ ∀p∈eA (cE k s l g m ek ks t v),dH m (W7 p)≠none:=by
 obtain⟨e0,e1⟩:=TT he;obtain⟨k32,ht⟩:=wQ e0 e1;obtain⟨hg1,hg2⟩:=Cv hR hk;have hd: ¬(X5 ek ks t v≠0\/ek≠1):=λc=>c.elim (λc=>c e0) (λc=>c e1)
 have hio:=WH hT hev ht hg1 hg2 ks;obtain⟨s1,s2,s3⟩:=Js hT ks;have hsl:(cQ m (.vs ks)).length<=400:=by rw[(NY m ks).length_eq];grind[Nat.le_trans,DT]
 have hown:=de6 ht hg1 hg2;have hse:sr (.D g) m (.vs ks) (.D t) (.D v)=0:=by simp_all[tz,b9,i6]
 have hG:eA (cE k s l g m ek ks t v)=nD (.D g) m (.vs ks) (.D t) (.D v):=by rw[Pz,b9 hd,i6 hk]
 have hR0:eo X (cE k s l g m ek ks t v)= .A (nq (.D g) m (.vs ks) (.D t) (.D v)):=by rw[Su,b9 hd,i6 hk]
 have hP:dR X (cE k s l g m ek ks t v)=eN (fw (.A m) (nD (.D g) m (.vs ks) (.D t) (.D v)) (nD (.D g) m (.vs ks) (.D t) (.D v)).length) (nq (.D g) m (.vs ks) (.D t) (.D v)) (nq (.D g) m (.vs ks) (.D t) (.D v)).length:=by simp_all[IW,b9]
 have hjn:kC (.D g) m (.vs ks) (.D t)=(Tb.joinedOf g t ((cQ m (.vs ks)).map X3)).map λp=>Val.A [.D p.1,.D p.2]:=by
  unfold kC;rw[Y1,Y1,hio,cond_true];unfold qj;rw[Y1,Y1,hown,Y1,<-Xe,TG,o9,o9];refine A1 λr hr=> ?_
  have e:=s3 r (l7.1 hr).1;have e2:(X1 r 0)= .D (X3 r).1:=by rw[e];rfl
  have e3:(X1 r 1)= .D (X3 r).2:=by rw[e];rfl
  show Val.A [X1 r 0,X1 r 1]=Val.A [.D (X3 r).1,.D (X3 r).2];grind
 have hnw:kO (.D g) m (.vs ks) (.D t)=[.D (Tb.nowOf t (t+g) (Tb.joinedOf g t ((cQ m (.vs ks)).map X3))).1,.D (Tb.nowOf t (t+g) (Tb.joinedOf g t ((cQ m (.vs ks)).map X3))).2]:=by simp_all[kO,Y1,cond_true,ir,dQ3]
 have hpn:iS (.D g) m (.vs ks) (.D t)=(Tb.joinedOf g t ((cQ m (.vs ks)).map X3)).map (pr ks):=by unfold iS;rw[hjn,o9];rfl
 have hjl:(Tb.joinedOf g t ((cQ m (.vs ks)).map X3)).length<=400:=by have h1:=J1 (λp:Int×Int=>Tb.lapB p.1 p.2 t (t+g)) ((cQ m (.vs ks)).map X3);rw[k7]at h1;exact p9 h1 hsl
 have hjm: ∀p∈Tb.joinedOf g t ((cQ m (.vs ks)).map X3),∃c,lk m ks p.1 p.2=some c:=λp hp=>by
  have h1:=(l7.1 hp).1;cases hl:lk m ks p.1 p.2 with
  |some c=>grind
  |none=>grind
 have htab:=λM'=>Tb.tab_ses (g:=g) (by omega) (M':=M') (ks,t,v) hT.tab s2 s1
 have hbase:kF m (iS (.D g) m (.vs ks) (.D t)) (.D v)=(Tb.agOf [v]::(Tb.joinedOf g t ((cQ m (.vs ks)).map X3)).map λp=>(lk m ks p.1 p.2).getD (0,0,0,0)).map cP:=by rw[hpn];unfold kF;rw[m8,o9,o9,oX];refine congrArg (List.cons _) (A1 λp hp=> ?_);obtain⟨c,hc⟩:=hjm p hp;show kG m (pr ks p)=cP ((lk m ks p.1 p.2).getD (0,0,0,0));rw[hc];obtain⟨r,hr,_,hA,_,hcol⟩:=Fc (m:=m) (p:=eR (pr ks p)) (a:=c) hc;obtain⟨k',x,y,A,rfl,_,_⟩:=hT.nrm r hr;subst hA;unfold kG KJ;rw[hcol,hcol,hcol,hcol];rfl
 have hcs: ∀a∈(Tb.agOf [v]::(Tb.joinedOf g t ((cQ m (.vs ks)).map X3)).map λp=>(lk m ks p.1 p.2).getD (0,0,0,0)),1<=a.1/\jJ a:=λa ha=>by
  rcases p7.1 ha with rfl|ha
  rw[oX];exact⟨x8 _,AF,hv,hv,hv⟩;obtain⟨p,hp,rfl⟩:=k6.1 ha;obtain⟨c,hc⟩:=hjm p hp;simp_all;exact⟨(hT.pos hc).1,(hT.pos hc).2.1⟩
 have hje:jE ((Tb.agOf [v]::(Tb.joinedOf g t ((cQ m (.vs ks)).map X3)).map λp=>(lk m ks p.1 p.2).getD (0,0,0,0)).map cP)=0:=by rw[<-hbase];exact hse
 obtain⟨hjr,hia⟩:=SH hcs (by grind) (by simp) hje;have hsr:nq (.D g) m (.vs ks) (.D t) (.D v)=[gq ks (Tb.nowOf t (t+g) (Tb.joinedOf g t ((cQ m (.vs ks)).map X3))).1 (Tb.nowOf t (t+g) (Tb.joinedOf g t ((cQ m (.vs ks)).map X3))).2 (Tb.agAll (Tb.agOf [v]::(Tb.joinedOf g t ((cQ m (.vs ks)).map X3)).map λp=>(lk m ks p.1 p.2).getD (0,0,0,0)))]:=by unfold nq;rw[b9 (by omega),hbase,hnw,hjr];rfl
 have hsg:nD (.D g) m (.vs ks) (.D t) (.D v)=iM ((Tb.joinedOf g t ((cQ m (.vs ks)).map X3)).map (pr ks)) (.vs ks) (.D (Tb.nowOf t (t+g) (Tb.joinedOf g t ((cQ m (.vs ks)).map X3))).1) (.D (Tb.nowOf t (t+g) (Tb.joinedOf g t ((cQ m (.vs ks)).map X3))).2):=by simp_all[nD,b9]
 rw[hsg,hsr]at hP;rw[hsr]at hR0;rw[hG,hsg,hR0,hP,c32,Oe];have gm:=λx=>dQ4 (ks:=ks) (J:=Tb.joinedOf g t ((cQ m (.vs ks)).map X3)) (n1:=(Tb.nowOf t (t+g) (Tb.joinedOf g t ((cQ m (.vs ks)).map X3))).1) (n2:=(Tb.nowOf t (t+g) (Tb.joinedOf g t ((cQ m (.vs ks)).map X3))).2) (x:=x)
 have gl:=dQ5 (ks:=ks) (J:=Tb.joinedOf g t ((cQ m (.vs ks)).map X3)) (n1:=(Tb.nowOf t (t+g) (Tb.joinedOf g t ((cQ m (.vs ks)).map X3))).1) (n2:=(Tb.nowOf t (t+g) (Tb.joinedOf g t ((cQ m (.vs ks)).map X3))).2);generalize hAA:Tb.agAll (Tb.agOf [v]::(Tb.joinedOf g t ((cQ m (.vs ks)).map X3)).map λp=>(lk m ks p.1 p.2).getD (0,0,0,0))=A at*
 generalize hJJ:Tb.joinedOf g t ((cQ m (.vs ks)).map X3)=J at*
 generalize hNN:Tb.nowOf t (t+g) J=N at*
 have hjs:J.Pairwise (λp q=>p.2<q.2\/p.2=q.2/\p.1<q.1):=by rw[<-hJJ];exact(e80 m ks s1).filter _
 have hgs:((iM (J.map (pr ks)) (.vs ks) (.D N.1) (.D N.2)).map W7).Pairwise (λp q=>fE p q=true):=by refine List.Pairwise.sublist (dQ6.map _) ?_;rw[o9,F7];refine J6 ?_ hjs;intro p q c;exact(El _ _).2 (.inr ⟨rfl,c⟩)
 have hnow:N.1<=t/\t<N.2:=by obtain⟨h1,h2,_⟩:=Tb.nowOf_le J t (t+g);grind
 generalize iM (J.map (pr ks)) (.vs ks) (.D N.1) (.D N.2)=G at*
 have hlk: ∀q,dH ([gq ks N.1 N.2 A].foldl set1 (G.foldl mw m)) q=if(⟨ks,N.1,N.2⟩:PaneM)=q then some A else if q∈G.map W7 then none else dH m q:=λq=>by show dH (set1 (G.foldl mw m) (gq ks N.1 N.2 A)) q=_;rw[NG,Ur q G m hT.nd,KE,KK]
 have hgq: ∀k' a b,(⟨k',a,b⟩:PaneM)∈G.map W7↔k'=ks/\(a,b)∈J/\(a,b)≠N:=λk' a b=>by rw[k6];constructor;rintro⟨x,hx,e⟩;obtain⟨p,hp,hne,rfl⟩:=(gm x).1 hx;have e:(⟨ks,p.1,p.2⟩:PaneM)=⟨k',a,b⟩:=e;grind;rintro⟨rfl,h1,h2⟩;exact⟨pr k' (a,b),(gm _).2 ⟨(a,b),h1,h2,rfl⟩,rfl⟩
 refine⟨_,_,rfl,rfl,by simp,by omega,⟨htab _ (λa b h=> ?_) (λa b h1 h2=> ?_) (λk' a b h=> ?_),?_,λr hr=> ?_,hT.gap⟩,λr hr=> ?_,λp hp=> ?_,by simp,λr hr=> ?_,hgs,λp hp=> ?_⟩;show dH _ ⟨ks,a,b⟩=some A;grind;show dH _ ⟨ks,a,b⟩=none;grind;show dH _ ⟨k',a,b⟩=dH m ⟨k',a,b⟩;grind;exact Uz _ _ (dv6 G m hT.nd)
 rcases JZ _ _ r hr with h|⟨x,hx,rfl⟩
 exact hT.nrm r ((JG G m).subset h);rw[m9]at hx;subst hx;exact⟨ks,N.1,N.2,A,rfl,by omega,hia⟩;rw[m9]at hr;subst hr;exact⟨⟨ks,N.1,N.2,A,rfl,by omega,hia⟩,by rw[hlk,KE,i6 rfl];rfl⟩;obtain⟨q,h1,h2,rfl⟩:=(gm p).1 hp;refine⟨?_,q.1,q.2,rfl⟩;grind;rw[m9]at hr;subst hr;exact⟨rfl,hnow⟩;obtain⟨q,h1,h2,rfl⟩:=(gm p).1 hp;obtain⟨c,hc⟩:=hjm q h1;exactλe=>by rw[show dH m (W7 (pr ks q))=lk m ks q.1 q.2 from rfl,hc]at e;cases e
def RV(hk:k=3)(hR:X9 k s l g=true){evs:List cU}(hT:TOK (.ses g) evs m)(hm:m.length<=400)(hev:ga evs)(hv:inI v)(he:dp (cE k s l g m ek ks t v)=0):
 ∃R m',eo X (cE k s l g m ek ks t v)= .A R/\dR X (cE k s l g m ek ks t v)= .A m'/\R.length<=16/\(eA (cE k s l g m ek ks t v)).length<=400/\
  TOK (.ses g) (evs++[(ks,t,v)]) m'/\(∀r∈R,nrm r/\dH m' (W7 r)=some (rA r))/\ ∀p∈eA (cE k s l g m ek ks t v),dH m' (W7 p)=none/\ ∃a b,p= .A [.vs ks,.D a,.D b]:=by
 obtain⟨R,m',a,b,c,d,e,f,g',_⟩:=bB2 hk hR hT hm hev hv he;exact⟨R,m',a,b,c,d,e,f,g'⟩
def dU(k s l g:Int):Tb.Wd:=if k=3 then .ses g else .win (ku (dY k s l) s)
def MD(hX:XOk X)(hR:X9 k s l g=true){evs:List cU}(hT:TOK (dU k s l g) evs m)(hm:m.length<=400)(hev:ga evs)(hv:inI v)(he:dp (cE k s l g m ek ks t v)=0):
 ∃R m',eo X (cE k s l g m ek ks t v)= .A R/\dR X (cE k s l g m ek ks t v)= .A m'/\R.length<=16/\(eA (cE k s l g m ek ks t v)).length<=400/\
  TOK (dU k s l g) (evs++[(ks,t,v)]) m'/\(∀r∈R,nrm r/\dH m' (W7 r)=some (rA r))/\ ∀p∈eA (cE k s l g m ek ks t v),dH m' (W7 p)=none/\ ∃a b,p= .A [.vs ks,.D a,.D b]:=by
 by_cases hk:k=3;have hw:dU k s l g= .ses g:=i6 hk;rw[hw]at hT⊢;exact RV hk hR hT hm hev hv he;have hw:dU k s l g= .win (ku (dY k s l) s):=b9 hk;grind[a3,d35]
def d41(hX:XOk X)(hR:X9 k s l g=true){evs:List cU}(hT:TOK (dU k s l g) evs m)(hm:m.length<=400)(hev:ga evs)(hv:inI v)(he:dp (cE k s l g m ek ks t v)=0):
 ∃R,eo X (cE k s l g m ek ks t v)= .A R/\(R.map W7).Nodup/\(∀r∈R,Qn ks t (W7 r))/\(R.length<=1\/ ∃L,Val.A R=X 490 [.A L])/\((eA (cE k s l g m ek ks t v)).map W7).Pairwise (λp q=>fE p q=true)/\ ∀p∈eA (cE k s l g m ek ks t v),dH m (W7 p)≠none:=by
 by_cases hk:k=3;rw[dU,i6 hk]at hT;obtain⟨R,m',a,b,c,d,e,f,g',h1,h2,h3,h4⟩:=bB2 hk hR hT hm hev hv he;refine⟨R,a,?_,h2,.inl h1,h3,h4⟩
 match R,h1 with
 | [],_=>exact .nil
 | [x],_=>simp
 .rw[dU,b9 hk]at hT;obtain⟨R,a1,a2,a3,a4,a5,a6,a7,a8,a9⟩:=bB0 hX hk hR hT hv he;simp_all
end
variable{evs:List cU}
def Ql{α:Type}(f:α->Nat)(c:Nat): ∀l:List α,(∀x∈l,f x<=c)->Tb.sumN (l.map f)<=c*l.length
 | [],_=>by exact s8 _
 |x::l,h=>by have h2:=Ql f c l (λy hy=>h y (y9 _ hy));grind[Tb.sumN,Nat.mul_add]
def cF7{α:Type}(f:α->Nat): ∀l:List α,(∀x∈l,1<=f x)->l.length<=Tb.sumN (l.map f)
 | [],_=>j6 _
 |x::l,h=>by have h2:=cF7 f l (λy hy=>h y (y9 _ hy));grind[Tb.sumN]
def ox(r:Val)(x:cU):Bool:=Tb.inP (W7 r).key (W7 r).a (W7 r).b x
def Ek(r:Val):Int×Int:=((W7 r).a,(W7 r).b)
def ce5{W:Tb.Wd}{m:U7}(hT:TOK W evs m)(x:cU):
 ((m.filter λr=>ox r x).map Ek).Nodup/\ ∀a b,(a,b)∈(m.filter λr=>ox r x).map Ek↔Tb.Pan W evs x.1 a b/\a<=x.2.1/\x.2.1<b:=by
 have hkey: ∀r∈m.filter λr=>ox r x,(W7 r).key=x.1/\(W7 r).a<=x.2.1/\x.2.1<(W7 r).b:=λr hr=>by obtain⟨q1,q2,q3⟩:=Tb.inP_iff.1 (l7.1 hr).2;grind
 have hnd:((m.filter λr=>ox r x).map W7).Nodup:=hT.nd.sublist (E5.map _);refine⟨?_,λa b=> ?_⟩
 rw[G7,F7]at hnd⊢;refine hnd.imp_of_mem λ{r r'} hr hr' hne e=>hne ?_
 have e1:(W7 r).a=(W7 r').a:=congrArg Prod.fst e;have e2:(W7 r).b=(W7 r').b:=congrArg Prod.snd e;grind[W7];rw[k6];constructor
 rintro⟨r,hr,e⟩;obtain⟨q1,q2,q3⟩:=hkey r hr;have hm:=(l7.1 hr).1;have hl:=tP hT.nd hm;have e1:(W7 r).a=a:=congrArg Prod.fst e;have e2:(W7 r).b=b:=congrArg Prod.snd e;have hp:W7 r=⟨x.1,a,b⟩:=by grind[W7]
 rw[hp]at hl;rw[e1]at q2;rw[e2]at q3;exact⟨((hT.tab _ _ _ _).1 hl).1,q2,q3⟩;rintro⟨h1,h2,h3⟩;have hl:=(hT.tab x.1 a b _).2 ⟨h1,rfl⟩;obtain⟨r,hr,hp,_⟩:=wk hl;refine⟨r,l7.2 ⟨hr,?_⟩,?_⟩;unfold ox;rw[hp];exact Tb.inP_iff.2 ⟨rfl,h2,h3⟩;grind[Ek]
section
variable{k s l g:Int}{m:U7}
def d42(hR:X9 k s l g=true)(hT:TOK (dU k s l g) evs m)(hev:ga evs){x:cU}(hx:x∈evs):(m.filter λr=>ox r x).length=(dF k s l g (.D x.2.1)).length:=by
 obtain⟨h1,h2⟩:=ce5 hT x;have ht:=(hev x hx).1;have lm:((m.filter λr=>ox r x).map Ek).length=(m.filter λr=>ox r x).length:=k7 ..;rw[<-lm];by_cases hk:k=3
 have hw:dU k s l g= .ses g:=i6 hk;rw[hw]at h2;obtain⟨hg1,_⟩:=Cv hR hk;obtain⟨L,q1,q2⟩:=Tb.ses_ex (g:=g) (by omega) x.1 evs;obtain⟨p,p1,p2,p3⟩:=q2 x.2.1 ⟨x,hx,rfl,rfl⟩;have hs:=(q1 p.1 p.2).1 p1;have hp:((m.filter λr=>ox r x).map Ek).Perm [p]:=by
  refine(G3 h1 (by simp)).2 λab=> ?_
  rw[m9];refine(h2 ab.1 ab.2).trans ⟨λ⟨c1,c2,c3⟩=> ?_,λc=> ?_⟩;have:=Tb.isS.one c1 hs ⟨by omega,by omega⟩;exact O7 this.1 this.2;subst c;exact⟨hs,p2,by omega⟩
 rw[hp.length_eq];grind[dF,Y1];have hw:dU k s l g= .win (ku (dY k s l) s):=b9 hk;rw[hw]at h2;obtain⟨p1,p2,p3⟩:=Dx (t:=x.2.1) hR hk ht;have lo:((dF k s l g (.D x.2.1)).map X3).length=(dF k s l g (.D x.2.1)).length:=k7 ..;rw[<-lo];refine List.Perm.length_eq ((G3 h1 p1).2 λab=> ?_);refine(h2 ab.1 ab.2).trans (Iff.trans ?_ (p2 ab.1 ab.2).symm);constructor;rintro⟨⟨c1,_⟩,c2,c3⟩;grind;rintro⟨c1,c2,c3⟩;exact⟨⟨c1,x.2.1,⟨x,hx,rfl,rfl⟩,c2,c3⟩,c2,c3⟩
def NQ{W:Tb.Wd}(hT:TOK W evs m){r:Val}(hr:r∈m):1<=ci r 3/\(ci r 3).toNat=(evs.filter (ox r)).length/\rA r=Tb.agOf (Tb.vals evs (W7 r).key (W7 r).a (W7 r).b)/\Tb.vals evs (W7 r).key (W7 r).a (W7 r).b≠[]:=by have hl:=tP hT.nd hr;obtain⟨q1,q2,q3,q4⟩:=hT.pos hl;have e:ci r 3=((Tb.vals evs (W7 r).key (W7 r).a (W7 r).b).length:Int):=congrArg Prod.fst q3;refine⟨q1,?_,q3,Tb.Pan.ne hT.gap q4⟩;rw[e,Int.toNat_natCast];unfold Tb.vals;rw[k7];rfl
def Wn(m:U7):Nat:=Tb.sumN (m.map λr=>(ci r 3).toNat)
def MM(k s l g:Int)(evs:List cU):Nat:=Tb.sumN (evs.map λx=>(dF k s l g (.D x.2.1)).length)
def d44(hR:X9 k s l g=true)(hT:TOK (dU k s l g) evs m)(hev:ga evs):Wn m=MM k s l g evs:=by unfold Wn MM;rw[A1 (λr hr=>(NQ hT hr).2.1),Tb.twice (λr x=>ox r x) evs m];congr 1;exact A1 λx hx=>d42 hR hT hev hx
theorem WF(k s l g:Int)(t:Val):(dF k s l g t).length<=16:=by by_cases hk:k=3;unfold dF;grind;exact TS hk
def dw0(k s l g:Int)(t:Val)(hk:k=3):(dF k s l g t).length<=1:=by unfold dF;grind
theorem dw1(k s l g:Int)(evs:List cU):MM k s l g evs<=16*evs.length/\(k=3->MM k s l g evs<=evs.length):=by
 refine⟨Ql _ 16 evs λx _=>WF k s l g _,λhk=> ?_⟩;have:=Ql (λx:cU=>(dF k s l g (.D x.2.1)).length) 1 evs λx _=>dw0 k s l g _ hk
 rw[F9]at this;exact this
def dw2(hR:X9 k s l g=true)(hT:TOK (dU k s l g) evs m)(hev:ga evs):m.length<=16*evs.length/\(k=3->m.length<=evs.length):=by
 have h1:m.length<=Wn m:=cF7 _ m λr hr=>by have:=(NQ hT hr).1;omega
 rw[d44 hR hT hev]at h1;grind[dw1]
end
def sy{I:Opq}(a b:SX):dB I (dO a b)=decide ((bZ I b).I<(bZ I a).I):=rfl
def gE{I:Opq}(a b:SX):dB I (zs a b)=decide ((bZ I a).I<(bZ I b).I):=rfl
def lZ{l:U7}{i:Nat}(h:i<l.length):cg l i∈l:=by
 have e:cg l i=l[i]:=by simp[cg,k5,h]
 rw[e];exact B6 h
section
variable{X:Nat->U7->Val}{I:Opq}(hf: ∀i a,I.f i a=FT X i a)
include hf
end
structure RC (I:Opq) (k s l g:Int) (ops:U7) (i:Nat) (m:U7) (ek:Int) (ks:zR) (t v:Int):Prop where
 w0:I.w 0= .D k
 w1:I.w 1= .D s
 w2:I.w 2= .D l
 w3:I.w 3= .D g
 w4:I.w 4= .A ops
 wi:I.w 2003= .D i
 wm:I.w 2004= .A m
 row:cg ops i= .A [.D ek,.vs ks,.D t,.D v]
def AB(k:Int)(m:U7):Prop:=(∀r∈m,nrm r)/\(m.map W7).Nodup/\m.length<=400/\(k=3->m.length<=24)
section
variable{X:Nat->U7->Val}{I:Opq}{k s l g:Int}{ops:U7}{i:Nat}{m:U7}{ek:Int}{ks:zR}{t v:Int}
def RC.up(h:RC I k s l g ops i m ek ks t v)(vs:U7):RC (I.U 4000 vs) k s l g ops i m ek ks t v:=by
 have W: ∀n:Nat,n<4000->(I.U 4000 vs).w n=I.w n:=λn hn=>by simp_all[cT,b9]
 exact⟨(W 0 (by omega)).trans h.w0,(W 1 (by omega)).trans h.w1,(W 2 (by omega)).trans h.w2,(W 3 (by omega)).trans h.w3,(W 4 (by omega)).trans h.w4,(W 2003 (by omega)).trans h.wi,(W 2004 (by omega)).trans h.wm,h.row⟩
def RC.ex(h:RC I k s l g ops i m ek ks t v)(j:Nat):bZ I (ex j)=X1 (.A [.D ek,.vs ks,.D t,.D v]) j:=by show Y3 (I.w 4).L (I.w 2003).I (j:Int)=_;rw[h.w4,h.wi,<-h.row];rfl
def RC.aX(h:RC I k s l g ops i m ek ks t v):X4 I aX=cE k s l g m ek ks t v:=by show [I.w 0,I.w 1,I.w 2,I.w 3,I.w 2004,bZ I (S9.ex (0:Nat)),bZ I (S9.ex (1:Nat)),bZ I (S9.ex (2:Nat)),bZ I (S9.ex (3:Nat))]=_;rw[h.w0,h.w1,h.w2,h.w3,h.wm,h.ex,h.ex,h.ex,h.ex];rfl
variable(hf: ∀i a,I.f i a=FT X i a)
include hf
def RC.x730(h:RC I k s l g ops i m ek ks t v):bZ I x730= .A (eA (cE k s l g m ek ks t v)):=by show I.f 730 (X4 I S9.aX)=_;rw[h.aX,hf];rfl
def RC.x731(h:RC I k s l g ops i m ek ks t v):bZ I x731=eo X (cE k s l g m ek ks t v):=by show I.f 731 (X4 I S9.aX)=_;rw[h.aX,hf];rfl
def RC.x733(h:RC I k s l g ops i m ek ks t v):bZ I x733=dR X (cE k s l g m ek ks t v):=by show I.f 733 (X4 I S9.aX)=_;rw[h.aX,hf];rfl
def Hs(hX:XOk X){x:SX}(hd:bZ I x= .A m)(ho:AB k m):dB I (ej7 x)=true:=by show((decide (((bZ I x).L.length:Int)<=400)&&(I.f 431 [bZ I x]).Z)&&(I.f 491 [bZ I x]).Z)=true;rw[hf,hf,hd];have h1:=hX.x431 m (λr hr=>Bn (ho.1 r hr));have h2:=hX.x491 m ho.2.1;show((decide ((m.length:Int)<=400)&&(X 431 [.A m]).Z)&&(X 491 [.A m]).Z)=true;have h3:=ho.2.2.1;grind
def dQ7{e0 e1 e2:SX}(h0:bZ I e0= .D k)(h1:bZ I e1= .A m)(h2:bZ I e2= .vs ks)(ho:AB k m):dB I (.Q 739 [e0,e1,e2])=true:=by show(I.f 739 [bZ I e0,bZ I e1,bZ I e2]).Z=true;rw[hf,h0,h1,h2];show((!decide (k=3)||decide (m.length<=24))&&true)=true;by_cases c:k=3;rw[j0 c,j0 (ho.2.2.2 c)];rfl;grind
end
def cK(x:cU):Val:= .A [.D 1,.vs x.1,.D x.2.1,.D x.2.2]
def BG(evs:List cU):Prop:= ∀x∈evs,X5 1 x.1 x.2.1 x.2.2=0
def de8{r:Val}(h:nB r=true): ∃ek ks t v,r= .A [.D ek,.vs ks,.D t,.D v]/\inI v:=by unfold nB at h;split at h;rename_i ek ks t v;rw[j8,decide_eq_true_eq,decide_eq_true_eq]at h;exact⟨ek,ks,t,v,rfl,h⟩;cases h
section
variable{X:Nat->U7->Val}{k s l g:Int}{m:U7}
def GD(hR:X9 k s l g=true){evs:List cU}(hT:TOK (dU k s l g) evs m)(hev:ga evs)(hl:evs.length<=24):AB k m:=by obtain⟨h1,h2⟩:=dw2 hR hT hev;exact⟨hT.nrm,hT.nd,by omega,λhk=>by omega⟩
def cF9(hR:X9 k s l g=true):TOK (dU k s l g) [] []:=
 ⟨Tb.tab_nil _,List.nodup_nil,λr h=>absurd h (D9),λg' h=>by
  unfold dU at h;by_cases hk:k=3;rw[i6 hk]at h;cases h;have:=(Cv hR hk).1;omega
  grind⟩
def cG0{evs:List cU}{x:cU}(h:ga evs)(ht:ei x.2.1=true)(hv:inI x.2.2):ga (evs++[x]):=λy hy=>by
 rcases t8.1 hy with h1|h1
 exact h y h1;grind
def cG1{evs:List cU}{x:cU}(h:BG evs)(hv:X5 1 x.1 x.2.1 x.2.2=0):BG (evs++[x]):=λy hy=>by
 rcases t8.1 hy with h1|h1
 exact h y h1;grind
def Vt{ops:U7}{i:Nat}{ek:Int}{ks:zR}{t v:Int}{M:Val}(hM:M= .A m)(h:cg ops i= .A [.D ek,.vs ks,.D t,.D v]):oP (.D k) (.D s) (.D l) (.D g) M (cg ops i)=cE k s l g m ek ks t v:=by rw[h,hM];rfl
variable{I:Opq}(hf: ∀i a,I.f i a=FT X i a)
include hf
end
section
variable{X:Nat->U7->Val}{I:Opq}(hf: ∀i a,I.f i a=FT X i a)
include hf
end
section
variable{X:Nat->U7->Val}{k s l g:Int}
variable{I:Opq}(hf: ∀i a,I.f i a=FT X i a)
include hf
end
def d45{W:Tb.Wd}{evs evs':List cU}{m m':U7}(h:TOK W evs m)(h':TOK W evs' m')(hp:evs'.Perm evs):m'.Perm m:=by
 have hu:=Tb.Tab.uniq (h'.tab.perm hp) h.tab;have nd: ∀{q:U7},(q.map W7).Nodup->q.Nodup:=λ{q} hq=>by rw[G7,F7]at hq;exact G7.2 (hq.imp λhne e=>hne (by rw[e]))
 have one: ∀{q q':U7},(∀r∈q,nrm r)->(∀r∈q',nrm r)->(q.map W7).Nodup->(∀p,dH q p=dH q' p)-> ∀r∈q,r∈q':=λ{q q'} n1 n2 hq he r hr=>by have h1:=tP hq hr;rw[he]at h1;obtain⟨r',hr',e1,e2⟩:=wk h1;obtain⟨a,b,c,d,rfl,_,_⟩:=n1 r hr;obtain⟨a',b',c',d',rfl,_,_⟩:=n2 r' hr';have e1:(⟨a',b',c'⟩:PaneM)=⟨a,b,c⟩:=e1;have e2:d'=d:=e2;grind
 have hall: ∀p:PaneM,dH m' p=dH m p:=λp=>hu p.key p.a p.b
 exact(G3 (nd h'.nd) (nd h.nd)).2 λr=>⟨one h'.nrm h.nrm h'.nd hall r,one h.nrm h'.nrm h.nd (λp=>(hall p).symm) r⟩
def Io{v:Val}(h:iu v=true): ∃n,v= .D n:=by
 cases v with
 |D n=>grind
 |vs _=>cases h
 |B _=>cases h
 |A _=>cases h
def dw3{v:Val}(h:CB v=true): ∃l,v= .A l/\ ∀r∈l,nB r=true:=by
 cases v with
 |A l=>exact⟨l,rfl,l5.1 h⟩
 |vs _=>cases h
 |B _=>cases h
 |D _=>cases h
section
variable{X:Nat->U7->Val}{I:Opq}(hf: ∀i a,I.f i a=FT X i a)
include hf
