import Derived.Test.YtcmjiepodnicoaaGreatEL3
import Derived.Test.YtcmjiepodnicoaaGreatEM1
set_option linter.unusedSimpArgs false
set_option linter.unusedVariables false
namespace Go.Ev.S9
open Go Go.Ev
def rA(r:Val):Tb.Ag:=(ci r 3,ci r 4,ci r 5,ci r 6)
def dX(m:List Val)(p:PaneM):Option Tb.Ag:=(m.find? λr=>decide (Z6 r=p)).map rA
def lk(m:List Val)(k:List UInt8)(s e:Int):Option Tb.Ag:=dX m ⟨k,s,e⟩
def set1(m:List Val)(r:Val):List Val:=bif gO m (eP r)then m.set (gV m (eP r)) (cQ r)else m++[cQ r]
def mS(m:List Val)(p:Val):List Val:=m.eraseIdx (gV m (eP p))
theorem cM4(r p:Val):io [.str,.int .i64,.int .i64] r p=decide (Z6 r=Z6 p):=by
 show(decide ((Z7 p 0).toS=(Z7 r 0).toS)&&(decide ((Z7 p 1).toI=(Z7 r 1).toI)&&(decide ((Z7 p 2).toI=(Z7 r 2).toI)&&true)))=_;simp[j6,decide_eq_true_eq,Z6,PaneM.mk.injEq];grind
theorem cM5(l:List Val)(p:Val):gV l p=l.findIdx λr=>decide (Z6 r=Z6 p):=by
 grind[gV,cM4]
theorem LS(x:Val)(m:List Val)(p:Val):gV (x::m) p=if Z6 x=Z6 p then 0 else gV m p+1:=by
 simp_all[cM5,List.findIdx_cons,Z6,e8,c9,b9,i6]
theorem DY(x:Val)(m:List Val)(p:Val):gO (x::m) p=(decide (Z6 x=Z6 p)||gO m p):=by
 unfold gO;rw[LS];grind
theorem dS3(x:Val)(m:List Val)(n:Nat):cg (x::m) (n+1)=cg m n:=rfl
theorem SW(x:Val)(m:List Val)(p:Val)(j:Nat):ii (x::m) p j=if Z6 x=Z6 p then Z7 x j else ii m p j:=by
 unfold ii;rw[DY,LS];by_cases h:Z6 x=Z6 p
 .rw[e8 h,e8 h,c9 h];rfl
 simp_all[b9,i6,B2,dS3]
theorem rY(x:Val)(m:List Val)(p:PaneM):dX (x::m) p=if Z6 x=p then some (rA x)else dX m p:=by
 unfold dX;grind
theorem de2(p:PaneM):dX [] p=none:=rfl
theorem RJ(x:Val)(m:List Val)(r:Val):set1 (x::m) r=if Z6 x=Z6 r then cQ r::m else x::set1 m r:=by
 unfold set1;rw[DY,LS];have e:Z6 (eP r)=Z6 r:=rfl;grind
theorem RY(r:Val):set1 [] r=[cQ r]:=rfl
theorem ct8(x:Val)(m:List Val)(r:Val):mS (x::m) r=if Z6 x=Z6 r then m else x::mS m r:=by
 unfold mS;rw[LS];have e:Z6 (eP r)=Z6 r:=rfl;grind
theorem IU(r:Val)(p:PaneM): ∀m:List Val,dX (set1 m r) p=if Z6 r=p then some (rA r)else dX m p
 | []=>by rw[RY,rY];rfl
 |x::m=>by
  rw[RJ];by_cases h:Z6 x=Z6 r
  .rw[e8 h,rY,rY];have e:Z6 (cQ r)=Z6 r:=rfl;rw[e,h];by_cases h2:Z6 r=p
   .rw[e8 h2,e8 h2];rfl
   grind
  .rw[b9 h,rY,rY,IU r p m];grind
theorem QL(r:Val): ∀m:List Val,∀x∈set1 m r,x∈m\/x=cQ r
 | [],x,h=>by grind[RY,List.mem_singleton]
 |y::m,x,h=>by
  rw[RJ]at h;by_cases c:Z6 y=Z6 r
  .grind
  .rw[b9 c]at h;rcases m8.1 h with h|h
   .grind
   .rcases QL r m x h with h|h
    .exact .inl (y7 _ h)
    grind
theorem WP(r:Val): ∀m:List Val,(m.map Z6).Nodup->((set1 m r).map Z6).Nodup
 | [],h=>by rw[RY];simp
 |y::m,h=>by
  rw[l9,F7]at h;rw[RJ];by_cases c:Z6 y=Z6 r
  .have e:Z6 (cQ r)=Z6 y:=c.symm;grind
  .rw[b9 c,l9,F7];refine⟨λhm=> ?_,WP r m h.2⟩;obtain⟨x,hx,e⟩:=j7.1 hm;rcases QL r m x hx with q|q
   .grind
   .subst q;exact c e.symm
theorem bW6(p:Val)(m:List Val):(mS m p).Sublist m:=U8 _ _
theorem cM6{m:List Val}{p:PaneM}(h:p∉m.map Z6):dX m p=none:=by
 simp_all[dX,A7,decide_eq_true_eq,j7]
theorem bW7(r:Val)(p:PaneM): ∀m:List Val,(m.map Z6).Nodup->dX (mS m r) p=if Z6 r=p then none else dX m p
 | [],h=>by
   have e:mS [] r=[]:=rfl;rw[e,de2];simp
 |x::m,h=>by
  rw[l9,F7]at h;rw[ct8];by_cases c:Z6 x=Z6 r
  .rw[e8 c,rY];by_cases d:Z6 r=p
   .rw[e8 d,cM6 (by rw[<-d,<-c];exact h.1)]
   .rw[b9 d,b9 (by rw[c];exact d)]
  .rw[b9 c,rY,rY,bW7 r p m h.2];by_cases d:Z6 r=p
   .rw[e8 d,e8 d,b9 (by rw[<-d];exact c)]
   .rw[b9 d,b9 d]
theorem wU{m:List Val}{p:PaneM}{a:Tb.Ag}(h:dX m p=some a): ∃r∈m,Z6 r=p/\rA r=a:=by
 obtain⟨r,h1,h2⟩:=o9.1 h;grind
theorem uq: ∀{m:List Val} {r:Val},(m.map Z6).Nodup->r∈m->dX m (Z6 r)=some (rA r)
 | [],r,_,h=>absurd h (E7)
 |x::m,r,hn,h=>by
  rw[l9,F7]at hn;rw[rY];rcases m8.1 h with rfl|h
  .grind
  .rw[b9 λe=>hn.1 (j7.2 ⟨r,h,e.symm⟩)];exact uq hn.2 h
theorem Aw{p:Val}{a:Tb.Ag}: ∀{m:List Val},dX m (Z6 p)=some a-> ∃r∈m,Z6 r=Z6 p/\rA r=a/\gO m p=true/\ ∀j,ii m p j=Z7 r j
 | [],h=>by cases h
 |x::m,h=>by
  rw[rY]at h;by_cases c:Z6 x=Z6 p
  .rw[e8 c]at h;exact⟨x,B8 ..,c,S0 h,by grind[DY,decide_eq_true],λj=>by rw[SW,e8 c]⟩
  .rw[b9 c]at h;obtain⟨r,h1,h2,h3,h4,h5⟩:=Aw h;exact⟨r,y7 _ h1,h2,h3,by rw[DY,h4,Bool.or_true],λj=>by simp_all[SW,b9]⟩
theorem Nu{p:Val}: ∀{m:List Val},dX m (Z6 p)=none->gO m p=false/\ ∀j,ii m p j= .vi 0
 | [],h=>⟨rfl,λj=>rfl⟩
 |x::m,h=>by
  rw[rY]at h;by_cases c:Z6 x=Z6 p
  .grind
  .rw[b9 c]at h;obtain⟨h1,h2⟩:=Nu h;simp_all[DY,i6,SW,b9]
theorem yk{l:List Val}{n:Nat}(h:n<l.length):l.take (n+1)=l.take n++[cg l n]:=by
 have e:cg l n=l[n]:=by simp[cg,j8,h]
 rw[e,K8]
theorem cu0(m R:List Val): ∀n,n<=R.length->fI (.vl m) R n= .vl ((R.take n).foldl set1 m)
 |0,_=>rfl
 |n+1,h=>by
  rw[yk (by omega),T5];unfold fI;rw[cu0 m R n (by omega)];show(bif gO ((R.take n).foldl set1 m) (eP (cg R n))then Val.vl (((R.take n).foldl set1 m).set (gV ((R.take n).foldl set1 m) (eP (cg R n))) (cQ (cg R n)))else Val.vl (((R.take n).foldl set1 m)++[cQ (cg R n)]))=Val.vl (set1 ((R.take n).foldl set1 m) (cg R n));grind[set1,gO,eP,cg]
theorem UA(m R:List Val):fI (.vl m) R R.length= .vl (R.foldl set1 m):=by
 simp_all[cu0,e9,A8]
theorem cu1(m R:List Val): ∀n,n<=R.length->gq (.vl m) R n= .vl ((R.take n).foldl mS m)
 |0,_=>rfl
 |n+1,h=>by
  rw[yk (by omega),T5];unfold gq;rw[cu1 m R n (by omega)];rfl
theorem bW8(m R:List Val):gq (.vl m) R R.length= .vl (R.foldl mS m):=by
 simp_all[cu1,e9,A8]
theorem Ns{p:PaneM}: ∀(R m:List Val),p∉R.map Z6->dX (R.foldl set1 m) p=dX m p
 | [],m,h=>rfl
 |r::R,m,h=>by
  rw[l9,m8]at h;rw[List.foldl_cons,Ns R _ (λx=>h (.inr x)),IU,b9 λe=>h (.inl e.symm)]
theorem Lk{r:Val}: ∀(R m:List Val),(R.map Z6).Nodup->r∈R->dX (R.foldl set1 m) (Z6 r)=some (rA r)
 | [],m,_,h=>absurd h (E7)
 |x::R,m,hn,h=>by
  rw[l9,F7]at hn;rw[List.foldl_cons];rcases m8.1 h with rfl|h
  .rw[Ns R _ hn.1,IU,e8 rfl]
  .exact Lk R _ hn.2 h
theorem Ng: ∀(R m:List Val),∀x∈R.foldl set1 m,x∈m\/ ∃r∈R,x=cQ r
 | [],m,x,h=> .inl h
 |r::R,m,x,h=>by
  rcases Ng R (set1 m r) x h with h|⟨y,h1,h2⟩
  .rcases QL r m x h with h|h
   .exact .inl h
   .exact .inr ⟨r,B8 ..,h⟩
  grind
theorem SE: ∀(R m:List Val),(m.map Z6).Nodup->((R.foldl set1 m).map Z6).Nodup
 | [],m,h=>h
 |r::R,m,h=>SE R _ (WP r m h)
theorem LK: ∀(G m:List Val),(G.foldl mS m).Sublist m
 | [],m=>List.Sublist.refl _
 |g::G,m=>(LK G (mS m g)).trans (bW6 g m)
theorem de3(G m:List Val)(h:(m.map Z6).Nodup):((G.foldl mS m).map Z6).Nodup:=h.sublist ((LK G m).map _)
theorem Oq(p:PaneM): ∀(G m:List Val),(m.map Z6).Nodup->dX (G.foldl mS m) p=if p∈G.map Z6 then none else dX m p
 | [],m,h=>by simp
 |g::G,m,h=>by
  rw[List.foldl_cons,Oq p G _ (h.sublist ((bW6 g m).map _)),bW7 g p m h,l9];grind
def dz(a:Tb.Ag):Val:= .vl [.vi a.1,.vi a.2.1,.vi a.2.2.1,.vi a.2.2.2]
def kJ(a:Tb.Ag):Prop:=cP a.1/\cP a.2.1/\cP a.2.2.1/\cP a.2.2.2
theorem Ot:cP 0:=⟨by decide,by decide⟩
theorem Ac:cP 1:=⟨by decide,by decide⟩
theorem bW9{g g':Nat->List Val}: ∀n,(∀k,k<n->g k=g' k)->cB g n=cB g' n
 |0,_=>rfl
 |n+1,h=>by rw[cB,cB,bW9 n (λk hk=>h k (by omega)),h n (by omega)]
theorem Xe(L:List Val): ∀n,n<=L.length->pT (λk=>ci (cg L k) 0) n=Tb.sumI ((L.take n).map λr=>ci r 0)
 |0,_=>rfl
 |n+1,h=>by
  rw[yk (by omega),n8,Tb.sumI_app,<-Xe L n (by omega)];show _+_=_+(ci (cg L n) 0+0);grind
theorem Rn(L:List Val):pT (λk=>ci (cg L k) 0) L.length=Tb.sumI (L.map λr=>ci r 0):=by
 rw[Xe L _ (e9 _),A8]
theorem VW{L:List Val}(hL: ∀r∈L,cP (ci r 0))(hn:L.length<=1000000)(h:gC L=0):cP (Tb.sumI (L.map λr=>ci r 0))/\pQ L=Tb.sumI (L.map λr=>ci r 0):=by
 have hg: ∀k,cP (ci (cg L k) 0):=λk=>by
  by_cases c:k<L.length
  .have e:cg L k=L[k]:=by simp[cg,j8,c]
   rw[e];exact hL _ (B5 c)
  .have e:cg L k= .vl []:=by simp[cg,j8,t7 (C8.1 c)]
   rw[e];exact Ot
 obtain⟨h1,h2⟩:=by2 hg hn;rw[Rn]at h1 h2;have h0:(fZ (λk=>ci (cg L k) 0) L.length).2=0:=by
  unfold gC js at h;by_cases c:(fZ (λk=>ci (cg L k) 0) L.length).2=0
  .exact c
  .rw[b9 c]at h;cases h
 simp_all[pQ,js,e8]
theorem cu3{gs:List Tb.Ag}(x:Tb.Ag)(h:gs≠[]):Tb.agAll (gs++[x])=Tb.ag2 (Tb.agAll gs) x:=by
 cases gs with
 |nil=>grind
 |cons a l=>
  show(l++[x]).foldl Tb.ag2 a=_;rw[T5];rfl
theorem bX0: ∀(l:List Tb.Ag) (a:Tb.Ag),(l.foldl Tb.ag2 a).1=a.1+Tb.sumI (l.map (·.1))/\(l.foldl Tb.ag2 a).2.1=a.2.1+Tb.sumI (l.map (·.2.1))
 | [],a=>⟨(K9 _).symm,(K9 _).symm⟩
 |x::l,a=>by
  obtain⟨h1,h2⟩:=bX0 l (Tb.ag2 a x);rw[List.foldl_cons,h1,h2];refine⟨?_,?_⟩
  .show a.1+x.1+_=a.1+(x.1+_);omega
  .show a.2.1+x.2.1+_=a.2.1+(x.2.1+_);omega
theorem Pa{gs:List Tb.Ag}:(Tb.agAll gs).1=Tb.sumI (gs.map (·.1))/\(Tb.agAll gs).2.1=Tb.sumI (gs.map (·.2.1)):=by
 cases gs with
 |nil=>exact⟨rfl,rfl⟩
 |cons a l=>exact bX0 l a
theorem WZ: ∀(l:List Tb.Ag) (a:Tb.Ag),cP a.2.2.1/\cP a.2.2.2->(∀x∈l,kJ x)->cP (l.foldl Tb.ag2 a).2.2.1/\cP (l.foldl Tb.ag2 a).2.2.2
 | [],a,h,_=>h
 |x::l,a,h,hl=>by
  refine WZ l _ ?_ (λy hy=>hl y (y7 _ hy));have hx:=(hl x (B8 ..)).2.2;show cP (min a.2.2.1 x.2.2.1)/\cP (max a.2.2.2 x.2.2.2);grind
theorem cM7{gs:List Tb.Ag}(hne:gs≠[])(h: ∀x∈gs,kJ x):cP (Tb.agAll gs).2.2.1/\cP (Tb.agAll gs).2.2.2:=by
 cases gs with
 |nil=>grind
 |cons a l=>exact WZ l a (h a (B8 ..)).2.2 (λx hx=>h x (y7 _ hx))
theorem TZ{gs:List Tb.Ag}{k:Nat}(h:k<gs.length):cg (gs.map dz) k=dz gs[k]:=by simp[cg,j8,h]
theorem Pg{a:Tb.Ag}(h:1<=a.1):uL (dz a)=false:=by
 show rU a.1 a.2.1 a.2.2.1 a.2.2.2=false;grind[rU,decide_eq_false]
theorem cW9{gs:List Tb.Ag}(hc: ∀a∈gs,1<=a.1/\kJ a)(c:Nat): ∀k,k<gs.length->jG (gs.map dz) c k=[.vl [Z7 (cg (gs.map dz) k) c]]:=λk hk=>by
 grind[jG,TZ,Pg,List.getElem_mem]
theorem JN{gs:List Tb.Ag}(hc: ∀a∈gs,1<=a.1/\kJ a)(c:Nat):cB (jG (gs.map dz) c) (gs.map dz).length=gs.map λa=> .vl [Z7 (dz a) c]:=by
 rw[bW9 (g':=λk=>[(λr=>Val.vl [Z7 r c]) (cg (gs.map dz) k)]) _ (λk hk=>cW9 hc c k (by simpa using hk))];refine(Bi (λr=>Val.vl [Z7 r c]) (gs.map dz)).trans ?_;simp_all
theorem Rq{gs:List Tb.Ag}(hc: ∀a∈gs,1<=a.1/\kJ a): ∀k,k<=gs.length->(cB (jG (gs.map dz) 0) k).length=k
 |0,_=>rfl
 |k+1,h=>by rw[cB,k5,Rq hc k (by omega),cW9 hc 0 k (by omega)];rfl
theorem cX0{gs:List Tb.Ag}(hc: ∀a∈gs,1<=a.1/\kJ a): ∀k,k<gs.length-> ∃x y,jS (gs.map dz) (k+1)=[x,y,.vi (Tb.agAll (gs.take (k+1))).2.2.1,.vi (Tb.agAll (gs.take (k+1))).2.2.2]
 |0,h=>by
  have e:gs.take 1=[gs[0]]:=by
   rw[<-K8 h];rfl
  unfold jS;rw[TZ h,Pg (hc _ (B5 h)).1,Rq hc 0 (by omega),e,e8 rfl];refine⟨Z7 (dz gs[0]) 0,Z7 (dz gs[0]) 1,?_⟩;show [Z7 (dz gs[0]) 0,Z7 (dz gs[0]) 1,Val.vi (min gs[0].2.2.1 gs[0].2.2.1),.vi (max gs[0].2.2.2 gs[0].2.2.2)]=[Z7 (dz gs[0]) 0,Z7 (dz gs[0]) 1,Val.vi gs[0].2.2.1,.vi gs[0].2.2.2];grind
 |k+1,h=>by
  obtain⟨x,y,e⟩:=cX0 hc k (by omega);have e2:gs.take (k+1+1)=gs.take (k+1)++[gs[k+1]]:=(K8 h).symm;have hne:gs.take (k+1)≠[]:=λc=>by
   simp_all
  rw[e2,cu3 _ hne];rw[show jS (gs.map dz) (k+1+1)=(bif uL (cg (gs.map dz) (k+1))then jS (gs.map dz) (k+1)else
   (if(cB (jG (gs.map dz) 0) (k+1)).length=0 then [Z7 (cg (gs.map dz) (k+1)) 0,Z7 (cg (gs.map dz) (k+1)) 1,.vi (min (ci (cg (gs.map dz) (k+1)) 2) (ci (cg (gs.map dz) (k+1)) 2)),.vi (max (ci (cg (gs.map dz) (k+1)) 3) (ci (cg (gs.map dz) (k+1)) 3))]
    else [(jS (gs.map dz) (k+1)).getD 0 default,(jS (gs.map dz) (k+1)).getD 1 default,.vi (min ((jS (gs.map dz) (k+1)).getD 2 default).toI (ci (cg (gs.map dz) (k+1)) 2)),.vi (max ((jS (gs.map dz) (k+1)).getD 3 default).toI (ci (cg (gs.map dz) (k+1)) 3))]))from rfl]
  rw[TZ h,Pg (hc _ (B5 h)).1,Rq hc (k+1) (by omega),b9 (by omega),e];exact⟨_,_,rfl⟩
theorem TA{gs:List Tb.Ag}(hc: ∀a∈gs,1<=a.1/\kJ a)(hn:gs.length<=1000000)(hne:gs≠[])(h:jE (gs.map dz)=0):
 jR (gs.map dz)=[.vi (Tb.agAll gs).1,.vi (Tb.agAll gs).2.1,.vi (Tb.agAll gs).2.2.1,.vi (Tb.agAll gs).2.2.2]/\kJ (Tb.agAll gs):=by
 have hn': ¬(gC (jC (gs.map dz))≠0\/gC (jT (gs.map dz))≠0):=λc=>by
  unfold jE at h;rw[if_pos c]at h;cases h
 have e0:gC (jC (gs.map dz))=0:=Classical.byContradiction λc=>hn' (.inl c)
 have e1:gC (jT (gs.map dz))=0:=Classical.byContradiction λc=>hn' (.inr c)
 have c0:jC (gs.map dz)=gs.map λa=> .vl [Z7 (dz a) 0]:=JN hc 0
 have c1:jT (gs.map dz)=gs.map λa=> .vl [Z7 (dz a) 1]:=JN hc 1
 rw[c0]at e0;rw[c1]at e1;obtain⟨s1,s2⟩:=VW (λr hr=>by
  obtain⟨a,ha,rfl⟩:=j7.1 hr;exact(hc a ha).2.1) (by simpa using hn) e0
 obtain⟨s3,s4⟩:=VW (λr hr=>by
  obtain⟨a,ha,rfl⟩:=j7.1 hr;exact(hc a ha).2.2.1) (by simpa using hn) e1
 rw[n7]at s1 s2 s3 s4;have m1:Tb.sumI (gs.map ((λr=>ci r 0)∘λa=>Val.vl [Z7 (dz a) 0]))=(Tb.agAll gs).1:=Pa.1.symm;have m2:Tb.sumI (gs.map ((λr=>ci r 0)∘λa=>Val.vl [Z7 (dz a) 1]))=(Tb.agAll gs).2.1:=Pa.2.symm;rw[m1]at s1 s2;rw[m2]at s3 s4;have hl:0<gs.length:=P4.2 hne;obtain⟨x,y,e⟩:=cX0 hc (gs.length-1) (by omega);rw[show gs.length-1+1=gs.length by omega,A8]at e;refine⟨?_,s1,s3,cM7 hne λx hx=>(hc x hx).2⟩;simp_all[jR,b9,k6]
theorem pz(v:Int):Tb.agOf [v]=(1,v,v,v):=by
 show((1:Int),v+0,v,v)=_;grind
theorem cM8{a:Tb.Ag}{v:Int}(ha:1<=a.1)(hi:kJ a)(hv:cP v)(h:jE (pR (.vi a.1) (.vi a.2.1) (.vi a.2.2.1) (.vi a.2.2.2) (.vi v))=0):
 ou (.vi a.1) (.vi a.2.1) (.vi a.2.2.1) (.vi a.2.2.2) (.vi v)=[.vi (Tb.ag2 a (Tb.agOf [v])).1,.vi (Tb.ag2 a (Tb.agOf [v])).2.1,.vi (Tb.ag2 a (Tb.agOf [v])).2.2.1,.vi (Tb.ag2 a (Tb.agOf [v])).2.2.2]/\kJ (Tb.ag2 a (Tb.agOf [v])):=by
 have e:pR (.vi a.1) (.vi a.2.1) (.vi a.2.2.1) (.vi a.2.2.2) (.vi v)=[a,Tb.agOf [v]].map dz:=by rw[pz];rfl
 unfold ou;rw[b9 (by omega)];rw[e]at h⊢;refine TA (λx hx=> ?_) (by simp) (by simp) h;rcases m8.1 hx with rfl|hx
 .grind
 .rw[n5]at hx;subst hx;rw[pz];exact⟨x5 _,Ac,hv,hv,hv⟩
theorem cM9{v:Int}(hv:cP v)(h:jE (pR (.vi 0) (.vi 0) (.vi 0) (.vi 0) (.vi v))=0):
 ou (.vi 0) (.vi 0) (.vi 0) (.vi 0) (.vi v)=[.vi (Tb.agOf [v]).1,.vi (Tb.agOf [v]).2.1,.vi (Tb.agOf [v]).2.2.1,.vi (Tb.agOf [v]).2.2.2]/\kJ (Tb.agOf [v]):=by
 have e1:jC (pR (.vi 0) (.vi 0) (.vi 0) (.vi 0) (.vi v))=jC ([Tb.agOf [v]].map dz):=by rfl
 have e2:jT (pR (.vi 0) (.vi 0) (.vi 0) (.vi 0) (.vi v))=jT ([Tb.agOf [v]].map dz):=by rw[pz];rfl
 have e3:jS (pR (.vi 0) (.vi 0) (.vi 0) (.vi 0) (.vi v)) (pR (.vi 0) (.vi 0) (.vi 0) (.vi 0) (.vi v)).length=jS ([Tb.agOf [v]].map dz) ([Tb.agOf [v]].map dz).length:=by rw[pz];rfl
 have e4:jE (pR (.vi 0) (.vi 0) (.vi 0) (.vi 0) (.vi v))=jE ([Tb.agOf [v]].map dz):=by grind[jE]
 have e5:jR (pR (.vi 0) (.vi 0) (.vi 0) (.vi 0) (.vi v))=jR ([Tb.agOf [v]].map dz):=by grind[jR]
 unfold ou;rw[b9 (by omega),e5];rw[e4]at h;refine TA (gs:=[Tb.agOf [v]]) (λx hx=> ?_) (by simp) (by simp) h;rw[n5]at hx;subst hx;rw[pz];exact⟨x5 _,Ac,hv,hv,hv⟩
variable{s k l g:Int}
def kZ(step size:Int)(a b:Int):Prop:=a % step=0/\b=a+size
theorem de6{step t a:Int}{n:Nat}(h1:1<=step)(hn:(n:Int)*step=s):(∃j:Nat,j<n/\a=fU t step-s+step+(j:Int)*step)↔a % step=0/\a<=t/\t<a+s:=by
 have hq:step*(t/step)+t % step=t:=V6 t step;have r1:0<=t % step:=I9 _ (by omega);have r2:t % step<step:=J0 _ (by omega);generalize t/step=q at hq;have hd:fU t step=step*q:=by grind[fU]
 rw[hd];constructor
 .rintro⟨j,hj,rfl⟩;have e:step*q-s+step+(j:Int)*step=step*(q-n+1+j):=by
   rw[<-hn,P5,P5,Int.mul_sub,Int.mul_one,G3 (n:Int) step,G3 (j:Int) step]
  have b1:(j:Int)*step<=((n:Int)-1)*step:=G4 (by omega) (by omega);have b2:0<=(j:Int)*step:=J1 (by omega) (by omega);grind[Int.sub_mul,Int.mul_emod_right]
 .rintro⟨c1,c2,c3⟩;have ha:step*(a/step)=a:=by
   have:=V6 a step;omega
  generalize a/step=c at ha;have l1:c<q+1:=V7 (a:=step) (by rw[P5];omega) (by omega);have l2:q<c+n:=V7 (a:=step) (by rw[P5,G3 step (n:Int)];omega) (by omega);refine⟨(c-(q-n+1)).toNat,by omega,?_⟩;grind[Int.toNat_of_nonneg,Int.sub_mul,Int.add_mul,Int.mul_comm]
theorem dz6(h:cV k s l g=true)(h3:k≠3):1<=dT k s l/\(fP k s l:Int)*dT k s l=s/\1<=s/\s<=1048576/\fP k s l<=16:=by
 unfold cV at h;by_cases h1:k=1
 .have e:dT 1 s l=s:=rfl;grind[fP,Ip,Int.emod_self,Int.ediv_self]
 .rw[b9 h1]at h;by_cases h2:k=2
  .subst h2;simp at h;have e:dT 2 s l=l:=rfl;unfold fP;rw[e];obtain⟨m1,m2⟩:=Ip (s:=s) (l:=l) (by omega) (by omega) (by omega);refine⟨by omega,m1,by omega,by omega,by omega⟩
  grind
theorem Cq(h:cV k s l g=true)(h3:k=3):1<=g/\g<=1048576:=by
 simp_all[cV,b9,j6,decide_eq_true_eq]
def Gq(st step s:Int)(n:Nat):List (Int×Int):=(List.range n).map λ(j:Nat)=>(st+(j:Int)*step,st+(j:Int)*step+s)
theorem WK{t:Int}(h:cV k s l g=true)(h3:k≠3)(ht:eU t=true):dw k s l g (.vi t)=(Gq (fU t (dT k s l)-s+dT k s l) (dT k s l) s (fP k s l)).map λp=>Val.vl [.vi p.1,.vi p.2]:=by
 unfold dw;simp_all;rw[rC];unfold Gq;rw[n7,T4];rfl
theorem IC{t:Int}(h:cV k s l g=true)(h3:k≠3)(ht:eU t=true):
 ((dw k s l g (.vi t)).map Z9).Nodup/\(∀a b,(a,b)∈(dw k s l g (.vi t)).map Z9↔kZ (dT k s l) s a b/\a<=t/\t<b)/\ ∀r∈dw k s l g (.vi t),r= .vl [.vi (Z9 r).1,.vi (Z9 r).2]:=by
 obtain⟨w1,w2,w3,w4,w5⟩:=dz6 h h3;have e:(dw k s l g (.vi t)).map Z9=Gq (fU t (dT k s l)-s+dT k s l) (dT k s l) s (fP k s l):=by
  rw[WK h h3 ht,n7];exact G5 _
 have hi:=λa=>de6 (t:=t) (a:=a) w1 w2
 rw[e];refine⟨?_,λa b=> ?_,λr hr=> ?_⟩
 .unfold Gq;rw[B9,G6];refine G7 (λ{i j} hij e=> ?_) (B9.1 (O2 (n:=fP k s l)));grind[dT,Int.eq_of_mul_eq_mul_right]
 .unfold Gq kZ;rw[j7];constructor
  .rintro⟨j,hj,e⟩;have e1:=congrArg Prod.fst e;have e2:=congrArg Prod.snd e;obtain⟨c1,c2,c3⟩:=(hi a).1 ⟨j,r9.1 hj,by omega⟩;exact⟨⟨c1,by omega⟩,c2,by omega⟩
  grind
 .rw[WK h h3 ht]at hr;obtain⟨p,_,rfl⟩:=j7.1 hr;rfl
def hZ(ks:List UInt8)(a b:Int)(A:Tb.Ag):Val:= .vl [.vs ks,.vi a,.vi b,.vi A.1,.vi A.2.1,.vi A.2.2.1,.vi A.2.2.2]
theorem CE(ks:List UInt8)(a b:Int)(A:Tb.Ag):Z6 (hZ ks a b A)=⟨ks,a,b⟩:=rfl
theorem Nh(ks:List UInt8)(a b:Int)(A:Tb.Ag):rA (hZ ks a b A)=A:=rfl
theorem cu9(ks:List UInt8)(a b:Int)(A:Tb.Ag):cQ (hZ ks a b A)=hZ ks a b A:=rfl
def nrm(r:Val):Prop:= ∃ks a b A,r=hZ ks a b A/\ks.length<=1000/\kJ A
theorem uI{r:Val}(h:nrm r):rowS r:=by
 obtain⟨ks,a,b,A,rfl,h1,h2⟩:=h;exact⟨ks,a,b,_,_,_,_,rfl,h1⟩
abbrev dG:=Tb.Evt (List UInt8)
structure TOK (W:Tb.Wd) (evs:List dG) (m:List Val):Prop where
 tab:Tb.Tab W evs (lk m)
 nd:(m.map Z6).Nodup
 nrm: ∀r∈m,nrm r
 gap: ∀g,W= .ses g->0<g
theorem TOK.pos{W:Tb.Wd}{evs:List dG}{m:List Val}(h:TOK W evs m){k:List UInt8}{e:Int}{a:Tb.Ag}(ha:lk m k s e=some a):1<=a.1/\kJ a/\a=Tb.agOf (Tb.vals evs k s e)/\Tb.Pan W evs k s e:=by
 obtain⟨h1,h2⟩:=(h.tab k s e a).1 ha;obtain⟨r,hr,_,rfl⟩:=wU ha;obtain⟨ks,x,y,A,rfl,_,hA⟩:=h.nrm r hr;have hne:=Tb.Pan.ne h.gap h1;have:=P4.2 hne;refine⟨?_,hA,h2,h1⟩;rw[h2];show(1:Int)<=((Tb.vals evs k s e).length:Int);omega
theorem dz7{W:Tb.Wd}{evs:List dG}{m:List Val}(h:TOK W evs m){ks:List UInt8}{a b v:Int}(hv:cP v)(he:lh m (.vs ks) (.vi v) (.vl [.vi a,.vi b])=0):
 oD m (.vs ks) (.vi v) (.vl [.vi a,.vi b])=hZ ks a b (Tb.putA (lk m ks a b) v)/\kJ (Tb.putA (lk m ks a b) v):=by
 have hp:Z6 (fY (.vs ks) (.vl [.vi a,.vi b]))=⟨ks,a,b⟩:=rfl;unfold oD AM;unfold lh at he;unfold qv at he⊢;cases hl:lk m ks a b with
 |none=>
  obtain⟨_,hc⟩:=Nu (m:=m) (p:=fY (.vs ks) (.vl [.vi a,.vi b])) (by exact hl);rw[hc,hc,hc,hc]at he⊢;obtain⟨e1,e2⟩:=cM9 hv he;rw[e1];exact⟨rfl,e2⟩
 |some c=>
  obtain⟨q1,q2,_,_⟩:=h.pos hl;obtain⟨r,hr,_,hA,_,hc⟩:=Aw (m:=m) (p:=fY (.vs ks) (.vl [.vi a,.vi b])) (a:=c) (by exact hl);obtain⟨k',x,y,A,rfl,_,_⟩:=h.nrm r hr;subst hA;rw[hc,hc,hc,hc]at he⊢;obtain⟨e1,e2⟩:=cM8 q1 q2 hv he;have e1:ou (Z7 (hZ k' x y A) 3) (Z7 (hZ k' x y A) 4) (Z7 (hZ k' x y A) 5) (Z7 (hZ k' x y A) 6) (.vi v)=_:=e1;rw[e1];exact⟨rfl,e2⟩
end Go.Ev.S9
namespace Go.Ev.S9
open Go Go.Ev
structure XOk (X:Nat->List Val->Val):Prop where
 x431: ∀l:List Val,(∀r∈l,rowS r)->(X 431 [.vl l]).toB=true
 x491: ∀l:List Val,(l.map Z6).Nodup->(X 491 [.vl l]).toB=true
 x490: ∀l:List Val,(∀r∈l,rowS r)-> ∃l',X 490 [.vl l]= .vl l'/\l'.Perm l
 x490u: ∀l l':List Val,(∀r∈l,rowS r)->l.Perm l'->(l.map Z6).Nodup->X 490 [.vl l]=X 490 [.vl l']
 x3: ∀v:Val,X 3 [v,v]= .vb true
theorem tL{ek t v:Int}{ks:List UInt8}(h:dH ek ks t v=0)(h1:ek=1):ks.length<=32/\eU t=true:=by
 subst h1;unfold dH at h;rw[b9 (by omega),e8 rfl]at h;by_cases q:ks=[]\/32<ks.length
 .rw[e8 q]at h;cases h
 .rw[b9 q]at h;refine⟨C8.1 λc=>q (.inr c),?_⟩;cases ht:eU t
  .rw[ht]at h;cases h
  .rfl
def Uz(ks:List UInt8)(t:Int)(p:PaneM):Prop:=p.key=ks/\p.a<=t/\t<p.b
def cL(k s l g:Int)(m:List Val)(ek:Int)(ks:List UInt8)(t v:Int):List Val:=[.vi k,.vi s,.vi l,.vi g,.vl m,.vi ek,.vs ks,.vi t,.vi v]
section
variable{X:Nat->List Val->Val}{k s l g ek t v:Int}{m:List Val}{ks:List UInt8}
theorem oT:dC (cL k s l g m ek ks t v)=if dH ek ks t v≠0 then dH ek ks t v else if ek≠1 then 2 else if k=3 then tn (.vi g) m (.vs ks) (.vi t) (.vi v)else(lE m (dw k s l g (.vi t)) (.vs ks) (.vi v) (.vi 0)).toI:=rfl
theorem Ro:eF (cL k s l g m ek ks t v)=if dH ek ks t v≠0\/ek≠1 then []else if k=3 then oj (.vi g) m (.vs ks) (.vi t) (.vi v)else []:=rfl
theorem Rz:eS X (cL k s l g m ek ks t v)=if dH ek ks t v≠0\/ek≠1 then .vl []else if k=3 then .vl (oO (.vi g) m (.vs ks) (.vi t) (.vi v))else
 if dC (cL k s l g m ek ks t v)≠0 then .vl []else X 490 [.vl (gu m (dw k s l g (.vi t)) (.vs ks) (.vi v) (dw k s l g (.vi t)).length)]:=rfl
theorem Jq:eQ X (cL k s l g m ek ks t v)=if dC (cL k s l g m ek ks t v)≠0 then .vl m else fI (gq (.vl m) (eF (cL k s l g m ek ks t v)) (eF (cL k s l g m ek ks t v)).length) (eS X (cL k s l g m ek ks t v)).toL (eS X (cL k s l g m ek ks t v)).toL.length:=rfl
theorem Jn(h:dC (cL k s l g m ek ks t v)≠0):eF (cL k s l g m ek ks t v)=[]/\eS X (cL k s l g m ek ks t v)= .vl []/\eQ X (cL k s l g m ek ks t v)= .vl m:=by
 refine⟨?_,?_,by rw[Jq,e8 h]⟩
 .rw[Ro];by_cases c:dH ek ks t v≠0\/ek≠1
  .rw[e8 c]
  .rw[b9 c];by_cases c3:k=3
   .rw[e8 c3];rw[oT,b9 (λq=>c (.inl q)),b9 (λq=>c (.inr q)),e8 c3]at h;unfold oj;rw[if_pos h]
   .rw[b9 c3]
 .rw[Rz];by_cases c:dH ek ks t v≠0\/ek≠1
  .rw[e8 c]
  .rw[b9 c];by_cases c3:k=3
   .rw[e8 c3];rw[oT,b9 (λq=>c (.inl q)),b9 (λq=>c (.inr q)),e8 c3]at h;unfold oO;rw[if_pos h]
   .rw[b9 c3,e8 h]
theorem BX(h:dC (cL k s l g m ek ks t v)=0):dH ek ks t v=0/\ek=1:=by
 rw[oT]at h;by_cases c:dH ek ks t v≠0
 .rw[e8 c]at h;exact absurd h c
 .rw[b9 c]at h;by_cases d:ek≠1
  .rw[e8 d]at h;cases h
  .exact⟨Classical.not_not.1 c,Classical.not_not.1 d⟩
theorem dz8(L:List Val):jE L=0\/jE L=30:=by
 unfold jE;split
 .exact .inr rfl
 .exact .inl rfl
theorem cX1(h0:dH ek ks t v=0)(h1:ek=1):dC (cL k s l g m ek ks t v)=0\/dC (cL k s l g m ek ks t v)=30:=by
 rw[oT,b9 (by rw[h0];simp),b9 (by rw[h1];simp)];by_cases c3:k=3
 .rw[e8 c3];exact dz8 _
 .rw[b9 c3];unfold lE;split
  .exact dz8 _
  .split<;>exact .inl rfl
theorem Ia{S:List Val}{r:Val}(h:r∈S): ∃i,i<S.length/\cg S i=r:=by
 obtain⟨i,hi,e⟩:=B3 h;exact⟨i,hi,by simp[cg,j8,hi,e]⟩
theorem Wg(hX:XOk X)(h3:k≠3)(hR:cV k s l g=true){evs:List dG}(hT:TOK (.win (kZ (dT k s l) s)) evs m)(hv:cP v)(he:dC (cL k s l g m ek ks t v)=0):
 ∃R,eS X (cL k s l g m ek ks t v)= .vl R/\eF (cL k s l g m ek ks t v)=[]/\eQ X (cL k s l g m ek ks t v)= .vl (R.foldl set1 m)/\R.length<=16/\
  TOK (.win (kZ (dT k s l) s)) (evs++[(ks,t,v)]) (R.foldl set1 m)/\(∀r∈R,nrm r/\dX (R.foldl set1 m) (Z6 r)=some (rA r))/\(R.map Z6).Nodup/\(∃L,eS X (cL k s l g m ek ks t v)=X 490 [.vl L])/\ ∀r∈R,Uz ks t (Z6 r):=by
 obtain⟨e0,e1⟩:=BX he;obtain⟨k32,ht⟩:=tL e0 e1;have hd: ¬(dH ek ks t v≠0\/ek≠1):=λc=>c.elim (λc=>c e0) (λc=>c e1)
 obtain⟨p1,p2,p3⟩:=IC (t:=t) hR h3 ht;have hlen:=BO (k:=k) (s:=s) (l:=l) (g:=g) (t:= .vi t) h3;have hG:eF (cL k s l g m ek ks t v)=[]:=by rw[Ro,b9 hd,b9 h3]
 have hx:(lE m (dw k s l g (.vi t)) (.vs ks) (.vi v) (.vi 0)).toI=0:=by
  rw[oT,b9 (λc=>c e0),b9 (λc=>c e1),b9 h3]at he;exact he
 have hR0:eS X (cL k s l g m ek ks t v)=X 490 [.vl (gu m (dw k s l g (.vi t)) (.vs ks) (.vi v) (dw k s l g (.vi t)).length)]:=by rw[Rz,b9 hd,b9 h3,b9 (by rw[he];simp)]
 have hP:eQ X (cL k s l g m ek ks t v)=fI (.vl m) (eS X (cL k s l g m ek ks t v)).toL (eS X (cL k s l g m ek ks t v)).toL.length:=by
  rw[Jq,b9 (by rw[he];simp),hG];rfl
 rw[hP,hR0,hG];generalize dw k s l g (.vi t)=S at*
 obtain⟨t1,t2,t3⟩:=Sv m S (.vs ks) (.vi v);have hK:ib m S (.vs ks) (.vi v)=S.length:=by
  refine Nat.le_antisymm t1 (C8.1 λc=> ?_);unfold lE at hx;rw[e8 c]at hx;exact t3 c hx
 have hrow: ∀r∈S,oD m (.vs ks) (.vi v) r=hZ ks (Z9 r).1 (Z9 r).2 (Tb.putA (lk m ks (Z9 r).1 (Z9 r).2) v)/\kJ (Tb.putA (lk m ks (Z9 r).1 (Z9 r).2) v):=λr hr=>by
  obtain⟨i,hi,e⟩:=Ia hr;have hz:=t2 i (by omega);rw[e]at hz;have e2:=p3 r hr;generalize Z9 r=p at*
  subst e2;exact dz7 hT hv hz
 have hL:gu m S (.vs ks) (.vi v) S.length=S.map λr=>hZ ks (Z9 r).1 (Z9 r).2 (Tb.putA (lk m ks (Z9 r).1 (Z9 r).2) v):=by
  unfold gu;refine(Bi (oD m (.vs ks) (.vi v)) S).trans ?_;exact s9 λr hr=>(hrow r hr).1
 rw[hL];have hn: ∀r∈S.map λr=>hZ ks (Z9 r).1 (Z9 r).2 (Tb.putA (lk m ks (Z9 r).1 (Z9 r).2) v),nrm r:=λr hr=>by
  obtain⟨x,hx,rfl⟩:=j7.1 hr;exact⟨_,_,_,_,rfl,by omega,(hrow x hx).2⟩
 obtain⟨R,hq,hp⟩:=hX.x490 _ (λr hr=>uI (hn r hr));rw[hq,a65,UA];have hRn: ∀r∈R,nrm r:=λr hr=>hn r (hp.mem_iff.1 hr)
 have hk:(S.map λr=>hZ ks (Z9 r).1 (Z9 r).2 (Tb.putA (lk m ks (Z9 r).1 (Z9 r).2) v)).map Z6=(S.map Z9).map λp=>(⟨ks,p.1,p.2⟩:PaneM):=by
  rw[n7,n7];rfl
 have hkn:(R.map Z6).Nodup:=by
  refine(hp.map Z6).nodup_iff.2 ?_;rw[hk,B9,G6];refine G7 (λ{a b} hab e=>hab ?_) (B9.1 p1);have e:(⟨ks,a.1,a.2⟩:PaneM)=⟨ks,b.1,b.2⟩:=e;injection e with _ x y
  exact C4 x y
 have hmem: ∀q:PaneM,q∈R.map Z6↔q.key=ks/\(q.a,q.b)∈S.map Z9:=λq=>by
  rw[(hp.map Z6).mem_iff,hk,j7];constructor
  .rintro⟨p,h,rfl⟩;exact⟨rfl,h⟩
  .rintro⟨h1,h2⟩;exact⟨(q.a,q.b),h2,by rw[<-h1]⟩
 refine⟨R,rfl,rfl,rfl,?_,⟨?_,SE R m hT.nd,λr hr=> ?_,hT.gap⟩,λr hr=>⟨hRn r hr,Lk R m hkn hr⟩,hkn,⟨_,hq.symm⟩,λr hr=> ?_⟩
 .rw[hp.length_eq,k6];exact hlen
 .refine Tb.tab_win (ks,t,v) hT.tab (λk' a b c=> ?_) (λk' a b c=> ?_)
  .obtain⟨rfl,c1,c2,c3⟩:=c;have hin:(a,b)∈S.map Z9:=(p2 a b).2 ⟨c1,c2,c3⟩;obtain⟨r,hr,er⟩:=j7.1 hin;have hr2:hZ k' a b (Tb.putA (lk m k' a b) v)∈R:=hp.mem_iff.2 (j7.2 ⟨r,hr,by simp only[er]⟩);exact Lk R m hkn hr2
  .refine Ns R m λhq=>c ?_
   obtain⟨h1,h2⟩:=(hmem _).1 hq;obtain⟨c1,c2,c3⟩:=(p2 a b).1 h2;exact⟨h1,c1,c2,c3⟩
 .rcases Ng R m r hr with h|⟨x,hx,rfl⟩
  .exact hT.nrm r h
  .obtain⟨a,b,c,d,rfl,h1,h2⟩:=hRn x hx;exact⟨a,b,c,d,rfl,h1,h2⟩
 .obtain⟨h1,h2⟩:=(hmem _).1 (j7.2 ⟨r,hr,rfl⟩);obtain⟨_,c2,c3⟩:=(p2 _ _).1 h2;exact⟨h1,c2,c3⟩
theorem cN0(hX:XOk X)(h3:k≠3)(hR:cV k s l g=true){evs:List dG}(hT:TOK (.win (kZ (dT k s l) s)) evs m)(hv:cP v)(he:dC (cL k s l g m ek ks t v)=0):
 ∃R,eS X (cL k s l g m ek ks t v)= .vl R/\eF (cL k s l g m ek ks t v)=[]/\eQ X (cL k s l g m ek ks t v)= .vl (R.foldl set1 m)/\R.length<=16/\
  TOK (.win (kZ (dT k s l) s)) (evs++[(ks,t,v)]) (R.foldl set1 m)/\ ∀r∈R,nrm r/\dX (R.foldl set1 m) (Z6 r)=some (rA r):=by
 obtain⟨R,a,b,c,d,e,f,_⟩:=Wg hX h3 hR hT hv he;exact⟨R,a,b,c,d,e,f⟩
end
end Go.Ev.S9
namespace Go.Ev.S9
open Go Go.Ev
variable{m:List Val}
theorem Zy(y:Int×Int): ∀(x:List (Int×Int)) (a b:Int),Tb.nowOf a b (x++[y])=(min (Tb.nowOf a b x).1 y.1,max (Tb.nowOf a b x).2 y.2)
 | [],a,b=>rfl
 |p::x,a,b=>by
  show Tb.nowOf (min a p.1) (max b p.2) (x++[y])=_;rw[Zy y x];rfl
theorem TB(l:List Val)(t o:Int):Bh l t o=(l.filter λr=>qW t o r).map eB:=by
 unfold Bh;rw[rC];refine(LN (λr=>bif qW t o r then [eB r]else []) (.vl []) l).trans ?_;induction l with
 |nil=>rfl
 |cons a l ih=>
  grind
theorem cv1(l:List Val)(t g:Int):(Bh l t (t+g)).map Z9=Tb.joinedOf g t (l.map Z9):=by
 rw[TB,n7];unfold Tb.joinedOf;rw[List.filter_map];rfl
theorem ZQ(l:List Val)(t g:Int): ∀i,i<=l.length->lV l (.vi t) (.vi (t+g)) i=(.vi (Tb.nowOf t (t+g) (Tb.joinedOf g t ((l.take i).map Z9))).1,.vi (Tb.nowOf t (t+g) (Tb.joinedOf g t ((l.take i).map Z9))).2)
 |0,_=>rfl
 |i+1,h=>by
  rw[show lV l (.vi t) (.vi (t+g)) (i+1)=(bif qW t (t+g) (cg l i)then(Val.vi (min (lV l (.vi t) (.vi (t+g)) i).1.toI (ci (cg l i) 0)),Val.vi (max (lV l (.vi t) (.vi (t+g)) i).2.toI (ci (cg l i) 1)))else lV l (.vi t) (.vi (t+g)) i)from rfl];rw[ZQ l t g i (by omega),yk (by omega),n8];have e:Tb.joinedOf g t ((l.take i).map Z9++[Z9 (cg l i)])=Tb.joinedOf g t ((l.take i).map Z9)++(if qW t (t+g) (cg l i)then [Z9 (cg l i)]else []):=by
   unfold Tb.joinedOf;rw[C5];rw[A0];rfl
  rw[List.map_singleton,e];cases qW t (t+g) (cg l i)with
  |false=>simp
  |true=>
   rw[e8 rfl,Zy];rfl
theorem dz9(l:List Val)(t g:Int):lV l (.vi t) (.vi (t+g)) l.length=(.vi (Tb.nowOf t (t+g) (Tb.joinedOf g t (l.map Z9))).1,.vi (Tb.nowOf t (t+g) (Tb.joinedOf g t (l.map Z9))).2):=by
 simp_all[ZQ,e9,A8]
theorem SN{ks:List UInt8}{r:Val}:r∈gK m ks↔ ∃x∈m,(Z7 x 0).toS=ks/\r= .vl [Z7 x 1,Z7 x 2]:=by
 rw[bW4,D7];grind[Js,Z7,decide_eq_true,decide_eq_false]
theorem Tz(m:List Val)(ks:List UInt8):(dv m (.vs ks)).Perm (gK m ks):=(Bq swo_spanV _).1
theorem Me{W:Tb.Wd}{evs:List dG}(h:TOK W evs m)(ks:List UInt8):
 ((dv m (.vs ks)).map Z9).Nodup/\(∀s e,(s,e)∈(dv m (.vs ks)).map Z9↔lk m ks s e≠none)/\ ∀r∈dv m (.vs ks),r= .vl [.vi (Z9 r).1,.vi (Z9 r).2]:=by
 have hp:=Tz m ks;refine⟨((hp.map Z9).nodup_iff).2 (ZD ks h.nd),λs e=> ?_,λr hr=> ?_⟩
 .rw[(hp.map Z9).mem_iff,j7];constructor
  .rintro⟨r,hr,he⟩;obtain⟨x,hx,rfl,rfl⟩:=SN.1 hr;obtain⟨k',a,b,A,rfl,_,_⟩:=h.nrm x hx;have he:(a,b)=(s,e):=he;have:=uq h.nd hx;intro hc;have hc:dX m (Z6 (hZ k' s e A))=none:=hc;grind
  .intro hn;cases hl:lk m ks s e with
   |none=>grind
   |some c=>
    obtain⟨x,hx,hpn,_⟩:=wU hl;cases hpn;exact⟨_,SN.2 ⟨_,hx,rfl,rfl⟩,rfl⟩
 .obtain⟨x,hx,_,rfl⟩:=SN.1 (hp.mem_iff.1 hr);obtain⟨k',a,b,A,rfl,_,_⟩:=h.nrm x hx;rfl
theorem cN2{a b:Val}(h:ci a 1<ci b 1):spanV a b<0:=by
 simp_all[spanV,DK,e8]
theorem cN3(m:List Val)(ks:List UInt8){i:Nat}(h0:0<i)(hi:i<(dv m (.vs ks)).length):ci (cg (dv m (.vs ks)) (i-1)) 1<=ci (cg (dv m (.vs ks)) i) 1:=by
 have hs:=(Bq swo_spanV (gK m ks)).2;have hi':i<(ic spanV (gK m ks)).length:=hi;have hpw:=O4.1 hs (i-1) i (by omega) hi' (by omega);have e1:cg (dv m (.vs ks)) (i-1)=(ic spanV (gK m ks))[i-1]:=by
  show cg (ic spanV (gK m ks)) (i-1)=_;simp[cg,j8,show i-1<(ic spanV (gK m ks)).length by omega]
 have e2:cg (dv m (.vs ks)) i=(ic spanV (gK m ks))[i]:=by
  show cg (ic spanV (gK m ks)) i=_;simp[cg,j8,hi']
 rw[e1,e2];exact F8.1 λhc=>hpw (cN2 hc)
def fT(evs:List dG):Prop:= ∀x∈evs,eU x.2.1=true/\cP x.2.2
theorem VE{t:Int}:eU t=true↔ -1099511627776<=t/\t<=1099511627776:=by
 simp_all[eU,j6,decide_eq_true_eq]
theorem cX2{g t:Int}{evs:List dG}(hT:TOK (.ses g) evs m)(hev:fT evs)(ht:eU t=true)(hg1:1<=g)(hg2:g<=1048576)(ks:List UInt8):ju g t (dv m (.vs ks))=true:=by
 obtain⟨h1,h2,h3⟩:=Me hT ks;have hord:=λ{i}=>cN3 m ks (i:=i)
 generalize dv m (.vs ks)=S at*
 have hs: ∀r∈S,Tb.isS g (Tb.tms evs ks) (Z9 r).1 (Z9 r).2:=λr hr=>by
  have hm:((Z9 r).1,(Z9 r).2)∈S.map Z9:=j7.2 ⟨r,hr,rfl⟩;cases hl:lk m ks (Z9 r).1 (Z9 r).2 with
  |none=>exact absurd hl ((h2 _ _).1 hm)
  |some c=>exact(hT.pos hl).2.2.2
 have hb: ∀i,i<S.length->mj g S i=false:=λi hi=>by
  have e:cg S i=S[i]:=by simp[cg,j8,hi]
  have hr:cg S i∈S:=by rw[e];exact B5 hi
  have q:=hs _ hr;have hb:=q.1.2.2.1;obtain⟨x1,hx1,_,ex1⟩:=q.1.1;obtain⟨x2,hx2,_,ex2⟩:=q.1.2.1;have b1:=VE.1 (hev x1 hx1).1;have b2:=VE.1 (hev x2 hx2).1;have s1:(Z9 (cg S i)).1=ci (cg S i) 0:=rfl;have s2:(Z9 (cg S i)).2=ci (cg S i) 1:=rfl;have e64:cn .sub .i64 (ci (cg S i) 1) (ci (cg S i) 0)=ci (cg S i) 1-ci (cg S i) 0:=kN (by omega) (by omega);unfold mj;rw[e64,i6 (by omega),i6 (by omega: ¬ci (cg S i) 1-ci (cg S i) 0<g),T3,B2,B2];by_cases h0:0<i
  .have e':cg S (i-1)=S[i-1]:=by simp[cg,j8,show i-1<S.length by omega]
   have hr':cg S (i-1)∈S:=by rw[e'];exact B5 _
   have q':=hs _ hr';have ho:=hord h0 hi;have b':=q'.1.2.2.1;rw[c9 h0,A9];refine i6 λhc=> ?_
   have s1':(Z9 (cg S (i-1))).1=ci (cg S (i-1)) 0:=rfl;have s2':(Z9 (cg S (i-1))).2=ci (cg S (i-1)) 1:=rfl;have:=q'.one q ⟨by omega,by exact hc⟩;have hp:=O4.1 (B9.1 h1) (i-1) i (by simp;omega) (by simpa using hi) (by omega);rw[J3,J3,<-e,<-e']at hp;exact hp (C4 this.1 this.2)
  .rw[i6 h0];rfl
 unfold ju;rw[c9 hg1,c9 hg2,ht];have:(List.range S.length).any (mj g S)=false:=by
  rw[F6];intro i hi;rw[hb i (r9.1 hi)];decide
 rw[this];rfl
end Go.Ev.S9
namespace Go.Ev.S9
open Go Go.Ev
def pr(ks:List UInt8)(p:Int×Int):Val:= .vl [.vs ks,.vi p.1,.vi p.2]
section
variable{X:Nat->List Val->Val}{k s l g ek t v:Int}{m:List Val}{ks:List UInt8}
theorem YU(ht:eU t=true)(hg1:1<=g)(hg2:g<=1048576):pE g t= .vi (t+g):=by
 have b:=VE.1 ht;unfold pE;rw[gj (by omega) (by omega)]
theorem dA0{J:List (Int×Int)}{n1 n2:Int}{x:Val}:x∈jJ (J.map (pr ks)) (.vs ks) (.vi n1) (.vi n2)↔ ∃p∈J,p≠(n1,n2)/\x=pr ks p:=by
 have e:jJ (J.map (pr ks)) (.vs ks) (.vi n1) (.vi n2)=(J.map (pr ks)).flatMap (kU (.vs ks) (.vi n1) (.vi n2)):=by
  unfold jJ;rw[rC];exact LN (kU (.vs ks) (.vi n1) (.vi n2)) (.vl []) (J.map (pr ks))
 rw[e,D7];constructor
 .rintro⟨y,hy,hx⟩;obtain⟨p,hp,rfl⟩:=j7.1 hy;refine⟨p,hp,?_⟩;unfold kU at hx;have hs:zS (.vs ks) (.vi n1) (.vi n2) (pr ks p)=(decide (ks=ks)&&(decide (p.1=n1)&&decide (p.2=n2))):=rfl;rw[hs]at hx;by_cases c:p.1=n1/\p.2=n2
  .rw[c9 c.1,c9 c.2,c9 rfl]at hx;cases hx
  .have hz:(decide (ks=ks)&&(decide (p.1=n1)&&decide (p.2=n2)))=false:=by simp;omega
   rw[hz]at hx;have hx:x∈[eP (pr ks p)]:=hx;rw[n5]at hx;exact⟨λq=>c ⟨by rw[q],by rw[q]⟩,hx⟩
 .rintro⟨p,hp,hne,rfl⟩;refine⟨_,j7.2 ⟨p,hp,rfl⟩,?_⟩;unfold kU;have hs:zS (.vs ks) (.vi n1) (.vi n2) (pr ks p)=(decide (ks=ks)&&(decide (p.1=n1)&&decide (p.2=n2))):=rfl;have hz:(decide (ks=ks)&&(decide (p.1=n1)&&decide (p.2=n2)))=false:=by
   simp only[V0,decide_eq_false_iff_not];by_cases c:p.1=n1
   .exact .inr (.inr λd=>hne (C4 c d))
   .exact .inr (.inl c)
  rw[hs,hz];exact n5.2 rfl
theorem dA1{J:List (Int×Int)}{n1 n2:Int}:(jJ (J.map (pr ks)) (.vs ks) (.vi n1) (.vi n2)).length<=J.length:=by
 unfold jJ;have:=jD (g:=λi=>kU (.vs ks) (.vi n1) (.vi n2) (cg (J.map (pr ks)) i)) (m:=1) (λi=>Ry _ _ _ _) (J.map (pr ks)).length;simpa using this
theorem bX3{α:Type}{f:α->List α}: ∀l:List α,(∀y∈l,f y=[]\/f y=[y])->(l.flatMap f).Sublist l
 | [],_=> .slnil
 |a::l,h=>by
  rw[B7];have ih:=bX3 l λy hy=>h y (y7 _ hy)
  rcases h a B8 with e|e<;>rw[e]
  .exact ih.cons a
  .exact ih.cons_cons a
theorem dA2{J:List (Int×Int)}{n1 n2:Int}:(jJ (J.map (pr ks)) (.vs ks) (.vi n1) (.vi n2)).Sublist (J.map (pr ks)):=by
 have e:jJ (J.map (pr ks)) (.vs ks) (.vi n1) (.vi n2)=(J.map (pr ks)).flatMap (kU (.vs ks) (.vi n1) (.vi n2)):=by
  unfold jJ;rw[rC];exact LN (kU (.vs ks) (.vi n1) (.vi n2)) (.vl []) (J.map (pr ks))
 rw[e];refine bX3 _ λy hy=> ?_
 obtain⟨p,_,rfl⟩:=j7.1 hy;unfold kU;cases zS (.vs ks) (.vi n1) (.vi n2) (pr ks p)
 .exact .inr rfl
 .exact .inl rfl
theorem dS4(m:List Val)(ks:List UInt8)(h:((dv m (.vs ks)).map Z9).Nodup):((dv m (.vs ks)).map Z9).Pairwise (λp q=>p.2<q.2\/p.2=q.2/\p.1<q.1):=by
 have h2:=(Bq swo_spanV (gK m ks)).2;rw[B9]at h;have h3:((dv m (.vs ks)).map Z9).Pairwise (λp q=> ¬(q.2<p.2\/q.2=p.2/\q.1<p.1)):=by
  rw[G6];refine G7 ?_ h2;intro a b hab c;apply hab;have:=HP b a;have c:ci b 1<ci a 1\/ci b 1=ci a 1/\ci b 0<ci a 0:=c;rw[c9 c]at this;exact j5 (p:=spanV b a<0) this
 refine G7 ?_ (h3.and h);rintro p q ⟨c,d⟩;have: ¬(p.1=q.1/\p.2=q.2):=λe=>d (C4 e.1 e.2)
 omega
theorem Xm(hk:k=3)(hR:cV k s l g=true){evs:List dG}(hT:TOK (.ses g) evs m)(hm:m.length<=400)(hev:fT evs)(hv:cP v)(he:dC (cL k s l g m ek ks t v)=0):
 ∃R m',eS X (cL k s l g m ek ks t v)= .vl R/\eQ X (cL k s l g m ek ks t v)= .vl m'/\R.length<=16/\(eF (cL k s l g m ek ks t v)).length<=400/\
  TOK (.ses g) (evs++[(ks,t,v)]) m'/\(∀r∈R,nrm r/\dX m' (Z6 r)=some (rA r))/\(∀p∈eF (cL k s l g m ek ks t v),dX m' (Z6 p)=none/\ ∃a b,p= .vl [.vs ks,.vi a,.vi b])/\R.length<=1/\(∀r∈R,Uz ks t (Z6 r))/\((eF (cL k s l g m ek ks t v)).map Z6).Pairwise (λp q=>gz p q=true)/\ ∀p∈eF (cL k s l g m ek ks t v),dX m (Z6 p)≠none:=by
 obtain⟨e0,e1⟩:=BX he;obtain⟨k32,ht⟩:=tL e0 e1;obtain⟨hg1,hg2⟩:=Cq hR hk;have hd: ¬(dH ek ks t v≠0\/ek≠1):=λc=>c.elim (λc=>c e0) (λc=>c e1)
 have hio:=cX2 hT hev ht hg1 hg2 ks;obtain⟨s1,s2,s3⟩:=Me hT ks;have hsl:(dv m (.vs ks)).length<=400:=by
  rw[(Tz m ks).length_eq];exact m7 (EA m ks) hm
 have hown:=YU ht hg1 hg2;have hse:tn (.vi g) m (.vs ks) (.vi t) (.vi v)=0:=by
  rw[oT,b9 (λc=>c e0),b9 (λc=>c e1),e8 hk]at he;exact he
 have hG:eF (cL k s l g m ek ks t v)=oj (.vi g) m (.vs ks) (.vi t) (.vi v):=by rw[Ro,b9 hd,e8 hk]
 have hR0:eS X (cL k s l g m ek ks t v)= .vl (oO (.vi g) m (.vs ks) (.vi t) (.vi v)):=by rw[Rz,b9 hd,e8 hk]
 have hP:eQ X (cL k s l g m ek ks t v)=fI (gq (.vl m) (oj (.vi g) m (.vs ks) (.vi t) (.vi v)) (oj (.vi g) m (.vs ks) (.vi t) (.vi v)).length) (oO (.vi g) m (.vs ks) (.vi t) (.vi v)) (oO (.vi g) m (.vs ks) (.vi t) (.vi v)).length:=by
  rw[Jq,b9 (by rw[he];simp),hG,hR0];rfl
 have hjn:lG (.vi g) m (.vs ks) (.vi t)=(Tb.joinedOf g t ((dv m (.vs ks)).map Z9)).map λp=>Val.vl [.vi p.1,.vi p.2]:=by
  unfold lG;rw[a09,a09,hio,cond_true];unfold rB;rw[a09,a09,hown,a09,<-cv1,TB,n7,n7];refine s9 λr hr=> ?_
  have e:=s3 r (l6.1 hr).1;have e2:(Z7 r 0)= .vi (Z9 r).1:=by rw[e];rfl
  have e3:(Z7 r 1)= .vi (Z9 r).2:=by rw[e];rfl
  show Val.vl [Z7 r 0,Z7 r 1]=Val.vl [.vi (Z9 r).1,.vi (Z9 r).2];rw[e2,e3]
 have hnw:lU (.vi g) m (.vs ks) (.vi t)=[.vi (Tb.nowOf t (t+g) (Tb.joinedOf g t ((dv m (.vs ks)).map Z9))).1,.vi (Tb.nowOf t (t+g) (Tb.joinedOf g t ((dv m (.vs ks)).map Z9))).2]:=by
  unfold lU;rw[a09,a09,hio,cond_true];unfold iT;rw[a09,a09,hown,dz9]
 have hpn:jI (.vi g) m (.vs ks) (.vi t)=(Tb.joinedOf g t ((dv m (.vs ks)).map Z9)).map (pr ks):=by
  unfold jI;rw[hjn,n7];rfl
 have hjl:(Tb.joinedOf g t ((dv m (.vs ks)).map Z9)).length<=400:=by
  have h1:=J9 (λp:Int×Int=>Tb.lapB p.1 p.2 t (t+g)) ((dv m (.vs ks)).map Z9);rw[k6]at h1;exact m7 h1 hsl
 have hjm: ∀p∈Tb.joinedOf g t ((dv m (.vs ks)).map Z9),∃c,lk m ks p.1 p.2=some c:=λp hp=>by
  have h1:=(l6.1 hp).1;cases hl:lk m ks p.1 p.2 with
  |some c=>exact⟨c,rfl⟩
  |none=>exact absurd hl ((s2 p.1 p.2).1 h1)
 have htab:=λM'=>Tb.tab_ses (g:=g) (by omega) (M':=M') (ks,t,v) hT.tab s2 s1
 have hbase:lN m (jI (.vi g) m (.vs ks) (.vi t)) (.vi v)=(Tb.agOf [v]::(Tb.joinedOf g t ((dv m (.vs ks)).map Z9)).map λp=>(lk m ks p.1 p.2).getD (0,0,0,0)).map dz:=by
  rw[hpn];unfold lN;rw[l9,n7,n7,pz];refine congrArg (List.cons _) (s9 λp hp=> ?_);obtain⟨c,hc⟩:=hjm p hp;show lR m (pr ks p)=dz ((lk m ks p.1 p.2).getD (0,0,0,0));rw[hc];obtain⟨r,hr,_,hA,_,hcol⟩:=Aw (m:=m) (p:=eP (pr ks p)) (a:=c) hc;obtain⟨k',x,y,A,rfl,_,_⟩:=hT.nrm r hr;have hA:A=c:=hA;subst hA;unfold lR qa;rw[hcol,hcol,hcol,hcol];rfl
 have hcs: ∀a∈(Tb.agOf [v]::(Tb.joinedOf g t ((dv m (.vs ks)).map Z9)).map λp=>(lk m ks p.1 p.2).getD (0,0,0,0)),1<=a.1/\kJ a:=λa ha=>by
  rcases m8.1 ha with rfl|ha
  .rw[pz];exact⟨x5 _,Ac,hv,hv,hv⟩
  .obtain⟨p,hp,rfl⟩:=j7.1 ha;obtain⟨c,hc⟩:=hjm p hp;simp only[hc,Option.getD_some];exact⟨(hT.pos hc).1,(hT.pos hc).2.1⟩
 have hje:jE ((Tb.agOf [v]::(Tb.joinedOf g t ((dv m (.vs ks)).map Z9)).map λp=>(lk m ks p.1 p.2).getD (0,0,0,0)).map dz)=0:=by
  rw[<-hbase];exact hse
 obtain⟨hjr,hia⟩:=TA hcs (by simp only[List.length_cons,k6];omega) (by simp) hje;have hsr:oO (.vi g) m (.vs ks) (.vi t) (.vi v)=[hZ ks (Tb.nowOf t (t+g) (Tb.joinedOf g t ((dv m (.vs ks)).map Z9))).1 (Tb.nowOf t (t+g) (Tb.joinedOf g t ((dv m (.vs ks)).map Z9))).2 (Tb.agAll (Tb.agOf [v]::(Tb.joinedOf g t ((dv m (.vs ks)).map Z9)).map λp=>(lk m ks p.1 p.2).getD (0,0,0,0)))]:=by
  unfold oO;rw[b9 (by rw[hse];simp),hbase,hnw,hjr];rfl
 have hsg:oj (.vi g) m (.vs ks) (.vi t) (.vi v)=jJ ((Tb.joinedOf g t ((dv m (.vs ks)).map Z9)).map (pr ks)) (.vs ks) (.vi (Tb.nowOf t (t+g) (Tb.joinedOf g t ((dv m (.vs ks)).map Z9))).1) (.vi (Tb.nowOf t (t+g) (Tb.joinedOf g t ((dv m (.vs ks)).map Z9))).2):=by
  unfold oj;rw[b9 (by rw[hse];simp),hpn,hnw];rfl
 rw[hsg,hsr]at hP;rw[hsr]at hR0;rw[hG,hsg,hR0,hP,bW8,UA];clear hP hR0 hG hsr hsg hje hbase hjr hnw hpn hjn hse;have gm:=λx=>dA0 (ks:=ks) (J:=Tb.joinedOf g t ((dv m (.vs ks)).map Z9)) (n1:=(Tb.nowOf t (t+g) (Tb.joinedOf g t ((dv m (.vs ks)).map Z9))).1) (n2:=(Tb.nowOf t (t+g) (Tb.joinedOf g t ((dv m (.vs ks)).map Z9))).2) (x:=x)
 have gl:=dA1 (ks:=ks) (J:=Tb.joinedOf g t ((dv m (.vs ks)).map Z9)) (n1:=(Tb.nowOf t (t+g) (Tb.joinedOf g t ((dv m (.vs ks)).map Z9))).1) (n2:=(Tb.nowOf t (t+g) (Tb.joinedOf g t ((dv m (.vs ks)).map Z9))).2);generalize hAA:Tb.agAll (Tb.agOf [v]::(Tb.joinedOf g t ((dv m (.vs ks)).map Z9)).map λp=>(lk m ks p.1 p.2).getD (0,0,0,0))=A at*
 have htab: ∀M',(∀s e,(s,e)=Tb.nowOf t (t+g) (Tb.joinedOf g t ((dv m (.vs ks)).map Z9))->M' ks s e=some A)->(∀s e,(s,e)≠Tb.nowOf t (t+g) (Tb.joinedOf g t ((dv m (.vs ks)).map Z9))->(s,e)∈Tb.joinedOf g t ((dv m (.vs ks)).map Z9)->M' ks s e=none)->(∀k s e,k≠ks\/((s,e)≠Tb.nowOf t (t+g) (Tb.joinedOf g t ((dv m (.vs ks)).map Z9))/\(s,e)∉Tb.joinedOf g t ((dv m (.vs ks)).map Z9))->M' k s e=lk m k s e)->Tb.Tab (.ses g) (evs++[(ks,t,v)]) M':=htab;generalize hJJ:Tb.joinedOf g t ((dv m (.vs ks)).map Z9)=J at*
 generalize hNN:Tb.nowOf t (t+g) J=N at*
 have hjs:J.Pairwise (λp q=>p.2<q.2\/p.2=q.2/\p.1<q.1):=by rw[<-hJJ];exact(dS4 m ks s1).filter _
 have hgs:((jJ (J.map (pr ks)) (.vs ks) (.vi N.1) (.vi N.2)).map Z6).Pairwise (λp q=>gz p q=true):=by
  refine List.Pairwise.sublist (dA2.map _) ?_;rw[n7,G6];refine G7 ?_ hjs;intro p q c;exact(Gd _ _).2 (.inr ⟨rfl,c⟩)
 have hnow:N.1<=t/\t<N.2:=by
  obtain⟨h1,h2,_⟩:=Tb.nowOf_le J t (t+g);rw[hNN]at h1 h2;omega
 generalize jJ (J.map (pr ks)) (.vs ks) (.vi N.1) (.vi N.2)=G at*
 have hlk: ∀q,dX ([hZ ks N.1 N.2 A].foldl set1 (G.foldl mS m)) q=if(⟨ks,N.1,N.2⟩:PaneM)=q then some A else if q∈G.map Z6 then none else dX m q:=λq=>by
  show dX (set1 (G.foldl mS m) (hZ ks N.1 N.2 A)) q=_;rw[IU,Oq q G m hT.nd,CE,Nh]
 have hgq: ∀k' a b,(⟨k',a,b⟩:PaneM)∈G.map Z6↔k'=ks/\(a,b)∈J/\(a,b)≠N:=λk' a b=>by
  rw[j7];constructor
  .rintro⟨x,hx,e⟩;obtain⟨p,hp,hne,rfl⟩:=(gm x).1 hx;have e:(⟨ks,p.1,p.2⟩:PaneM)=⟨k',a,b⟩:=e;cases e;exact⟨rfl,hp,hne⟩
  .rintro⟨rfl,h1,h2⟩;exact⟨pr k' (a,b),(gm _).2 ⟨(a,b),h1,h2,rfl⟩,rfl⟩
 refine⟨_,_,rfl,rfl,by simp,by omega,⟨htab _ (λa b h=> ?_) (λa b h1 h2=> ?_) (λk' a b h=> ?_),?_,λr hr=> ?_,hT.gap⟩,λr hr=> ?_,λp hp=> ?_,by simp,λr hr=> ?_,hgs,λp hp=> ?_⟩
 .show dX _ ⟨ks,a,b⟩=some A;rw[hlk,e8 (by rw[<-h])]
 .show dX _ ⟨ks,a,b⟩=none;rw[hlk,b9 (λc=>h1 (by injection c with _ x y;exact(C4 x y).symm)),e8 ((hgq _ _ _).2 ⟨rfl,h2,h1⟩)]
 .show dX _ ⟨k',a,b⟩=dX m ⟨k',a,b⟩;rw[hlk];rcases h with h|⟨h1,h2⟩
  .rw[b9 (λc=>h (by injection c with x;exact x.symm)),b9 (λc=>h ((hgq _ _ _).1 c).1)]
  .rw[b9 (λc=>h1 (by injection c with _ x y;exact(C4 x y).symm)),b9 (λc=>h2 ((hgq _ _ _).1 c).2.1)]
 .exact SE _ _ (de3 G m hT.nd)
 .rcases Ng _ _ r hr with h|⟨x,hx,rfl⟩
  .exact hT.nrm r ((LK G m).subset h)
  .rw[n5]at hx;subst hx;exact⟨ks,N.1,N.2,A,rfl,by omega,hia⟩
 .rw[n5]at hr;subst hr;exact⟨⟨ks,N.1,N.2,A,rfl,by omega,hia⟩,by rw[hlk,CE,e8 rfl];rfl⟩
 .obtain⟨q,h1,h2,rfl⟩:=(gm p).1 hp;have e:Z6 (pr ks q)=⟨ks,q.1,q.2⟩:=rfl;refine⟨?_,q.1,q.2,rfl⟩;rw[hlk,e,b9 (λc=>h2 (by injection c with _ x y;exact(C4 x y).symm)),e8 ((hgq _ _ _).2 ⟨rfl,h1,h2⟩)]
 .rw[n5]at hr;subst hr;exact⟨rfl,hnow⟩
 .obtain⟨q,h1,h2,rfl⟩:=(gm p).1 hp;obtain⟨c,hc⟩:=hjm q h1;exactλe=>by rw[show dX m (Z6 (pr ks q))=lk m ks q.1 q.2 from rfl,hc]at e;cases e
theorem Se(hk:k=3)(hR:cV k s l g=true){evs:List dG}(hT:TOK (.ses g) evs m)(hm:m.length<=400)(hev:fT evs)(hv:cP v)(he:dC (cL k s l g m ek ks t v)=0):
 ∃R m',eS X (cL k s l g m ek ks t v)= .vl R/\eQ X (cL k s l g m ek ks t v)= .vl m'/\R.length<=16/\(eF (cL k s l g m ek ks t v)).length<=400/\
  TOK (.ses g) (evs++[(ks,t,v)]) m'/\(∀r∈R,nrm r/\dX m' (Z6 r)=some (rA r))/\ ∀p∈eF (cL k s l g m ek ks t v),dX m' (Z6 p)=none/\ ∃a b,p= .vl [.vs ks,.vi a,.vi b]:=by
 obtain⟨R,m',a,b,c,d,e,f,g',_⟩:=Xm hk hR hT hm hev hv he;exact⟨R,m',a,b,c,d,e,f,g'⟩
def eH(k s l g:Int):Tb.Wd:=if k=3 then .ses g else .win (kZ (dT k s l) s)
theorem Bs(hX:XOk X)(hR:cV k s l g=true){evs:List dG}(hT:TOK (eH k s l g) evs m)(hm:m.length<=400)(hev:fT evs)(hv:cP v)(he:dC (cL k s l g m ek ks t v)=0):
 ∃R m',eS X (cL k s l g m ek ks t v)= .vl R/\eQ X (cL k s l g m ek ks t v)= .vl m'/\R.length<=16/\(eF (cL k s l g m ek ks t v)).length<=400/\
  TOK (eH k s l g) (evs++[(ks,t,v)]) m'/\(∀r∈R,nrm r/\dX m' (Z6 r)=some (rA r))/\ ∀p∈eF (cL k s l g m ek ks t v),dX m' (Z6 p)=none/\ ∃a b,p= .vl [.vs ks,.vi a,.vi b]:=by
 by_cases hk:k=3
 .have hw:eH k s l g= .ses g:=e8 hk;rw[hw]at hT⊢;exact Se hk hR hT hm hev hv he
 .have hw:eH k s l g= .win (kZ (dT k s l) s):=b9 hk;rw[hw]at hT⊢;obtain⟨R,a1,a2,a3,a4,a5,a6⟩:=cN0 hX hk hR hT hv he;refine⟨R,_,a1,a3,a4,by rw[a2];simp,a5,a6,λp hp=> ?_⟩;rw[a2]at hp;cases hp
theorem cN4(hX:XOk X)(hR:cV k s l g=true){evs:List dG}(hT:TOK (eH k s l g) evs m)(hm:m.length<=400)(hev:fT evs)(hv:cP v)(he:dC (cL k s l g m ek ks t v)=0):
 ∃R,eS X (cL k s l g m ek ks t v)= .vl R/\(R.map Z6).Nodup/\(∀r∈R,Uz ks t (Z6 r))/\(R.length<=1\/ ∃L,Val.vl R=X 490 [.vl L])/\((eF (cL k s l g m ek ks t v)).map Z6).Pairwise (λp q=>gz p q=true)/\ ∀p∈eF (cL k s l g m ek ks t v),dX m (Z6 p)≠none:=by
 by_cases hk:k=3
 .rw[eH,e8 hk]at hT;obtain⟨R,m',a,b,c,d,e,f,g',h1,h2,h3,h4⟩:=Xm hk hR hT hm hev hv he;refine⟨R,a,?_,h2,.inl h1,h3,h4⟩
  match R,h1 with
  | [],_=>exact .nil
  | [x],_=>simp
 .rw[eH,b9 hk]at hT;obtain⟨R,a1,a2,a3,a4,a5,a6,a7,a8,a9⟩:=Wg hX hk hR hT hv he;rw[a1]at a8;refine⟨R,a1,a7,a9,.inr a8,?_,λp hp=> ?_⟩
  .rw[a2];exact .nil
  .rw[a2]at hp;cases hp
end
end Go.Ev.S9
namespace Go.Ev.S9
open Go Go.Ev
variable{evs:List dG}
theorem Kc: ∀a b:List Nat,Tb.sumN (a++b)=Tb.sumN a+Tb.sumN b
 | [],b=>(m9 _).symm
 |x::a,b=>by show x+Tb.sumN (a++b)=x+Tb.sumN a+Tb.sumN b;rw[Kc a b];omega
theorem VB{α:Type}(f:α->Nat)(c:Nat): ∀l:List α,(∀x∈l,f x<=c)->Tb.sumN (l.map f)<=c*l.length
 | [],_=>by exact s7 _
 |x::l,h=>by
  have h2:=VB f c l (λy hy=>h y (y7 _ hy));grind[Tb.sumN,Nat.mul_add]
theorem Xn{α:Type}(f:α->Nat): ∀l:List α,(∀x∈l,1<=f x)->l.length<=Tb.sumN (l.map f)
 | [],_=>e9 _
 |x::l,h=>by
  have h2:=Xn f l (λy hy=>h y (y7 _ hy));grind[Tb.sumN]
def lI(r:Val)(x:dG):Bool:=Tb.inP (Z6 r).key (Z6 r).a (Z6 r).b x
def IB(r:Val):Int×Int:=((Z6 r).a,(Z6 r).b)
theorem c74{W:Tb.Wd}{m:List Val}(hT:TOK W evs m)(x:dG):
 ((m.filter λr=>lI r x).map IB).Nodup/\ ∀a b,(a,b)∈(m.filter λr=>lI r x).map IB↔Tb.Pan W evs x.1 a b/\a<=x.2.1/\x.2.1<b:=by
 have hkey: ∀r∈m.filter λr=>lI r x,(Z6 r).key=x.1/\(Z6 r).a<=x.2.1/\x.2.1<(Z6 r).b:=λr hr=>by
  obtain⟨q1,q2,q3⟩:=Tb.inP_iff.1 (l6.1 hr).2;grind
 have hnd:((m.filter λr=>lI r x).map Z6).Nodup:=hT.nd.sublist (T6.map _);refine⟨?_,λa b=> ?_⟩
 .rw[B9,G6]at hnd⊢;refine hnd.imp_of_mem λ{r r'} hr hr' hne e=>hne ?_
  have e1:(Z6 r).a=(Z6 r').a:=congrArg Prod.fst e;have e2:(Z6 r).b=(Z6 r').b:=congrArg Prod.snd e;grind[Z6]
 .rw[j7];constructor
  .rintro⟨r,hr,e⟩;obtain⟨q1,q2,q3⟩:=hkey r hr;have hm:=(l6.1 hr).1;have hl:=uq hT.nd hm;have e1:(Z6 r).a=a:=congrArg Prod.fst e;have e2:(Z6 r).b=b:=congrArg Prod.snd e;have hp:Z6 r=⟨x.1,a,b⟩:=by
    grind[Z6]
   rw[hp]at hl;rw[e1]at q2;rw[e2]at q3;exact⟨((hT.tab _ _ _ _).1 hl).1,q2,q3⟩
  .rintro⟨h1,h2,h3⟩;have hl:=(hT.tab x.1 a b _).2 ⟨h1,rfl⟩;obtain⟨r,hr,hp,_⟩:=wU hl;refine⟨r,l6.2 ⟨hr,?_⟩,?_⟩
   .unfold lI;rw[hp];exact Tb.inP_iff.2 ⟨rfl,h2,h3⟩
   grind[IB]
section
variable{k s l g:Int}{m:List Val}
theorem cN5(hR:cV k s l g=true)(hT:TOK (eH k s l g) evs m)(hev:fT evs){x:dG}(hx:x∈evs):(m.filter λr=>lI r x).length=(dw k s l g (.vi x.2.1)).length:=by
 obtain⟨h1,h2⟩:=c74 hT x;have ht:=(hev x hx).1;have lm:((m.filter λr=>lI r x).map IB).length=(m.filter λr=>lI r x).length:=k6 ..;rw[<-lm];by_cases hk:k=3
 .have hw:eH k s l g= .ses g:=e8 hk;rw[hw]at h2;obtain⟨hg1,_⟩:=Cq hR hk;obtain⟨L,q1,q2⟩:=Tb.ses_ex (g:=g) (by omega) x.1 evs;obtain⟨p,p1,p2,p3⟩:=q2 x.2.1 ⟨x,hx,rfl,rfl⟩;have hs:=(q1 p.1 p.2).1 p1;have hp:((m.filter λr=>lI r x).map IB).Perm [p]:=by
   refine(I8 h1 (by simp)).2 λab=> ?_
   rw[n5];refine(h2 ab.1 ab.2).trans ⟨λ⟨c1,c2,c3⟩=> ?_,λc=> ?_⟩
   .have:=Tb.isS.one c1 hs ⟨by omega,by omega⟩;exact C4 this.1 this.2
   .subst c;exact⟨hs,p2,by omega⟩
  rw[hp.length_eq];grind[dw,a09]
 .have hw:eH k s l g= .win (kZ (dT k s l) s):=b9 hk;rw[hw]at h2;obtain⟨p1,p2,p3⟩:=IC (t:=x.2.1) hR hk ht;have lo:((dw k s l g (.vi x.2.1)).map Z9).length=(dw k s l g (.vi x.2.1)).length:=k6 ..;rw[<-lo];refine List.Perm.length_eq ((I8 h1 p1).2 λab=> ?_);refine(h2 ab.1 ab.2).trans (Iff.trans ?_ (p2 ab.1 ab.2).symm);constructor
  .rintro⟨⟨c1,_⟩,c2,c3⟩;grind
  .rintro⟨c1,c2,c3⟩;exact⟨⟨c1,x.2.1,⟨x,hx,rfl,rfl⟩,c2,c3⟩,c2,c3⟩
theorem wC{W:Tb.Wd}(hT:TOK W evs m){r:Val}(hr:r∈m):1<=ci r 3/\(ci r 3).toNat=(evs.filter (lI r)).length/\rA r=Tb.agOf (Tb.vals evs (Z6 r).key (Z6 r).a (Z6 r).b)/\Tb.vals evs (Z6 r).key (Z6 r).a (Z6 r).b≠[]:=by
 have hl:=uq hT.nd hr;obtain⟨q1,q2,q3,q4⟩:=hT.pos hl;have e:ci r 3=((Tb.vals evs (Z6 r).key (Z6 r).a (Z6 r).b).length:Int):=congrArg Prod.fst q3;refine⟨q1,?_,q3,Tb.Pan.ne hT.gap q4⟩;rw[e,Int.toNat_natCast];unfold Tb.vals;rw[k6];rfl
def jF(m:List Val):Nat:=Tb.sumN (m.map λr=>(ci r 3).toNat)
def lL(k s l g:Int)(evs:List dG):Nat:=Tb.sumN (evs.map λx=>(dw k s l g (.vi x.2.1)).length)
theorem YO(hR:cV k s l g=true)(hT:TOK (eH k s l g) evs m)(hev:fT evs):jF m=lL k s l g evs:=by
 unfold jF lL;rw[s9 (λr hr=>(wC hT hr).2.1),Tb.twice (λr x=>lI r x) evs m];congr 1;exact s9 λx hx=>cN5 hR hT hev hx
theorem RU(k s l g:Int)(t:Val):(dw k s l g t).length<=16:=by
 by_cases hk:k=3
 .unfold dw;grind
 .exact BO hk
theorem de7(k s l g:Int)(t:Val)(hk:k=3):(dw k s l g t).length<=1:=by
 unfold dw;grind
theorem OY(k s l g:Int)(evs:List dG):lL k s l g evs<=16*evs.length/\(k=3->lL k s l g evs<=evs.length):=by
 refine⟨VB _ 16 evs λx _=>RU k s l g _,λhk=> ?_⟩;have:=VB (λx:dG=>(dw k s l g (.vi x.2.1)).length) 1 evs λx _=>de7 k s l g _ hk
 rw[G1]at this;exact this
theorem cv5(hR:cV k s l g=true)(hT:TOK (eH k s l g) evs m)(hev:fT evs):m.length<=16*evs.length/\(k=3->m.length<=evs.length):=by
 have h1:m.length<=jF m:=Xn _ m λr hr=>by
  have:=(wC hT hr).1;omega
 rw[YO hR hT hev]at h1;grind[OY]
theorem dA3{W:Tb.Wd}(hT:TOK W evs m){r:Val}(hr:r∈m):AZ (ci r 3) (ci r 4) (ci r 5) (ci r 6)=true/\rU (ci r 3) (ci r 4) (ci r 5) (ci r 6)=false:=by
 obtain⟨h1,_,h3,h4⟩:=wC hT hr;have hb:rU (ci r 3) (ci r 4) (ci r 5) (ci r 6)=false:=by
  grind[rU,decide_eq_false]
 generalize Tb.vals evs (Z6 r).key (Z6 r).a (Z6 r).b=V at*
 have e0:ci r 3=(V.length:Int):=congrArg Prod.fst h3;have e1:ci r 4=Tb.sumI V:=congrArg (λx=>x.2.1) h3;have e2:ci r 5=Tb.minI V:=congrArg (λx=>x.2.2.1) h3;have e3:ci r 6=Tb.maxI V:=congrArg (λx=>x.2.2.2) h3;obtain⟨m1,m2⟩:=Tb.minI_spec h4;have mx:=(Tb.maxI_spec h4).2 _ m1;unfold AZ;by_cases c:1<ci r 3
 .grind
 .match V,e0,e1,e2,e3,h4 with
  | [],_,_,_,_,h4=>grind
  | [x],e0,e1,e2,e3,_=>
    have e1:ci r 4=x+0:=e1;have e3:ci r 6=x:=e3;grind
  |x::y::z,e0,_,_,_,_=>
   grind
end
end Go.Ev.S9
namespace Go.Ev.S9
open Go Go.Ev
theorem Ki{I:Opq}(a b:SX):dB I (fV a b)=decide ((bZ I b).toI<(bZ I a).toI):=rfl
theorem cT{I:Opq}(a b:SX):dB I (zs a b)=decide ((bZ I a).toI<(bZ I b).toI):=rfl
theorem iN{l:List Val}{i:Nat}(h:i<l.length):cg l i∈l:=by
 have e:cg l i=l[i]:=by simp[cg,j8,h]
 rw[e];exact B5 h
section
variable{X:Nat->List Val->Val}{I:Opq}(hf: ∀i a,I.f i a=FT X i a)
include hf
theorem dS5{R m':List Val}{fl:Val}(D1: ∀vs,bZ (I.upd 4000 vs) x731= .vl R)(D3: ∀vs,bZ (I.upd 4000 vs) x733= .vl m')(hR:R.length<=1000)(hm:m'.length<=1000000)(hr: ∀r∈R,dX m' (Z6 r)=some (rA r)):
 cO (λvs=>Z0 e46 (I.upd 4000 vs)) [fl,.vi 0]=some (0,[fl,.vi R.length]):=by
 refine eE (st:=λk=>[fl,.vi k]) (n:=R.length) (λk hk=> ?_) ?_
 .have D1:=D1 [fl,.vi k];have D3:=D3 [fl,.vi k];have v0:(I.upd 4000 [fl,.vi k]).w 4000=fl:=by rfl
  have v1:(I.upd 4000 [fl,.vi k]).w 4001= .vi k:=by rfl
  have hf': ∀i a,(I.upd 4000 [fl,.vi k]).f i a=FT X i a:=λi a=>by grind[eV]
  generalize I.upd 4000 [fl,.vi k]=aa at*
  have inc:cn .add .i64 (Val.vi (k:Int)).toI 1=((k+1:Nat):Int):=eJ hk (by omega);have hx:=hr _ (iN hk);have dr: ∀j:Nat,bZ aa (rx j)=Z7 (cg R k) j:=λj=>by
   show co (bZ aa x731).toL (aa.w 4001).toI (j:Int)=_;rw[D1,v1];rfl
  have r0:bZ aa (rx 0)=Z7 (cg R k) 0:=dr 0;have r1:bZ aa (rx 1)=Z7 (cg R k) 1:=dr 1;have r2:bZ aa (rx 2)=Z7 (cg R k) 2:=dr 2;have r3:bZ aa (rx 3)=Z7 (cg R k) 3:=dr 3;have r4:bZ aa (rx 4)=Z7 (cg R k) 4:=dr 4;have r5:bZ aa (rx 5)=Z7 (cg R k) 5:=dr 5;have r6:bZ aa (rx 6)=Z7 (cg R k) 6:=dr 6;have hp:Z6 (Val.vl [Z7 (cg R k) 0,Z7 (cg R k) 1,Z7 (cg R k) 2])=Z6 (cg R k):=rfl;obtain⟨r,hrm,_,hA,hh,hc⟩:=Aw (m:=m') (p:= .vl [Z7 (cg R k) 0,Z7 (cg R k) 1,Z7 (cg R k) 2]) (a:=rA (cg R k)) (by grind);have hA0:(Z7 r 3).toI=(Z7 (cg R k) 3).toI:=congrArg (λa=>a.1) hA;have hA1:(Z7 r 4).toI=(Z7 (cg R k) 4).toI:=congrArg (λa=>a.2.1) hA;have hA2:(Z7 r 5).toI=(Z7 (cg R k) 5).toI:=congrArg (λa=>a.2.2.1) hA;have hA3:(Z7 r 6).toI=(Z7 (cg R k) 6).toI:=congrArg (λa=>a.2.2.2) hA;have dt:bZ aa tx= .vl [.vl (qa m' (.vl [Z7 (cg R k) 0,Z7 (cg R k) 1,Z7 (cg R k) 2]))]:=by
   show aa.f 721 [bZ aa x733,bZ aa (rx 0),bZ aa (rx 1),bZ aa (rx 2)]=_;rw[hf',D3,r0,r1,r2];rfl
  have dq: ∀j,co (bZ aa tx).toL 0 j=(qa m' (.vl [Z7 (cg R k) 0,Z7 (cg R k) 1,Z7 (cg R k) 2])).getD j.toNat default:=λj=>by rw[dt];rfl
  refine cG ?_ (W8 ?_ (W8 ?_ (cE ?_ (cE ?_ ?_))))
  .simp_all[cT,Z8,cy,c9]
  .simp_all[cI,cF,cy,c9]
  .rw[cI,Z8,cF,D3];exact c9 (by show(m'.length:Int)<=1000000;omega)
  .show(!(aa.f 722 [bZ aa x733,bZ aa (rx 0),bZ aa (rx 1),bZ aa (rx 2)]).toB)=false;rw[hf',D3,r0,r1,r2];show(!gO m' (.vl [Z7 (cg R k) 0,Z7 (cg R k) 1,Z7 (cg R k) 2]))=false;grind
  .show(!(decide ((co (bZ aa tx).toL 0 0).toI=(bZ aa (rx 3)).toI)&&(decide ((co (bZ aa tx).toL 0 1).toI=(bZ aa (rx 4)).toI)&&(decide ((co (bZ aa tx).toL 0 2).toI=(bZ aa (rx 5)).toI)&&decide ((co (bZ aa tx).toL 0 3).toI=(bZ aa (rx 6)).toI)))))=false;rw[dq,dq,dq,dq,r3,r4,r5,r6];show(!(decide ((ii m' (.vl [Z7 (cg R k) 0,Z7 (cg R k) 1,Z7 (cg R k) 2]) 3).toI=(Z7 (cg R k) 3).toI)&&(decide ((ii m' (.vl [Z7 (cg R k) 0,Z7 (cg R k) 1,Z7 (cg R k) 2]) 4).toI=(Z7 (cg R k) 4).toI)&&(decide ((ii m' (.vl [Z7 (cg R k) 0,Z7 (cg R k) 1,Z7 (cg R k) 2]) 5).toI=(Z7 (cg R k) 5).toI)&&decide ((ii m' (.vl [Z7 (cg R k) 0,Z7 (cg R k) 1,Z7 (cg R k) 2]) 6).toI=(Z7 (cg R k) 6).toI)))))=false;grind
  .show some (0,[aa.w 4000,Val.vi (cn .add .i64 (aa.w 4001).toI 1)])=_;grind
 .have D1:=D1 [fl,.vi R.length];have v0:(I.upd 4000 [fl,.vi R.length]).w 4000=fl:=by rfl
  have v1:(I.upd 4000 [fl,.vi R.length]).w 4001= .vi R.length:=by rfl
  generalize I.upd 4000 [fl,.vi R.length]=aa at*
  refine cE ?_ ?_
  .simp_all[cT,Z8,cy,i6]
  .show some (1,[aa.w 4000,aa.w 4001])=_;grind
theorem dS6{G m':List Val}{fl:Val}(D0: ∀vs,bZ (I.upd 4000 vs) x730= .vl G)(D3: ∀vs,bZ (I.upd 4000 vs) x733= .vl m')(hG:G.length<=1000)(hm:m'.length<=1000000)(hr: ∀r∈G,dX m' (Z6 r)=none):
 cO (λvs=>Z0 WF (I.upd 4000 vs)) [fl,.vi 0]=some (0,[fl,.vi G.length]):=by
 refine eE (st:=λk=>[fl,.vi k]) (n:=G.length) (λk hk=> ?_) ?_
 .have D0:=D0 [fl,.vi k];have D3:=D3 [fl,.vi k];have v0:(I.upd 4000 [fl,.vi k]).w 4000=fl:=by rfl
  have v1:(I.upd 4000 [fl,.vi k]).w 4001= .vi k:=by rfl
  have hf': ∀i a,(I.upd 4000 [fl,.vi k]).f i a=FT X i a:=λi a=>by grind[eV]
  generalize I.upd 4000 [fl,.vi k]=aa at*
  have inc:cn .add .i64 (Val.vi (k:Int)).toI 1=((k+1:Nat):Int):=eJ hk (by omega);have hx:=hr _ (iN hk);have dr: ∀j:Nat,bZ aa (gx j)=Z7 (cg G k) j:=λj=>by
   show co (bZ aa x730).toL (aa.w 4001).toI (j:Int)=_;rw[D0,v1];rfl
  have r0:bZ aa (gx 0)=Z7 (cg G k) 0:=dr 0;have r1:bZ aa (gx 1)=Z7 (cg G k) 1:=dr 1;have r2:bZ aa (gx 2)=Z7 (cg G k) 2:=dr 2;have hp:Z6 (Val.vl [Z7 (cg G k) 0,Z7 (cg G k) 1,Z7 (cg G k) 2])=Z6 (cg G k):=rfl;obtain⟨hh,_⟩:=Nu (m:=m') (p:= .vl [Z7 (cg G k) 0,Z7 (cg G k) 1,Z7 (cg G k) 2]) (by grind);refine cG ?_ (W8 ?_ (W8 ?_ (cE ?_ ?_)))
  .simp_all[cT,Z8,cy,c9]
  .simp_all[cI,cF,cy,c9]
  .rw[cI,Z8,cF,D3];exact c9 (by show(m'.length:Int)<=1000000;omega)
  .show(aa.f 722 [bZ aa x733,bZ aa (gx 0),bZ aa (gx 1),bZ aa (gx 2)]).toB=false;rw[hf',D3,r0,r1,r2];exact hh
  .show some (0,[aa.w 4000,Val.vi (cn .add .i64 (aa.w 4001).toI 1)])=_;grind
 .have D0:=D0 [fl,.vi G.length];have v0:(I.upd 4000 [fl,.vi G.length]).w 4000=fl:=by rfl
  have v1:(I.upd 4000 [fl,.vi G.length]).w 4001= .vi G.length:=by rfl
  generalize I.upd 4000 [fl,.vi G.length]=aa at*
  refine cE ?_ ?_
  .simp_all[cT,Z8,cy,i6]
  .show some (1,[aa.w 4000,aa.w 4001])=_;grind
end
end Go.Ev.S9
namespace Go.Ev.S9
open Go Go.Ev
structure RC (I:Opq) (k s l g:Int) (ops:List Val) (i:Nat) (m:List Val) (ek:Int) (ks:List UInt8) (t v:Int):Prop where
 w0:I.w 0= .vi k
 w1:I.w 1= .vi s
 w2:I.w 2= .vi l
 w3:I.w 3= .vi g
 w4:I.w 4= .vl ops
 wi:I.w 2003= .vi i
 wm:I.w 2004= .vl m
 row:cg ops i= .vl [.vi ek,.vs ks,.vi t,.vi v]
def vJ(k:Int)(m:List Val):Prop:=(∀r∈m,nrm r)/\(m.map Z6).Nodup/\m.length<=400/\(k=3->m.length<=24)
section
variable{X:Nat->List Val->Val}{I:Opq}{k s l g:Int}{ops:List Val}{i:Nat}{m:List Val}{ek:Int}{ks:List UInt8}{t v:Int}
theorem RC.up(h:RC I k s l g ops i m ek ks t v)(vs:List Val):RC (I.upd 4000 vs) k s l g ops i m ek ks t v:=by
 have W: ∀n:Nat,n<4000->(I.upd 4000 vs).w n=I.w n:=λn hn=>by simp_all[cN,b9]
 exact⟨(W 0 (by omega)).trans h.w0,(W 1 (by omega)).trans h.w1,(W 2 (by omega)).trans h.w2,(W 3 (by omega)).trans h.w3,(W 4 (by omega)).trans h.w4,(W 2003 (by omega)).trans h.wi,(W 2004 (by omega)).trans h.wm,h.row⟩
theorem RC.ex(h:RC I k s l g ops i m ek ks t v)(j:Nat):bZ I (ex j)=Z7 (.vl [.vi ek,.vs ks,.vi t,.vi v]) j:=by
 show co (I.w 4).toL (I.w 2003).toI (j:Int)=_;rw[h.w4,h.wi,<-h.row];rfl
theorem RC.aX(h:RC I k s l g ops i m ek ks t v):ck I aX=cL k s l g m ek ks t v:=by
 show [I.w 0,I.w 1,I.w 2,I.w 3,I.w 2004,bZ I (S9.ex (0:Nat)),bZ I (S9.ex (1:Nat)),bZ I (S9.ex (2:Nat)),bZ I (S9.ex (3:Nat))]=_;rw[h.w0,h.w1,h.w2,h.w3,h.wm,h.ex,h.ex,h.ex,h.ex];rfl
variable(hf: ∀i a,I.f i a=FT X i a)
include hf
theorem RC.x730(h:RC I k s l g ops i m ek ks t v):bZ I x730= .vl (eF (cL k s l g m ek ks t v)):=by
 show I.f 730 (ck I S9.aX)=_;rw[h.aX,hf];rfl
theorem RC.x731(h:RC I k s l g ops i m ek ks t v):bZ I x731=eS X (cL k s l g m ek ks t v):=by
 show I.f 731 (ck I S9.aX)=_;rw[h.aX,hf];rfl
theorem RC.x732(h:RC I k s l g ops i m ek ks t v):bZ I x732= .vi (dC (cL k s l g m ek ks t v)):=by
 show I.f 732 (ck I S9.aX)=_;rw[h.aX,hf];rfl
theorem RC.x733(h:RC I k s l g ops i m ek ks t v):bZ I x733=eQ X (cL k s l g m ek ks t v):=by
 show I.f 733 (ck I S9.aX)=_;rw[h.aX,hf];rfl
theorem tH(hX:XOk X){x:SX}(hd:bZ I x= .vl m)(ho:vJ k m):dB I (AY x)=true:=by
 show((decide (((bZ I x).toL.length:Int)<=400)&&(I.f 431 [bZ I x]).toB)&&(I.f 491 [bZ I x]).toB)=true;rw[hf,hf,hd];have h1:=hX.x431 m (λr hr=>uI (ho.1 r hr));have h2:=hX.x491 m ho.2.1;show((decide ((m.length:Int)<=400)&&(X 431 [.vl m]).toB)&&(X 491 [.vl m]).toB)=true;have h3:=ho.2.2.1;grind
theorem Nd{e0 e1 e2:SX}(h0:bZ I e0= .vi k)(h1:bZ I e1= .vl m)(h2:bZ I e2= .vs ks)(ho:vJ k m):dB I (.app 739 [e0,e1,e2])=true:=by
 show(I.f 739 [bZ I e0,bZ I e1,bZ I e2]).toB=true;rw[hf,h0,h1,h2];show((!decide (k=3)||decide (m.length<=24))&&true)=true;by_cases c:k=3
 .rw[c9 c,c9 (ho.2.2.2 c)];rfl
 grind
theorem cv6(hX:XOk X)(h:RC I k s l g ops i m ek ks t v)(ho:vJ k m)(hi:i<ops.length){r:Option (Nat×List Val)}(hr:Z0 (.ite (cZ (S9.x732) aM) e48 Wm) I=r):Z0 Hy I=r:=by
 refine cG ?_ (W8 (tH hf hX h.wm ho) (W8 ?_ (W8 (Nd hf h.w0 h.wm (h.ex 1) ho) hr)))
 .rw[cT,Z8,cy,dR,h.w4,h.wi];simp_all
 .rw[cI,cF,cy,h.wi];rfl
theorem cN7(hX:XOk X)(h:RC I k s l g ops i m ek ks t v)(ho:vJ k m)(hi:i<ops.length)(hn:ops.length<=24)(he:dC (cL k s l g m ek ks t v)≠0):
 Z0 Hy I=some (0,[I.w 2000,I.w 2001,I.w 2002,.vi (i+1:Nat),.vl m,I.w 2005]):=by
 obtain⟨eG,eR,eM⟩:=Jn (X:=X) he;obtain⟨L,hL,hLp⟩:=hX.x490 m (λr hr=>uI (ho.1 r hr));have inc:cn .add .i64 (Val.vi (i:Int)).toI 1=((i+1:Nat):Int):=eJ hi (by omega);have d0:=h.x730 hf;have d1:=h.x731 hf;have d3:=h.x733 hf;rw[eM]at d3;refine cv6 hf hX h ho hi (cG ?_ ?_)
 .rw[eZ,cF,h.x732 hf,a09,i6 he];rfl
 refine cE ?_ (cE ?_ (W8 (tH hf hX d3 ho) (W8 ?_ (cE ?_ ?_))))
 .simp_all[Ki,Z8,cF]
 .simp_all[Ki,Z8,cF]
 .show decide (((I.f 490 [I.w 2004]).toL.length:Int)<=1000000)=true;rw[hf,h.wm];show decide (((X 490 [.vl m]).toL.length:Int)<=1000000)=true;rw[hL];have:=hLp.length_eq;have:=ho.2.2.1;exact c9 (by show(L.length:Int)<=1000000;omega)
 .show(!(I.f 3 [I.f 490 [I.w 2004],I.f 490 [bZ I S9.x733]]).toB)=false;rw[hf,hf,hf,h.wm,d3];show(!(X 3 [X 490 [.vl m],X 490 [.vl m]]).toB)=false;rw[hX.x3];rfl
 .show some (0,[I.w 2000,I.w 2001,I.w 2002,Val.vi (cn .add .i64 (I.w 2003).toI 1),bZ I S9.x733,I.w 2005])=_;rw[d3,h.wi,inc]
theorem cv7(hX:XOk X)(h:RC I k s l g ops i m ek ks t v)(ho:vJ k m)(hi:i<ops.length)(hn:ops.length<=24)(he:dC (cL k s l g m ek ks t v)=0)
 {R m' T:List Val} (hR:eS X (cL k s l g m ek ks t v)= .vl R) (hM:eQ X (cL k s l g m ek ks t v)= .vl m') (hRl:R.length<=16) (hGl:(eF (cL k s l g m ek ks t v)).length<=400) (hm':m'.length<=1000000)
 (hr: ∀r∈R,dX m' (Z6 r)=some (rA r)) (hg: ∀p∈eF (cL k s l g m ek ks t v),dX m' (Z6 p)=none) (h5:I.w 2005= .vl T) (h1:I.w 2001= .vi T.length) (hT:T.length<=24):
 Z0 Hy I=some (0,[I.w 2000,.vi (T.length+1:Nat),.vi (cn .add .i64 (I.w 2002).toI (dw k s l g (.vi t)).length),.vi (i+1:Nat),.vl m',.vl (T++[.vl [.vi ek,.vs ks,.vi t,.vi v]])]):=by
 have inc:cn .add .i64 (Val.vi (i:Int)).toI 1=((i+1:Nat):Int):=eJ hi (by omega);have d0:=h.x730 hf;have d1:=h.x731 hf;have d3:=h.x733 hf;rw[hR]at d1;rw[hM]at d3;have hf': ∀vs,∀i a,(I.upd 4000 vs).f i a=FT X i a:=λvs i a=>by grind[eV]
 have D0: ∀vs,bZ (I.upd 4000 vs) S9.x730= .vl (eF (cL k s l g m ek ks t v)):=λvs=>(h.up vs).x730 (hf' vs)
 have D1: ∀vs,bZ (I.upd 4000 vs) S9.x731= .vl R:=λvs=>((h.up vs).x731 (hf' vs)).trans hR
 have D3: ∀vs,bZ (I.upd 4000 vs) S9.x733= .vl m':=λvs=>((h.up vs).x733 (hf' vs)).trans hM
 generalize eF (cL k s l g m ek ks t v)=G at*
 have dN:bZ I nF= .vl (T++[.vl [.vi ek,.vs ks,.vi t,.vi v]]):=by
  show Val.vl ((I.w 2005).toL++[Val.vl [bZ I (S9.ex (0:Nat)),bZ I (S9.ex (1:Nat)),bZ I (S9.ex (2:Nat)),bZ I (S9.ex (3:Nat))]])=_;rw[h5,h.ex,h.ex,h.ex,h.ex];rfl
 have dm:bZ I Al= .vi (cn .add .i64 (I.w 2002).toI (dw k s l g (.vi t)).length):=by
  show Val.vi (cn .add .i64 (I.w 2002).toI ((I.f 704 [I.w 0,I.w 1,I.w 2,I.w 3,bZ I (S9.ex (2:Nat))]).toL.length:Int))=_;rw[hf,h.w0,h.w1,h.w2,h.w3,h.ex];rfl
 have e1:bZ I QP=cA (0,[I.w 2000,.vi R.length]):=by
  show I.f 767 (ck I ([aV,aM]++Rg))=_;rw[hf];show cA (0,[I.w 2000,.vi (bZ I S9.x731).toL.length])=_;rw[d1];rfl
 have y1:bZ I xP=I.w 2000:=by
  show co (bZ I QP).toL 1 0=_;rw[e1];rfl
 have e2:bZ I QK=cA (0,[I.w 2000,.vi G.length]):=by
  show I.f 768 (ck I ([xP,aM]++Qz))=_;rw[hf];show cA (0,[bZ I xP,.vi (bZ I S9.x730).toL.length])=_;simp_all
 have y2:bZ I IQ=I.w 2000:=by
  show co (bZ I QK).toL 1 0=_;rw[e2];rfl
 refine cv6 hf hX h ho hi (cE ?_ ?_)
 .rw[eZ,cF,h.x732 hf,a09,he];rfl
 refine W8 ?_ (Z5 (r:=(0,[I.w 2000,.vi R.length])) ?_ e1 (Z5 (r:=(0,[I.w 2000,.vi G.length])) ?_ e2 ?_))
 .rw[cX,eo,cI,cy,Z8,Z8,dR,cF,dN,h1,h5];rw[j6];refine⟨c9 rfl,c9 ?_⟩;show(((T++[Val.vl [.vi ek,.vs ks,.vi t,.vi v]]).length:Nat):Int)<=1000000;grind
 .exact dS5 hf D1 D3 (by omega) hm' hr
 .show cO _ [bZ I xP,.vi 0]=_;rw[y1];exact dS6 hf D0 D3 (by omega) hm' hg
 .show some (0,[bZ I IQ,Val.vi (bZ I nF).toL.length,bZ I Al,Val.vi (cn .add .i64 (I.w 2003).toI 1),bZ I S9.x733,bZ I nF])=_;rw[y2,dN,dm,d3,h.wi,inc,a65,k5,List.length_singleton]
end
end Go.Ev.S9
namespace Go.Ev.S9
open Go Go.Ev
def cw(x:dG):Val:= .vl [.vi 1,.vs x.1,.vi x.2.1,.vi x.2.2]
def qL(evs:List dG):Prop:= ∀x∈evs,dH 1 x.1 x.2.1 x.2.2=0
theorem HB{r:Val}(h:nL r=true): ∃ek ks t v,r= .vl [.vi ek,.vs ks,.vi t,.vi v]/\cP v:=by
 unfold nL at h;split at h
 .rename_i ek ks t v;rw[j6,decide_eq_true_eq,decide_eq_true_eq]at h;exact⟨ek,ks,t,v,rfl,h⟩
 .cases h
section
variable{X:Nat->List Val->Val}{k s l g:Int}{m:List Val}
theorem uV(hR:cV k s l g=true){evs:List dG}(hT:TOK (eH k s l g) evs m)(hev:fT evs)(hl:evs.length<=24):vJ k m:=by
 obtain⟨h1,h2⟩:=cv5 hR hT hev;exact⟨hT.nrm,hT.nd,by omega,λhk=>by omega⟩
theorem Vo(hR:cV k s l g=true):TOK (eH k s l g) [] []:=
 ⟨Tb.tab_nil _,List.nodup_nil,λr h=>absurd h (E7),λg' h=>by
  unfold eH at h;by_cases hk:k=3
  .rw[e8 hk]at h;cases h;have:=(Cq hR hk).1;omega
  grind⟩
theorem Tg{evs:List dG}{x:dG}(h:fT evs)(ht:eU x.2.1=true)(hv:cP x.2.2):fT (evs++[x]):=λy hy=>by
 rcases z8.1 hy with h1|h1
 .exact h y h1
 grind
theorem So{evs:List dG}{x:dG}(h:qL evs)(hv:dH 1 x.1 x.2.1 x.2.2=0):qL (evs++[x]):=λy hy=>by
 rcases z8.1 hy with h1|h1
 .exact h y h1
 grind
def OI(k s l g:Int)(i:Nat)(p:Int×Val×List Val):Prop:= ∃m evs,p.2.1= .vl m/\p.2.2=evs.map cw/\TOK (eH k s l g) evs m/\fT evs/\qL evs/\evs.length<=i/\p.1=(lL k s l g evs:Int)
theorem de8(hR:cV k s l g=true)(ops:List Val):OI k s l g 0 (fK X (.vi k) (.vi s) (.vi l) (.vi g) ops 0):=
 ⟨[],[],rfl,rfl,Vo hR,λx h=>absurd h (E7),λx h=>absurd h (E7),e9 _,rfl⟩
theorem AO{ops:List Val}{i:Nat}{ek:Int}{ks:List UInt8}{t v:Int}{M:Val}(hM:M= .vl m)(h:cg ops i= .vl [.vi ek,.vs ks,.vi t,.vi v]):gk (.vi k) (.vi s) (.vi l) (.vi g) M (cg ops i)=cL k s l g m ek ks t v:=by
 rw[h,hM];rfl
theorem de9(hX:XOk X)(hR:cV k s l g=true){ops:List Val}{i:Nat}(hi:i<24)(ho:nL (cg ops i)=true)(h:OI k s l g i (fK X (.vi k) (.vi s) (.vi l) (.vi g) ops i)):OI k s l g (i+1) (fK X (.vi k) (.vi s) (.vi l) (.vi g) ops (i+1)):=by
 obtain⟨m,evs,h1,h2,h3,h4,h5,h6,h7⟩:=h;obtain⟨ek,ks,t,v,hr,hv⟩:=HB ho;have hw:=AO (k:=k) (s:=s) (l:=l) (g:=g) h1 hr;have hm:m.length<=400:=(uV hR h3 h4 (by omega)).2.2.1;rw[show fK X (.vi k) (.vi s) (.vi l) (.vi g) ops (i+1)=if dC (gk (.vi k) (.vi s) (.vi l) (.vi g) (fK X (.vi k) (.vi s) (.vi l) (.vi g) ops i).2.1 (cg ops i))≠0 then((fK X (.vi k) (.vi s) (.vi l) (.vi g) ops i).1,eQ X (gk (.vi k) (.vi s) (.vi l) (.vi g) (fK X (.vi k) (.vi s) (.vi l) (.vi g) ops i).2.1 (cg ops i)),(fK X (.vi k) (.vi s) (.vi l) (.vi g) ops i).2.2)
  else(cn .add .i64 (fK X (.vi k) (.vi s) (.vi l) (.vi g) ops i).1 (dw (Val.vi k).toI (Val.vi s).toI (Val.vi l).toI (Val.vi g).toI (Z7 (cg ops i) 2)).length,eQ X (gk (.vi k) (.vi s) (.vi l) (.vi g) (fK X (.vi k) (.vi s) (.vi l) (.vi g) ops i).2.1 (cg ops i)),(fK X (.vi k) (.vi s) (.vi l) (.vi g) ops i).2.2++[lq (cg ops i)])from rfl]
 rw[hw];by_cases he:dC (cL k s l g m ek ks t v)≠0
 .rw[e8 he];exact⟨m,evs,(Jn he).2.2,h2,h3,h4,h5,by omega,h7⟩
 .rw[b9 he];replace he:=Classical.not_not.1 he;obtain⟨R,m',a1,a2,a3,a4,a5,a6,a7⟩:=Bs hX hR h3 hm h4 hv he;obtain⟨q0,q1⟩:=BX he;subst q1;have b1:=(OY k s l g evs).1;have b2:=RU k s l g (.vi t);refine⟨m',evs++[(ks,t,v)],a2,?_,a5,Tg h4 (tL q0 rfl).2 hv,So h5 q0,by grind,?_⟩
  .rw[h2,hr,n8];rfl
  .show cn .add .i64 (fK X (.vi k) (.vi s) (.vi l) (.vi g) ops i).1 (dw k s l g (Z7 (cg ops i) 2)).length=_;have e:lL k s l g (evs++[(ks,t,v)])=lL k s l g evs+(dw k s l g (.vi t)).length:=by
    unfold lL;rw[n8,Kc];rfl
   have e2:Z7 (cg ops i) 2= .vi t:=by rw[hr];rfl
   grind[gj]
theorem Un(hX:XOk X)(hR:cV k s l g=true){ops:List Val}(hn:ops.length<=24)(ho: ∀r∈ops,nL r=true): ∀i,i<=ops.length->OI k s l g i (fK X (.vi k) (.vi s) (.vi l) (.vi g) ops i)
 |0,_=>de8 hR ops
 |i+1,h=>de9 hX hR (by omega) (ho _ (iN (by omega))) (Un hX hR hn ho i (by omega))
noncomputable def BT(X:Nat->List Val->Val)(k s l g:Int)(ops:List Val)(i:Nat):List Val:=[.vb false,.vi (fK X (.vi k) (.vi s) (.vi l) (.vi g) ops i).2.2.length,.vi (fK X (.vi k) (.vi s) (.vi l) (.vi g) ops i).1,.vi i,(fK X (.vi k) (.vi s) (.vi l) (.vi g) ops i).2.1,.vl (fK X (.vi k) (.vi s) (.vi l) (.vi g) ops i).2.2]
variable{I:Opq}(hf: ∀i a,I.f i a=FT X i a)
include hf
theorem dS7(hX:XOk X)(hR:cV k s l g=true){ops:List Val}(hn:ops.length<=24)(ho: ∀r∈ops,nL r=true)(w0:I.w 0= .vi k)(w1:I.w 1= .vi s)(w2:I.w 2= .vi l)(w3:I.w 3= .vi g)(w4:I.w 4= .vl ops):
 cO (λvs=>Z0 Hy (I.upd 2000 vs)) [.vb false,.vi 0,.vi 0,.vi 0,.vl [],.vl []]=some (0,BT X k s l g ops ops.length):=by
 have W: ∀vs:List Val,∀n:Nat,n<2000->(I.upd 2000 vs).w n=I.w n:=λvs n hn=>by simp_all[cN,b9]
 have U0: ∀a b c d e f:Val,(I.upd 2000 [a,b,c,d,e,f]).w 2000=a:=λa b c d e f=>by rfl
 have U1: ∀a b c d e f:Val,(I.upd 2000 [a,b,c,d,e,f]).w 2001=b:=λa b c d e f=>by rfl
 have U2: ∀a b c d e f:Val,(I.upd 2000 [a,b,c,d,e,f]).w 2002=c:=λa b c d e f=>by rfl
 have U3: ∀a b c d e f:Val,(I.upd 2000 [a,b,c,d,e,f]).w 2003=d:=λa b c d e f=>by rfl
 have U4: ∀a b c d e f:Val,(I.upd 2000 [a,b,c,d,e,f]).w 2004=e:=λa b c d e f=>by rfl
 have U5: ∀a b c d e f:Val,(I.upd 2000 [a,b,c,d,e,f]).w 2005=f:=λa b c d e f=>by rfl
 refine eE (st:=BT X k s l g ops) (n:=ops.length) (λi hi=> ?_) ?_
 .have hoi:=Un hX hR hn ho i (by omega);have hor:=ho _ (iN hi);obtain⟨ek,ks,t,v,hr,hv⟩:=HB hor;obtain⟨m,evs,h1,h2,h3,h4,h5,h6,h7⟩:=hoi;have hw:=AO (k:=k) (s:=s) (l:=l) (g:=g) h1 hr;have hok:=uV hR h3 h4 (by omega);have hS:fK X (.vi k) (.vi s) (.vi l) (.vi g) ops (i+1)=if dC (cL k s l g m ek ks t v)≠0 then((fK X (.vi k) (.vi s) (.vi l) (.vi g) ops i).1,eQ X (cL k s l g m ek ks t v),(fK X (.vi k) (.vi s) (.vi l) (.vi g) ops i).2.2)
   else(cn .add .i64 (fK X (.vi k) (.vi s) (.vi l) (.vi g) ops i).1 (dw k s l g (.vi t)).length,eQ X (cL k s l g m ek ks t v),(fK X (.vi k) (.vi s) (.vi l) (.vi g) ops i).2.2++[.vl [.vi ek,.vs ks,.vi t,.vi v]]):=by
   have z1:(.vi t:Val)=Z7 (cg ops i) 2:=by rw[hr];rfl
   have z2:Val.vl [.vi ek,.vs ks,.vi t,.vi v]=lq (cg ops i):=by rw[hr];rfl
   rw[z2,z1,<-hw];rfl
  unfold BT;rw[hS,h1,h2,h7];have hrc:RC (I.upd 2000 [.vb false,.vi (evs.map cw).length,.vi (lL k s l g evs:Int),.vi i,.vl m,.vl (evs.map cw)]) k s l g ops i m ek ks t v:=
   ⟨by grind,by grind,by grind,by grind,by grind,U3 ..,U4 ..,hr⟩
  have hf': ∀j a,(I.upd 2000 [.vb false,.vi (evs.map cw).length,.vi (lL k s l g evs:Int),.vi i,.vl m,.vl (evs.map cw)]).f j a=FT X j a:=λj a=>by grind[eV]
  by_cases he:dC (cL k s l g m ek ks t v)≠0
  .refine(cN7 hf' hX hrc hok hi hn he).trans ?_;simp_all[Jn]
  .replace he:=Classical.not_not.1 he;obtain⟨R,m',a1,a2,a3,a4,a5,a6,a7⟩:=Bs hX hR h3 hok.2.2.1 h4 hv he;obtain⟨q0,q1⟩:=BX he;have hok':=cv5 hR a5 (Tg h4 (tL q0 q1).2 hv);rw[k5,List.length_singleton]at hok';refine(cv7 hf' hX hrc hok hi hn he a1 a2 a3 a4 (by omega) (λr hr=>(a6 r hr).2) (λp hp=>(a7 p hp).1) (T:=evs.map cw) (U5 ..) (U1 ..) (by rw[k6];omega)).trans ?_;simp_all
 .unfold BT;refine cE ?_ ?_
  .rw[cT,Z8,cy,dR,U3,W _ 4 (by omega),w4];exact i6 (by show¬(ops.length:Int)<(ops.length:Int);omega)
  rfl
end
end Go.Ev.S9
namespace Go.Ev.S9
open Go Go.Ev
section
variable{X:Nat->List Val->Val}{I:Opq}(hf: ∀i a,I.f i a=FT X i a)
include hf
theorem dS8{L:List Val}{fl:Val}(hL:L.length<=1000)(D: ∀vs,bZ (I.upd 2000 vs) r7= .vl L)(hr: ∀r∈L,AZ (ci r 3) (ci r 4) (ci r 5) (ci r 6)=true/\rU (ci r 3) (ci r 4) (ci r 5) (ci r 6)=false):
 cO (λvs=>Z0 e50 (I.upd 2000 vs)) [fl,.vi 0,.vi 0]=some (0,[fl,.vi (lS L L.length),.vi L.length]):=by
 have U0: ∀a b c:Val,(I.upd 2000 [a,b,c]).w 2000=a:=λa b c=>by rfl
 have U1: ∀a b c:Val,(I.upd 2000 [a,b,c]).w 2001=b:=λa b c=>by rfl
 have U2: ∀a b c:Val,(I.upd 2000 [a,b,c]).w 2002=c:=λa b c=>by rfl
 refine eE (st:=λk=>[fl,.vi (lS L k),.vi k]) (n:=L.length) (λk hk=> ?_) ?_
 .have D:=D [fl,.vi (lS L k),.vi k];have v0:=U0 fl (.vi (lS L k)) (.vi k);have v1:=U1 fl (.vi (lS L k)) (.vi k);have v2:=U2 fl (.vi (lS L k)) (.vi k);have hf': ∀i a,(I.upd 2000 [fl,.vi (lS L k),.vi k]).f i a=FT X i a:=λi a=>by grind[eV]
  generalize I.upd 2000 [fl,.vi (lS L k),.vi k]=aa at*
  have inc:cn .add .i64 (Val.vi (k:Int)).toI 1=((k+1:Nat):Int):=eJ hk (by omega);obtain⟨h1,h2⟩:=hr _ (iN hk);have dr: ∀j:Nat,bZ aa (qx j)=Z7 (cg L k) j:=λj=>by
   show co (bZ aa r7).toL (aa.w 2002).toI (j:Int)=_;rw[D,v2];rfl
  have r3:bZ aa (qx 3)=Z7 (cg L k) 3:=dr 3;have r4:bZ aa (qx 4)=Z7 (cg L k) 4:=dr 4;have r5:bZ aa (qx 5)=Z7 (cg L k) 5:=dr 5;have r6:bZ aa (qx 6)=Z7 (cg L k) 6:=dr 6;refine cG ?_ (W8 ?_ (cE ?_ (cE ?_ ?_)))
  .simp_all[cT,Z8,cy,c9]
  .simp_all[cI,cF,cy,c9]
  .show(!(aa.f 735 [bZ aa (qx 3),bZ aa (qx 4),bZ aa (qx 5),bZ aa (qx 6)]).toB)=false;rw[hf',r3,r4,r5,r6];show(!AZ (ci (cg L k) 3) (ci (cg L k) 4) (ci (cg L k) 5) (ci (cg L k) 6))=false;grind
  .show(aa.f 736 [bZ aa (qx 3),bZ aa (qx 4),bZ aa (qx 5),bZ aa (qx 6)]).toB=false;rw[hf',r3,r4,r5,r6];exact h2
  .show some (0,[aa.w 2000,Val.vi (cn .add .i64 (aa.w 2001).toI (bZ aa (qx 3)).toI),Val.vi (cn .add .i64 (aa.w 2002).toI 1)])=_;rw[v0,v1,v2,inc,r3];rfl
 .refine cE ?_ ?_
  .rw[cT,Z8,cy,U2,D];exact i6 (by show¬(L.length:Int)<(L.length:Int);omega)
  rfl
omit hf in
theorem cv9{L:List Val}(h: ∀r∈L,1<=ci r 3)(hb:jF L<=1000000): ∀k,k<=L.length->lS L k=(jF (L.take k):Int)
 |0,_=>rfl
 |k+1,hk=>by
  have h1:=h _ (iN (show k<L.length by omega));have e:jF (L.take (k+1))=jF (L.take k)+(ci (cg L k) 3).toNat:=by
   unfold jF;rw[yk (by omega),n8,Kc];rfl
  have hle:jF (L.take (k+1))<=jF L:=by
   have e2:jF L=jF (L.take (k+1))+jF (L.drop (k+1)):=by
    unfold jF;rw[<-Kc,<-n8,t8]
   omega
  show cn .add .i64 (lS L k) (ci (cg L k) 3)=_;rw[cv9 h hb k (by omega),gj (by omega) (by omega),e];omega
omit hf in
theorem dS9{T:List Val}{kk:Nat}(hT:T.length<=24)(hk:kk<=T.length)(D3: ∀vs,bZ (I.upd 2000 vs) lj= .vi T.length)(D4: ∀vs,bZ (I.upd 2000 vs) iF= .vl T)(D9: ∀vs,bZ (I.upd 2000 vs) ll= .vi kk):
 cO (λvs=>Z0 e51 (I.upd 2000 vs)) [.vi 0,.vi ((T.length:Int)-1),.vl []]=some (0,[.vi (fk T (T.length-kk)).length,.vi ((T.length:Int)-1-((T.length-kk:Nat):Int)),.vl (fk T (T.length-kk))]):=by
 have U0: ∀a b c:Val,(I.upd 2000 [a,b,c]).w 2000=a:=λa b c=>by rfl
 have U1: ∀a b c:Val,(I.upd 2000 [a,b,c]).w 2001=b:=λa b c=>by rfl
 have U2: ∀a b c:Val,(I.upd 2000 [a,b,c]).w 2002=c:=λa b c=>by rfl
 have e0:([.vi 0,.vi ((T.length:Int)-1),.vl []]:List Val)=(λj:Nat=>[Val.vi (fk T j).length,.vi ((T.length:Int)-1-(j:Int)),.vl (fk T j)]) 0:=by
  show _=[Val.vi (0:Nat),.vi ((T.length:Int)-1-(0:Nat)),.vl []];simp
 rw[e0];refine eE (st:=λj:Nat=>[Val.vi (fk T j).length,.vi ((T.length:Int)-1-(j:Int)),.vl (fk T j)]) (n:=T.length-kk) (λj hj=> ?_) ?_
 .have ei:((T.length:Int)-1-(j:Int))=((T.length-1-j:Nat):Int):=by omega
  have er:fk T (j+1)=fk T j++[lq (cg T (T.length-1-j))]:=rfl;have el:(fk T j).length=j:=mO (λi=>lq (cg T (T.length-1-i))) j;have D3:=D3 [.vi (fk T j).length,.vi ((T.length:Int)-1-(j:Int)),.vl (fk T j)];have D4:=D4 [.vi (fk T j).length,.vi ((T.length:Int)-1-(j:Int)),.vl (fk T j)];have D9:=D9 [.vi (fk T j).length,.vi ((T.length:Int)-1-(j:Int)),.vl (fk T j)];have v0:=U0 (.vi (fk T j).length) (.vi ((T.length:Int)-1-(j:Int))) (.vl (fk T j));have v1:=U1 (.vi (fk T j).length) (.vi ((T.length:Int)-1-(j:Int))) (.vl (fk T j));have v2:=U2 (.vi (fk T j).length) (.vi ((T.length:Int)-1-(j:Int))) (.vl (fk T j));generalize I.upd 2000 [.vi (fk T j).length,.vi ((T.length:Int)-1-(j:Int)),.vl (fk T j)]=aa at*
  generalize fk T j=Q at*
  rw[ei]at v1;have dc:bZ aa CV= .vl (Q++[lq (cg T (T.length-1-j))]):=by
   show Val.vl ((aa.w 2002).toL++[Val.vl [co (bZ aa iF).toL (aa.w 2001).toI 0,co (bZ aa iF).toL (aa.w 2001).toI 1,co (bZ aa iF).toL (aa.w 2001).toI 2,co (bZ aa iF).toL (aa.w 2001).toI 3]])=_;rw[v1,v2,D4];rfl
  refine cG ?_ (W8 ?_ (W8 ?_ (W8 ?_ ?_)))
  .rw[vG,cy,v1,D9];exact c9 (by show(kk:Int)<=((T.length-1-j:Nat):Int);omega)
  .grind[cX,cI,cT,cy,cF,a09,decide_eq_true]
  .rw[cT,cy,v1,Z8,D4];exact c9 (by show((T.length-1-j:Nat):Int)<(T.length:Int);omega)
  .rw[cX,eo,cI,cy,v0,Z8,Z8,dR,v2,cF,dc];grind[wb,lq,cg]
  .show some (0,[Val.vi (bZ aa CV).toL.length,Val.vi (cn .sub .i64 (aa.w 2001).toI 1),bZ aa CV])=_;rw[v1,dc,kN (by show _<=((T.length-1-j:Nat):Int)-1;omega) (by show((T.length-1-j:Nat):Int)-1<_;omega)];show some (0,[Val.vi (Q++[lq (cg T (T.length-1-j))]).length,Val.vi (((T.length-1-j:Nat):Int)-1),Val.vl (Q++[lq (cg T (T.length-1-j))])])=_;grind
 .refine cE ?_ ?_
  .rw[vG,cy,U1,D9];exact i6 (by show¬(kk:Int)<=(T.length:Int)-1-((T.length-kk:Nat):Int);omega)
  rfl
end
theorem cX4(T:List Val): ∀j,j<=T.length->fk T j=((T.drop (T.length-j)).reverse).map lq
 |0,_=>by rw[Nat.sub_zero,List.drop_length];rfl
 |j+1,h=>by
  have hi:T.length-(j+1)<T.length:=by omega
  have e:T.drop (T.length-(j+1))=cg T (T.length-1-j)::T.drop (T.length-j):=by
   rw[O1 hi,show T.length-(j+1)+1=T.length-j by omega];simp[cg,j8,show T.length-1-j<T.length by omega,show T.length-(j+1)=T.length-1-j by omega]
  rw[show fk T (j+1)=fk T j++[lq (cg T (T.length-1-j))]from rfl,cX4 T j (by omega),e,List.reverse_cons,n8];rfl
theorem dA4(evs:List dG){kk:Nat}(hk:kk<=evs.length):fk (evs.map cw) (evs.length-kk)++(evs.map cw).take kk=((evs.drop kk).reverse++evs.take kk).map cw:=by
 rw[cX4 _ _ (by grind),k6,show evs.length-(evs.length-kk)=kk by omega,<-Q8,<-List.map_reverse,n7,n8,<-Q7];rfl
theorem bJ4(evs:List dG)(kk:Nat):((evs.drop kk).reverse++evs.take kk).Perm evs:=by
 grind[List.Perm.append_right,List.reverse_perm,List.take_append_drop]
end Go.Ev.S9
namespace Go.Ev.S9
open Go Go.Ev
section
variable{X:Nat->List Val->Val}{k s l g:Int}
theorem FB(X:Nat->List Val->Val)(a b c d:Val)(U:List Val):eO X a b c d U<=U.length/\(∀i,i<eO X a b c d U->gd X a b c d U i=0)/\(eO X a b c d U<U.length->gd X a b c d U (eO X a b c d U)≠0):=by
 unfold eO;cases h:(List.range U.length).find? λi=>decide (gd X a b c d U i≠0)with
 |none=>
  grind
 |some j=>
  grind[oY,Nat.le_of_lt]
theorem NP(hX:XOk X)(hR:cV k s l g=true){vs:List dG}(hn:vs.length<=24)(hev:fT vs)(hva:qL vs): ∀i,i<=vs.length->(∀j,j<i->gd X (.vi k) (.vi s) (.vi l) (.vi g) (vs.map cw) j=0)->
 ∃m,jB X (.vi k) (.vi s) (.vi l) (.vi g) (vs.map cw) i= .vl m/\TOK (eH k s l g) (vs.take i) m
 |0,_,_=>⟨[],rfl,Vo hR⟩
 |i+1,hi,he=>by
  obtain⟨m,h1,h2⟩:=NP hX hR hn hev hva i (by omega) (λj hj=>he j (by omega));have hl:(vs.take i).length=i:=by rw[l5];omega
  have hx:vs[i]∈vs:=B5 _;have ht:fT (vs.take i):=λx hx=>hev x (I0 hx)
  have hr:cg (vs.map cw) i= .vl [.vi 1,.vs vs[i].1,.vi vs[i].2.1,.vi vs[i].2.2]:=by
   simp[cg,j8,show i<vs.length by omega,cw]
  have hw:=AO (k:=k) (s:=s) (l:=l) (g:=g) h1 hr;have hei:dC (cL k s l g m 1 vs[i].1 vs[i].2.1 vs[i].2.2)=0:=by
   rw[<-hw];exact he i (by omega)
  obtain⟨R,m',a1,a2,a3,a4,a5,a6,a7⟩:=Bs hX hR h2 (uV hR h2 ht (by omega)).2.2.1 ht (hev _ hx).2 hei;grind[eQ,gk,jB,cw,cg,List.take_append_getElem]
theorem dA5{vs:List dG}(hva:qL vs){i:Nat}(hi:i<vs.length){m:List Val}(h1:jB X (.vi k) (.vi s) (.vi l) (.vi g) (vs.map cw) i= .vl m):gd X (.vi k) (.vi s) (.vi l) (.vi g) (vs.map cw) i=0\/gd X (.vi k) (.vi s) (.vi l) (.vi g) (vs.map cw) i=30:=by
 have hr:cg (vs.map cw) i= .vl [.vi 1,.vs vs[i].1,.vi vs[i].2.1,.vi vs[i].2.2]:=by
  simp[cg,j8,hi,cw]
 have hw:=AO (k:=k) (s:=s) (l:=l) (g:=g) h1 hr;unfold gd;rw[hw];exact cX1 (hva _ (B5 _)) rfl
noncomputable def tE(X:Nat->List Val->Val)(k s l g:Int)(U:List Val)(i:Nat):List Val:=[.vi 0,if i=0 then .vi 0 else .vi (gd X (.vi k) (.vi s) (.vi l) (.vi g) U (i-1)),.vi i,jB X (.vi k) (.vi s) (.vi l) (.vi g) U i]
variable{I:Opq}(hf: ∀i a,I.f i a=FT X i a)
include hf
theorem dT0(hX:XOk X)(hR:cV k s l g=true){vs:List dG}(hn:vs.length<=24)(hev:fT vs)(hva:qL vs)(w0:I.w 0= .vi k)(w1:I.w 1= .vi s)(w2:I.w 2= .vi l)(w3:I.w 3= .vi g)(D: ∀x,bZ (I.upd 2000 x) lF= .vl (vs.map cw)):
 cO (λvs=>Z0 PE (I.upd 2000 vs)) [.vi 0,.vi 0,.vi 0,.vl []]=some (qX X (.vi k) (.vi s) (.vi l) (.vi g) (vs.map cw)):=by
 have W: ∀vs:List Val,∀n:Nat,n<2000->(I.upd 2000 vs).w n=I.w n:=λvs n hn=>by rw[cN,b9 (by omega)]
 have U0: ∀a b c d:Val,(I.upd 2000 [a,b,c,d]).w 2000=a:=λa b c d=>by rw[cN];simp
 have U1: ∀a b c d:Val,(I.upd 2000 [a,b,c,d]).w 2001=b:=λa b c d=>by rw[cN];simp
 have U2: ∀a b c d:Val,(I.upd 2000 [a,b,c,d]).w 2002=c:=λa b c d=>by rw[cN];simp
 have U3: ∀a b c d:Val,(I.upd 2000 [a,b,c,d]).w 2003=d:=λa b c d=>by rw[cN];simp
 obtain⟨k1,k2,k3⟩:=FB X (.vi k) (.vi s) (.vi l) (.vi g) (vs.map cw);have tab:=NP hX hR hn hev hva;have hl:(vs.map cw).length=vs.length:=k6 ..;have prev: ∀i,i<=eO X (.vi k) (.vi s) (.vi l) (.vi g) (vs.map cw)->(if i=0 then Val.vi 0 else Val.vi (gd X (.vi k) (.vi s) (.vi l) (.vi g) (vs.map cw) (i-1)))= .vi 0:=λi hi=>by
  by_cases c:i=0
  .rw[e8 c]
  .rw[b9 c,k2 (i-1) (by omega)]
 have step: ∀i,i<vs.length->i<=eO X (.vi k) (.vi s) (.vi l) (.vi g) (vs.map cw)->Z0 PE (I.upd 2000 (tE X k s l g (vs.map cw) i))=some (0,tE X k s l g (vs.map cw) (i+1)):=λi hi hiK=>by
  obtain⟨m,h1,h2⟩:=tab i (by omega) (λj hj=>k2 j (by omega));have hr:cg (vs.map cw) i= .vl [.vi 1,.vs vs[i].1,.vi vs[i].2.1,.vi vs[i].2.2]:=by
   simp[cg,j8,hi,cw]
  have hw:=AO (k:=k) (s:=s) (l:=l) (g:=g) h1 hr;have ht:fT (vs.take i):=λx hx=>hev x (I0 hx)
  have hok:=uV hR h2 ht (by rw[l5];omega);have inc:cn .add .i64 (Val.vi (i:Int)).toI 1=((i+1:Nat):Int):=eJ hi (by omega);have hs1:tE X k s l g (vs.map cw) (i+1)=[.vi 0,.vi (dC (cL k s l g m 1 vs[i].1 vs[i].2.1 vs[i].2.2)),.vi (i+1:Nat),eQ X (cL k s l g m 1 vs[i].1 vs[i].2.1 vs[i].2.2)]:=by rw[<-hw];rfl
  rw[hs1];unfold tE;rw[prev i hiK,h1];have D:=D [.vi 0,.vi 0,.vi i,.vl m];have v0:=U0 (.vi 0) (.vi 0) (.vi i) (.vl m);have v1:=U1 (.vi 0) (.vi 0) (.vi i) (.vl m);have v2:=U2 (.vi 0) (.vi 0) (.vi i) (.vl m);have v3:=U3 (.vi 0) (.vi 0) (.vi i) (.vl m);have W:=W [.vi 0,.vi 0,.vi i,.vl m];have hf': ∀j a,(I.upd 2000 [.vi 0,.vi 0,.vi i,.vl m]).f j a=FT X j a:=λj a=>by exact hf j a
  have a0:=(W 0 (by omega)).trans w0;have a1:=(W 1 (by omega)).trans w1;have a2:=(W 2 (by omega)).trans w2;have a3:=(W 3 (by omega)).trans w3;generalize I.upd 2000 [.vi 0,.vi 0,.vi i,.vl m]=aa at*
  have du: ∀j:Nat,bZ aa (ux j)=Z7 (.vl [.vi 1,.vs vs[i].1,.vi vs[i].2.1,.vi vs[i].2.2]) j:=λj=>by
   show co (bZ aa lF).toL (aa.w 2002).toI (j:Int)=_;rw[D,v2,<-hr];rfl
  have db:ck aa bX=cL k s l g m 1 vs[i].1 vs[i].2.1 vs[i].2.2:=by
   show [aa.w 0,aa.w 1,aa.w 2,aa.w 3,aa.w 2003,bZ aa (ux (0:Nat)),bZ aa (ux (1:Nat)),bZ aa (ux (2:Nat)),bZ aa (ux (3:Nat))]=_;rw[a0,a1,a2,a3,v3,du,du,du,du];rfl
  refine cG ?_ (W8 ?_ (cE ?_ (W8 ?_ ?_)))
  .rw[cT,Z8,cy,v2,D];exact c9 (by show(i:Int)<((vs.map cw).length:Int);omega)
  .rw[cI,cF,cy,v2];exact c9 (by show(0:Int)<=(i:Int);omega)
  .rw[eZ,cF,cy,v1];rfl
  .have v3':bZ aa bj= .vl m:=v3;have a0':bZ aa aN= .vi k:=a0;rw[cX,tH hf' hX v3' hok,A9];exact Nd hf' a0' v3' (du 1) hok
  .show some (0,[aa.w 2000,aa.f 732 (ck aa bX),Val.vi (cn .add .i64 (aa.w 2002).toI 1),aa.f 733 (ck aa bX)])=_;rw[hf',hf',db,v0,v2,inc];rfl
 unfold qX;rw[hl]at k1 k3⊢;by_cases c:eO X (.vi k) (.vi s) (.vi l) (.vi g) (vs.map cw)+1<vs.length
 .rw[e8 c];refine eE (st:=tE X k s l g (vs.map cw)) (n:=eO X (.vi k) (.vi s) (.vi l) (.vi g) (vs.map cw)+1) (λi hi=>step i (by omega) (by omega)) ?_;have hne:=k3 (by omega);generalize eO X (.vi k) (.vi s) (.vi l) (.vi g) (vs.map cw)=K at*
  unfold tE;rw[b9 (by omega),show K+1-1=K by omega];refine cG ?_ (W8 ?_ (cG ?_ ?_))
  .rw[cT,Z8,cy,U2,D];exact c9 (by show((K+1:Nat):Int)<((vs.map cw).length:Int);omega)
  .exact c9 (by show(0:Int)<=((K+1:Nat):Int);omega)
  .rw[eZ,cF,cy,U1,a09,i6 hne];rfl
  .show some (2,[(I.upd 2000 _).w 2001,(I.upd 2000 _).w 2001,(I.upd 2000 _).w 2002,(I.upd 2000 _).w 2003])=_;rw[U1,U2,U3]
 .rw[b9 c];refine eE (st:=tE X k s l g (vs.map cw)) (n:=vs.length) (λi hi=>step i hi (by omega)) ?_;have hlast:tE X k s l g (vs.map cw) vs.length=[.vi 0,if eO X (.vi k) (.vi s) (.vi l) (.vi g) (vs.map cw)<vs.length then .vi (gd X (.vi k) (.vi s) (.vi l) (.vi g) (vs.map cw) (eO X (.vi k) (.vi s) (.vi l) (.vi g) (vs.map cw)))else .vi 0,.vi vs.length,jB X (.vi k) (.vi s) (.vi l) (.vi g) (vs.map cw) vs.length]:=by
   unfold tE;by_cases c2:eO X (.vi k) (.vi s) (.vi l) (.vi g) (vs.map cw)<vs.length
   .rw[e8 c2,b9 (by omega),show vs.length-1=eO X (.vi k) (.vi s) (.vi l) (.vi g) (vs.map cw) by omega]
   .rw[b9 c2,prev _ (by omega)]
  rw[hlast];refine cE ?_ ?_
  .rw[cT,Z8,cy,U2,D];exact i6 (by show¬(vs.length:Int)<((vs.map cw).length:Int);omega)
  .show some (1,[(I.upd 2000 _).w 2000,(I.upd 2000 _).w 2001,(I.upd 2000 _).w 2002,(I.upd 2000 _).w 2003])=_;rw[U0,U1,U2,U3]
end
theorem bX7{W:Tb.Wd}{evs evs':List dG}{m m':List Val}(h:TOK W evs m)(h':TOK W evs' m')(hp:evs'.Perm evs):m'.Perm m:=by
 have hu:=Tb.Tab.uniq (h'.tab.perm hp) h.tab;have nd: ∀{q:List Val},(q.map Z6).Nodup->q.Nodup:=λ{q} hq=>by
  rw[B9,G6]at hq;exact B9.2 (hq.imp λhne e=>hne (by rw[e]))
 have one: ∀{q q':List Val},(∀r∈q,nrm r)->(∀r∈q',nrm r)->(q.map Z6).Nodup->(∀p,dX q p=dX q' p)-> ∀r∈q,r∈q':=λ{q q'} n1 n2 hq he r hr=>by
  have h1:=uq hq hr;rw[he]at h1;obtain⟨r',hr',e1,e2⟩:=wU h1;obtain⟨a,b,c,d,rfl,_,_⟩:=n1 r hr;obtain⟨a',b',c',d',rfl,_,_⟩:=n2 r' hr';have e1:(⟨a',b',c'⟩:PaneM)=⟨a,b,c⟩:=e1;have e2:d'=d:=e2;grind
 have hall: ∀p:PaneM,dX m' p=dX m p:=λp=>hu p.key p.a p.b
 exact(I8 (nd h'.nd) (nd h.nd)).2 λr=>⟨one h'.nrm h.nrm h'.nd hall r,one h.nrm h'.nrm h.nd (λp=>(hall p).symm) r⟩
end Go.Ev.S9
namespace Go.Ev.S9
open Go Go.Ev
theorem tV{v:Val}(h:ed v=true): ∃n,v= .vi n:=by
 cases v with
 |vi n=>grind
 |vs _=>cases h
 |vb _=>cases h
 |vl _=>cases h
theorem cw0{v:Val}(h:wX v=true): ∃l,v= .vl l/\ ∀r∈l,nL r=true:=by
 cases v with
 |vl l=>exact⟨l,rfl,k8.1 h⟩
 |vs _=>cases h
 |vb _=>cases h
 |vi _=>cases h
theorem df0{i n:Int}(h0:0<=n)(hn:n<=24):0<=tD i n/\tD i n<=n:=by
 unfold tD;by_cases h:n<=0
 .omega
 .have e: ∀x:Int,cn .rem .i64 x n=x.tmod n:=λx=>rfl
  rw[e,e];have h1:=Int.tmod_lt_of_pos i (show 0<n by omega);have h2:=Int.lt_tmod_of_pos i (show 0<n by omega);rw[gj (by omega) (by omega)];have h3:=Int.tmod_nonneg n (show 0<=i.tmod n+n by omega);have h4:=Int.tmod_lt_of_pos (i.tmod n+n) (show 0<n by omega);omega
section
variable{X:Nat->List Val->Val}{I:Opq}(hf: ∀i a,I.f i a=FT X i a)
include hf
theorem t_order(hX:XOk X)(hn:dB I (.app 738 [aN,aO,aT,aU,aS,be])=true):Z0 T_order I=some (0,[.vb true]):=by
 have hn:(I.f 738 [I.w 0,I.w 1,I.w 2,I.w 3,I.w 4,I.w 5]).toB=true:=hn;rw[hf]at hn;have hn:(ed (I.w 0)&&(ed (I.w 1)&&(ed (I.w 2)&&(ed (I.w 3)&&(ed (I.w 5)&&wX (I.w 4))))))=true:=hn;obtain⟨g0,hn⟩:=Z1 hn;obtain⟨g1,hn⟩:=Z1 hn;obtain⟨g2,hn⟩:=Z1 hn;obtain⟨g3,hn⟩:=Z1 hn;obtain⟨g5,hn⟩:=Z1 hn;obtain⟨k,w0⟩:=tV g0;obtain⟨s,w1⟩:=tV g1;obtain⟨l,w2⟩:=tV g2;obtain⟨g,w3⟩:=tV g3;obtain⟨b,w5⟩:=tV g5;obtain⟨ops,w4,ho⟩:=cw0 hn;unfold T_order;have d734:dB I (.app 734 [aS,bQ])=(!(List.range (min ops.length 100)).any (λi=>pd (cg ops i))&&decide ((ops.length:Int)<=24)):=by
  show(I.f 734 [I.w 4,.vi 24]).toB=_;rw[hf,w4];rfl
 cases hfew:(!(List.range (min ops.length 100)).any (λi=>pd (cg ops i))&&decide ((ops.length:Int)<=24))with
 |false=>exact cG (by grind[fm]) rfl
 |true=>
 refine cE (by grind[fm]) ?_;have hlen:ops.length<=24:=by
  grind
 have d700:dB I (.app 700 [aN,aO,aT,aU])=cV k s l g:=by
  show(I.f 700 [I.w 0,I.w 1,I.w 2,I.w 3]).toB=_;rw[hf,w0,w1,w2,w3];rfl
 cases hR:cV k s l g with
 |false=>exact cG (by grind[fm]) rfl
 |true=>
 refine cE (by grind[fm]) ?_;have W: ∀vs:List Val,∀n:Nat,n<2000->(I.upd 2000 vs).w n=I.w n:=λvs n hn=>by simp_all[cN,b9]
 obtain⟨m,evs,o1,o2,hT,hev,hva,hel,o3⟩:=Un hX hR hlen ho ops.length (e9 _);have hst:BT X k s l g ops ops.length=[.vb false,.vi (evs.map cw).length,.vi (lL k s l g evs:Int),.vi ops.length,.vl m,.vl (evs.map cw)]:=by
  grind[BT]
 have hlp:=dS7 hf hX hR hlen ho w0 w1 w2 w3 w4;rw[hst]at hlp;have hev24:evs.length<=24:=by omega
 have e0: ∀aa:Opq,(∀i a,aa.f i a=FT X i a)->(∀n,n<2000->aa.w n=I.w n)->bZ aa po=cA (0,[.vb false,.vi (evs.map cw).length,.vi (lL k s l g evs:Int),.vi ops.length,.vl m,.vl (evs.map cw)]):=λaa hf' W'=>by
  show aa.f 766 [.vb false,.vi 0,.vi 0,.vi 0,.vl [],.vl [],.vi 0,.vi (aa.w 4).toL.length,aa.w 4,aa.w 5,aa.w 0,aa.w 1,aa.w 2,aa.w 3,aa.w 0,aa.w 1,aa.w 2,aa.w 3,.vl []]=_;rw[hf',W' 0 (by omega),W' 1 (by omega),W' 2 (by omega),W' 3 (by omega),W' 4 (by omega),w0,w1,w2,w3,w4,<-hst];rfl
 have hfu: ∀vs,∀i a,(I.upd 2000 vs).f i a=FT X i a:=λvs i a=>by grind[eV]
 have E0:=λvs=>e0 (I.upd 2000 vs) (hfu vs) (W vs)
 have e0:=e0 I hf (λ_ _=>rfl);have hokm:=uV hR hT hev hev24;have hcw:=YO hR hT hev;obtain⟨L,hL,hLp⟩:=hX.x490 m (λr hr=>uI (hT.nrm r hr));have P1: ∀aa:Opq,bZ aa po=cA (0,[.vb false,.vi (evs.map cw).length,.vi (lL k s l g evs:Int),.vi ops.length,.vl m,.vl (evs.map cw)])->bZ aa na= .vl m/\bZ aa lj= .vi (evs.map cw).length/\bZ aa iF= .vl (evs.map cw)/\bZ aa Gt= .vi (lL k s l g evs:Int)/\bZ aa DW= .vb false:=λaa e=>by
  refine⟨?_,?_,?_,?_,?_⟩
  .show co (bZ aa po).toL 1 4=_;rw[e];rfl
  .show co (bZ aa po).toL 1 1=_;rw[e];rfl
  .show co (bZ aa po).toL 1 5=_;rw[e];rfl
  .show co (bZ aa po).toL 1 2=_;rw[e];rfl
  .show co (bZ aa po).toL 1 0=_;rw[e];rfl
 obtain⟨d1,d3,d4,d5,d2⟩:=P1 I e0;have dL:bZ I r7= .vl L:=by
  show I.f 490 [bZ I na]=_;rw[hf,d1];exact hL
 have DL: ∀vs,bZ (I.upd 2000 vs) r7= .vl L:=λvs=>by
  show(I.upd 2000 vs).f 490 [bZ (I.upd 2000 vs) na]=_;rw[hfu,(P1 _ (E0 vs)).1];exact hL
 have hLl:=hLp.length_eq;have hLc:lS L L.length=(lL k s l g evs:Int):=by
  have e1:jF L=jF m:=by
   have h1:=Tb.twice (λr x=>lI r x) evs L;have h2:=Tb.twice (λr x=>lI r x) evs m;have h3:jF L=Tb.sumN (L.map λp=>(evs.filter λx=>lI p x).length):=by
    unfold jF;rw[s9 (λr hr=>(wC hT (hLp.mem_iff.1 hr)).2.1)]
   have h4:jF m=Tb.sumN (m.map λp=>(evs.filter λx=>lI p x).length):=by
    unfold jF;rw[s9 (λr hr=>(wC hT hr).2.1)]
   rw[h3,h4,h1,h2];congr 1;exact s9 λx _=>(hLp.filter _).length_eq
  have hb:=(OY k s l g evs).1;rw[cv9 (λr hr=>(wC hT (hLp.mem_iff.1 hr)).1) (by omega) _ (e9 _),A8,e1,hcw]
 have e7:bZ I Hc=cA (0,[.vb false,.vi (lS L L.length),.vi L.length]):=by
  show I.f 769 [bZ I DW,.vi 0,.vi 0,I.w 5,I.w 0,I.w 1,I.w 2,I.w 3,bZ I lj,bZ I iF,bZ I Gt,bZ I DD,bZ I r7]=_;rw[hf,d2,dL];rfl
 have hTl:(evs.map cw).length=evs.length:=k6 ..;obtain⟨k0,k1⟩:=df0 (i:=b) (n:=(evs.length:Int)) (by omega) (by omega);have d9: ∀aa:Opq,(∀i a,aa.f i a=FT X i a)->aa.w 5= .vi b->bZ aa lj= .vi (evs.map cw).length->bZ aa ll= .vi ((tD b evs.length).toNat:Nat):=λaa hf' w5' d3'=>by
  show aa.f 737 [aa.w 5,bZ aa lj]=_;rw[hf',w5',d3',hTl];show Val.vi (tD b evs.length)=_;grind
 have D9:=λvs=>d9 (I.upd 2000 vs) (hfu vs) ((W vs 5 (by omega)).trans w5) (P1 _ (E0 vs)).2.1
 have d9:=d9 I hf w5 d3;generalize hkk:(tD b evs.length).toNat=kk at*
 have hkl:kk<=evs.length:=by omega
 have e11: ∀aa:Opq,(∀i a,aa.f i a=FT X i a)->bZ aa iF= .vl (evs.map cw)->bZ aa ll= .vi (kk:Nat)->bZ aa xc=cA (0,[.vi (fk (evs.map cw) ((evs.map cw).length-kk)).length,.vi (((evs.map cw).length:Int)-1-(((evs.map cw).length-kk:Nat):Int)),.vl (fk (evs.map cw) ((evs.map cw).length-kk))]):=λaa hf' d4' d9'=>by
  show aa.f 770 [.vi 0,bZ aa Eo,.vl [],aa.w 0,aa.w 1,aa.w 2,aa.w 3,bZ aa lj,bZ aa iF,bZ aa DD,bZ aa r7,bZ aa ll]=_;rw[hf',d4',d9'];rfl
 have d13: ∀aa:Opq,bZ aa iF= .vl (evs.map cw)->bZ aa ll= .vi (kk:Nat)->bZ aa xc=cA (0,[.vi (fk (evs.map cw) ((evs.map cw).length-kk)).length,.vi (((evs.map cw).length:Int)-1-(((evs.map cw).length-kk:Nat):Int)),.vl (fk (evs.map cw) ((evs.map cw).length-kk))])->bZ aa CP= .vl (fk (evs.map cw) ((evs.map cw).length-kk))/\bZ aa lF= .vl (((evs.drop kk).reverse++evs.take kk).map cw):=λaa d4' d9' e'=>by
  have d12:bZ aa CP= .vl (fk (evs.map cw) ((evs.map cw).length-kk)):=by
   show co (bZ aa xc).toL 1 2=_;rw[e'];rfl
  refine⟨d12,?_⟩;show Val.vl ((bZ aa CP).toL++((bZ aa iF).toL.drop (0:Int).toNat).take ((bZ aa ll).toI-0).toNat)=_;rw[d12,d4',d9',<-dA4 evs hkl,hTl];rfl
 have D13:=λvs=>(d13 (I.upd 2000 vs) (P1 _ (E0 vs)).2.2.1 (D9 vs) (e11 _ (hfu vs) (P1 _ (E0 vs)).2.2.1 (D9 vs))).2
 have e11':=e11 I hf d4 d9;obtain⟨d12,d13⟩:=d13 I d4 d9 e11';have hpm:=bJ4 evs kk;generalize hvs:(evs.drop kk).reverse++evs.take kk=vs at*
 have hvl:=hpm.length_eq;have hvt:fT vs:=λx hx=>hev x (hpm.mem_iff.1 hx)
 have hvv:qL vs:=λx hx=>hva x (hpm.mem_iff.1 hx)
 have e14:bZ I xZ=cA (qX X (.vi k) (.vi s) (.vi l) (.vi g) (vs.map cw)):=by
  show I.f 771 [.vi 0,.vi 0,.vi 0,.vl [],I.w 0,I.w 1,I.w 2,I.w 3,.vl [],.vi (bZ I lF).toL.length,bZ I lF,.vi (bZ I lF).toL.length]=_;rw[hf,w0,w1,w2,w3,d13];rfl
 have l771:=dT0 hf hX hR (by omega) hvt hvv w0 w1 w2 w3 D13;refine Z5 (r:=(0,[.vb false,.vi (evs.map cw).length,.vi (lL k s l g evs:Int),.vi ops.length,.vl m,.vl (evs.map cw)])) hlp e0 ?_;refine W8 (tH hf hX d1 hokm) ?_;refine Z5 (r:=(0,[.vb false,.vi (lS L L.length),.vi L.length])) ?_ e7 ?_
 .show cO _ [bZ I DW,.vi 0,.vi 0]=_;rw[d2];have:=hokm.2.2.1;exact dS8 hf (by omega) DL (λr hr=>dA3 hT (hLp.mem_iff.1 hr))
 refine cE ?_ (W8 ?_ ?_)
 .rw[eZ,d5];have:(bZ I (zo Hc 1))= .vi (lS L L.length):=by
   show co (bZ I Hc).toL 1 1=_;rw[e7];rfl
  grind
 .simp_all[cI,cF,c9,cw]
 refine Z5 ?_ e11' ?_
 .have d8:bZ I Eo= .vi (((evs.map cw).length:Int)-1):=by
   show Val.vi (cn .sub .i64 (bZ I lj).toI 1)=_;grind[kN,a09]
  show cO _ [.vi 0,bZ I Eo,.vl []]=_;rw[d8];exact dS9 (by omega) (by omega) (λvs=>(P1 _ (E0 vs)).2.1) (λvs=>(P1 _ (E0 vs)).2.2.1) D9
 refine W8 ?_ (W8 ?_ ?_)
 .show(decide ((0:Int)<=(bZ I ll).toI)&&decide ((bZ I ll).toI<=(bZ I lj).toI))=true;simp_all
 .show((decide ((0:Int)<=(bZ I ll).toI)&&decide ((bZ I ll).toI<=((bZ I iF).toL.length:Int)))&&(decide ((bZ I (zo xc 0)).toI=((bZ I CP).toL.length:Int))&&dB I (zb (zL lF) 1000000)))=true;have:(bZ I (zo xc 0))= .vi (fk (evs.map cw) ((evs.map cw).length-kk)).length:=by
   show co (bZ I xc).toL 1 0=_;rw[e11'];rfl
  rw[this,d9,d4,d12,cI,Z8,cF,d13,a09,a09,a65,a65,a65,c9 (by omega),c9 (by omega),c9 rfl,c9 (by grind)];rfl
 refine Z5 ?_ e14 ?_
 .exact l771
 obtain⟨K1,K2,K3⟩:=FB X (.vi k) (.vi s) (.vi l) (.vi g) (vs.map cw);have hvm:(vs.map cw).length=vs.length:=k6 ..;have herr:eO X (.vi k) (.vi s) (.vi l) (.vi g) (vs.map cw)<vs.length->gd X (.vi k) (.vi s) (.vi l) (.vi g) (vs.map cw) (eO X (.vi k) (.vi s) (.vi l) (.vi g) (vs.map cw))=30:=λhc=>by
  grind[NP,Nat.le_of_lt,dA5,absurd]
 unfold qX at e14⊢;rw[hvm]at e14 K1 K3⊢;by_cases c:eO X (.vi k) (.vi s) (.vi l) (.vi g) (vs.map cw)+1<vs.length
 .rw[e8 c]at e14⊢;rw[herr (by omega)]at e14;refine cG ?_ rfl;have:bZ I PT= .vi 30:=by
   show co (bZ I xZ).toL 1 0=_;rw[e14];rfl
  simp_all[eo,cF]
 .rw[b9 c]at e14⊢;have d15:bZ I Vg=if eO X (.vi k) (.vi s) (.vi l) (.vi g) (vs.map cw)<vs.length then .vi (gd X (.vi k) (.vi s) (.vi l) (.vi g) (vs.map cw) (eO X (.vi k) (.vi s) (.vi l) (.vi g) (vs.map cw)))else .vi 0:=by
   show co (bZ I xZ).toL 1 1=_;rw[e14];rfl
  by_cases c2:eO X (.vi k) (.vi s) (.vi l) (.vi g) (vs.map cw)<vs.length
  .rw[e8 c2,herr c2]at d15;refine cG ?_ (cG ?_ rfl)
   .rw[eZ,cF,d15];rfl
   simp_all[eo,cF]
  .rw[b9 c2]at d15;obtain⟨m2,q1,q2⟩:=NP hX hR (by omega) hvt hvv vs.length (e9 _) (λj hj=>K2 j (by omega));rw[A8]at q2;have d16:bZ I wa= .vl m2:=by
    show co (bZ I xZ).toL 1 3=_;rw[e14,<-q1];rfl
   have hp2:=bX7 hT q2 hpm;have h490:I.f 490 [.vl m2]=I.f 490 [.vl m]:=by
    rw[hf,hf];exact hX.x490u m2 m (λr hr=>uI (q2.nrm r hr)) hp2 q2.nd
   have hL2:I.f 490 [.vl m]= .vl L:=by rw[hf];exact hL
   have d17:bZ I HO= .vb true:=by
    show I.f 3 [I.f 490 [bZ I wa],I.f 490 [bZ I na]]=_;rw[d16,d1,h490,hf];exact hX.x3 _
   refine cE ?_ (W8 (tH hf hX d16 (uV hR q2 hvt (by omega))) (W8 ?_ (cG ?_ ?_)))
   .simp_all[eZ,cF]
   .show decide (((I.f 490 [bZ I wa]).toL.length:Int)<=1000000)=true;rw[d16,h490,hL2];have:=hokm.2.2.1;exact c9 (by show(L.length:Int)<=1000000;omega)
   .show(bZ I HO).toB=true;rw[d17];rfl
   .show some (0,[bZ I HO])=_;rw[d17]
end
end Go.Ev.S9
