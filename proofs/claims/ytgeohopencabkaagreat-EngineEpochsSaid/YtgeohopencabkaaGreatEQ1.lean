import Derived.Test.YtgeohopencabkaaGreatEP34
set_option linter.all false
namespace Go.Ev.S9
open Go Go.Ev
def dh4{A B:List PaneM}(hA:A.Pairwise (λp q=>fE p q=true))(hB:B.Pairwise (λp q=>fE p q=true))(h: ∀p,p∈A↔p∈B):A=B:=by
 have nd: ∀{C:List PaneM},C.Pairwise (λp q=>fE p q=true)->C.Nodup:=λhC=>by refine J6 ?_ hC;rintro p q c rfl;rw[Nq]at c;cases c
 grind[List.Perm.eq_of_pairwise,fE,List.perm_ext_iff_of_nodup,VE]
def YH{l:U7}(h:((S7.srt false l).map W7).Nodup):((S7.srt false l).map W7).Pairwise (λp q=>fE p q=true):=by have h1:((S7.srt false l).map W7).Pairwise (λp q=>fE q p=false):=F7.2 (S7.srt_sorted false l);refine J6 ?_ (h1.and h);grind[fE,absurd,Iv]
def c61{m:U7}(nd:(m.map W7).Nodup): ∀A B:U7,(∀x∈A,x∈m)->(∀x∈B,x∈m)->A.map W7=B.map W7->A=B
 | [],[],_,_,_=>rfl
 | [],b::B,_,_,h=>(by cases h)
 |a::A,[],_,_,h=>(by cases h)
 |a::A,b::B,hA,hB,h=>by rw[m8,m8,List.cons.injEq]at h;rw[yA nd (hA a A7) (hB b A7) h.1,c61 nd A B (λx hx=>hA x (y9 _ hx)) (λx hx=>hB x (y9 _ hx)) h.2]
def cK4{x y:Val}(hx:nrm x)(hy:nrm y)(h:W7 x=W7 y)(h2:rA x=rA y):x=y:=by obtain⟨a,b,c,A,rfl,_⟩:=hx;obtain⟨a',b',c',A',rfl,_⟩:=hy;rw[KK,KK]at h2;obtain⟨rfl,rfl,rfl⟩:=h;rw[h2]
def d70{x y:Val}(hx:nrm x)(hy:nrm y)(h:gH x=gH y):x=y:=by obtain⟨⟨a,b,c⟩,d,e,f,g⟩:=(KO _ _).1 h;refine cK4 hx hy ?_ ?_;show(⟨_,_,_⟩:PaneM)=⟨_,_,_⟩;grind;show(_,_,_,_)=(_,_,_,_);grind[ci]
def d71{k s l g ek t v:Int}{ks:zR}{m m':U7}(hR:X9 k s l g=true){evs:List cU}(hT:TOK (dU k s l g) evs m)(hm:m.length<=400)(hev:ga evs)(hv:inI v)(he:dp (cE k s l g m ek ks t v)=0)(hP:dR F0 (cE k s l g m ek ks t v)= .A m')(hT':TOK (dU k s l g) (evs++[(ks,t,v)]) m'):
 (eA (cE k s l g m ek ks t v)).map W7=(Je (S7.srt false m) (S7.srt false m')).map W7/\eo F0 (cE k s l g m ek ks t v)= .A (uK (S7.srt false m) (S7.srt false m')):=by
 obtain⟨R,r1,r2,r3,r4,g1,g2⟩:=d41 wj hR hT hm hev hv he;obtain⟨R',m2,q1,q2,q3,q4,q5,q6,q7⟩:=MD wj hR hT hm hev hv he;rw[r1,Val.A.injEq]at q1;subst q1;rw[hP,Val.A.injEq]at q2;subst q2;have hPm:m'=R.foldl set1 ((eA (cE k s l g m ek ks t v)).foldl mw m):=by have:=hP;rw[IW,b9 (by rw[he];simp),r1,a71,c32,Oe,Val.A.injEq]at this;exact this.symm
 generalize eA (cE k s l g m ek ks t v)=G at*
 have sub: ∀{l:U7} {p:Val->Bool},(l.map W7).Nodup->(((S7.srt false l).filter p).map W7).Pairwise (λp q=>fE p q=true):=λ{l p} h=>
  (YH ((((S7.srt_perm false l).map W7).nodup_iff).2 h)).sublist (E5.map _)
 refine⟨dh4 g1 (sub hT.nd) λp=> ?_,?_⟩;constructor
 intro hp;obtain⟨q,hq,rfl⟩:=k6.1 hp;cases hl:dH m (W7 q)with
 |none=>exact absurd hl (g2 q hq)
 |some c=>
  obtain⟨r,hr,e,_⟩:=wk hl;refine k6.2 ⟨r,l7.2 ⟨S7.srt_mem.2 hr,?_⟩,e⟩;rw[s7,A4];intro y hy c;have hy:=tP hT'.nd (S7.srt_mem.1 hy);rw[j7 c,e,(q7 q hq).1]at hy;cases hy
 .intro hp;obtain⟨r,hr,rfl⟩:=k6.1 hp;obtain⟨hr,hn⟩:=l7.1 hr;have hr:=S7.srt_mem.1 hr;refine Decidable.byContradiction λhg=> ?_
  have h1:=tP hT.nd hr;have h2:dH m' (W7 r)≠none:=by rw[hPm];by_cases hpr:W7 r∈R.map W7;obtain⟨y,hy,e⟩:=k6.1 hpr;rw[<-e,JC R _ r2 hy];simp;rw[JX R _ hpr,Ur _ G m hT.nd,b9 hg,h1];simp
  cases hl:dH m' (W7 r)with
  |none=>exact h2 hl
  |some c=>
   obtain⟨y,hy,e,_⟩:=wk hl;rw[s7,A4]at hn;exact hn y (S7.srt_mem.2 hy) (j0 e)
 rw[r1];have inm: ∀r∈R,r∈m':=λr hr=>by obtain⟨h1,h2⟩:=q6 r hr;obtain⟨y,hy,e1,e2⟩:=wk h2;rw[cK4 h1 (hT'.nrm y hy) e1.symm e2.symm];exact hy
 refine congrArg Val.A (c61 hT'.nd R _ inm (λx hx=>S7.srt_mem.1 (l7.1 hx).1) (dh4 ?_ (sub hT'.nd) λp=> ?_))
 rcases r4 with h|⟨L,h⟩
 match R,h with
 | [],_=>exact .nil
 | [x],_=>simp
 .have h:Val.A R= .A (S7.srt false L):=h;rw[Val.A.injEq]at h;rw[h]at r2⊢;exact YH r2
 constructor;intro hp;obtain⟨r,hr,rfl⟩:=k6.1 hp;refine k6.2 ⟨r,l7.2 ⟨S7.srt_mem.2 (inm r hr),?_⟩,rfl⟩;rw[s7,A4];intro y hy c;have hy:=S7.srt_mem.1 hy;have e:=d70 (hT.nrm y hy) (hT'.nrm r (inm r hr)) (j7 c);subst e;have c1:=(NQ hT hy).2.1;have c2:=(NQ hT' (inm y hr)).2.1;obtain⟨i1,i2,i3⟩:=r3 y hr;have hin:ox y (ks,t,v)=true:=Tb.inP_iff.2 ⟨i1.symm,i2,i3⟩;rw[C4,k9,T8 hin]at c2;simp at c2;omega
 intro hp;obtain⟨r,hr,rfl⟩:=k6.1 hp;obtain⟨hr,hn⟩:=l7.1 hr;have hr:=S7.srt_mem.1 hr;rw[s7,A4]at hn;rw[hPm]at hr;rcases JZ _ _ r hr with h|⟨x,hx,rfl⟩
 exact absurd (j0 rfl) (hn r (S7.srt_mem.2 ((JG G m).subset h)));exact k6.2 ⟨x,hx,rfl⟩
section
variable{I:Opq}{W N:U7}
def eb0{I:Opq}{q:SX}{l:U7}{k i:Nat}(j:Nat)(hq:bZ I q= .A l)(h:I.w k= .D i):bZ I (.O .G [q,.V k,.C j])=X1 (cg l i) j:=by show Y3 (bZ I q).L (I.w k).I (j:Int)=_;rw[hq,h];rfl
end
section
variable{I:Opq}{W N:U7}
end
section
variable{I:Opq}{L m:U7}
end
def dB0{x:cU}(h:X5 1 x.1 x.2.1 x.2.2=0)(hv:inI x.2.2):Vy (cK x)=true:=by show(decide ((1:Int)=1)&&(decide (X5 1 x.1 x.2.1 x.2.2=0)&&(decide (-9223372036854775808<=x.2.2)&&decide (x.2.2<9223372036854775808))))=true;rw[j0 h,j0 hv.1,j0 hv.2];rfl
def yG{evs:List cU}(ht:ga evs)(hv:BG evs):(evs.map cK).all Vy=true:=by rw[List.all_map,l5];exactλx hx=>dB0 (hv x hx) (ht x hx).2
section
variable{k s w g:Int}{evs:List cU}{m:U7}(h:TBL k s w g evs m)
include h
def TBL.okw:lI k s w g (evs.map cK)=true:=(Qe h.R h.tm h.ln).2 (d59 h.T)
def TBL.ok:AB k m:=GD h.R h.T h.tm h.ln
def TBL.rows:kU F0 [.D k,.D s,.D w,.D g,.A (evs.map cK)]= .A (S7.srt false m):=by show(if lI k s w g (evs.map cK)=true then F0 490 [.A (jW k s w g (evs.map cK) (evs.map cK).length)]else .A [])=_;rw[i6 h.okw];have hr:=dx7 h.R h.tm h.ln h.V h.okw;exact wj.x490u _ m (λr hr'=>Bn (hr.nrm r hr')) (d45 h.T hr (G5 _)) hr.nd
def TBL.rowsS{r:Val}(hr:r∈S7.srt false m):rowS r:=Bn (h.T.nrm r (S7.srt_mem.1 hr))
def TBL.rows7{r:Val}(hr:r∈S7.srt false m):X8 r=r:=by obtain⟨a,b,c,A,e,_⟩:=h.T.nrm r (S7.srt_mem.1 hr);rw[e,cF2]
end
def aQ(k s w g:Int)(evs:List cU)(ek:Int)(ks:zR)(t v:Int):U7:=[.D k,.D s,.D w,.D g,.A (evs.map cK),.D ek,.vs ks,.D t,.D v]
section
variable{k s w g ek t v:Int}{ks:zR}{m:U7}{evs:List cU}(H:TBL k s w g evs m)(h24:evs.length<24)(hv:inI v)
include H hv
def dh5(h0:X5 1 ks t v=0):ga (evs++[(ks,t,v)]):=cG0 H.tm (wQ h0 rfl).2 hv
include h24
def eb1:xN (aQ k s w g evs ek ks t v)=dp (cE k s w g m ek ks t v):=by
 have e:xN (aQ k s w g evs ek ks t v)=if X5 ek ks t v≠0 then X5 ek ks t v else if ek≠1 then 2 else if lI k s w g (evs.map cK++[.A [.D ek,.vs ks,.D t,.D v]])=true then 0 else 30:=rfl
 rw[e];by_cases h0:X5 ek ks t v=0;rw[b9 (by simp[h0])];by_cases h1:ek=1
 rw[b9 (by omega)];have hm:evs.map cK++[.A [.D ek,.vs ks,.D t,.D v]]=(evs++[(ks,t,v)]).map cK:=by rw[s6,h1];rfl
 rw[hm];have hok:=Qe H.R (dh5 H hv (by rw[<-h1];exact h0)) (by rw[k9];show evs.length+1<=24;omega);have htf:=d57 wj H.R H.T H.tm H.ln hv h0 h1;by_cases f:kR (dU k s w g) (evs++[(ks,t,v)]);rw[htf.2 f,i6 (hok.2 f)]
 rw[b9 λh=>f (hok.1 h)];rcases dQ2 (k:=k) (s:=s) (l:=w) (g:=g) (m:=m) h0 h1 with h|h
 exact absurd (htf.1 h) f;exact h.symm;rw[i6 h1,tz,b9 (by simp[h0]),i6 h1];simp_all[i6,tz]
def dB1: ∃m' evs',dR F0 (cE k s w g m ek ks t v)= .A m'/\TBL k s w g evs' m'/\evs'.length<=evs.length+1/\(if dp (cE k s w g m ek ks t v)≠0 then evs.map cK else evs.map cK++[.A [.D ek,.vs ks,.D t,.D v]])=evs'.map cK/\
 (eA (cE k s w g m ek ks t v)).length<=400/\(eA (cE k s w g m ek ks t v)).map W7=(Uw F0 (aQ k s w g evs ek ks t v)).L.map W7/\ ∃R,eo F0 (cE k s w g m ek ks t v)= .A R/\PU F0 (aQ k s w g evs ek ks t v)= .A R/\R.length<=400/\ ∀r∈R,rowS r:=by
 have hrt:=eb1 H h24 hv (ek:=ek) (ks:=ks) (t:=t);have e3:Uw F0 (aQ k s w g evs ek ks t v)= .A (if xN (aQ k s w g evs ek ks t v)=0 then(Je (Hw F0 (aQ k s w g evs ek ks t v)) (Gt F0 (aQ k s w g evs ek ks t v))).map eR else []):=rfl;have e4:PU F0 (aQ k s w g evs ek ks t v)= .A (if xN (aQ k s w g evs ek ks t v)=0 then(uK (Hw F0 (aQ k s w g evs ek ks t v)) (Gt F0 (aQ k s w g evs ek ks t v))).map X8 else []):=rfl;rw[e3,e4,hrt];by_cases he:dp (cE k s w g m ek ks t v)=0
 rw[b9 (by simp[he]),i6 he,i6 he];obtain⟨q0,q1⟩:=TT he;subst q1;obtain⟨R,m',a1,a2,a3,a4,a5,a6,a7⟩:=MD wj H.R H.T H.ok.2.2.1 H.tm hv he;have H':TBL k s w g (evs++[(ks,t,v)]) m':=⟨H.R,a5,dh5 H hv q0,cG1 H.V q0,by grind⟩;have hx:evs.map cK++[Val.A [.D 1,.vs ks,.D t,.D v]]=(evs++[(ks,t,v)]).map cK:=by rw[s6];rfl
 have hW:Hw F0 (aQ k s w g evs 1 ks t v)=S7.srt false m:=congrArg Val.L H.rows;have hN:Gt F0 (aQ k s w g evs 1 ks t v)=S7.srt false m':=by show(kU F0 [.D k,.D s,.D w,.D g,.A (evs.map cK++[Val.A [.D 1,.vs ks,.D t,.D v]])]).L=_;rw[hx];exact congrArg Val.L H'.rows
 obtain⟨d1,d2⟩:=d71 H.R H.T H.ok.2.2.1 H.tm hv he a2 a5;rw[a1,Val.A.injEq]at d2;refine⟨m',_,a2,H',by grind,hx,a4,?_,R,a1,?_,by omega,λr hr=>Bn (a6 r hr).1⟩;rw[d1,hW,hN,a71,o9];rfl;rw[hW,hN,<-d2];refine congrArg Val.A ((A1 (g:=id) λr hr=> ?_).trans (G6 _));obtain⟨a,b,c,A,e,_⟩:=(a6 r hr).1;grind[cF2];rw[i6 he,b9 he,b9 he];obtain⟨b1,b2,b3⟩:=XN (X:=F0) he;refine⟨m,evs,b3,H,by omega,rfl,by grind,by rw[b1];rfl,[],b2,rfl,s8 _,λr hr=>(by cases hr)⟩
end
structure RQ (I:Opq) (k s w g:Int) (ops:U7) (i:Nat) (m:U7) (evs:List cU) (fi ek:Int) (ks:zR) (t v:Int):Prop where
 f: ∀i a,I.f i a=F i a
 w0:I.w 0= .D k
 w1:I.w 1= .D s
 w2:I.w 2= .D w
 w3:I.w 3= .D g
 w4:I.w 4= .A ops
 u0:I.w 2000= .B false
 u1:I.w 2001= .D evs.length
 u2:I.w 2002= .D fi
 u3:I.w 2003= .D i
 u4:I.w 2004= .A m
 u5:I.w 2005= .A (evs.map cK)
 row:cg ops i= .A [.D ek,.vs ks,.D t,.D v]
def eX(j:Int):SX:= .O .G [aS,bD,.C j]
def rQ:SX:= .O .lsub [bJ,aM,aR]
section
variable{I:Opq}{k s w g:Int}{ops:U7}{i:Nat}{m:U7}{evs:List cU}{fi ek:Int}{ks:zR}{t v:Int}(h:RQ I k s w g ops i m evs fi ek ks t v)
include h
def RQ.ex(j:Nat):bZ I (eX j)=X1 (.A [.D ek,.vs ks,.D t,.D v]) j:=by rw[show eX j= .O .G [aS,bD,.C j]from rfl,eb0 (q:= aS) j h.w4 h.u3,h.row]
def RQ.r:bZ I rQ= .A (evs.map cK):=d51 (x:= bJ) (n:= aR) h.u5 (by rw[k7];exact h.u1)
end
def cK5{k s w g:Int}(hR:X9 k s w g=true):TBL k s w g [] []:=⟨hR,cF9 hR,λx hx=>(by cases hx),λx hx=>(by cases hx),s8 _⟩
section
variable{k s w g:Int}{ops:U7}(hR:X9 k s w g=true)(hn:ops.length<=24)(ho: ∀r∈ops,nB r=true)
include hR hn ho
