import Derived.Test.YtliadehnohhngaaGreatEP34
set_option linter.all false
namespace Go.Ev.S9
open Go Go.Ev
def de9{A B:List PaneM}(hA:A.Pairwise (λp q=>fX p q=true))(hB:B.Pairwise (λp q=>fX p q=true))(h: ∀p,p∈A↔p∈B):A=B:=by
 have nd: ∀{C:List PaneM},C.Pairwise (λp q=>fX p q=true)->C.Nodup:=λhC=>by refine J0 ?_ hC;rintro p q c rfl;rw[QC]at c;cases c
 grind[List.Perm.eq_of_pairwise,fX,List.perm_ext_iff_of_nodup,Sf]
def bi1{l:U0}(h:((S7.srt false l).map Y2).Nodup):((S7.srt false l).map Y2).Pairwise (λp q=>fX p q=true):=by have h1:((S7.srt false l).map Y2).Pairwise (λp q=>fX q p=false):=I9.2 (S7.srt_sorted false l);refine J0 ?_ (h1.and h);grind[fX,absurd,OU]
def c94{m:U0}(nd:(m.map Y2).Nodup): ∀A B:U0,(∀x∈A,x∈m)->(∀x∈B,x∈m)->A.map Y2=B.map Y2->A=B
 | [],[],_,_,_=>rfl
 | [],b::B,_,_,h=>(by cases h)
 |a::A,[],_,_,h=>(by cases h)
 |a::A,b::B,hA,hB,h=>by rw[m8,m8,List.cons.injEq]at h;rw[NJ nd (hA a C4) (hB b C4) h.1,c94 nd A B (λx hx=>hA x (y7 _ hx)) (λx hx=>hB x (y7 _ hx)) h.2]
def cM0{x y:Val}(hx:nrm x)(hy:nrm y)(h:Y2 x=Y2 y)(h2:rA x=rA y):x=y:=by obtain⟨a,b,c,A,rfl,_⟩:=hx;obtain⟨a',b',c',A',rfl,_⟩:=hy;rw[Mc,Mc]at h2;obtain⟨rfl,rfl,rfl⟩:=h;rw[h2]
def d67{x y:Val}(hx:nrm x)(hy:nrm y)(h:km x=km y):x=y:=by obtain⟨⟨a,b,c⟩,d,e,f,g⟩:=(Vu _ _).1 h;refine cM0 hx hy ?_ ?_;show(⟨_,_,_⟩:PaneM)=⟨_,_,_⟩;grind;show(_,_,_,_)=(_,_,_,_);grind[ci]
def d68{k s l g ek t v:Int}{ks:qw}{m m':U0}(hR:cY k s l g=true){evs:List dw}(hT:TOK (eD k s l g) evs m)(hm:m.length<=400)(hev:gZ evs)(hv:inI v)(he:dD (cL k s l g m ek ks t v)=0)(hP:fx F0 (cL k s l g m ek ks t v)= .A m')(hT':TOK (eD k s l g) (evs++[(ks,t,v)]) m'):
 (eP (cL k s l g m ek ks t v)).map Y2=(OI (S7.srt false m) (S7.srt false m')).map Y2/\eT F0 (cL k s l g m ek ks t v)= .A (vY (S7.srt false m) (S7.srt false m')):=by
 obtain⟨R,r1,r2,r3,r4,g1,g2⟩:=d25 oS hR hT hm hev hv he;obtain⟨R',m2,q1,q2,q3,q4,q5,q6,q7⟩:=Yp oS hR hT hm hev hv he;rw[r1,Val.A.injEq]at q1;subst q1;rw[hP,Val.A.injEq]at q2;subst q2;have hPm:m'=R.foldl set1 ((eP (cL k s l g m ek ks t v)).foldl nj m):=by have:=hP;rw[NH,b9 (by rw[he];simp),r1,a41,c61,Ue,Val.A.injEq]at this;exact this.symm
 generalize eP (cL k s l g m ek ks t v)=G at*
 have sub: ∀{l:U0} {p:Val->Bool},(l.map Y2).Nodup->(((S7.srt false l).filter p).map Y2).Pairwise (λp q=>fX p q=true):=λ{l p} h=>
  (bi1 ((((S7.srt_perm false l).map Y2).nodup_iff).2 h)).sublist (T3.map _)
 refine⟨de9 g1 (sub hT.nd) λp=> ?_,?_⟩;constructor
 intro hp;obtain⟨q,hq,rfl⟩:=j9.1 hp;cases hl:ed m (Y2 q)with
 |none=>exact absurd hl (g2 q hq)
 |some c=>
  obtain⟨r,hr,e,_⟩:=wS hl;refine j9.2 ⟨r,l9.2 ⟨S7.srt_mem.2 hr,?_⟩,e⟩;rw[s8,C9];intro y hy c;have hy:=xl hT'.nd (S7.srt_mem.1 hy);rw[j6 c,e,(q7 q hq).1]at hy;cases hy
 .intro hp;obtain⟨r,hr,rfl⟩:=j9.1 hp;obtain⟨hr,hn⟩:=l9.1 hr;have hr:=S7.srt_mem.1 hr;refine Decidable.byContradiction λhg=> ?_
  have h1:=xl hT.nd hr;have h2:ed m' (Y2 r)≠none:=by rw[hPm];by_cases hpr:Y2 r∈R.map Y2;obtain⟨y,hy,e⟩:=j9.1 hpr;rw[<-e,PM R _ r2 hy];simp;rw[MR R _ hpr,WD _ G m hT.nd,b9 hg,h1];simp
  cases hl:ed m' (Y2 r)with
  |none=>exact h2 hl
  |some c=>
   obtain⟨y,hy,e,_⟩:=wS hl;rw[s8,C9]at hn;exact hn y (S7.srt_mem.2 hy) (i6 e)
 rw[r1];have inm: ∀r∈R,r∈m':=λr hr=>by obtain⟨h1,h2⟩:=q6 r hr;obtain⟨y,hy,e1,e2⟩:=wS h2;rw[cM0 h1 (hT'.nrm y hy) e1.symm e2.symm];exact hy
 refine congrArg Val.A (c94 hT'.nd R _ inm (λx hx=>S7.srt_mem.1 (l9.1 hx).1) (de9 ?_ (sub hT'.nd) λp=> ?_))
 rcases r4 with h|⟨L,h⟩
 match R,h with
 | [],_=>exact .nil
 | [x],_=>simp
 .have h:Val.A R= .A (S7.srt false L):=h;rw[Val.A.injEq]at h;rw[h]at r2⊢;exact bi1 r2
 constructor;intro hp;obtain⟨r,hr,rfl⟩:=j9.1 hp;refine j9.2 ⟨r,l9.2 ⟨S7.srt_mem.2 (inm r hr),?_⟩,rfl⟩;rw[s8,C9];intro y hy c;have hy:=S7.srt_mem.1 hy;have e:=d67 (hT.nrm y hy) (hT'.nrm r (inm r hr)) (j6 c);subst e;have c1:=(NA hT hy).2.1;have c2:=(NA hT' (inm y hr)).2.1;obtain⟨i1,i2,i3⟩:=r3 y hr;have hin:qd y (ks,t,v)=true:=Tb.inP_iff.2 ⟨i1.symm,i2,i3⟩;rw[E3,k7,V9 hin]at c2;simp at c2;omega
 intro hp;obtain⟨r,hr,rfl⟩:=j9.1 hp;obtain⟨hr,hn⟩:=l9.1 hr;have hr:=S7.srt_mem.1 hr;rw[s8,C9]at hn;rw[hPm]at hr;rcases Oe _ _ r hr with h|⟨x,hx,rfl⟩
 exact absurd (i6 rfl) (hn r (S7.srt_mem.2 ((Ly G m).subset h)));exact j9.2 ⟨x,hx,rfl⟩
section
variable{I:Opq}{W N:U0}
def ef4{I:Opq}{q:SX}{l:U0}{k i:Nat}(j:Nat)(hq:bZ I q= .A l)(h:I.w k= .D i):bZ I (.O .G [q,.V k,.C j])=Y5 (cg l i) j:=by show ck (bZ I q).L (I.w k).I (j:Int)=_;rw[hq,h];rfl
end
section
variable{I:Opq}{W N:U0}
end
section
variable{I:Opq}{L m:U0}
end
def dC3{x:dw}(h:Y4 1 x.1 x.2.1 x.2.2=0)(hv:inI x.2.2):ug (cP x)=true:=by show(decide ((1:Int)=1)&&(decide (Y4 1 x.1 x.2.1 x.2.2=0)&&(decide (-9223372036854775808<=x.2.2)&&decide (x.2.2<9223372036854775808))))=true;rw[i6 h,i6 hv.1,i6 hv.2];rfl
def xn{evs:List dw}(ht:gZ evs)(hv:EG evs):(evs.map cP).all ug=true:=by rw[List.all_map,k9];exactλx hx=>dC3 (hv x hx) (ht x hx).2
section
variable{k s w g:Int}{evs:List dw}{m:U0}(h:TBL k s w g evs m)
include h
def TBL.n840{a b c d:Val}(ha:a= .D k)(hb:b= .D s)(hc:c= .D w)(hd:d= .D g):(F 840 [a,b,c,d,.A (evs.map cP)]).Z=true:=by subst ha hb hc hd;show(cY k s w g&&(decide ((evs.map cP).length<=24)&&(evs.map cP).all ug))=true;rw[h.R,xn h.tm h.V,k6,i6 h.ln];rfl
def TBL.okw:eY k s w g (evs.map cP)=true:=(Sb h.R h.tm h.ln).2 (d49 h.T)
def TBL.ok:SP k m:=RX h.R h.T h.tm h.ln
def TBL.rows:li F0 [.D k,.D s,.D w,.D g,.A (evs.map cP)]= .A (S7.srt false m):=by show(if eY k s w g (evs.map cP)=true then F0 490 [.A (eB k s w g (evs.map cP) (evs.map cP).length)]else .A [])=_;rw[c9 h.okw];have hr:=Rm h.R h.tm h.ln h.V h.okw;exact oS.x490u _ m (λr hr'=>BM (hr.nrm r hr')) (d29 h.T hr (K7 _)) hr.nd
def TBL.rowsS{r:Val}(hr:r∈S7.srt false m):rowS r:=BM (h.T.nrm r (S7.srt_mem.1 hr))
def TBL.rows7{r:Val}(hr:r∈S7.srt false m):cO r=r:=by obtain⟨a,b,c,A,e,_⟩:=h.T.nrm r (S7.srt_mem.1 hr);rw[e,cF2]
end
def aQ(k s w g:Int)(evs:List dw)(ek:Int)(ks:qw)(t v:Int):U0:=[.D k,.D s,.D w,.D g,.A (evs.map cP),.D ek,.vs ks,.D t,.D v]
section
variable{k s w g ek t v:Int}{ks:qw}{m:U0}{evs:List dw}(H:TBL k s w g evs m)(h24:evs.length<24)(hv:inI v)
include H hv
def df0(h0:Y4 1 ks t v=0):gZ (evs++[(ks,t,v)]):=cF8 H.tm (wF h0 rfl).2 hv
include h24
def dV9:xj (aQ k s w g evs ek ks t v)=dD (cL k s w g m ek ks t v):=by
 have e:xj (aQ k s w g evs ek ks t v)=if Y4 ek ks t v≠0 then Y4 ek ks t v else if ek≠1 then 2 else if eY k s w g (evs.map cP++[.A [.D ek,.vs ks,.D t,.D v]])=true then 0 else 30:=rfl
 rw[e];by_cases h0:Y4 ek ks t v=0;rw[b9 (by simp[h0])];by_cases h1:ek=1
 rw[b9 (by omega)];have hm:evs.map cP++[.A [.D ek,.vs ks,.D t,.D v]]=(evs++[(ks,t,v)]).map cP:=by rw[r9,h1];rfl
 rw[hm];have hok:=Sb H.R (df0 H hv (by rw[<-h1];exact h0)) (by rw[k7];show evs.length+1<=24;omega);have htf:=d47 oS H.R H.T H.tm H.ln hv h0 h1;by_cases f:lU (eD k s w g) (evs++[(ks,t,v)]);rw[htf.2 f,c9 (hok.2 f)]
 rw[b9 λh=>f (hok.1 h)];rcases dQ5 (k:=k) (s:=s) (l:=w) (g:=g) (m:=m) h0 h1 with h|h
 exact absurd (htf.1 h) f;exact h.symm;rw[c9 h1,tI,b9 (by simp[h0]),c9 h1];simp_all[c9,tI]
def dC4: ∃m' evs',fx F0 (cL k s w g m ek ks t v)= .A m'/\TBL k s w g evs' m'/\evs'.length<=evs.length+1/\(if dD (cL k s w g m ek ks t v)≠0 then evs.map cP else evs.map cP++[.A [.D ek,.vs ks,.D t,.D v]])=evs'.map cP/\
 (eP (cL k s w g m ek ks t v)).length<=400/\(eP (cL k s w g m ek ks t v)).map Y2=(YE F0 (aQ k s w g evs ek ks t v)).L.map Y2/\ ∃R,eT F0 (cL k s w g m ek ks t v)= .A R/\TB F0 (aQ k s w g evs ek ks t v)= .A R/\R.length<=400/\ ∀r∈R,rowS r:=by
 have hrt:=dV9 H h24 hv (ek:=ek) (ks:=ks) (t:=t);have e3:YE F0 (aQ k s w g evs ek ks t v)= .A (if xj (aQ k s w g evs ek ks t v)=0 then(OI (Jd F0 (aQ k s w g evs ek ks t v)) (Ie F0 (aQ k s w g evs ek ks t v))).map fF else []):=rfl;have e4:TB F0 (aQ k s w g evs ek ks t v)= .A (if xj (aQ k s w g evs ek ks t v)=0 then(vY (Jd F0 (aQ k s w g evs ek ks t v)) (Ie F0 (aQ k s w g evs ek ks t v))).map cO else []):=rfl;rw[e3,e4,hrt];by_cases he:dD (cL k s w g m ek ks t v)=0
 rw[b9 (by simp[he]),c9 he,c9 he];obtain⟨q0,q1⟩:=SK he;subst q1;obtain⟨R,m',a1,a2,a3,a4,a5,a6,a7⟩:=Yp oS H.R H.T H.ok.2.2.1 H.tm hv he;have H':TBL k s w g (evs++[(ks,t,v)]) m':=⟨H.R,a5,df0 H hv q0,cF9 H.V q0,by grind⟩;have hx:evs.map cP++[Val.A [.D 1,.vs ks,.D t,.D v]]=(evs++[(ks,t,v)]).map cP:=by rw[r9];rfl
 have hW:Jd F0 (aQ k s w g evs 1 ks t v)=S7.srt false m:=congrArg Val.L H.rows;have hN:Ie F0 (aQ k s w g evs 1 ks t v)=S7.srt false m':=by show(li F0 [.D k,.D s,.D w,.D g,.A (evs.map cP++[Val.A [.D 1,.vs ks,.D t,.D v]])]).L=_;rw[hx];exact congrArg Val.L H'.rows
 obtain⟨d1,d2⟩:=d68 H.R H.T H.ok.2.2.1 H.tm hv he a2 a5;rw[a1,Val.A.injEq]at d2;refine⟨m',_,a2,H',by grind,hx,a4,?_,R,a1,?_,by omega,λr hr=>BM (a6 r hr).1⟩;rw[d1,hW,hN,a41,o8];rfl;rw[hW,hN,<-d2];refine congrArg Val.A ((y6 (g:=id) λr hr=> ?_).trans (F5 _));obtain⟨a,b,c,A,e,_⟩:=(a6 r hr).1;grind[cF2];rw[c9 he,b9 he,b9 he];obtain⟨b1,b2,b3⟩:=dQ3 (X:=F0) he;refine⟨m,evs,b3,H,by omega,rfl,by grind,by rw[b1];rfl,[],b2,rfl,p8 _,λr hr=>(by cases hr)⟩
end
structure RQ (I:Opq) (k s w g:Int) (ops:U0) (i:Nat) (m:U0) (evs:List dw) (fi ek:Int) (ks:qw) (t v:Int):Prop where
 f: ∀i a,I.f i a=F i a
 w0:I.w 0= .D k
 w1:I.w 1= .D s
 w2:I.w 2= .D w
 w3:I.w 3= .D g
 w4:I.w 4= .A ops
 u0:I.w 2000= .B false
 u1:I.w 2001= .D evs.length
 u2:I.w 2002= .D fi
 u3:I.w 2003= .D i
 u4:I.w 2004= .A m
 u5:I.w 2005= .A (evs.map cP)
 row:cg ops i= .A [.D ek,.vs ks,.D t,.D v]
def eX(j:Int):SX:= .O .G [aT,bj,.C j]
def rQ:SX:= .O .lsub [bv,aM,aR]
section
variable{I:Opq}{k s w g:Int}{ops:U0}{i:Nat}{m:U0}{evs:List dw}{fi ek:Int}{ks:qw}{t v:Int}(h:RQ I k s w g ops i m evs fi ek ks t v)
include h
def RQ.ex(j:Nat):bZ I (eX j)=Y5 (.A [.D ek,.vs ks,.D t,.D v]) j:=by rw[show eX j= .O .G [aT,bj,.C j]from rfl,ef4 (q:= aT) j h.w4 h.u3,h.row]
def RQ.r:bZ I rQ= .A (evs.map cP):=Ik (x:= bv) (n:= aR) h.u5 (by rw[k6];exact h.u1)
end
def dC5{k s w g:Int}(hR:cY k s w g=true):TBL k s w g [] []:=⟨hR,du4 hR,λx hx=>(by cases hx),λx hx=>(by cases hx),p8 _⟩
section
variable{k s w g:Int}{ops:U0}(hR:cY k s w g=true)(hn:ops.length<=24)(ho: ∀r∈ops,Yt r=true)
include hR hn ho
