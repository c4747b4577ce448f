import Derived.Test.YtgeohopencabkaaGreatEP11
set_option linter.all false
noncomputable section
namespace Go.Ev.S9
open Go Go.Ev
def eY(X:Nat->U7->Val)(a b c d:Val)(l:U7):Nat->Val
 |0=> .A []
 |i+1=>if ci (cg l i) 0=2 then eY X a b c d l i else dR X (oP a b c d (eY X a b c d l i) (cg l i))
def gc(X:Nat->U7->Val)(a b c d:Val)(l:U7)(i:Nat):Int:=if nA l i≠0 then nA l i else if ci (cg l i) 0=2 then 0 else dp (oP a b c d (eY X a b c d l i) (cg l i))
def pb(X:Nat->U7->Val)(a b c d:Val)(l:U7):mB:=(List.range l.length).find? λi=>decide (gc X a b c d l i≠0)
def BJ(X:Nat->U7->Val)(a b c d:Val)(l:U7):Nat×U7:=match pb X a b c d l with
 |some i=>(1,[.D (gc X a b c d l i),iz l i,.D i,eY X a b c d l i])
 |none=>(0,[.D 0,iz l l.length,.D l.length,eY X a b c d l l.length])
def HY(X:Nat->U7->Val)(a:U7):Val:=cx (BJ X (ce a 4) (ce a 5) (ce a 6) (ce a 7) (ce a 11).L)
def DX(X:Nat->U7->Val)(a b c d:Val)(l:U7):Int:=if X9 a.I b.I c.I d.I=true then(match pb X a b c d l with|some i=>gc X a b c d l i|none=>0)else 2
def EQ(X:Nat->U7->Val)(a b c d:Val)(l:U7):Val:=if X9 a.I b.I c.I d.I=true then(match pb X a b c d l with|some _=> .A []|none=>dy X [eY X a b c d l l.length,iz l l.length])else .A []
def yS(X:Nat->U7->Val)(a:U7):Val:= .D (DX X (ce a 0) (ce a 1) (ce a 2) (ce a 3) (ce a 4).L)
def wv(X:Nat->U7->Val)(a:U7):Val:=EQ X (ce a 0) (ce a 1) (ce a 2) (ce a 3) (ce a 4).L
def Fx(X:Nat->U7->Val)(k s w g:Int)(l:U7)(i:Nat):Prop:= ∃m evs,eY X (.D k) (.D s) (.D w) (.D g) l i= .A m/\ET l i=evs.map cK/\TOK (dU k s w g) evs m/\ga evs/\BG evs/\evs.length<=i
theorem Xg{l:U7}{i:Nat}(h:i<l.length):ET l (i+1)=ET l i++xy l i:=by
 have hg: ∀(n:Nat),n<=l.length->tw (l.take n)=cw (xy l) n:=λn hn=>by
  unfold tw;rw[n8,C0 hn];refine OI n λj hj=> ?_
  have:cg (l.take n) j=cg l j:=by rw[mb (by rw[n8];omega),mb (by omega),List.getElem_take]
  unfold xy;rw[this]
 unfold ET;rw[hg _ (by omega),hg _ (by omega)];rfl
section
variable{X:Nat->U7->Val}{k s w g:Int}{l:U7}
def e91(hR:X9 k s w g=true):Fx X k s w g l 0:=⟨[],[],rfl,rfl,cF9 hR,λ_ h=>(by cases h),λ_ h=>(by cases h),j6 _⟩
def Pr{i:Nat}{ek:Int}{ks:zR}{t v:Int}(hr:cg l i= .A [.D ek,.vs ks,.D t,.D v]):nA l i=X5 ek ks t v:=by unfold nA;rw[hr];rfl
def e92{ek:Int}{ks:zR}{t v:Int}(h:X5 ek ks t v=0):ek=1\/ek=2:=by unfold X5 at h;omega
def d52(hX:XOk X)(hR:X9 k s w g=true){i:Nat}(hi:i<l.length)(hn:l.length<=24)(ho:nB (cg l i)=true)(h:Fx X k s w g l i)(he:gc X (.D k) (.D s) (.D w) (.D g) l i=0):Fx X k s w g l (i+1):=by
 obtain⟨m,evs,h1,h2,h3,h4,h5,h6⟩:=h;obtain⟨ek,ks,t,v,hr,hv⟩:=de8 ho;have hrv:nA l i=0:=by unfold gc at he;omega
 have hrv':=hrv;rw[Pr hr]at hrv';have hk:ci (cg l i) 0=ek:=by rw[hr];rfl
 rcases e92 hrv' with rfl|rfl
 have hne: ¬ci (cg l i) 0=2:=by omega
 have hw:=Vt (k:=k) (s:=s) (l:=w) (g:=g) h1 hr;unfold gc at he;rw[b9 (λh=>h hrv),b9 hne,hw]at he;obtain⟨R,m',a1,a2,a3,a4,a5,a6,a7⟩:=MD hX hR h3 (GD hR h3 h4 (by omega)).2.2.1 h4 hv he;have ht:=wQ hrv' rfl;refine⟨m',evs++[(ks,t,v)],?_,?_,a5,?_,?_,?_⟩;show(if ci (cg l i) 0=2 then _ else dR X (oP (.D k) (.D s) (.D w) (.D g) (eY X (.D k) (.D s) (.D w) (.D g) l i) (cg l i)))=_;rw[b9 hne,hw];exact a2;rw[Xg hi,h2,s6];unfold xy;rw[hk,j0 rfl,cond_true,hr];rfl
 intro x hx;rcases t8.1 hx with hx|hx
 exact h4 x hx;rw[m9.1 hx];exact⟨ht.2,hv⟩
 intro x hx;rcases t8.1 hx with hx|hx
 exact h5 x hx;rw[m9.1 hx];exact hrv';grind;refine⟨m,evs,?_,?_,h3,h4,h5,by omega⟩;show(if ci (cg l i) 0=2 then eY X (.D k) (.D s) (.D w) (.D g) l i else _)=_;rw[i6 hk];exact h1;grind[Xg,xy]
def Oy(hX:XOk X)(hR:X9 k s w g=true)(hn:l.length<=24)(ho: ∀r∈l,nB r=true): ∀i,i<=l.length->(∀j,j<i->gc X (.D k) (.D s) (.D w) (.D g) l j=0)->Fx X k s w g l i
 |0,_,_=>e91 hR
 |i+1,hi,he=>d52 hX hR (by omega) hn (ho _ (lZ (by omega))) (Oy hX hR hn ho i (by omega) λj hj=>he j (by omega)) (he i (by omega))
variable{I:Opq}(hf: ∀i a,I.f i a=FT X i a)
include hf
def dR3(hX:XOk X)(hR:X9 k s w g=true)(h0:I.w 0= .D k)(h1:I.w 1= .D s)(h2:I.w 2= .D w)(h3:I.w 3= .D g)(h4:I.w 4= .A l)(hn:l.length<=24)(ho: ∀r∈l,nB r=true)(i:Nat)(hi:i<l.length)(hg:Fx X k s w g l i):
 W6 Pf (I.U 2000 [.D 0,iz l i,.D i,eY X (.D k) (.D s) (.D w) (.D g) l i])=if gc X (.D k) (.D s) (.D w) (.D g) l i≠0 then some (2,[.D (gc X (.D k) (.D s) (.D w) (.D g) l i),iz l i,.D i,eY X (.D k) (.D s) (.D w) (.D g) l i])
  else some (0,[.D 0,iz l (i+1),.D (i+1:Nat),eY X (.D k) (.D s) (.D w) (.D g) l (i+1)]):=by
 obtain⟨m,evs,g1,g2,g3,g4,g5,g6⟩:=hg;have AB:=GD hR g3 g4 (by omega);obtain⟨ek,ks,t,v,hr,hv⟩:=de8 (ho _ (lZ hi));have hM1:eY X (.D k) (.D s) (.D w) (.D g) l (i+1)=if ci (cg l i) 0=2 then eY X (.D k) (.D s) (.D w) (.D g) l i else dR X (oP (.D k) (.D s) (.D w) (.D g) (eY X (.D k) (.D s) (.D w) (.D g) l i) (cg l i)):=rfl
 have hK1:iz l (i+1)=if ci (cg l i) 0=2 then X1 (cg l i) 2 else iz l i:=rfl
 rw[hM1,hK1];unfold gc;rw[Vt (k:=k) (s:=s) (l:=w) (g:=g) g1 hr,g1];generalize iz l i=mk;have v0:(I.U 2000 [.D 0,mk,.D i,.A m]).w 2000= .D 0:=by rfl
 have v1:(I.U 2000 [.D 0,mk,.D i,.A m]).w 2001=mk:=by rfl
 have v2:(I.U 2000 [.D 0,mk,.D i,.A m]).w 2002= .D i:=by rfl
 have v3:(I.U 2000 [.D 0,mk,.D i,.A m]).w 2003= .A m:=by rfl
 have w0:(I.U 2000 [.D 0,mk,.D i,.A m]).w 0= .D k:=by grind[kl]
 have w1:(I.U 2000 [.D 0,mk,.D i,.A m]).w 1= .D s:=by grind[kl]
 have w2:(I.U 2000 [.D 0,mk,.D i,.A m]).w 2= .D w:=by grind[kl]
 have w3:(I.U 2000 [.D 0,mk,.D i,.A m]).w 3= .D g:=by grind[kl]
 have w4:(I.U 2000 [.D 0,mk,.D i,.A m]).w 4= .A l:=by grind[kl]
 have hf': ∀j a,(I.U 2000 [.D 0,mk,.D i,.A m]).f j a=FT X j a:=λj a=>by grind[mG]
 generalize I.U 2000 [.D 0,mk,.D i,.A m]=aa at*
 have gx: ∀c:Nat,bZ aa (.O .G [aS,aW,.C c])=X1 (.A [.D ek,.vs ks,.D t,.D v]) c:=λc=>by show Y3 (aa.w 4).L (aa.w 2002).I (c:Int)=_;rw[w4,v2,<-hr];rfl
 have c0:bZ aa (zg 4 2002 0)= .D ek:=gx 0;have c1:bZ aa (zg 4 2002 1)= .vs ks:=gx 1;have c2:bZ aa (zg 4 2002 2)= .D t:=gx 2;have c3:bZ aa (zg 4 2002 3)= .D v:=gx 3;have d29:bZ aa Jh= .D (nA l i):=by show aa.f 701 [bZ aa (zg 4 2002 0),bZ aa (zg 4 2002 1),bZ aa (zg 4 2002 2),bZ aa (zg 4 2002 3)]=_;rw[hf',c0,c1,c2,c3,Pr hr];rfl
 have d30:bZ aa Kp= .D (dp (cE k s w g m ek ks t v)):=by show aa.f 732 [aa.w 0,aa.w 1,aa.w 2,aa.w 3,aa.w 2003,bZ aa (zg 4 2002 0),bZ aa (zg 4 2002 1),bZ aa (zg 4 2002 2),bZ aa (zg 4 2002 3)]=_;rw[hf',c0,c1,c2,c3,w0,w1,w2,w3,v3];rfl
 have d31:bZ aa HG=dR X (cE k s w g m ek ks t v):=by show aa.f 733 [aa.w 0,aa.w 1,aa.w 2,aa.w 3,aa.w 2003,bZ aa (zg 4 2002 0),bZ aa (zg 4 2002 1),bZ aa (zg 4 2002 2),bZ aa (zg 4 2002 3)]=_;rw[hf',c0,c1,c2,c3,w0,w1,w2,w3,v3];rfl
 have i1:bZ aa (zi aW)= .D (i+1:Nat):=by show Val.D (cq .add .i64 (aa.w 2002).I 1)=_;grind[Y1,iZ]
 have hk:ci (cg l i) 0=ek:=by rw[hr];rfl
 have hk2:X1 (cg l i) 2= .D t:=by grind
 rw[hk,hk2];refine Y4 (by show dB aa (zs aW (zl 4))=true;simp_all[gE,ft,ej,dV,j0]) (X2 (by simp_all[cZ,cM,ft,j0]) ?_);by_cases c:nA l i=0;refine Y0 (by rw[rO,d29,cM];simp_all) ?_;rw[b9 (show¬nA l i≠0 fromλh=>h c)];by_cases e2:ek=2;refine Y4 (by rw[mV,c0,cM];exact j0 e2) ?_;show some (0,[aa.w 2000,bZ aa (zg 4 2002 2),bZ aa (zi aW),aa.w 2003])=_;grind;rw[b9 e2,b9 e2,b9 e2];refine Y0 (by simp_all[mV,cM,j9]) (X2 ?_ ?_);exact and2 (Hs hf' hX (x:= bD) v3 AB) (dQ7 hf' (e0:= aN) (e1:= bD) w0 v3 c1 AB);by_cases ct:dp (cE k s w g m ek ks t v)=0;refine Y0 (by rw[rO,d30,cM];show(!decide (dp (cE k s w g m ek ks t v)=0))=false;rw[j0 ct];rfl) ?_;show some (0,[aa.w 2000,aa.w 2001,bZ aa (zi aW),bZ aa HG])=_;grind;refine Y4 (by rw[rO,d30,cM];show(!decide (dp (cE k s w g m ek ks t v)=0))=true;rw[j9 ct];rfl) ?_;show some (2,[bZ aa Kp,aa.w 2001,aa.w 2002,bZ aa HG])=_;simp_all[XN];refine Y4 (by rw[rO,d29,cM];show(!decide (nA l i=0))=true;rw[j9 c];rfl) ?_;show some (2,[bZ aa Jh,aa.w 2001,aa.w 2002,aa.w 2003])=_;grind
end
section
variable{X:Nat->U7->Val}{k s w g:Int}{l:U7}{I:Opq}(hf: ∀i a,I.f i a=FT X i a)
include hf
def e93(hX:XOk X)(hR:X9 k s w g=true)(h0:I.w 0= .D k)(h1:I.w 1= .D s)(h2:I.w 2= .D w)(h3:I.w 3= .D g)(h4:I.w 4= .A l)(hn:l.length<=24)(ho: ∀r∈l,nB r=true):
 Y9 (λvs=>W6 Pf (I.U 2000 vs)) [.D 0,.D (-2199023255552),.D 0,.A []]=some (BJ X (.D k) (.D s) (.D w) (.D g) l):=by
 have run:=λi hi hg=>dR3 hf hX hR h0 h1 h2 h3 h4 hn ho i hi hg
 have all:=λi hi he=>Oy (X:=X) hX hR hn ho i hi he
 cases hc:pb X (.D k) (.D s) (.D w) (.D g) l with
 |none=>
  have hz: ∀j,j<l.length->gc X (.D k) (.D s) (.D w) (.D g) l j=0:=λj hj=>by have:=A8.1 hc j (o7.2 hj);grind
  refine kr (st:=λi=>[.D 0,iz l i,.D i,eY X (.D k) (.D s) (.D w) (.D g) l i]) (n:=l.length) (λi hi=> ?_) ?_;grind
  generalize iz l l.length=mk;generalize eY X (.D k) (.D s) (.D w) (.D g) l l.length=M;have v0:(I.U 2000 [.D 0,mk,.D l.length,M]).w 2000= .D 0:=by rw[cT];simp
  have v1:(I.U 2000 [.D 0,mk,.D l.length,M]).w 2001=mk:=by rw[cT];simp
  have v2:(I.U 2000 [.D 0,mk,.D l.length,M]).w 2002= .D l.length:=by rw[cT];simp
  have v3:(I.U 2000 [.D 0,mk,.D l.length,M]).w 2003=M:=by rw[cT];simp
  have w4:(I.U 2000 [.D 0,mk,.D l.length,M]).w 4= .A l:=by rw[kl _ _ _ (by omega),h4]
  generalize I.U 2000 [.D 0,mk,.D l.length,M]=aa at*
  refine Y0 (by show dB aa (zs aW (zl 4))=false;rw[gE,ft,v2,ej,dV,w4];exact j9 (by show¬(l.length:Int)<(l.length:Int);omega)) ?_;show some (1,[aa.w 2000,aa.w 2001,aa.w 2002,aa.w 2003])=_;grind
 |some i=>
  obtain⟨a,b,c⟩:=rS hc;have hz: ∀j,j<i->gc X (.D k) (.D s) (.D w) (.D g) l j=0:=λj hj=>by have:=c j hj;simpa using this
  refine kr (st:=λi=>[.D 0,iz l i,.D i,eY X (.D k) (.D s) (.D w) (.D g) l i]) (n:=i) (λm hm=> ?_) ?_;rw[run m (by omega) (all m (by omega) λj hj=>hz j (by omega)),b9 (λh=>h (hz m hm))];grind
def dR4(hX:XOk X)(f726: ∀a,X 726 a=dy X a)(f872: ∀a,X 872 a=HY X a)(h0:I.w 0= .D k)(h1:I.w 1= .D s)(h2:I.w 2= .D w)(h3:I.w 3= .D g)(h4:I.w 4= .A l)(hn:l.length<=24)(ho: ∀r∈l,nB r=true):
 W6 T_engT I=some (0,[yS X [I.w 0,I.w 1,I.w 2,I.w 3,I.w 4],wv X [I.w 0,I.w 1,I.w 2,I.w 3,I.w 4]]):=by
 have hv:([yS X [I.w 0,I.w 1,I.w 2,I.w 3,I.w 4],wv X [I.w 0,I.w 1,I.w 2,I.w 3,I.w 4]]:U7)=[.D (DX X (.D k) (.D s) (.D w) (.D g) l),EQ X (.D k) (.D s) (.D w) (.D g) l]:=by rw[h0,h1,h2,h3,h4];rfl
 rw[hv];have d28:dB I WZ= !X9 k s w g:=by show(!(I.f 700 [I.w 0,I.w 1,I.w 2,I.w 3]).Z)=_;rw[hf,h0,h1,h2,h3];rfl
 show _=some (0,[Val.D (if X9 k s w g=true then _ else 2),if X9 k s w g=true then _ else Val.A []]);cases hR:X9 k s w g with
 |false=>exact Y4 (by grind) rfl
 |true=>
 have e0:bZ I tL=cx (BJ X (.D k) (.D s) (.D w) (.D g) l):=by show I.f 872 [.D 0,.D (-2199023255552),.D 0,.A [],I.w 0,I.w 1,I.w 2,I.w 3,.A [],.D 0,.D (I.w 4).L.length,I.w 4,.D (I.w 4).L.length]=_;rw[hf,h0,h1,h2,h3,h4];exact f872 _
 refine Y0 (by grind) (X7 (r:=BJ X (.D k) (.D s) (.D w) (.D g) l) (e93 hf hX hR h0 h1 h2 h3 h4 hn ho) e0 ?_);unfold BJ at*
 rw[i6 rfl,i6 rfl];cases hc:pb X (.D k) (.D s) (.D w) (.D g) l with
 |some i=>
  rw[hc]at e0;show some (0,[Y3 (bZ I tL).L 1 0,Val.A []])=_;rw[e0];rfl
 |none=>
  rw[hc]at e0;have hz: ∀j,j<l.length->gc X (.D k) (.D s) (.D w) (.D g) l j=0:=λj hj=>by have:=A8.1 hc j (o7.2 hj);grind
  obtain⟨m,evs,g1,g2,g3,g4,g5,g6⟩:=Oy (X:=X) hX hR hn ho l.length (j6 _) hz;have q1:bZ I wT= .A m:=by show Y3 (bZ I tL).L 1 3=_;rw[e0,<-g1];rfl
  have q2:bZ I (zo tL 1)=iz l l.length:=by show Y3 (bZ I tL).L 1 1=_;rw[e0];rfl
  refine X2 (Hs hf hX (x:=wT) q1 (GD hR g3 g4 (by omega))) ?_;show some (0,[Val.D 0,I.f 726 [bZ I wT,bZ I (zo tL 1)]])=_;rw[q1,q2,hf,g1];show some (0,[Val.D 0,X 726 [.A m,iz l l.length]])=_;rw[f726]
end
variable{l:U7}
def en5(a:U7):Val:= .A (ef0 (ce a 0).L)
def en6(a:U7):Val:= .B (iu (ce a 0)&&(iu (ce a 1)&&(iu (ce a 2)&&(iu (ce a 3)&&(CB (ce a 4)&&decide ((ce a 4).L.length<=24))))))
def en7(a:U7):Val:= .B (iu (ce a 0)&&(iu (ce a 1)&&(iu (ce a 2)&&(iu (ce a 3)&&CB (ce a 4)))))
def e94(l:U7)(i:Nat):Bool:=decide (50<(X1 (cg l i) 1).toS.length)
def en8(l:U7):Nat×U7:=il (.B false) (λk=>[.B true,.D k]) (e94 l) l.length
def en9(a:U7):Val:=cx (en8 (ce a 4).L)
section
variable{I:Opq}
end
def Cz(g:Val->U7)(l:U7):cw (λi=>g (cg l i)) l.length=l.flatMap g:=by
 have: ∀n,n<=l.length->cw (λi=>g (cg l i)) n=(l.take n).flatMap g:=λn=>by
  induction n with
  |zero=>intro _;rfl
  |succ n ih=>
   intro h;show cw (λi=>g (cg l i)) n++g (cg l n)=_;rw[ih (by omega),Mx (by omega),K2];simp
 grind
theorem NU{α:Type}(p:α->Bool)(f:α->Val): ∀l:List α,l.flatMap (λr=>bif p r then [f r]else [])=(l.filter p).map f
 | []=>rfl
 |a::l=>by rw[A5,NU p f l];grind
def iV(v:Int):Val:= .A [.D v]
def cH0(evs:List cU)(key:zR):sj (evs.map cK) key=(evs.filter λx=>decide (x.1=key)).map λx=>iV x.2.1:=by have h:=Cz (λr=>bif decide ((X1 r 1).toS=key)then [.A [X1 r 2]]else []) (evs.map cK);unfold sj;rw[show ef1 (evs.map cK) key=λi=>(λr=>bif decide ((X1 r 1).toS=key)then [Val.A [X1 r 2]]else []) (cg (evs.map cK) i)from rfl,h,M6];exact NU (λx:cU=>decide (x.1=key)) (λx=>iV x.2.1) evs
def dR5(evs:List cU)(key:zR)(a b:Int):sJ (evs.map cK) key a b=(Tb.vals evs key a b).map iV:=by
 have h:=Cz (λr=>bif decide ((X1 r 1).toS=key)&&(decide (a<=ci r 2)&&decide (ci r 2<b))then [.A [X1 r 3]]else []) (evs.map cK);unfold sJ Tb.vals;rw[show(λq=>bif XM (evs.map cK) key a b q then [Val.A [X1 (cg (evs.map cK) q) 3]]else [])=λi=>(λr=>bif decide ((X1 r 1).toS=key)&&(decide (a<=ci r 2)&&decide (ci r 2<b))then [Val.A [X1 r 3]]else []) (cg (evs.map cK) i)from rfl,h,M6,o9];have e:(λx:cU=>(λr=>bif decide ((X1 r 1).toS=key)&&(decide (a<=ci r 2)&&decide (ci r 2<b))then [Val.A [X1 r 3]]else []) (cK x))=λx=>bif Tb.inP key a b x then [iV x.2.2]else []:=by funext x;show(bif decide (x.1=key)&&(decide (a<=x.2.1)&&decide (x.2.1<b))then [iV x.2.2]else [])=_;unfold Tb.inP;rw[Bool.and_assoc]
 grind[NU,Tb.inP,iV]
def cH1{l:aaE}(h:l≠[])(x:Int):Tb.minI (l++[x])=min (Tb.minI l) x:=by
 match l,h with
 |a::l,_=>show(l++[x]).foldl min a=min (l.foldl min a) x;grind
def cH2{l:aaE}(h:l≠[])(x:Int):Tb.maxI (l++[x])=max (Tb.maxI l) x:=by
 match l,h with
 |a::l,_=>show(l++[x]).foldl max a=max (l.foldl max a) x;grind
def dx0(x y:Int):(if x<y then Val.D x else .D y)= .D (min y x):=by grind
def dx1(x y:Int):(if y<x then Val.D x else .D y)= .D (max y x):=by grind
def Xk(vs:aaE): ∀k,k+1<=vs.length->uc (vs.map iV) (k+1)=(.D (Tb.minI (vs.take (k+1))),.D (Tb.maxI (vs.take (k+1))))
 |0,h=>by
  match vs,h with
  |a::l,_=>rfl
 |k+1,h=>by
  have ih:=Xk vs k (by omega);have hx:X1 (cg (vs.map iV) (k+1)) 0= .D vs[k+1]:=by rw[mb (by rw[k7];omega),G8];rfl
  have ht:vs.take (k+1+1)=vs.take (k+1)++[vs[k+1]]:=by rw[P3]
  have hne:vs.take (k+1)≠[]:=λe=>by have:=congrArg List.length e;rw[n8,List.length_nil]at this;omega
  rw[ht,cH1 hne,cH2 hne];show(if k+1=0 then _ else _)=_;simp_all[b9,Nat.succ_ne_zero,ci,Tb.minI,Tb.maxI,dx0,dx1]
def e95{vs:aaE}(hne:vs≠[])(hv: ∀v∈vs,inI v)(hn:vs.length<=100):(sE (vs.map iV)=0↔inI (Tb.sumI vs))/\(sE (vs.map iV)=0->aA (vs.map iV)=[.D (Tb.agOf vs).1,.D (Tb.agOf vs).2.1,.D (Tb.agOf vs).2.2.1,.D (Tb.agOf vs).2.2.2]):=by
 have hs:=e86 (l:=vs.map iV) (λr hr=>by obtain⟨v,hv',rfl⟩:=k6.1 hr;exact hv v hv') (by grind)
 rw[Wa]at hs;have hm:(vs.map iV).map (λr=>ci r 0)=vs:=by rw[o9];exact(A1 (g:=id) λv _=>rfl).trans (G6 vs)
 rw[hm]at hs;refine⟨hs.1,λh=> ?_⟩;unfold aA;rw[b9 (λc=>c h),hs.2 h];have hl:0<vs.length:=P4.2 hne;obtain⟨k,hk⟩: ∃k,vs.length=k+1:=⟨vs.length-1,by omega⟩;rw[k7,hk,Xk vs k (by omega),<-hk,B1];rfl
def DN(key r:Val):PaneM:=⟨key.toS,ci r 0,ci r 1⟩
def uh(ev:U7)(key r:Val):U7:=sJ ev key.toS (ci r 0) (ci r 1)
def dR6(ev:U7)(key r:Val):W7 (we ev key r)=DN key r:=rfl
def c45{M:U7}{key r:Val}:uk M key r=true↔ ∃x∈M,W7 x=DN key r:=by unfold uk;simp;rfl
section
variable{ev:U7}{key:Val}{R M0:U7}
def ZE: ∀j,∀x∈M0,x∈iK ev key R M0 j
 |0,x,h=>h
 |j+1,x,h=>F6 _ (ZE j x h)
def c46: ∀j,∀x∈iK ev key R M0 j,x∈M0\/ ∃q,q<j/\x=we ev key (cg R q)/\uk (iK ev key R M0 q) key (cg R q)=false
 |0,x,h=> .inl h
 |j+1,x,h=>by
  rcases t8.1 h with h|h
  rcases c46 j x h with h|⟨q,h1,h2⟩
  exact .inl h;grind;unfold Gp at h;grind
def cH4: ∀j q,q<j-> ∃x∈iK ev key R M0 j,W7 x=DN key (cg R q)
 |0,q,h=>absurd h (P8 _)
 |j+1,q,h=>by
  by_cases c:q<j;obtain⟨x,h1,h2⟩:=cH4 j q c;exact⟨x,F6 _ h1,h2⟩
  have:q=j:=by omega
  subst this;cases hh:uk (iK ev key R M0 q) key (cg R q)with
  |true=>
   obtain⟨x,h1,h2⟩:=c45.1 hh;exact⟨x,F6 _ h1,h2⟩
  |false=>
   refine⟨we ev key (cg R q),O4 _ ?_,dR6 ..⟩;unfold Gp;rw[hh];exact List.mem_singleton.2 rfl
def df4(h0:(M0.map W7).Nodup): ∀j,((iK ev key R M0 j).map W7).Nodup
 |0=>h0
 |j+1=>by
  have ih:=df4 h0 j;show((iK ev key R M0 j++Gp ev key (iK ev key R M0 j) (cg R j)).map W7).Nodup;unfold Gp;cases hh:uk (iK ev key R M0 j) key (cg R j)with
  |true=>grind
  |false=>
   rw[cond_false,s6,J0];refine⟨ih,by simp,λa ha b hb he=> ?_⟩;obtain⟨x,hx,rfl⟩:=k6.1 ha;rw[m8,I7,m9]at hb;have:uk (iK ev key R M0 j) key (cg R j)=true:=c45.2 ⟨x,hx,by rw[he,hb];rfl⟩;grind
end
section
variable{k s w g:Int}{ev:U7}
theorem Ot: ∀i,∀x∈jW k s w g ev i,∃i',i'<i/\ ∃q,q<(fF k s w g ev i').length/\x=we ev (lR ev i') (cg (fF k s w g ev i') q)/\uk (iK ev (lR ev i') (fF k s w g ev i') (jW k s w g ev i') q) (lR ev i') (cg (fF k s w g ev i') q)=false
 |0,x,h=>(by cases h)
 |i+1,x,h=>by
  rcases c46 _ x h with h|⟨q,h1,h2,h3⟩
  obtain⟨i',a,b⟩:=Ot i x h;exact⟨i',by omega,b⟩;grind
def Um: ∀i i' q,i'<i->q<(fF k s w g ev i').length-> ∃x∈jW k s w g ev i,W7 x=DN (lR ev i') (cg (fF k s w g ev i') q)
 |0,i',q,h,_=>absurd h (P8 _)
 |i+1,i',q,h,hq=>by
  by_cases c:i'<i;obtain⟨x,h1,h2⟩:=Um i i' q c hq;exact⟨x,ZE _ x h1,h2⟩
  have:i'=i:=by omega
  subst this;exact cH4 _ q hq
def df5: ∀i,((jW k s w g ev i).map W7).Nodup
 |0=>List.nodup_nil
 |i+1=>df4 (df5 i) _
def cH5(h:lI k s w g ev=true){i q:Nat}(hi:i<ev.length)(hq:q<(fF k s w g ev i).length):HO ev (lR ev i) (fF k s w g ev i) (jW k s w g ev i) q=false:=by simp_all[lI,W1,A8,o7,Hu]
theorem WW:lI k s w g ev=true↔ ∀i q,i<ev.length->q<(fF k s w g ev i).length->sE (uh ev (lR ev i) (cg (fF k s w g ev i) q))=0:=by
 constructor
 intro h i q hi hq;obtain⟨x,h1,h2⟩:=Um ev.length i q hi hq;obtain⟨i',a,q',b,c,d⟩:=Ot _ x h1;have hb:=cH5 h a b;unfold HO at hb;rw[d]at hb;have h0:sE (uh ev (lR ev i') (cg (fF k s w g ev i') q'))=0:=by unfold uh;simpa using hb
 rw[c,dR6]at h2;unfold DN at h2;rw[PaneM.mk.injEq]at h2;obtain⟨e1,e2,e3⟩:=h2;unfold uh at h0⊢;rw[<-e1,<-e2,<-e3];exact h0
 intro h;unfold lI;rw[W1];refine A8.2 λi hi=> ?_
 have h2:Hu k s w g ev i=none:=by
  refine A8.2 λq hq=> ?_
  have:=h i q (o7.1 hi) (o7.1 hq);unfold uh at this;unfold HO;rw[this];simp
 rw[h2];simp
def dR7(h:lI k s w g ev=true){x:Val}(hx:x∈jW k s w g ev ev.length): ∃i q,i<ev.length/\q<(fF k s w g ev i).length/\x=we ev (lR ev i) (cg (fF k s w g ev i) q)/\sE (uh ev (lR ev i) (cg (fF k s w g ev i) q))=0:=by grind[Ot,WW]
end
theorem dx2{k s w g:Int}(hR:X9 k s w g=true)(h3:k≠3){evs:List cU}(hev:ga evs)(key:zR)(r:Val):
 r∈tr k s w g (evs.map cK) key↔ ∃a b,r= .A [.D a,.D b]/\Tb.Pan (dU k s w g) evs key a b:=by
 have hw:dU k s w g= .win (ku (dY k s w) s):=b9 h3;have e:tr k s w g (evs.map cK) key=(evs.filter λx=>decide (x.1=key)).flatMap λx=>dF k s w g (.D x.2.1):=by unfold tr Ol;rw[b9 h3,Cz (λr=>dF k s w g (X1 r 0)),cH0,M6];rfl
 rw[e,hw,x7];constructor;rintro⟨x,hx,hr⟩;rw[l7,decide_eq_true_eq]at hx;obtain⟨p1,p2,p3⟩:=Dx hR h3 (hev x hx.1).1;have:=p3 r hr;refine⟨_,_,this,?_⟩;have hm:=(p2 (X3 r).1 (X3 r).2).1 (k6.2 ⟨r,hr,rfl⟩);exact⟨hm.1,x.2.1,⟨x,hx.1,hx.2,rfl⟩,hm.2⟩;rintro⟨a,b,rfl,h1,t,⟨x,hx,hk,ht⟩,h2⟩;obtain⟨p1,p2,p3⟩:=Dx hR h3 (hev x hx).1;grind
def AS(g:Int)(T:Int->Prop)(l:U7):Prop:=(∀r∈l,∃a b,r= .A [.D a,.D b]/\Tb.isR g T a b)/\ ∀t,T t-> ∃r∈l,ci r 0<=t/\t+g<=ci r 1
def ON{l:U7}{i j:Nat}(r:Val): ∀n,r∈cw (tU l i j) n↔ ∃k,k<n/\k≠i/\k≠j/\r=fX (cg l k)
 |0=>⟨λh=>(by cases h),λ⟨k,h,_⟩=>absurd h (P8 _)⟩
 |n+1=>by show r∈cw (tU l i j) n++tU l i j n↔_;rw[t8,ON r n];unfold tU;grind
def ce9{g:Int}{T:Int->Prop}{l:U7}(h:AS g T l){i j:Nat}(hij:i<j)(hj:j<l.length)(hl:xX l i j=true):AS g T (nQ l i j):=by
 obtain⟨h1,h2⟩:=h;have hi:i<l.length:=by omega
 obtain⟨a,b,e1,r1⟩:=h1 _ (lZ hi);obtain⟨a',b',e2,r2⟩:=h1 _ (lZ hj);have hlap:Tb.lap a b a' b':=by unfold xX at hl;rw[e1,e2]at hl;obtain⟨q1,q2⟩:=W4 hl;exact⟨j7 q1,j7 q2⟩
 have hH:Hg l i j= .A [.D (min a a'),.D (max b b')]:=by unfold Hg;rw[e1,e2];rfl
 refine⟨λr hr=> ?_,λt ht=> ?_⟩
 rcases t8.1 hr with hr|hr
 rw[m9]at hr;exact⟨_,_,hr.trans hH,r1.join r2 hlap⟩;obtain⟨k,k1,_,_,k4⟩:=(ON r _).1 hr;obtain⟨x,y,e,hx⟩:=h1 _ (lZ k1);exact⟨x,y,by rw[k4,e];rfl,hx⟩;obtain⟨r,hr,c1,c2⟩:=h2 t ht;obtain⟨k,hk,rfl⟩:=B4 hr;rw[<-mb hk]at c1 c2;by_cases ki:k=i;subst ki;refine⟨Hg l k j,F6 _ (m9.2 rfl),?_⟩;rw[e1]at c1 c2;rw[hH];have c1:a<=t:=c1;have c2:t+g<=b:=c2;show min a a'<=t/\t+g<=max b b';omega;by_cases kj:k=j;subst kj;refine⟨Hg l i k,F6 _ (m9.2 rfl),?_⟩;rw[e2]at c1 c2;rw[hH];have c1:a'<=t:=c1;have c2:t+g<=b':=c2;show min a a'<=t/\t+g<=max b b';omega;refine⟨fX (cg l k),O4 _ ((ON _ _).2 ⟨k,hk,ki,kj,rfl⟩),?_⟩;exact⟨c1,c2⟩
def c48{g:Int}{T:Int->Prop}: ∀(f:Nat) (l:U7),l.length<=f->AS g T l->AS g T (uT f l)/\yW (uT f l)=none
 |0,l,hf,h=>by have:l=[]:=C9 (by omega);subst this;exact⟨h,rfl⟩
 |f+1,l,hf,h=>by
  unfold uT;cases hj:yW l with
  |none=>grind
  |some i=>
   obtain⟨j,h1,h2,h3,h4⟩:=d49 hj;have hl:(nQ l i j).length+1=l.length:=dw7 h2 h3;show AS g T (uT f (nQ l i ((sH l i).getD 0)))/\yW (uT f (nQ l i ((sH l i).getD 0)))=none;rw[h1];exact c48 f _ (by grind) (ce9 h h2 h3 h4)
variable{evs:List cU}
def cf0{g:Int}(g0:1<=g)(g1:g<=1048576)(hev:ga evs)(key:zR):AS g (Tb.tms evs key) (tD g (sj (evs.map cK) key))/\((List.range (sj (evs.map cK) key).length).find? (Nh (sj (evs.map cK) key)))=none:=by
 have hU:=cH0 evs key;generalize sj (evs.map cK) key=U at hU⊢;have hm: ∀r∈U,∃t,r=iV t/\Tb.tms evs key t/\ei t=true:=λr hr=>by rw[hU]at hr;obtain⟨x,hx,rfl⟩:=k6.1 hr;rw[l7,decide_eq_true_eq]at hx;exact⟨x.2.1,rfl,⟨x,hx.1,hx.2,rfl⟩,(hev x hx.1).1⟩
 have hs:tD g U=U.map λr=> .A [X1 r 0,.D (cq .add .i64 (ci r 0) g)]:=Bl (λr=> .A [X1 r 0,.D (cq .add .i64 (ci r 0) g)]) U
 have ht: ∀t,ei t=true->cq .add .i64 t g=t+g:=λt h=>by unfold ei at h;grind[ij]
 refine⟨⟨λr hr=> ?_,λt h=> ?_⟩,?_⟩;rw[hs]at hr;obtain⟨u,hu,rfl⟩:=k6.1 hr;obtain⟨t,rfl,h1,h2⟩:=hm u hu;refine⟨t,t+g,?_,Tb.isR.own t h1⟩;show Val.A [.D t,.D (cq .add .i64 t g)]=_;grind;obtain⟨x,hx,hk,rfl⟩:=h;refine⟨.A [.D x.2.1,.D (x.2.1+g)],?_,x8 _,x8 _⟩;rw[hs];refine k6.2 ⟨iV x.2.1,?_,?_⟩;grind;show Val.A [.D x.2.1,.D (cq .add .i64 x.2.1 g)]=_;rw[ht _ (hev x hx).1]
 refine A8.2 λi hi=> ?_
 obtain⟨t,e,h1,h2⟩:=hm _ (lZ (o7.1 hi));unfold Nh;rw[e];show¬(!ei t)=true;grind
theorem dx3{s w g:Int}(hR:X9 3 s w g=true)(hev:ga evs)(key:zR)(r:Val):
 r∈tr 3 s w g (evs.map cK) key↔ ∃a b,r= .A [.D a,.D b]/\Tb.Pan (dU 3 s w g) evs key a b:=by
 obtain⟨g0,g1⟩:=Cv hR rfl;obtain⟨hr,hl⟩:=cf0 g0 g1 hev key;unfold tr Ol;rw[i6 rfl];have hok:Bo g (sj (evs.map cK) key)=true:=by grind[Bo,decide_eq_true]
 rw[hok,cond_true];generalize sj (evs.map cK) key=U at hr hl hok⊢;obtain⟨h1,h2⟩:=c48 (tD g U).length (tD g U) (j6 _) hr;have hM:uT (tD g U).length (tD g U)=Ba (tD g U):=rfl;rw[hM]at h1 h2;unfold Me;generalize Ba (tD g U)=M at h1 h2⊢;have hsp: ∀r∈M,fX r=r:=λr hr=>by obtain⟨a,b,e,_⟩:=h1.1 r hr;rw[e];rfl
 have hmem: ∀r,r∈mK M M.length↔r∈M:=λr=>by simp_all[c43,j6,B1]
 have hS:cw (λi=>[fX (cg (mK M M.length) i)]) (mK M M.length).length=(mK M M.length).map fX:=Bl fX _;have hr2:r∈cw (λi=>[fX (cg (mK M M.length) i)]) (mK M M.length).length↔r∈M:=by grind
 rw[hr2];have hlapI: ∀i j,i<M.length->j<M.length->Tb.lap (ci (cg M i) 0) (ci (cg M i) 1) (ci (cg M j) 0) (ci (cg M j) 1)->i=j:=λi j hi hj hl=>by
  rcases G9 i j with c|c|c
  have:=c37 h2 c hj;unfold xX at this;rw[j0 hl.1,j0 hl.2]at this;cases this;exact c;have:=c37 h2 c hi;unfold xX at this;rw[j0 hl.1,j0 hl.2]at this;cases this
 have hses:Tb.Ses g (Tb.tms evs key) (M.map X3):=by refine Tb.ses_runs (by omega) (λp hp=> ?_) (λt ht=> ?_) (λp hp q hq hl=> ?_);obtain⟨r,hr,rfl⟩:=k6.1 hp;obtain⟨a,b,e,h⟩:=h1.1 r hr;rw[e];exact h;obtain⟨r,hr,c1,c2⟩:=h1.2 t ht;exact⟨X3 r,k6.2 ⟨r,hr,rfl⟩,c1,c2⟩;obtain⟨r,hr,rfl⟩:=k6.1 hp;obtain⟨r',hr',rfl⟩:=k6.1 hq;obtain⟨i,hi,rfl⟩:=B4 hr;obtain⟨j,hj,rfl⟩:=B4 hr';rw[<-mb hi,<-mb hj]at hl⊢;rw[hlapI i j hi hj hl]
 constructor;intro h;obtain⟨a,b,e,_⟩:=h1.1 r h;refine⟨a,b,e,?_⟩;exact(hses.1 a b).1 (k6.2 ⟨r,h,by rw[e];rfl⟩);rintro⟨a,b,rfl,h⟩;obtain⟨r,hr,hp⟩:=k6.1 ((hses.1 a b).2 h);obtain⟨a',b',e,_⟩:=h1.1 r hr;rw[e]at hp;have hp:(a',b')=(a,b):=hp;grind
theorem LK{k s w g:Int}(hR:X9 k s w g=true)(hev:ga evs)(key:zR)(r:Val):
 r∈tr k s w g (evs.map cK) key↔ ∃a b,r= .A [.D a,.D b]/\Tb.Pan (dU k s w g) evs key a b:=by
 grind[dx3,dx2]
variable{key:zR}
def kR(W:Tb.Wd)(evs:List cU):Prop:= ∀key a b,Tb.Pan W evs key a b->inI (Tb.sumI (Tb.vals evs key a b))
theorem vj{evs:List cU}{i:Nat}(h:i<evs.length):lR (evs.map cK) i= .vs evs[i].1:=by unfold lR;rw[mb (by grind),G8];rfl
def cH6{evs:List cU}(hev:ga evs)(key:zR)(a b:Int): ∀v∈Tb.vals evs key a b,inI v:=λv hv=>by obtain⟨x,hx,rfl⟩:=k6.1 hv;exact(hev x (l7.1 hx).1).2
theorem LL(evs:List cU)(key:zR)(a b:Int):(Tb.vals evs key a b).length<=evs.length:=by grind[Tb.vals,List.length_map,List.length_filter_le]
def TO{k s w g:Int}(hR:X9 k s w g=true): ∀g',dU k s w g= .ses g'->0<g':=λg' h=>by unfold dU at h;by_cases h3:k=3;rw[i6 h3,Tb.Wd.ses.injEq]at h;have:=(Cv hR h3).1;omega;grind
def cH8{W:Tb.Wd}{evs:List cU}{a b:Int}(h:Tb.Pan W evs key a b): ∃i,∃h:i<evs.length,evs[i].1=key:=by
 have: ∃t,Tb.tms evs key t:=by
  cases W with
  |ses g=>exact⟨a,h.1.1⟩
  |win P=>exact⟨_,h.2.choose_spec.1⟩
 obtain⟨t,x,hx,hk,_⟩:=this;grind[List.getElem_of_mem]
section
variable{k s w g:Int}(hR:X9 k s w g=true){evs:List cU}(hev:ga evs)(hn:evs.length<=24)
include hR hev hn
theorem QC{a b:Int}(hp:Tb.Pan (dU k s w g) evs key a b):(sE (uh (evs.map cK) (.vs key) (.A [.D a,.D b]))=0↔inI (Tb.sumI (Tb.vals evs key a b)))/\
 (sE (uh (evs.map cK) (.vs key) (.A [.D a,.D b]))=0->we (evs.map cK) (.vs key) (.A [.D a,.D b])=gq key a b (Tb.agOf (Tb.vals evs key a b))):=by
 have e:uh (evs.map cK) (.vs key) (.A [.D a,.D b])=(Tb.vals evs key a b).map iV:=dR5 evs key a b;have e2:sJ (evs.map cK) (Val.vs key).toS (ci (.A [.D a,.D b]) 0) (ci (.A [.D a,.D b]) 1)=(Tb.vals evs key a b).map iV:=e;obtain⟨h1,h2⟩:=e95 (Tb.Pan.ne (TO hR) hp) (cH6 hev key a b) (by grind[LL]);rw[e];refine⟨h1,λh=> ?_⟩;unfold we;rw[e2,h2 h];rfl
def Qe:lI k s w g (evs.map cK)=true↔kR (dU k s w g) evs:=by
 rw[WW];constructor
 intro h key a b hp;obtain⟨i,hi,hk⟩:=cH8 hp;have hm:Val.A [.D a,.D b]∈fF k s w g (evs.map cK) i:=by unfold fF;rw[vj hi,hk];exact(LK hR hev key _).2 ⟨a,b,rfl,hp⟩
 grind[List.getElem_of_mem,List.length_map,mb,vj,QC]
 intro h i q hi hq;rw[k7]at hi;have hm:=lZ hq;have hm2:cg (fF k s w g (evs.map cK) i) q∈tr k s w g (evs.map cK) evs[i].1:=by simp_all[fF,vj]
 obtain⟨a,b,e,hp⟩:=(LK hR hev _ _).1 hm2;rw[e,vj hi];exact(QC hR hev hn hp).1.2 (h _ a b hp)
def dx5(ho:lI k s w g (evs.map cK)=true){x:Val}(hx:x∈jW k s w g (evs.map cK) (evs.map cK).length): ∃key a b,Tb.Pan (dU k s w g) evs key a b/\x=gq key a b (Tb.agOf (Tb.vals evs key a b))/\ ∃y∈evs,y.1=key:=by
 obtain⟨i,q,hi,hq,e,hs⟩:=dR7 ho hx;rw[k7]at hi;have hm:=lZ hq;have hm2:cg (fF k s w g (evs.map cK) i) q∈tr k s w g (evs.map cK) evs[i].1:=by unfold fF at hm⊢;rw[vj hi]at hm⊢;exact hm
 grind[LK,vj,QC,List.getElem_mem]
omit hn in
def dx6{a b:Int}(hp:Tb.Pan (dU k s w g) evs key a b): ∃x∈jW k s w g (evs.map cK) (evs.map cK).length,W7 x=⟨key,a,b⟩:=by
 obtain⟨i,hi,hk⟩:=cH8 hp;have hm:Val.A [.D a,.D b]∈fF k s w g (evs.map cK) i:=by unfold fF;rw[vj hi,hk];exact(LK hR hev key _).2 ⟨a,b,rfl,hp⟩
 obtain⟨q,hq,he⟩:=B4 hm;obtain⟨x,h1,h2⟩:=Um (k:=k) (s:=s) (w:=w) (g:=g) (ev:=evs.map cK) (evs.map cK).length i q (by grind) hq;refine⟨x,h1,?_⟩;rw[h2,mb hq,he,vj hi,hk];rfl
def dx7(hva:BG evs)(ho:lI k s w g (evs.map cK)=true):TOK (dU k s w g) evs (jW k s w g (evs.map cK) (evs.map cK).length):=by
 have hrow:=λ{x:Val} (hx:x∈jW k s w g (evs.map cK) (evs.map cK).length)=>dx5 hR hev hn ho hx
 have hhas:=λ{key:zR} {a b:Int} (hp:Tb.Pan (dU k s w g) evs key a b)=>dx6 hR hev hp
 have hfit:=(Qe hR hev hn).1 ho;have hnd:=df5 (k:=k) (s:=s) (w:=w) (g:=g) (ev:=evs.map cK) (evs.map cK).length;refine⟨λkey a b A=> ?_,hnd,λr hr=> ?_,TO hR⟩;constructor;intro h;obtain⟨r,hr,hp,hA⟩:=wk h;obtain⟨key',a',b',h1,rfl,_⟩:=hrow hr;obtain⟨rfl,rfl,rfl⟩:=hp;exact⟨h1,hA.symm⟩;rintro⟨hp,rfl⟩;obtain⟨x,hx,hpx⟩:=hhas hp;obtain⟨key',a',b',h1,e,_⟩:=hrow hx;rw[e,KE,PaneM.mk.injEq]at hpx;obtain⟨rfl,rfl,rfl⟩:=hpx;have:=tP hnd hx;rw[e,KE,KK]at this;exact this;obtain⟨key,a,b,h1,rfl,y,hy,hk⟩:=hrow hr;refine⟨key,a,b,_,rfl,?_,?_⟩;have:=(wQ (hva y hy) rfl).1;grind;have hne:=Tb.Pan.ne (TO hR) h1;have hv:=cH6 hev key a b;have hl:=LL evs key a b;refine⟨?_,hfit key a b h1,hv _ (Tb.minI_spec hne).1,hv _ (Tb.maxI_spec hne).1⟩;show inI ((Tb.vals evs key a b).length:Int);grind[inI]
end
def Mu{L:U7}(hL: ∀r∈L,inI (ci r 0))(hn:L.length<=1000000)(h:inI (Tb.sumI (L.map λr=>ci r 0))):fQ L=0:=by
 have hg: ∀k,inI (ci (cg L k) 0):=λk=>by
  by_cases c:k<L.length;exact hL _ (lZ c)
  have e:cg L k= .A []:=by simp[cg,k5,v8 (E6.1 c)]
  rw[e];exact Oq
 simp_all[bA8,Wa,fQ,fI,i6]
def df6{gs:List Tb.Ag}(hc: ∀a∈gs,1<=a.1/\jJ a)(hn:gs.length<=1000000)(h0:inI (Tb.sumI (gs.map (·.1))))(h1:inI (Tb.sumI (gs.map (·.2.1)))):jE (gs.map cP)=0:=by
 have c0:jC (gs.map cP)=gs.map λa=> .A [X1 (cP a) 0]:=KU hc 0
 have c1:jT (gs.map cP)=gs.map λa=> .A [X1 (cP a) 1]:=KU hc 1
 have e0:fQ (jC (gs.map cP))=0:=by rw[c0];refine Mu (λr hr=> ?_) (by simpa using hn) ?_;obtain⟨a,ha,rfl⟩:=k6.1 hr;exact(hc a ha).2.1;rw[o9];exact h0
 have e1:fQ (jT (gs.map cP))=0:=by rw[c1];refine Mu (λr hr=> ?_) (by simpa using hn) ?_;obtain⟨a,ha,rfl⟩:=k6.1 hr;exact(hc a ha).2.2.1;rw[o9];exact h1
 simp_all[jE,b9]
def d53{W:Tb.Wd}{evs:List cU}{m:U7}(h:TOK W evs m){ks:zR}{a b v:Int}(hv:inI v)(hn:evs.length<=1000000)(hs:inI (Tb.sumI (Tb.vals evs ks a b)+v)):ky m (.vs ks) (.D v) (.A [.D a,.D b])=0:=by
 have hp:W7 (eV (.vs ks) (.A [.D a,.D b]))=⟨ks,a,b⟩:=rfl;unfold ky qv;cases hl:lk m ks a b with
 |none=>
  obtain⟨_,hc⟩:=Vm (m:=m) (p:=eV (.vs ks) (.A [.D a,.D b])) (by exact hl);have hC:jC (pR (.D 0) (.D 0) (.D 0) (.D 0) (.D v))=[.A [.D 1]]:=rfl;have hT:jT (pR (.D 0) (.D 0) (.D 0) (.D 0) (.D v))=[.A [.D v]]:=rfl;have e0:fQ [.A [.D 1]]=0:=Mu (λr hr=>by rw[m9.1 hr];exact AF) (by simp) AF;have e1:fQ [.A [.D v]]=0:=Mu (λr hr=>by rw[m9.1 hr];exact hv) (by simp) (by show inI (v+0);rw[N0];exact hv);simp_all[jE,b9]
 |some c=>
  obtain⟨q1,q2,q3,_⟩:=h.pos hl;obtain⟨r,hr,_,hA,_,hc⟩:=Fc (m:=m) (p:=eV (.vs ks) (.A [.D a,.D b])) (a:=c) (by exact hl);obtain⟨k',x,y,A,rfl,_,_⟩:=h.nrm r hr;have hA:A=c:=hA;subst hA;rw[hc,hc,hc,hc];have e:pR (X1 (gq k' x y A) 3) (X1 (gq k' x y A) 4) (X1 (gq k' x y A) 5) (X1 (gq k' x y A) 6) (.D v)=([A,Tb.agOf [v]]:List Tb.Ag).map cP:=by rw[m8,m8,I7,oX];rfl
  rw[e];have hcnt:A.1<=evs.length:=by rw[q3];show((Tb.vals evs ks a b).length:Int)<=_;grind[LL]
  refine df6 (λz hz=> ?_) (by simp) ?_ ?_
  rcases p7.1 hz with rfl|hz
  grind;rw[m9.1 hz,oX];exact⟨x8 _,AF,hv,hv,hv⟩;show inI (A.1+(1+0));grind[inI];rw[oX];show inI (A.2.1+(v+0));rw[N0,q3];exact hs
section
variable{k s l g:Int}{m:U7}{ek:Int}{ks:zR}{t v:Int}
theorem d54(h3:k≠3)(hR:X9 k s l g=true){evs:List cU}(hT:TOK (dU k s l g) evs m)(hn:evs.length<=24)(hv:inI v)(h0:X5 ek ks t v=0)(h1:ek=1)(hf:kR (dU k s l g) (evs++[(ks,t,v)])):
 dp (cE k s l g m ek ks t v)=0:=by
 have hw:dU k s l g= .win (ku (dY k s l) s):=b9 h3;have ht:=(wQ h0 h1).2;obtain⟨p1,p2,p3⟩:=Dx hR h3 ht;rw[tz,b9 (λc=>c h0),b9 (λc=>c h1),b9 h3];generalize dF k s l g (.D t)=S at p1 p2 p3⊢;have hz: ∀i,i<S.length->ky m (.vs ks) (.D v) (cg S i)=0:=λi hi=>by
  have hm:=lZ hi;have e:=p3 _ hm;have hp:=(p2 (X3 (cg S i)).1 (X3 (cg S i)).2).1 (k6.2 ⟨_,hm,rfl⟩);rw[e];generalize (X3 (cg S i)).1=a at hp⊢;generalize (X3 (cg S i)).2=b at hp⊢;refine d53 hT hv (by omega) ?_;have hpan:Tb.Pan (dU k s l g) (evs++[(ks,t,v)]) ks a b:=by rw[hw];exact⟨hp.1,t,(Tb.tms_app ..).2 (.inr ⟨rfl,rfl⟩),hp.2⟩
  have:=hf ks a b hpan;have hin:Tb.inP ks a b (ks,t,v)=true:=Tb.inP_iff.2 ⟨rfl,hp.2⟩;rw[Tb.vals_app,i6 hin,Tb.sumI_app]at this;have e2:Tb.sumI [((ks,t,v):cU).2.2]=v:=N0 v;rw[e2]at this;exact this
 simp_all[kM,b9,J4,i6]
end
variable{evs:List cU}
section
variable{k s l g:Int}{m:U7}{ek:Int}{ks:zR}{t v:Int}
def d55(hg1:1<=g)(hg2:g<=1048576)(hT:TOK (.ses g) evs m)(hev:ga evs)(hv:inI v)(ht:ei t=true):
 kF m (iS (.D g) m (.vs ks) (.D t)) (.D v)=(Tb.agOf [v]::(Tb.joinedOf g t ((cQ m (.vs ks)).map X3)).map λp=>(lk m ks p.1 p.2).getD (0,0,0,0)).map cP/\
 ∀a∈(Tb.agOf [v]::(Tb.joinedOf g t ((cQ m (.vs ks)).map X3)).map λp=>(lk m ks p.1 p.2).getD (0,0,0,0)),1<=a.1/\jJ a:=by
 have hio:=WH hT hev ht hg1 hg2 ks;obtain⟨s1,s2,s3⟩:=Js hT ks;have hown:=de6 ht hg1 hg2;have hjn:kC (.D g) m (.vs ks) (.D t)=(Tb.joinedOf g t ((cQ m (.vs ks)).map X3)).map λp=>Val.A [.D p.1,.D p.2]:=by
  unfold kC;rw[Y1,Y1,hio,cond_true];unfold qj;rw[Y1,Y1,hown,Y1,<-Xe,TG,o9,o9];refine A1 λr hr=> ?_
  have e:=s3 r (l7.1 hr).1;have e2:(X1 r 0)= .D (X3 r).1:=by rw[e];rfl
  have e3:(X1 r 1)= .D (X3 r).2:=by rw[e];rfl
  show Val.A [X1 r 0,X1 r 1]=Val.A [.D (X3 r).1,.D (X3 r).2];grind
 have hpn:iS (.D g) m (.vs ks) (.D t)=(Tb.joinedOf g t ((cQ m (.vs ks)).map X3)).map (pr ks):=by unfold iS;rw[hjn,o9];rfl
 have hjm: ∀p∈Tb.joinedOf g t ((cQ m (.vs ks)).map X3),∃c,lk m ks p.1 p.2=some c:=λp hp=>by
  have h1:=(l7.1 hp).1;cases hl:lk m ks p.1 p.2 with
  |some c=>grind
  |none=>grind
 refine⟨?_,λa ha=> ?_⟩;rw[hpn];unfold kF;rw[m8,o9,o9,oX];refine congrArg (List.cons _) (A1 λp hp=> ?_);obtain⟨c,hc⟩:=hjm p hp;show kG m (pr ks p)=cP ((lk m ks p.1 p.2).getD (0,0,0,0));rw[hc];obtain⟨r,hr,_,hA,_,hcol⟩:=Fc (m:=m) (p:=eR (pr ks p)) (a:=c) hc;obtain⟨k',x,y,A,rfl,_,_⟩:=hT.nrm r hr;subst hA;unfold kG KJ;rw[hcol,hcol,hcol,hcol];rfl
 rcases p7.1 ha with rfl|ha
 rw[oX];exact⟨x8 _,AF,hv,hv,hv⟩;obtain⟨p,hp,rfl⟩:=k6.1 ha;obtain⟨c,hc⟩:=hjm p hp;simp_all;exact⟨(hT.pos hc).1,(hT.pos hc).2.1⟩
open Classical in
theorem d56(h3:k=3)(hR:X9 k s l g=true)(hT:TOK (dU k s l g) evs m)(hm:m.length<=400)(hev:ga evs)(hn:evs.length<=24)(hv:inI v)(h0:X5 ek ks t v=0)(h1:ek=1)(hf:kR (dU k s l g) (evs++[(ks,t,v)])):
 dp (cE k s l g m ek ks t v)=0:=by
 have hw:dU k s l g= .ses g:=i6 h3;rw[hw]at hT hf;have ht:=(wQ h0 h1).2;obtain⟨hg1,hg2⟩:=Cv hR h3;obtain⟨hb,hc⟩:=d55 (ks:=ks) hg1 hg2 hT hev hv ht;obtain⟨s1,s2,s3⟩:=Js hT ks;have hJl:(Tb.joinedOf g t ((cQ m (.vs ks)).map X3)).length<=400:=by have h1:=J1 (λp:Int×Int=>Tb.lapB p.1 p.2 t (t+g)) ((cQ m (.vs ks)).map X3);rw[k7,(NY m ks).length_eq]at h1;exact p9 h1 (p9 (DT m ks) hm)
 rw[tz,b9 (λc=>c h0),b9 (λc=>c h1),i6 h3];unfold sr;rw[hb];obtain⟨M',hM'⟩: ∃M':zR->Int->Int->Option Tb.Ag,M'=λk' a b=>if k'=ks/\(a,b)=Tb.nowOf t (t+g) (Tb.joinedOf g t ((cQ m (.vs ks)).map X3))then some (Tb.agAll (Tb.agOf [v]::(Tb.joinedOf g t ((cQ m (.vs ks)).map X3)).map λp=>(lk m ks p.1 p.2).getD (0,0,0,0)))
  else if k'=ks/\(a,b)∈Tb.joinedOf g t ((cQ m (.vs ks)).map X3)then none else lk m k' a b:=⟨_,rfl⟩
 have htab:=Tb.tab_ses (g:=g) (by omega) (M':=M') ((ks,t,v):cU) hT.tab s2 s1 (λa b h=>by
  grind) (λa b hne hin=>by
  grind) (λk' a b h=>by
  grind)
 have hN:=(htab ks (Tb.nowOf t (t+g) (Tb.joinedOf g t ((cQ m (.vs ks)).map X3))).1 (Tb.nowOf t (t+g) (Tb.joinedOf g t ((cQ m (.vs ks)).map X3))).2 _).1 (by rw[hM'];exact i6 ⟨rfl,rfl⟩);generalize Tb.nowOf t (t+g) (Tb.joinedOf g t ((cQ m (.vs ks)).map X3))=N at hN;generalize hgs:(Tb.agOf [v]::(Tb.joinedOf g t ((cQ m (.vs ks)).map X3)).map λp=>(lk m ks p.1 p.2).getD (0,0,0,0))=gs at hc hN⊢;obtain⟨hpan,hag⟩:=hN;have hfit:=hf ks N.1 N.2 hpan;obtain⟨q1,q2⟩:=SO (gs:=gs);have hl:=LL (evs++[(ks,t,v)]) ks N.1 N.2;refine df6 hc (by grind) ?_ ?_;rw[<-q1,hag];show inI ((Tb.vals (evs++[(ks,t,v)]) ks N.1 N.2).length:Int);grind[inI];rw[<-q2,hag];exact hfit
def d57{X:Nat->U7->Val}(hX:XOk X)(hR:X9 k s l g=true)(hT:TOK (dU k s l g) evs m)(hev:ga evs)(hn:evs.length<=24)(hv:inI v)(h0:X5 ek ks t v=0)(h1:ek=1):
 dp (cE k s l g m ek ks t v)=0↔kR (dU k s l g) (evs++[(ks,t,v)]):=by
 have hm:=(GD hR hT hev hn).2.2.1;constructor;intro h;obtain⟨R,m',a1,a2,a3,a4,a5,a6,a7⟩:=MD hX hR hT hm hev hv h;intro key a b hp;have:=(a5.tab key a b _).2 ⟨hp,rfl⟩;exact(a5.pos this).2.1.2.1;grind[d56,d54]
end
def d58(L:U7)(mark:Int)(hL: ∀r∈L,X8 r=r):Ht L mark=L.filter (fy mark):=by have h:=Cz (λr=>bif fy mark r then [X8 r]else []) L;unfold Ht;rw[show Xr L mark=λi=>(λr=>bif fy mark r then [X8 r]else []) (cg L i)from rfl,h,NU (fy mark) X8 L];exact(A1 (g:=id) λr hr=>hL r (l7.1 hr).1).trans (G6 _)
def d59{k s w g:Int}{evs:List cU}{m:U7}(hT:TOK (dU k s w g) evs m):kR (dU k s w g) evs:=λkey a b hp=>(hT.pos ((hT.tab key a b _).2 ⟨hp,rfl⟩)).2.1.2.1
section
variable{X:Nat->U7->Val}{k s w g:Int}{l:U7}(hX:XOk X)(hR:X9 k s w g=true)(hn:l.length<=24)(ho: ∀r∈l,nB r=true)
include hX hR hn ho
end
def Vy:Val->Bool
 | .A [.D e,.vs k,.D t,.D v]=>decide (e=1)&&(decide (X5 1 k t v=0)&&(decide (-9223372036854775808<=v)&&decide (v<9223372036854775808)))
 |_=>false
def eo0(a:U7):Val:= .B (X9 (ce a 0).I (ce a 1).I (ce a 2).I (ce a 3).I&&(decide ((ce a 4).L.length<=24)&&(ce a 4).L.all Vy))
def FE(X:Nat->U7->Val):Nat->U7->Val:=λi a=>match i with
 |726=>dy X a
 |763=>ef7 a
 |764=>Yg a
 |810=>ek4 a
 |811=>ek5 a
 |812=>ek6 a
 |813=>ek7 a
 |820=>Ww a
 |824=>em1 a
 |825=>em2 a
 |826=>ef2 a
 |827=>ef5 a
 |828=>kU X a
 |829=>UK a
 |830=>uY a
 |831=>sM a
 |832=>qD a
 |833=>en4 X a
 |834=>en3 a
 |835=>en5 a
 |836=>wv X a
 |837=>yS X a
 |838=>en6 a
 |839=>en7 a
 |840=>eo0 a
 |842=> .D (sR (ce a 0).L)
 |843=> .D (sE (ce a 0).L)
 |850=>ek8 a
 |851=>ek9 a
 |852=>BE gH (ce a 4).L (ce a 7).L
 |853=>el0 a
 |854=>el8 a
 |855=>em0 a
 |856=>el9 a
 |857=>el7 a
 |858=>el5 a
 |859=>el3 a
 |860=>el2 a
 |861=>em3 a
 |862=>em4 a
 |863=>em5 a
 |864=>ek3 a
 |865=>em8 a
 |866=>Xv a
 |867=>ef3 a
 |868=>ek0 a
 |869=>en2 a
 |870=>ej9 a
 |871=>ek2 a
 |872=>HY X a
 |873=>ek1 a
 |874=>pA (cw (λi=>[X8 (cg (ce a 5).L i)]) (ce a 5).L.length) (ce a 5).L.length
 |875=>en9 a
 |_=>X i a
section
variable{X Y:Nat->U7->Val}(h: ∀a,X 490 a=Y 490 a)
include h
theorem dR8(w:U7):eo X w=eo Y w:=by grind[eo]
def df7(w:U7):dR X w=dR Y w:=by grind[dR,dR8]
theorem Im(a b c d:Val)(l:U7): ∀i,eY X a b c d l i=eY Y a b c d l i
 |0=>rfl
 |i+1=>by unfold eY;rw[Im a b c d l i,df7 h]
theorem Ta(a b c d:Val)(l:U7)(i:Nat):gc X a b c d l i=gc Y a b c d l i:=by grind[gc,Im]
theorem Rm(a b c d:Val)(l:U7):pb X a b c d l=pb Y a b c d l:=by unfold pb;rw[show(λi=>decide (gc X a b c d l i≠0))=λi=>decide (gc Y a b c d l i≠0)from funext λi=>by rw[Ta h]]
def dR9(a:U7):HY X a=HY Y a:=by unfold HY BJ;rw[Rm h];grind[pb,ce,cx,eY,Im,gc,Ta]
theorem XK(a:U7):dy X a=dy Y a:=by grind[dy]
def dS0(a:U7):yS X a=yS Y a:=by unfold yS DX;grind[Rm,Ta]
def dS1(a:U7):wv X a=wv Y a:=by unfold wv EQ;grind[Rm,Im,XK]
