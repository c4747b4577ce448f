import Derived.Test.YtpmabjilbokleaaGreatEP11
set_option linter.unusedSimpArgs false
set_option linter.unusedVariables false
namespace Go.Ev.S9
open Go Go.Ev
noncomputable def dM(X:Nat->List Val->Val)(a b c d:Val)(l:List Val):Nat->Val
 |0=> .vl []
 |i+1=>if ci (aO l i) 0=2 then dM X a b c d l i else eY X (oI a b c d (dM X a b c d l i) (aO l i))
noncomputable def dY(X:Nat->List Val->Val)(a b c d:Val)(l:List Val)(i:Nat):Int:=if ed l i≠0 then ed l i else if ci (aO l i) 0=2 then 0 else bY (oI a b c d (dM X a b c d l i) (aO l i))
noncomputable def jZ(X:Nat->List Val->Val)(a b c d:Val)(l:List Val):Option Nat:=(List.range l.length).find? λi=>decide (dY X a b c d l i≠0)
noncomputable def yM(X:Nat->List Val->Val)(a b c d:Val)(l:List Val):Nat×List Val:=match jZ X a b c d l with
 |some i=>(1,[.vi (dY X a b c d l i),cR l i,.vi i,dM X a b c d l i])
 |none=>(0,[.vi 0,cR l l.length,.vi l.length,dM X a b c d l l.length])
noncomputable def CQ(X:Nat->List Val->Val)(a:List Val):Val:=V0 (yM X (aN a 4) (aN a 5) (aN a 6) (aN a 7) (aN a 11).toL)
noncomputable def Bm(X:Nat->List Val->Val)(a b c d:Val)(l:List Val):Int:=if R9 a.toI b.toI c.toI d.toI=true then(match jZ X a b c d l with|some i=>dY X a b c d l i|none=>0)else 2
noncomputable def mz(X:Nat->List Val->Val)(a b c d:Val)(l:List Val):Val:=if R9 a.toI b.toI c.toI d.toI=true then(match jZ X a b c d l with|some _=> .vl []|none=>pW X [dM X a b c d l l.length,cR l l.length])else .vl []
noncomputable def sG(X:Nat->List Val->Val)(a:List Val):Val:= .vi (Bm X (aN a 0) (aN a 1) (aN a 2) (aN a 3) (aN a 4).toL)
noncomputable def uc(X:Nat->List Val->Val)(a:List Val):Val:=mz X (aN a 0) (aN a 1) (aN a 2) (aN a 3) (aN a 4).toL
def BK(X:Nat->List Val->Val)(k s w g:Int)(l:List Val)(i:Nat):Prop:= ∃m evs,dM X (.vi k) (.vi s) (.vi w) (.vi g) l i= .vl m/\dC l i=evs.map bm/\TOK (bP k s w g) evs m/\fF evs/\MT evs/\evs.length<=i
theorem Hf{l:List Val}{i:Nat}(h:i<l.length):dC l (i+1)=dC l i++lO l i:=by
 have hg: ∀(n:Nat),n<=l.length->cU (l.take n)=U4 (lO l) n:=λn hn=>by
  unfold cU;rw[k7,A0 hn];refine Lv n λj hj=> ?_
  have:aO (l.take n) j=aO l j:=by rw[kV (by rw[k7];omega),kV (by omega),List.getElem_take]
  unfold lO;rw[this]
 unfold dC;rw[hg _ (by omega),hg _ (by omega)];rfl
section
variable{X:Nat->List Val->Val}{k s w g:Int}{l:List Val}
theorem dQ6(hR:R9 k s w g=true):BK X k s w g l 0:=⟨[],[],rfl,rfl,d98 hR,λ_ h=>(by cases h),λ_ h=>(by cases h),i6 _⟩
theorem EG{i:Nat}{ek:Int}{ks:List UInt8}{t v:Int}(hr:aO l i= .vl [.vi ek,.vs ks,.vi t,.vi v]):ed l i=S8 ek ks t v:=by unfold ed;rw[hr];rfl
theorem RR{ek:Int}{ks:List UInt8}{t v:Int}(h:S8 ek ks t v=0):ek=1\/ek=2:=by
 unfold S8 at h;omega
theorem cL3(hX:XOk X)(hR:R9 k s w g=true){i:Nat}(hi:i<l.length)(hn:l.length<=24)(ho:opOk (aO l i)=true)(h:BK X k s w g l i)(he:dY X (.vi k) (.vi s) (.vi w) (.vi g) l i=0):BK X k s w g l (i+1):=by
 obtain⟨m,evs,h1,h2,h3,h4,h5,h6⟩:=h;obtain⟨ek,ks,t,v,hr,hv⟩:=zS ho;have hrv:ed l i=0:=by
  unfold dY at he;omega
 have hrv':=hrv;rw[EG hr]at hrv';have hk:ci (aO l i) 0=ek:=by rw[hr];rfl
 rcases RR hrv' with rfl|rfl
 .have hne: ¬ci (aO l i) 0=2:=by omega
  have hw:=Nb (k:=k) (s:=s) (l:=w) (g:=g) h1 hr;unfold dY at he;rw[b9 (λh=>h hrv),b9 hne,hw]at he;obtain⟨R,m',a1,a2,a3,a4,a5,a6,a7⟩:=Yp hX hR h3 (wz hR h3 h4 (by omega)).2.2.1 h4 hv he;have ht:=qQ hrv' rfl;refine⟨m',evs++[(ks,t,v)],?_,?_,a5,?_,?_,?_⟩
  .show(if ci (aO l i) 0=2 then _ else eY X (oI (.vi k) (.vi s) (.vi w) (.vi g) (dM X (.vi k) (.vi s) (.vi w) (.vi g) l i) (aO l i)))=_;rw[b9 hne,hw];exact a2
  .rw[Hf hi,h2,u4];unfold lO;rw[hk,e9 rfl,cond_true,hr];rfl
  .intro x hx;rcases t7.1 hx with hx|hx
   .exact h4 x hx
   .rw[m9.1 hx];exact⟨ht.2,hv⟩
  .intro x hx;rcases t7.1 hx with hx|hx
   .exact h5 x hx
   .rw[m9.1 hx];exact hrv'
  grind
 .refine⟨m,evs,?_,?_,h3,h4,h5,by omega⟩
  .show(if ci (aO l i) 0=2 then dM X (.vi k) (.vi s) (.vi w) (.vi g) l i else _)=_;rw[e8 hk];exact h1
  grind[Hf,lO]
theorem AT(hX:XOk X)(hR:R9 k s w g=true)(hn:l.length<=24)(ho: ∀r∈l,opOk r=true): ∀i,i<=l.length->(∀j,j<i->dY X (.vi k) (.vi s) (.vi w) (.vi g) l j=0)->BK X k s w g l i
 |0,_,_=>dQ6 hR
 |i+1,hi,he=>cL3 hX hR (by omega) hn (ho _ (gp (by omega))) (AT hX hR hn ho i (by omega) λj hj=>he j (by omega)) (he i (by omega))
variable{I:Opq}(hf: ∀i a,I.f i a=FT X i a)
include hf
theorem dy0(hX:XOk X)(hR:R9 k s w g=true)(h0:I.w 0= .vi k)(h1:I.w 1= .vi s)(h2:I.w 2= .vi w)(h3:I.w 3= .vi g)(h4:I.w 4= .vl l)(hn:l.length<=24)(ho: ∀r∈l,opOk r=true)(i:Nat)(hi:i<l.length)(hg:BK X k s w g l i):
 R0 OE (I.upd 2000 [.vi 0,cR l i,.vi i,dM X (.vi k) (.vi s) (.vi w) (.vi g) l i])=if dY X (.vi k) (.vi s) (.vi w) (.vi g) l i≠0 then some (2,[.vi (dY X (.vi k) (.vi s) (.vi w) (.vi g) l i),cR l i,.vi i,dM X (.vi k) (.vi s) (.vi w) (.vi g) l i])
  else some (0,[.vi 0,cR l (i+1),.vi (i+1:Nat),dM X (.vi k) (.vi s) (.vi w) (.vi g) l (i+1)]):=by
 obtain⟨m,evs,g1,g2,g3,g4,g5,g6⟩:=hg;have xR:=wz hR g3 g4 (by omega);obtain⟨ek,ks,t,v,hr,hv⟩:=zS (ho _ (gp hi));have hM1:dM X (.vi k) (.vi s) (.vi w) (.vi g) l (i+1)=if ci (aO l i) 0=2 then dM X (.vi k) (.vi s) (.vi w) (.vi g) l i else eY X (oI (.vi k) (.vi s) (.vi w) (.vi g) (dM X (.vi k) (.vi s) (.vi w) (.vi g) l i) (aO l i)):=rfl
 have hK1:cR l (i+1)=if ci (aO l i) 0=2 then S1 (aO l i) 2 else cR l i:=rfl
 rw[hM1,hK1];unfold dY;rw[Nb (k:=k) (s:=s) (l:=w) (g:=g) g1 hr,g1];generalize cR l i=mk;have v0:(I.upd 2000 [.vi 0,mk,.vi i,.vl m]).w 2000= .vi 0:=by rfl
 have v1:(I.upd 2000 [.vi 0,mk,.vi i,.vl m]).w 2001=mk:=by rfl
 have v2:(I.upd 2000 [.vi 0,mk,.vi i,.vl m]).w 2002= .vi i:=by rfl
 have v3:(I.upd 2000 [.vi 0,mk,.vi i,.vl m]).w 2003= .vl m:=by rfl
 have w0:(I.upd 2000 [.vi 0,mk,.vi i,.vl m]).w 0= .vi k:=by grind[bc]
 have w1:(I.upd 2000 [.vi 0,mk,.vi i,.vl m]).w 1= .vi s:=by grind[bc]
 have w2:(I.upd 2000 [.vi 0,mk,.vi i,.vl m]).w 2= .vi w:=by grind[bc]
 have w3:(I.upd 2000 [.vi 0,mk,.vi i,.vl m]).w 3= .vi g:=by grind[bc]
 have w4:(I.upd 2000 [.vi 0,mk,.vi i,.vl m]).w 4= .vl l:=by grind[bc]
 have hf': ∀j a,(I.upd 2000 [.vi 0,mk,.vi i,.vl m]).f j a=FT X j a:=λj a=>by grind[cp]
 generalize I.upd 2000 [.vi 0,mk,.vi i,.vl m]=aa at*
 have gx: ∀c:Nat,aM aa (.op .lget [.va 4,.va 2002,.ci c])=S1 (.vl [.vi ek,.vs ks,.vi t,.vi v]) c:=λc=>by
  show S0 (aa.w 4).toL (aa.w 2002).toI (c:Int)=_;rw[w4,v2,<-hr];rfl
 have c0:aM aa (zg 4 2002 0)= .vi ek:=gx 0;have c1:aM aa (zg 4 2002 1)= .vs ks:=gx 1;have c2:aM aa (zg 4 2002 2)= .vi t:=gx 2;have c3:aM aa (zg 4 2002 3)= .vi v:=gx 3;have d29:aM aa Jv= .vi (ed l i):=by
  show aa.f 701 [aM aa (zg 4 2002 0),aM aa (zg 4 2002 1),aM aa (zg 4 2002 2),aM aa (zg 4 2002 3)]=_;rw[hf',c0,c1,c2,c3,EG hr];rfl
 have d30:aM aa GS= .vi (bY (bA k s w g m ek ks t v)):=by
  show aa.f 732 [aa.w 0,aa.w 1,aa.w 2,aa.w 3,aa.w 2003,aM aa (zg 4 2002 0),aM aa (zg 4 2002 1),aM aa (zg 4 2002 2),aM aa (zg 4 2002 3)]=_;rw[hf',c0,c1,c2,c3,w0,w1,w2,w3,v3];rfl
 have d31:aM aa Dr=eY X (bA k s w g m ek ks t v):=by
  show aa.f 733 [aa.w 0,aa.w 1,aa.w 2,aa.w 3,aa.w 2003,aM aa (zg 4 2002 0),aM aa (zg 4 2002 1),aM aa (zg 4 2002 2),aM aa (zg 4 2002 3)]=_;rw[hf',c0,c1,c2,c3,w0,w1,w2,w3,v3];rfl
 have i1:aM aa (zi (.va 2002))= .vi (i+1:Nat):=by
  show Val.vi (aS .add .i64 (aa.w 2002).toI 1)=_;grind[S6,V8]
 have hk:ci (aO l i) 0=ek:=by rw[hr];rfl
 have hk2:S1 (aO l i) 2= .vi t:=by grind
 rw[hk,hk2];refine S3 (by show dB aa (zs (.va 2002) (zl 4))=true;simp_all[W5,V6,S2,bx,e9]) (R3 (by simp_all[T5,W4,V6,e9]) ?_);by_cases c:ed l i=0
 .refine S4 (by rw[gH,d29,W4];simp_all) ?_;rw[b9 (show¬ed l i≠0 fromλh=>h c)];by_cases e2:ek=2
  .refine S3 (by rw[bK,c0,W4];exact e9 e2) ?_;show some (0,[aa.w 2000,aM aa (zg 4 2002 2),aM aa (zi (.va 2002)),aa.w 2003])=_;grind
  .rw[b9 e2,b9 e2,b9 e2];refine S4 (by simp_all[bK,W4,j5]) (R3 ?_ ?_)
   .exact and2 (XK hf' hX (x:= .va 2003) v3 xR) (dv0 hf' (e0:= .va 0) (e1:= .va 2003) w0 v3 c1 xR)
   by_cases ct:bY (bA k s w g m ek ks t v)=0
   .refine S4 (by rw[gH,d30,W4];show(!decide (bY (bA k s w g m ek ks t v)=0))=false;rw[e9 ct];rfl) ?_;show some (0,[aa.w 2000,aa.w 2001,aM aa (zi (.va 2002)),aM aa Dr])=_;grind
   .refine S3 (by rw[gH,d30,W4];show(!decide (bY (bA k s w g m ek ks t v)=0))=true;rw[j5 ct];rfl) ?_;show some (2,[aM aa GS,aa.w 2001,aa.w 2002,aM aa Dr])=_;simp_all[du3]
 .refine S3 (by rw[gH,d29,W4];show(!decide (ed l i=0))=true;rw[j5 c];rfl) ?_;show some (2,[aM aa Jv,aa.w 2001,aa.w 2002,aa.w 2003])=_;grind
end
end Go.Ev.S9
namespace Go.Ev.S9
open Go Go.Ev
section
variable{X:Nat->List Val->Val}{k s w g:Int}{l:List Val}{I:Opq}(hf: ∀i a,I.f i a=FT X i a)
include hf
theorem dQ7(hX:XOk X)(hR:R9 k s w g=true)(h0:I.w 0= .vi k)(h1:I.w 1= .vi s)(h2:I.w 2= .vi w)(h3:I.w 3= .vi g)(h4:I.w 4= .vl l)(hn:l.length<=24)(ho: ∀r∈l,opOk r=true):
 S5 (λvs=>R0 OE (I.upd 2000 vs)) [.vi 0,.vi (-2199023255552),.vi 0,.vl []]=some (yM X (.vi k) (.vi s) (.vi w) (.vi g) l):=by
 have run:=λi hi hg=>dy0 hf hX hR h0 h1 h2 h3 h4 hn ho i hi hg
 have all:=λi hi he=>AT (X:=X) hX hR hn ho i hi he
 cases hc:jZ X (.vi k) (.vi s) (.vi w) (.vi g) l with
 |none=>
  have hz: ∀j,j<l.length->dY X (.vi k) (.vi s) (.vi w) (.vi g) l j=0:=λj hj=>by
   have:=s9.1 hc j (m8.2 hj);grind
  refine V9 (st:=λi=>[.vi 0,cR l i,.vi i,dM X (.vi k) (.vi s) (.vi w) (.vi g) l i]) (n:=l.length) (λi hi=> ?_) ?_
  .grind
  .generalize cR l l.length=mk;generalize dM X (.vi k) (.vi s) (.vi w) (.vi g) l l.length=M;have v0:(I.upd 2000 [.vi 0,mk,.vi l.length,M]).w 2000= .vi 0:=by rw[T1];simp
   have v1:(I.upd 2000 [.vi 0,mk,.vi l.length,M]).w 2001=mk:=by rw[T1];simp
   have v2:(I.upd 2000 [.vi 0,mk,.vi l.length,M]).w 2002= .vi l.length:=by rw[T1];simp
   have v3:(I.upd 2000 [.vi 0,mk,.vi l.length,M]).w 2003=M:=by rw[T1];simp
   have w4:(I.upd 2000 [.vi 0,mk,.vi l.length,M]).w 4= .vl l:=by rw[bc _ _ _ (by omega),h4]
   generalize I.upd 2000 [.vi 0,mk,.vi l.length,M]=aa at*
   refine S4 (by show dB aa (zs (.va 2002) (zl 4))=false;rw[W5,V6,v2,S2,bx,w4];exact j5 (by show¬(l.length:Int)<(l.length:Int);omega)) ?_;show some (1,[aa.w 2000,aa.w 2001,aa.w 2002,aa.w 2003])=_;grind
 |some i=>
  obtain⟨a,b,c⟩:=W6 hc;have hz: ∀j,j<i->dY X (.vi k) (.vi s) (.vi w) (.vi g) l j=0:=λj hj=>by
   have:=c j hj;simpa using this
  refine V9 (st:=λi=>[.vi 0,cR l i,.vi i,dM X (.vi k) (.vi s) (.vi w) (.vi g) l i]) (n:=i) (λm hm=> ?_) ?_
  .rw[run m (by omega) (all m (by omega) λj hj=>hz j (by omega)),b9 (λh=>h (hz m hm))]
  grind
theorem dy1(hX:XOk X)(f726: ∀a,X 726 a=pW X a)(f872: ∀a,X 872 a=CQ X a)(h0:I.w 0= .vi k)(h1:I.w 1= .vi s)(h2:I.w 2= .vi w)(h3:I.w 3= .vi g)(h4:I.w 4= .vl l)(hn:l.length<=24)(ho: ∀r∈l,opOk r=true):
 R0 T_engT I=some (0,[sG X [I.w 0,I.w 1,I.w 2,I.w 3,I.w 4],uc X [I.w 0,I.w 1,I.w 2,I.w 3,I.w 4]]):=by
 have hv:([sG X [I.w 0,I.w 1,I.w 2,I.w 3,I.w 4],uc X [I.w 0,I.w 1,I.w 2,I.w 3,I.w 4]]:List Val)=[.vi (Bm X (.vi k) (.vi s) (.vi w) (.vi g) l),mz X (.vi k) (.vi s) (.vi w) (.vi g) l]:=by
  rw[h0,h1,h2,h3,h4];rfl
 rw[hv];have d28:dB I Gs= !R9 k s w g:=by
  show(!(I.f 700 [I.w 0,I.w 1,I.w 2,I.w 3]).toB)=_;rw[hf,h0,h1,h2,h3];rfl
 show _=some (0,[Val.vi (if R9 k s w g=true then _ else 2),if R9 k s w g=true then _ else Val.vl []]);cases hR:R9 k s w g with
 |false=>exact S3 (by grind) rfl
 |true=>
 have e0:aM I oY=V0 (yM X (.vi k) (.vi s) (.vi w) (.vi g) l):=by
  show I.f 872 [.vi 0,.vi (-2199023255552),.vi 0,.vl [],I.w 0,I.w 1,I.w 2,I.w 3,.vl [],.vi 0,.vi (I.w 4).toL.length,I.w 4,.vi (I.w 4).toL.length]=_;rw[hf,h0,h1,h2,h3,h4];exact f872 _
 refine S4 (by grind) (R4 (r:=yM X (.vi k) (.vi s) (.vi w) (.vi g) l) (dQ7 hf hX hR h0 h1 h2 h3 h4 hn ho) e0 ?_);unfold yM at*
 rw[e8 rfl,e8 rfl];cases hc:jZ X (.vi k) (.vi s) (.vi w) (.vi g) l with
 |some i=>
  rw[hc]at e0;show some (0,[S0 (aM I oY).toL 1 0,Val.vl []])=_;rw[e0];rfl
 |none=>
  rw[hc]at e0;have hz: ∀j,j<l.length->dY X (.vi k) (.vi s) (.vi w) (.vi g) l j=0:=λj hj=>by
   have:=s9.1 hc j (m8.2 hj);grind
  obtain⟨m,evs,g1,g2,g3,g4,g5,g6⟩:=AT (X:=X) hX hR hn ho l.length (i6 _) hz;have q1:aM I uk= .vl m:=by show S0 (aM I oY).toL 1 3=_;rw[e0,<-g1];rfl
  have q2:aM I (zo oY 1)=cR l l.length:=by show S0 (aM I oY).toL 1 1=_;rw[e0];rfl
  refine R3 (XK hf hX (x:=uk) q1 (wz hR g3 g4 (by omega))) ?_;show some (0,[Val.vi 0,I.f 726 [aM I uk,aM I (zo oY 1)]])=_;rw[q1,q2,hf,g1];show some (0,[Val.vi 0,X 726 [.vl m,cR l l.length]])=_;rw[f726]
end
end Go.Ev.S9
namespace Go.Ev.S9
open Go Go.Ev
def VG(a:List Val):Val:= .vl (mu (aN a 0).toL)
def dX8(a:List Val):Val:= .vb (isVi (aN a 0)&&(isVi (aN a 1)&&(isVi (aN a 2)&&(isVi (aN a 3)&&(opsOk (aN a 4)&&decide ((aN a 4).toL.length<=24))))))
def e14(a:List Val):Val:= .vb (isVi (aN a 0)&&(isVi (aN a 1)&&(isVi (aN a 2)&&(isVi (aN a 3)&&opsOk (aN a 4)))))
def yS(l:List Val)(i:Nat):Bool:=decide (50<(S1 (aO l i) 1).toS.length)
def CD(l:List Val):Nat×List Val:=fA (.vb false) (λk=>[.vb true,.vi k]) (yS l) l.length
def SZ(a:List Val):Val:=V0 (CD (aN a 4).toL)
theorem db9{l:List Val}(ho: ∀r∈l,opOk r=true):mu l=l:=by
 unfold mu;rw[rT (λr=>qB r) l];have: ∀r∈l,qB r=id r:=λr hr=>by
  obtain⟨ek,ks,t,v,e,_⟩:=zS (ho r hr);rw[e];rfl
 rw[x6 this,E9]
section
variable{I:Opq}
theorem dQ8{l:List Val}(h4:I.w 4= .vl l)(hn:l.length<=20):S5 (λvs=>R0 QN (I.upd 2000 vs)) [.vb false,.vi 0]=some (CD l):=by
 have run: ∀(x:Val) (i:Nat),R0 QN (I.upd 2000 [x,.vi i])=if i<l.length then(if yS l i then some (2,[.vb true,.vi i])else some (0,[x,.vi (i+1:Nat)]))else some (1,[x,.vi i]):=λx i=>by
  have v0:(I.upd 2000 [x,.vi i]).w 2000=x:=by rw[T1];simp
  have v1:(I.upd 2000 [x,.vi i]).w 2001= .vi i:=by rw[T1];simp
  have w4:(I.upd 2000 [x,.vi i]).w 4= .vl l:=by rw[bc _ _ _ (by omega),h4]
  generalize I.upd 2000 [x,.vi i]=aa at*
  by_cases c:i<l.length
  .rw[e8 c];refine S3 (by show dB aa (zs (.va 2001) (zl 4))=true;rw[W5,V6,v1,S2,bx,w4];exact e9 (by show(i:Int)<(l.length:Int);omega)) (R3 (by rw[T5,W4,V6,v1];exact e9 (by show(0:Int)<=(i:Int);omega)) ?_);have hq:dB aa (zt (.op .slen [zg 4 2001 1]) 50)=yS l i:=by
    show decide ((50:Int)<((S0 (aa.w 4).toL (aa.w 2001).toI 1).toS.length:Int))=decide (50<(S1 (aO l i) 1).toS.length);rw[w4,v1,B9,decide_eq_true_eq,decide_eq_true_eq];show(50:Int)<((S1 (aO l i) 1).toS.length:Int)↔_;omega
   cases hl:yS l i with
   |true=>
    rw[e8 rfl];refine S3 (hq.trans hl) ?_;show some (2,[Val.vb true,aa.w 2001])=_;rw[v1]
   |false=>
    rw[b9 (by simp)];refine S4 (hq.trans hl) ?_;show some (0,[aa.w 2000,Val.vi (aS .add .i64 (aa.w 2001).toI 1)])=_;rw[v0,v1,S6,V8 (n:=1000000) (by omega) (by omega)]
  .rw[b9 c];refine S4 (by show dB aa (zs (.va 2001) (zl 4))=false;rw[W5,V6,v1,S2,bx,w4];exact j5 (by show¬(i:Int)<(l.length:Int);omega)) ?_;show some (1,[aa.w 2000,aa.w 2001])=_;rw[v0,v1]
 refine Ak (λi hi hb=> ?_) (λi hi hb=> ?_) ?_
 .rw[run,e8 hi,b9 (by rw[hb];simp)]
 .rw[run,e8 hi,e8 hb]
 grind
theorem cs7{X:Nat->List Val->Val}{k s w g:Int}{l:List Val}(f3: ∀v,I.f 3 [v,v]= .vb true)(f833: ∀a,I.f 833 a=Is X a)(f834: ∀a,I.f 834 a=Fx a)(f835: ∀a,I.f 835 a=VG a)(f836: ∀a,I.f 836 a=uc X a)(f837: ∀a,I.f 837 a=sG X a)(f838: ∀a,I.f 838 a=dX8 a)(f875: ∀a,I.f 875 a=SZ a)
 (h0:I.w 0= .vi k) (h1:I.w 1= .vi s) (h2:I.w 2= .vi w) (h3:I.w 3= .vi g) (h4:I.w 4= .vl l) (ho: ∀r∈l,opOk r=true)
 (hE:l.length<=20->Bm X (.vi k) (.vi s) (.vi w) (.vi g) l=pX k s w g l) (hR:l.length<=20->mz X (.vi k) (.vi s) (.vi w) (.vi g) l=tV X k s w g l)
 (hok:l.length<=20->(mz X (.vi k) (.vi s) (.vi w) (.vi g) l).toL.length<=400/\(I.f 431 [mz X (.vi k) (.vi s) (.vi w) (.vi g) l]).toB=true):
 R0 T_engineT I=some (0,[.vb true]):=by
 by_cases c:20<l.length
 .exact S3 (by rw[GM,S2,bx,h4,W4];exact e9 (by show(20:Int)<(l.length:Int);omega)) rfl
 refine S4 (by rw[GM,S2,bx,h4,W4];exact j5 (by show¬(20:Int)<(l.length:Int);omega)) ?_;have hn:l.length<=20:=by omega
 obtain⟨k1,k2⟩:=hok hn;replace hE:=hE hn;replace hR:=hR hn;have e0:I.f 875 [.vb false,.vi 0,.vi 0,.vi (I.w 4).toL.length,I.w 4,I.w 0,I.w 1,I.w 2,I.w 3]=V0 (CD l):=by
  rw[f875,h4];rfl
 have d835:aM I (.app 835 [.va 4])= .vl l:=by
  show I.f 835 [I.w 4]=_;rw[f835,h4];show Val.vl (mu l)=_;rw[db9 ho]
 have hall:opsOk (.vl l)=true:=k6.2 ho;have n838: ∀x:SX,aM I x= .vl l->dB I (zn (zb (zL x) 100) (.app 838 [.va 0,.va 1,.va 2,.va 3,x]))=true:=λx hx=>by
  rw[Y4,T5,S2,hx,W4];refine and2 (e9 (by show(l.length:Int)<=100;omega)) ?_;show(I.f 838 [I.w 0,I.w 1,I.w 2,I.w 3,aM I x]).toB=true;rw[f838,h0,h1,h2,h3,hx];show(opsOk (.vl l)&&decide (l.length<=24))=true;rw[hall,e9 (by omega)];rfl
 have hs:=GU (x:= .vb false) (px:=λk=>[.vb true,.vi k]) (bad:=yS l) (n:=l.length);refine R4 (r:=CD l) (dQ8 h4 hn) e0 ?_;unfold CD at*
 rw[hs]at e0⊢;cases hb:(List.range l.length).any (yS l)with
 |true=>
  rw[hb]at e0;show some (0,[S0 (I.f 875 [.vb false,.vi 0,.vi 0,.vi (I.w 4).toL.length,I.w 4,I.w 0,I.w 1,I.w 2,I.w 3]).toL 1 0])=_;rw[e0];rfl
 |false=>
  have d837:aM I (.app 837 [.va 0,.va 1,.va 2,.va 3,.va 4])= .vi (pX k s w g l):=by
   show I.f 837 [I.w 0,I.w 1,I.w 2,I.w 3,I.w 4]=_;rw[f837,h0,h1,h2,h3,h4,<-hE];rfl
  have d834:aM I (.app 834 [.va 0,.va 1,.va 2,.va 3,.app 835 [.va 4]])= .vi (pX k s w g l):=by
   show I.f 834 [I.w 0,I.w 1,I.w 2,I.w 3,aM I (.app 835 [.va 4])]=_;rw[f834,d835,h0,h1,h2,h3];rfl
  have d836:aM I uE=mz X (.vi k) (.vi s) (.vi w) (.vi g) l:=by
   show I.f 836 [I.w 0,I.w 1,I.w 2,I.w 3,I.w 4]=_;rw[f836,h0,h1,h2,h3,h4];rfl
  have d833:aM I (.app 833 [.va 0,.va 1,.va 2,.va 3,.app 835 [.va 4]])=mz X (.vi k) (.vi s) (.vi w) (.vi g) l:=by
   show I.f 833 [I.w 0,I.w 1,I.w 2,I.w 3,aM I (.app 835 [.va 4])]=_;rw[f833,d835,h0,h1,h2,h3,hR];rfl
  have d1:aM I Bi= .vb true:=by
   show I.f 3 [aM I uE,aM I (.app 833 [.va 0,.va 1,.va 2,.va 3,.app 835 [.va 4]])]=_;rw[d836,d833,f3]
  refine R3 (n838 _ (by rw[bx,h4])) (R3 (n838 _ d835) (S3 (by rw[bK,d837,d834];exact e9 rfl) (R3 ?_ (R3 ?_ (S3 ?_ ?_)))))
  .rw[Y4,T5,S2,d836,W4];refine and2 (e9 (by omega)) ?_;show(I.f 431 [aM I uE]).toB=true;rw[d836];exact k2
  .rw[T5,S2,d836,W4];exact e9 (by omega)
  .show(aM I Bi).toB=true;rw[d1];rfl
  .show some (0,[aM I Bi])=_;rw[d1]
end
end Go.Ev.S9
namespace Go.Ev.S9
open Go Go.Ev
theorem Gd(g:Val->List Val)(l:List Val):U4 (λi=>g (aO l i)) l.length=l.flatMap g:=by
 have: ∀n,n<=l.length->U4 (λi=>g (aO l i)) n=(l.take n).flatMap g:=λn=>by
  induction n with
  |zero=>intro _;rfl
  |succ n ih=>
   intro h;show U4 (λi=>g (aO l i)) n++g (aO l n)=_;rw[ih (by omega),Iz (by omega),K4];simp
 grind
theorem FM{α:Type}(p:α->Bool)(f:α->Val): ∀l:List α,l.flatMap (λr=>bif p r then [f r]else [])=(l.filter p).map f
 | []=>rfl
 |a::l=>by
  rw[B1,FM p f l];grind
def iV(v:Int):Val:= .vl [.vi v]
theorem Vh(evs:List bB)(key:List UInt8):gE (evs.map bm) key=(evs.filter λx=>decide (x.1=key)).map λx=>iV x.2.1:=by
 have h:=Gd (λr=>bif decide ((S1 r 1).toS=key)then [.vl [S1 r 2]]else []) (evs.map bm);unfold gE;rw[show Gi (evs.map bm) key=λi=>(λr=>bif decide ((S1 r 1).toS=key)then [Val.vl [S1 r 2]]else []) (aO (evs.map bm) i)from rfl,h,J1];exact FM (λx:bB=>decide (x.1=key)) (λx=>iV x.2.1) evs
theorem dy3(evs:List bB)(key:List UInt8)(a b:Int):eN (evs.map bm) key a b=(Tb.vals evs key a b).map iV:=by
 have h:=Gd (λr=>bif decide ((S1 r 1).toS=key)&&(decide (a<=ci r 2)&&decide (ci r 2<b))then [.vl [S1 r 3]]else []) (evs.map bm);unfold eN Tb.vals;rw[show(λq=>bif nQ (evs.map bm) key a b q then [Val.vl [S1 (aO (evs.map bm) q) 3]]else [])=λi=>(λr=>bif decide ((S1 r 1).toS=key)&&(decide (a<=ci r 2)&&decide (ci r 2<b))then [Val.vl [S1 r 3]]else []) (aO (evs.map bm) i)from rfl,h,J1,o7];have e:(λx:bB=>(λr=>bif decide ((S1 r 1).toS=key)&&(decide (a<=ci r 2)&&decide (ci r 2<b))then [Val.vl [S1 r 3]]else []) (bm x))=λx=>bif Tb.inP key a b x then [iV x.2.2]else []:=by
  funext x;show(bif decide (x.1=key)&&(decide (a<=x.2.1)&&decide (x.2.1<b))then [iV x.2.2]else [])=_;unfold Tb.inP;rw[Bool.and_assoc]
 grind[FM,Tb.inP,iV]
theorem cs9{l:List Int}(h:l≠[])(x:Int):Tb.minI (l++[x])=min (Tb.minI l) x:=by
 match l,h with
 |a::l,_=>show(l++[x]).foldl min a=min (l.foldl min a) x;grind
theorem ct0{l:List Int}(h:l≠[])(x:Int):Tb.maxI (l++[x])=max (Tb.maxI l) x:=by
 match l,h with
 |a::l,_=>show(l++[x]).foldl max a=max (l.foldl max a) x;grind
theorem dc0(x y:Int):(if x<y then Val.vi x else .vi y)= .vi (min y x):=by
 grind
theorem dc1(x y:Int):(if y<x then Val.vi x else .vi y)= .vi (max y x):=by
 grind
theorem VZ(vs:List Int): ∀k,k+1<=vs.length->bX (vs.map iV) (k+1)=(.vi (Tb.minI (vs.take (k+1))),.vi (Tb.maxI (vs.take (k+1))))
 |0,h=>by
  match vs,h with
  |a::l,_=>rfl
 |k+1,h=>by
  have ih:=VZ vs k (by omega);have hx:S1 (aO (vs.map iV) (k+1)) 0= .vi vs[k+1]:=by
   rw[kV (by rw[o9];omega),N2];rfl
  have ht:vs.take (k+1+1)=vs.take (k+1)++[vs[k+1]]:=by rw[M9]
  have hne:vs.take (k+1)≠[]:=λe=>by
   have:=congrArg List.length e;rw[k7,List.length_nil]at this;omega
  rw[ht,cs9 hne,ct0 hne];show(if k+1=0 then _ else _)=_;simp_all[b9,Nat.succ_ne_zero,ci,Tb.minI,Tb.maxI,dc0,dc1]
theorem dQ9{vs:List Int}(hne:vs≠[])(hv: ∀v∈vs,aY v)(hn:vs.length<=100):(sE (vs.map iV)=0↔aY (Tb.sumI vs))/\(sE (vs.map iV)=0->aA (vs.map iV)=[.vi (Tb.agOf vs).1,.vi (Tb.agOf vs).2.1,.vi (Tb.agOf vs).2.2.1,.vi (Tb.agOf vs).2.2.2]):=by
 have hs:=dO2 (l:=vs.map iV) (λr hr=>by
  obtain⟨v,hv',rfl⟩:=j8.1 hr;exact hv v hv') (by grind)
 rw[Ro]at hs;have hm:(vs.map iV).map (λr=>ci r 0)=vs:=by
  rw[o7];exact(x6 (g:=id) λv _=>rfl).trans (E9 vs)
 rw[hm]at hs;refine⟨hs.1,λh=> ?_⟩;unfold aA;rw[b9 (λc=>c h),hs.2 h];have hl:0<vs.length:=N0.2 hne;obtain⟨k,hk⟩: ∃k,vs.length=k+1:=⟨vs.length-1,by omega⟩;rw[o9,hk,VZ vs k (by omega),<-hk,x9];rfl
end Go.Ev.S9
namespace Go.Ev.S9
open Go Go.Ev
def Ct(key r:Val):PaneM:=⟨key.toS,ci r 0,ci r 1⟩
def pq(ev:List Val)(key r:Val):List Val:=eN ev key.toS (ci r 0) (ci r 1)
theorem VX(ev:List Val)(key r:Val):R8 (ol ev key r)=Ct key r:=rfl
theorem UZ{M:List Val}{key r:Val}:jQ M key r=true↔ ∃x∈M,R8 x=Ct key r:=by
 unfold jQ;simp;rfl
section
variable{ev:List Val}{key:Val}{R M0:List Val}
theorem ct1: ∀j,∀x∈M0,x∈bT ev key R M0 j
 |0,x,h=>h
 |j+1,x,h=>G1 _ (ct1 j x h)
theorem Yn: ∀j,∀x∈bT ev key R M0 j,x∈M0\/ ∃q,q<j/\x=ol ev key (aO R q)/\jQ (bT ev key R M0 q) key (aO R q)=false
 |0,x,h=> .inl h
 |j+1,x,h=>by
  rcases t7.1 h with h|h
  .rcases Yn j x h with h|⟨q,h1,h2⟩
   .exact .inl h
   grind
  .unfold pH at h;grind
theorem Vg: ∀j q,q<j-> ∃x∈bT ev key R M0 j,R8 x=Ct key (aO R q)
 |0,q,h=>absurd h (N3 _)
 |j+1,q,h=>by
  by_cases c:q<j
  .obtain⟨x,h1,h2⟩:=Vg j q c;exact⟨x,G1 _ h1,h2⟩
  .have:q=j:=by omega
   subst this;cases hh:jQ (bT ev key R M0 q) key (aO R q)with
   |true=>
    obtain⟨x,h1,h2⟩:=UZ.1 hh;exact⟨x,G1 _ h1,h2⟩
   |false=>
    refine⟨ol ev key (aO R q),O8 _ ?_,VX ..⟩;unfold pH;rw[hh];exact List.mem_singleton.2 rfl
theorem SS(h0:(M0.map R8).Nodup): ∀j,((bT ev key R M0 j).map R8).Nodup
 |0=>h0
 |j+1=>by
  have ih:=SS h0 j;show((bT ev key R M0 j++pH ev key (bT ev key R M0 j) (aO R j)).map R8).Nodup;unfold pH;cases hh:jQ (bT ev key R M0 j) key (aO R j)with
  |true=>grind
  |false=>
   rw[cond_false,u4,P3];refine⟨ih,by simp,λa ha b hb he=> ?_⟩;obtain⟨x,hx,rfl⟩:=j8.1 ha;rw[n9,K9,m9]at hb;have:jQ (bT ev key R M0 j) key (aO R j)=true:=UZ.2 ⟨x,hx,by rw[he,hb];rfl⟩;grind
end
section
variable{k s w g:Int}{ev:List Val}
theorem Mh: ∀i,∀x∈bD k s w g ev i,∃i',i'<i/\ ∃q,q<(bL k s w g ev i').length/\x=ol ev (cH ev i') (aO (bL k s w g ev i') q)/\jQ (bT ev (cH ev i') (bL k s w g ev i') (bD k s w g ev i') q) (cH ev i') (aO (bL k s w g ev i') q)=false
 |0,x,h=>(by cases h)
 |i+1,x,h=>by
  rcases Yn _ x h with h|⟨q,h1,h2,h3⟩
  .obtain⟨i',a,b⟩:=Mh i x h;exact⟨i',by omega,b⟩
  grind
theorem KW: ∀i i' q,i'<i->q<(bL k s w g ev i').length-> ∃x∈bD k s w g ev i,R8 x=Ct (cH ev i') (aO (bL k s w g ev i') q)
 |0,i',q,h,_=>absurd h (N3 _)
 |i+1,i',q,h,hq=>by
  by_cases c:i'<i
  .obtain⟨x,h1,h2⟩:=KW i i' q c hq;exact⟨x,ct1 _ x h1,h2⟩
  .have:i'=i:=by omega
   subst this;exact Vg _ q hq
theorem Sj: ∀i,((bD k s w g ev i).map R8).Nodup
 |0=>List.nodup_nil
 |i+1=>SS (Sj i) _
theorem ct3(h:dU k s w g ev=true){i q:Nat}(hi:i<ev.length)(hq:q<(bL k s w g ev i).length):kX ev (cH ev i) (bL k s w g ev i) (bD k s w g ev i) q=false:=by
 simp_all[dU,Option.isNone_iff_eq_none,s9,m8,oS]
theorem XR:dU k s w g ev=true↔ ∀i q,i<ev.length->q<(bL k s w g ev i).length->sE (pq ev (cH ev i) (aO (bL k s w g ev i) q))=0:=by
 constructor
 .intro h i q hi hq;obtain⟨x,h1,h2⟩:=KW ev.length i q hi hq;obtain⟨i',a,q',b,c,d⟩:=Mh _ x h1;have hb:=ct3 h a b;unfold kX at hb;rw[d]at hb;have h0:sE (pq ev (cH ev i') (aO (bL k s w g ev i') q'))=0:=by
   unfold pq;simpa using hb
  rw[c,VX]at h2;unfold Ct at h2;rw[PaneM.mk.injEq]at h2;obtain⟨e1,e2,e3⟩:=h2;unfold pq at h0⊢;rw[<-e1,<-e2,<-e3];exact h0
 .intro h;unfold dU;rw[Option.isNone_iff_eq_none];refine s9.2 λi hi=> ?_
  have h2:oS k s w g ev i=none:=by
   refine s9.2 λq hq=> ?_
   have:=h i q (m8.1 hi) (m8.1 hq);unfold pq at this;unfold kX;rw[this];simp
  rw[h2];simp
theorem dy5(h:dU k s w g ev=true){x:Val}(hx:x∈bD k s w g ev ev.length): ∃i q,i<ev.length/\q<(bL k s w g ev i).length/\x=ol ev (cH ev i) (aO (bL k s w g ev i) q)/\sE (pq ev (cH ev i) (aO (bL k s w g ev i) q))=0:=by
 grind[Mh,XR]
end
end Go.Ev.S9
namespace Go.Ev.S9
open Go Go.Ev
theorem dc2{k s w g:Int}(hR:R9 k s w g=true)(h3:k≠3){evs:List bB}(hev:fF evs)(key:List UInt8)(r:Val):
 r∈jp k s w g (evs.map bm) key↔ ∃a b,r= .vl [.vi a,.vi b]/\Tb.Pan (bP k s w g) evs key a b:=by
 have hw:bP k s w g= .win (ji (W8 k s w) s):=b9 h3;have e:jp k s w g (evs.map bm) key=(evs.filter λx=>decide (x.1=key)).flatMap λx=>bh k s w g (.vi x.2.1):=by
  unfold jp sZ;rw[b9 h3,Gd (λr=>bh k s w g (S1 r 0)),Vh,J1];rfl
 rw[e,hw,B2];constructor
 .rintro⟨x,hx,hr⟩;rw[n7,decide_eq_true_eq]at hx;obtain⟨p1,p2,p3⟩:=DN hR h3 (hev x hx.1).1;have:=p3 r hr;refine⟨_,_,this,?_⟩;have hm:=(p2 (R6 r).1 (R6 r).2).1 (j8.2 ⟨r,hr,rfl⟩);exact⟨hm.1,x.2.1,⟨x,hx.1,hx.2,rfl⟩,hm.2⟩
 .rintro⟨a,b,rfl,h1,t,⟨x,hx,hk,ht⟩,h2⟩;obtain⟨p1,p2,p3⟩:=DN hR h3 (hev x hx).1;grind
def xQ(g:Int)(T:Int->Prop)(l:List Val):Prop:=(∀r∈l,∃a b,r= .vl [.vi a,.vi b]/\Tb.isR g T a b)/\ ∀t,T t-> ∃r∈l,ci r 0<=t/\t+g<=ci r 1
theorem QH{l:List Val}{i j:Nat}(r:Val): ∀n,r∈U4 (fe l i j) n↔ ∃k,k<n/\k≠i/\k≠j/\r=bE (aO l k)
 |0=>⟨λh=>(by cases h),λ⟨k,h,_⟩=>absurd h (N3 _)⟩
 |n+1=>by
  show r∈U4 (fe l i j) n++fe l i j n↔_;rw[t7,QH r n];unfold fe;grind
theorem c14{g:Int}{T:Int->Prop}{l:List Val}(h:xQ g T l){i j:Nat}(hij:i<j)(hj:j<l.length)(hl:oR l i j=true):xQ g T (bM l i j):=by
 obtain⟨h1,h2⟩:=h;have hi:i<l.length:=by omega
 obtain⟨a,b,e1,r1⟩:=h1 _ (gp hi);obtain⟨a',b',e2,r2⟩:=h1 _ (gp hj);have hlap:Tb.lap a b a' b':=by
  unfold oR at hl;rw[e1,e2]at hl;obtain⟨q1,q2⟩:=Q8 hl;exact⟨j6 q1,j6 q2⟩
 have hH:iJ l i j= .vl [.vi (min a a'),.vi (max b b')]:=by unfold iJ;rw[e1,e2];rfl
 refine⟨λr hr=> ?_,λt ht=> ?_⟩
 .rcases t7.1 hr with hr|hr
  .rw[m9]at hr;exact⟨_,_,hr.trans hH,r1.join r2 hlap⟩
  .obtain⟨k,k1,_,_,k4⟩:=(QH r _).1 hr;obtain⟨x,y,e,hx⟩:=h1 _ (gp k1);exact⟨x,y,by rw[k4,e];rfl,hx⟩
 .obtain⟨r,hr,c1,c2⟩:=h2 t ht;obtain⟨k,hk,rfl⟩:=A1 hr;rw[<-kV hk]at c1 c2;by_cases ki:k=i
  .subst ki;refine⟨iJ l k j,G1 _ (m9.2 rfl),?_⟩;rw[e1]at c1 c2;rw[hH];have c1:a<=t:=c1;have c2:t+g<=b:=c2;show min a a'<=t/\t+g<=max b b';omega
  .by_cases kj:k=j
   .subst kj;refine⟨iJ l i k,G1 _ (m9.2 rfl),?_⟩;rw[e2]at c1 c2;rw[hH];have c1:a'<=t:=c1;have c2:t+g<=b':=c2;show min a a'<=t/\t+g<=max b b';omega
   .refine⟨bE (aO l k),O8 _ ((QH _ _).2 ⟨k,hk,ki,kj,rfl⟩),?_⟩;exact⟨c1,c2⟩
theorem bS8{g:Int}{T:Int->Prop}: ∀(f:Nat) (l:List Val),l.length<=f->xQ g T l->xQ g T (kl f l)/\jW (kl f l)=none
 |0,l,hf,h=>by
  have:l=[]:=A8 (by omega);subst this;exact⟨h,rfl⟩
 |f+1,l,hf,h=>by
  unfold kl;cases hj:jW l with
  |none=>grind
  |some i=>
   obtain⟨j,h1,h2,h3,h4⟩:=Gc hj;have hl:(bM l i j).length+1=l.length:=Qh h2 h3;show xQ g T (kl f (bM l i ((dP l i).getD 0)))/\jW (kl f (bM l i ((dP l i).getD 0)))=none;rw[h1];exact bS8 f _ (by grind) (c14 h h2 h3 h4)
end Go.Ev.S9
namespace Go.Ev.S9
open Go Go.Ev
theorem c15{g:Int}(g0:1<=g)(g1:g<=1048576){evs:List bB}(hev:fF evs)(key:List UInt8):xQ g (Tb.tms evs key) (cE g (gE (evs.map bm) key))/\((List.range (gE (evs.map bm) key).length).find? (qi (gE (evs.map bm) key)))=none:=by
 have hU:=Vh evs key;generalize gE (evs.map bm) key=U at hU⊢;have hm: ∀r∈U,∃t,r=iV t/\Tb.tms evs key t/\U8 t=true:=λr hr=>by
  rw[hU]at hr;obtain⟨x,hx,rfl⟩:=j8.1 hr;rw[n7,decide_eq_true_eq]at hx;exact⟨x.2.1,rfl,⟨x,hx.1,hx.2,rfl⟩,(hev x hx.1).1⟩
 have hs:cE g U=U.map λr=> .vl [S1 r 0,.vi (aS .add .i64 (ci r 0) g)]:=rT (λr=> .vl [S1 r 0,.vi (aS .add .i64 (ci r 0) g)]) U
 have ht: ∀t,U8 t=true->aS .add .i64 t g=t+g:=λt h=>by
  unfold U8 at h;grind[cV]
 refine⟨⟨λr hr=> ?_,λt h=> ?_⟩,?_⟩
 .rw[hs]at hr;obtain⟨u,hu,rfl⟩:=j8.1 hr;obtain⟨t,rfl,h1,h2⟩:=hm u hu;refine⟨t,t+g,?_,Tb.isR.own t h1⟩;show Val.vl [.vi t,.vi (aS .add .i64 t g)]=_;grind
 .obtain⟨x,hx,hk,rfl⟩:=h;refine⟨.vl [.vi x.2.1,.vi (x.2.1+g)],?_,u9 _,u9 _⟩;rw[hs];refine j8.2 ⟨iV x.2.1,?_,?_⟩
  .grind
  .show Val.vl [.vi x.2.1,.vi (aS .add .i64 x.2.1 g)]=_;rw[ht _ (hev x hx).1]
 .refine s9.2 λi hi=> ?_
  obtain⟨t,e,h1,h2⟩:=hm _ (gp (m8.1 hi));unfold qi;rw[e];show¬(!U8 t)=true;grind
theorem dc3{s w g:Int}(hR:R9 3 s w g=true){evs:List bB}(hev:fF evs)(key:List UInt8)(r:Val):
 r∈jp 3 s w g (evs.map bm) key↔ ∃a b,r= .vl [.vi a,.vi b]/\Tb.Pan (bP 3 s w g) evs key a b:=by
 obtain⟨g0,g1⟩:=yB hR rfl;obtain⟨hr,hl⟩:=c15 g0 g1 hev key;unfold jp sZ;rw[e8 rfl];have hok:ff g (gE (evs.map bm) key)=true:=by
  grind[ff,decide_eq_true]
 rw[hok,cond_true];generalize gE (evs.map bm) key=U at hr hl hok⊢;obtain⟨h1,h2⟩:=bS8 (cE g U).length (cE g U) (i6 _) hr;have hM:kl (cE g U).length (cE g U)=ew (cE g U):=rfl;rw[hM]at h1 h2;unfold fk;generalize ew (cE g U)=M at h1 h2⊢;have hsp: ∀r∈M,bE r=r:=λr hr=>by
  obtain⟨a,b,e,_⟩:=h1.1 r hr;rw[e];rfl
 have hmem: ∀r,r∈db M M.length↔r∈M:=λr=>by simp_all[Tj,i6,x9]
 have hS:U4 (λi=>[bE (aO (db M M.length) i)]) (db M M.length).length=(db M M.length).map bE:=rT bE _;have hr2:r∈U4 (λi=>[bE (aO (db M M.length) i)]) (db M M.length).length↔r∈M:=by
  grind
 rw[hr2];have hlapI: ∀i j,i<M.length->j<M.length->Tb.lap (ci (aO M i) 0) (ci (aO M i) 1) (ci (aO M j) 0) (ci (aO M j) 1)->i=j:=λi j hi hj hl=>by
  rcases F5 i j with c|c|c
  .have:=ZM h2 c hj;unfold oR at this;rw[e9 hl.1,e9 hl.2]at this;cases this
  .exact c
  .have:=ZM h2 c hi;unfold oR at this;rw[e9 hl.1,e9 hl.2]at this;cases this
 have hses:Tb.Ses g (Tb.tms evs key) (M.map R6):=by
  refine Tb.ses_runs (by omega) (λp hp=> ?_) (λt ht=> ?_) (λp hp q hq hl=> ?_)
  .obtain⟨r,hr,rfl⟩:=j8.1 hp;obtain⟨a,b,e,h⟩:=h1.1 r hr;rw[e];exact h
  .obtain⟨r,hr,c1,c2⟩:=h1.2 t ht;exact⟨R6 r,j8.2 ⟨r,hr,rfl⟩,c1,c2⟩
  .obtain⟨r,hr,rfl⟩:=j8.1 hp;obtain⟨r',hr',rfl⟩:=j8.1 hq;obtain⟨i,hi,rfl⟩:=A1 hr;obtain⟨j,hj,rfl⟩:=A1 hr';rw[<-kV hi,<-kV hj]at hl⊢;rw[hlapI i j hi hj hl]
 constructor
 .intro h;obtain⟨a,b,e,_⟩:=h1.1 r h;refine⟨a,b,e,?_⟩;exact(hses.1 a b).1 (j8.2 ⟨r,h,by rw[e];rfl⟩)
 .rintro⟨a,b,rfl,h⟩;obtain⟨r,hr,hp⟩:=j8.1 ((hses.1 a b).2 h);obtain⟨a',b',e,_⟩:=h1.1 r hr;rw[e]at hp;have hp:(a',b')=(a,b):=hp;grind
theorem Ga{k s w g:Int}(hR:R9 k s w g=true){evs:List bB}(hev:fF evs)(key:List UInt8)(r:Val):
 r∈jp k s w g (evs.map bm) key↔ ∃a b,r= .vl [.vi a,.vi b]/\Tb.Pan (bP k s w g) evs key a b:=by
 grind[dc3,dc2]
end Go.Ev.S9
namespace Go.Ev.S9
open Go Go.Ev
def gN(W:Tb.Wd)(evs:List bB):Prop:= ∀key a b,Tb.Pan W evs key a b->aY (Tb.sumI (Tb.vals evs key a b))
theorem qS{evs:List bB}{i:Nat}(h:i<evs.length):cH (evs.map bm) i= .vs evs[i].1:=by
 unfold cH;rw[kV (by grind),N2];rfl
theorem ct4{evs:List bB}(hev:fF evs)(key:List UInt8)(a b:Int): ∀v∈Tb.vals evs key a b,aY v:=λv hv=>by
 obtain⟨x,hx,rfl⟩:=j8.1 hv;exact(hev x (n7.1 hx).1).2
theorem Gh(evs:List bB)(key:List UInt8)(a b:Int):(Tb.vals evs key a b).length<=evs.length:=by
 grind[Tb.vals,List.length_map,List.length_filter_le]
theorem QU{k s w g:Int}(hR:R9 k s w g=true): ∀g',bP k s w g= .ses g'->0<g':=λg' h=>by
 unfold bP at h;by_cases h3:k=3
 .rw[e8 h3,Tb.Wd.ses.injEq]at h;have:=(yB hR h3).1;omega
 grind
theorem YN{W:Tb.Wd}{evs:List bB}{key:List UInt8}{a b:Int}(h:Tb.Pan W evs key a b): ∃i,∃h:i<evs.length,evs[i].1=key:=by
 have: ∃t,Tb.tms evs key t:=by
  cases W with
  |ses g=>exact⟨a,h.1.1⟩
  |win P=>exact⟨_,h.2.choose_spec.1⟩
 obtain⟨t,x,hx,hk,_⟩:=this;grind[List.getElem_of_mem]
section
variable{k s w g:Int}(hR:R9 k s w g=true){evs:List bB}(hev:fF evs)(hn:evs.length<=24)
include hR hev hn
theorem Lq{key:List UInt8}{a b:Int}(hp:Tb.Pan (bP k s w g) evs key a b):(sE (pq (evs.map bm) (.vs key) (.vl [.vi a,.vi b]))=0↔aY (Tb.sumI (Tb.vals evs key a b)))/\
 (sE (pq (evs.map bm) (.vs key) (.vl [.vi a,.vi b]))=0->ol (evs.map bm) (.vs key) (.vl [.vi a,.vi b])=dv key a b (Tb.agOf (Tb.vals evs key a b))):=by
 have e:pq (evs.map bm) (.vs key) (.vl [.vi a,.vi b])=(Tb.vals evs key a b).map iV:=dy3 evs key a b;have e2:eN (evs.map bm) (Val.vs key).toS (ci (.vl [.vi a,.vi b]) 0) (ci (.vl [.vi a,.vi b]) 1)=(Tb.vals evs key a b).map iV:=e;obtain⟨h1,h2⟩:=dQ9 (Tb.Pan.ne (QU hR) hp) (ct4 hev key a b) (by grind[Gh]);rw[e];refine⟨h1,λh=> ?_⟩;unfold ol;rw[e2,h2 h];rfl
theorem FL:dU k s w g (evs.map bm)=true↔gN (bP k s w g) evs:=by
 rw[XR];constructor
 .intro h key a b hp;obtain⟨i,hi,hk⟩:=YN hp;have hm:Val.vl [.vi a,.vi b]∈bL k s w g (evs.map bm) i:=by
   unfold bL;rw[qS hi,hk];exact(Ga hR hev key _).2 ⟨a,b,rfl,hp⟩
  grind[List.getElem_of_mem,List.length_map,kV,qS,Lq]
 .intro h i q hi hq;rw[o9]at hi;have hm:=gp hq;have hm2:aO (bL k s w g (evs.map bm) i) q∈jp k s w g (evs.map bm) evs[i].1:=by
   simp_all[bL,qS]
  obtain⟨a,b,e,hp⟩:=(Ga hR hev _ _).1 hm2;rw[e,qS hi];exact(Lq hR hev hn hp).1.2 (h _ a b hp)
theorem dc5(ho:dU k s w g (evs.map bm)=true){x:Val}(hx:x∈bD k s w g (evs.map bm) (evs.map bm).length): ∃key a b,Tb.Pan (bP k s w g) evs key a b/\x=dv key a b (Tb.agOf (Tb.vals evs key a b))/\ ∃y∈evs,y.1=key:=by
 obtain⟨i,q,hi,hq,e,hs⟩:=dy5 ho hx;rw[o9]at hi;have hm:=gp hq;have hm2:aO (bL k s w g (evs.map bm) i) q∈jp k s w g (evs.map bm) evs[i].1:=by
  unfold bL at hm⊢;rw[qS hi]at hm⊢;exact hm
 grind[Ga,qS,Lq,List.getElem_mem]
omit hn in
theorem dc6{key:List UInt8}{a b:Int}(hp:Tb.Pan (bP k s w g) evs key a b): ∃x∈bD k s w g (evs.map bm) (evs.map bm).length,R8 x=⟨key,a,b⟩:=by
 obtain⟨i,hi,hk⟩:=YN hp;have hm:Val.vl [.vi a,.vi b]∈bL k s w g (evs.map bm) i:=by
  unfold bL;rw[qS hi,hk];exact(Ga hR hev key _).2 ⟨a,b,rfl,hp⟩
 obtain⟨q,hq,he⟩:=A1 hm;obtain⟨x,h1,h2⟩:=KW (k:=k) (s:=s) (w:=w) (g:=g) (ev:=evs.map bm) (evs.map bm).length i q (by grind) hq;refine⟨x,h1,?_⟩;rw[h2,kV hq,he,qS hi,hk];rfl
theorem Xp(hva:MT evs)(ho:dU k s w g (evs.map bm)=true):TOK (bP k s w g) evs (bD k s w g (evs.map bm) (evs.map bm).length):=by
 have hrow:=λ{x:Val} (hx:x∈bD k s w g (evs.map bm) (evs.map bm).length)=>dc5 hR hev hn ho hx
 have hhas:=λ{key:List UInt8} {a b:Int} (hp:Tb.Pan (bP k s w g) evs key a b)=>dc6 hR hev hp
 have hfit:=(FL hR hev hn).1 ho;have hnd:=Sj (k:=k) (s:=s) (w:=w) (g:=g) (ev:=evs.map bm) (evs.map bm).length;refine⟨λkey a b A=> ?_,hnd,λr hr=> ?_,QU hR⟩
 .constructor
  .intro h;obtain⟨r,hr,hp,hA⟩:=AP h;obtain⟨key',a',b',h1,rfl,_⟩:=hrow hr;obtain⟨rfl,rfl,rfl⟩:=hp;exact⟨h1,hA.symm⟩
  .rintro⟨hp,rfl⟩;obtain⟨x,hx,hpx⟩:=hhas hp;obtain⟨key',a',b',h1,e,_⟩:=hrow hx;rw[e,DZ,PaneM.mk.injEq]at hpx;obtain⟨rfl,rfl,rfl⟩:=hpx;have:=yQ hnd hx;rw[e,DZ,cp9]at this;exact this
 .obtain⟨key,a,b,h1,rfl,y,hy,hk⟩:=hrow hr;refine⟨key,a,b,_,rfl,?_,?_⟩
  .have:=(qQ (hva y hy) rfl).1;grind
  .have hne:=Tb.Pan.ne (QU hR) h1;have hv:=ct4 hev key a b;have hl:=Gh evs key a b;refine⟨?_,hfit key a b h1,hv _ (Tb.minI_spec hne).1,hv _ (Tb.maxI_spec hne).1⟩;show aY ((Tb.vals evs key a b).length:Int);grind[aY]
end
end Go.Ev.S9
namespace Go.Ev.S9
open Go Go.Ev
theorem EN{L:List Val}(hL: ∀r∈L,aY (ci r 0))(hn:L.length<=1000000)(h:aY (Tb.sumI (L.map λr=>ci r 0))):cO L=0:=by
 have hg: ∀k,aY (ci (aO L k) 0):=λk=>by
  by_cases c:k<L.length
  .exact hL _ (gp c)
  .have e:aO L k= .vl []:=by simp[aO,j9,s7 (C6.1 c)]
   rw[e];exact Lx
 simp_all[VQ,Ro,cO,cT,e8]
theorem Uq{gs:List Tb.Ag}(hc: ∀a∈gs,1<=a.1/\gd a)(hn:gs.length<=1000000)(h0:aY (Tb.sumI (gs.map (·.1))))(h1:aY (Tb.sumI (gs.map (·.2.1)))):jE (gs.map be)=0:=by
 have c0:jC (gs.map be)=gs.map λa=> .vl [S1 (be a) 0]:=HP hc 0
 have c1:jT (gs.map be)=gs.map λa=> .vl [S1 (be a) 1]:=HP hc 1
 have e0:cO (jC (gs.map be))=0:=by
  rw[c0];refine EN (λr hr=> ?_) (by simpa using hn) ?_
  .obtain⟨a,ha,rfl⟩:=j8.1 hr;exact(hc a ha).2.1
  .rw[o7];exact h0
 have e1:cO (jT (gs.map be))=0:=by
  rw[c1];refine EN (λr hr=> ?_) (by simpa using hn) ?_
  .obtain⟨a,ha,rfl⟩:=j8.1 hr;exact(hc a ha).2.2.1
  .rw[o7];exact h1
 simp_all[jE,b9]
theorem cL4{W:Tb.Wd}{evs:List bB}{m:List Val}(h:TOK W evs m){ks:List UInt8}{a b v:Int}(hv:aY v)(hn:evs.length<=1000000)(hs:aY (Tb.sumI (Tb.vals evs ks a b)+v)):gA m (.vs ks) (.vi v) (.vl [.vi a,.vi b])=0:=by
 have hp:R8 (ck (.vs ks) (.vl [.vi a,.vi b]))=⟨ks,a,b⟩:=rfl;unfold gA mJ;cases hl:lk m ks a b with
 |none=>
  obtain⟨_,hc⟩:=Oo (m:=m) (p:=ck (.vs ks) (.vl [.vi a,.vi b])) (by exact hl);have hC:jC (pR (.vi 0) (.vi 0) (.vi 0) (.vi 0) (.vi v))=[.vl [.vi 1]]:=rfl;have hT:jT (pR (.vi 0) (.vi 0) (.vi 0) (.vi 0) (.vi v))=[.vl [.vi v]]:=rfl;have e0:cO [.vl [.vi 1]]=0:=EN (λr hr=>by rw[m9.1 hr];exact ve) (by simp) ve;have e1:cO [.vl [.vi v]]=0:=EN (λr hr=>by rw[m9.1 hr];exact hv) (by simp) (by show aY (v+0);rw[J3];exact hv);simp_all[jE,b9]
 |some c=>
  obtain⟨q1,q2,q3,_⟩:=h.pos hl;obtain⟨r,hr,_,hA,_,hc⟩:=AD (m:=m) (p:=ck (.vs ks) (.vl [.vi a,.vi b])) (a:=c) (by exact hl);obtain⟨k',x,y,A,rfl,_,_⟩:=h.nrm r hr;have hA:A=c:=hA;subst hA;rw[hc,hc,hc,hc];have e:pR (S1 (dv k' x y A) 3) (S1 (dv k' x y A) 4) (S1 (dv k' x y A) 5) (S1 (dv k' x y A) 6) (.vi v)=([A,Tb.agOf [v]]:List Tb.Ag).map be:=by
   rw[n9,n9,K9,kK];rfl
  rw[e];have hcnt:A.1<=evs.length:=by
   rw[q3];show((Tb.vals evs ks a b).length:Int)<=_;grind[Gh]
  refine Uq (λz hz=> ?_) (by simp) ?_ ?_
  .rcases m7.1 hz with rfl|hz
   .grind
   .rw[m9.1 hz,kK];exact⟨u9 _,ve,hv,hv,hv⟩
  .show aY (A.1+(1+0));grind[aY]
  .rw[kK];show aY (A.2.1+(v+0));rw[J3,q3];exact hs
end Go.Ev.S9
namespace Go.Ev.S9
open Go Go.Ev
section
variable{k s l g:Int}{m:List Val}{ek:Int}{ks:List UInt8}{t v:Int}
theorem cL5(h3:k≠3)(hR:R9 k s l g=true){evs:List bB}(hT:TOK (bP k s l g) evs m)(hn:evs.length<=24)(hv:aY v)(h0:S8 ek ks t v=0)(h1:ek=1)(hf:gN (bP k s l g) (evs++[(ks,t,v)])):
 bY (bA k s l g m ek ks t v)=0:=by
 have hw:bP k s l g= .win (ji (W8 k s l) s):=b9 h3;have ht:=(qQ h0 h1).2;obtain⟨p1,p2,p3⟩:=DN hR h3 ht;rw[qE,b9 (λc=>c h0),b9 (λc=>c h1),b9 h3];generalize bh k s l g (.vi t)=S at p1 p2 p3⊢;have hz: ∀i,i<S.length->gA m (.vs ks) (.vi v) (aO S i)=0:=λi hi=>by
  have hm:=gp hi;have e:=p3 _ hm;have hp:=(p2 (R6 (aO S i)).1 (R6 (aO S i)).2).1 (j8.2 ⟨_,hm,rfl⟩);rw[e];generalize (R6 (aO S i)).1=a at hp⊢;generalize (R6 (aO S i)).2=b at hp⊢;refine cL4 hT hv (by omega) ?_;have hpan:Tb.Pan (bP k s l g) (evs++[(ks,t,v)]) ks a b:=by
   rw[hw];exact⟨hp.1,t,(Tb.tms_app ..).2 (.inr ⟨rfl,rfl⟩),hp.2⟩
  have:=hf ks a b hpan;have hin:Tb.inP ks a b (ks,t,v)=true:=Tb.inP_iff.2 ⟨rfl,hp.2⟩;rw[Tb.vals_app,e8 hin,Tb.sumI_app]at this;have e2:Tb.sumI [((ks,t,v):bB).2.2]=v:=J3 v;rw[e2]at this;exact this
 simp_all[gW,b9,Nat.lt_irrefl,e8]
end
end Go.Ev.S9
namespace Go.Ev.S9
open Go Go.Ev
section
variable{k s l g:Int}{m:List Val}{ek:Int}{ks:List UInt8}{t v:Int}
theorem cL6(hg1:1<=g)(hg2:g<=1048576){evs:List bB}(hT:TOK (.ses g) evs m)(hev:fF evs)(hv:aY v)(ht:U8 t=true):
 gO m (fh (.vi g) m (.vs ks) (.vi t)) (.vi v)=(Tb.agOf [v]::(Tb.joinedOf g t ((bi m (.vs ks)).map R6)).map λp=>(lk m ks p.1 p.2).getD (0,0,0,0)).map be/\
 ∀a∈(Tb.agOf [v]::(Tb.joinedOf g t ((bi m (.vs ks)).map R6)).map λp=>(lk m ks p.1 p.2).getD (0,0,0,0)),1<=a.1/\gd a:=by
 have hio:=Ye hT hev ht hg1 hg2 ks;obtain⟨s1,s2,s3⟩:=Fd hT ks;have hown:=cT2 ht hg1 hg2;have hjn:gP (.vi g) m (.vs ks) (.vi t)=(Tb.joinedOf g t ((bi m (.vs ks)).map R6)).map λp=>Val.vl [.vi p.1,.vi p.2]:=by
  unfold gP;rw[S6,S6,hio,cond_true];unfold nf;rw[S6,S6,hown,S6,<-RZ,Oq,o7,o7];refine x6 λr hr=> ?_
  have e:=s3 r (n7.1 hr).1;have e2:(S1 r 0)= .vi (R6 r).1:=by rw[e];rfl
  have e3:(S1 r 1)= .vi (R6 r).2:=by rw[e];rfl
  show Val.vl [S1 r 0,S1 r 1]=Val.vl [.vi (R6 r).1,.vi (R6 r).2];grind
 have hpn:fh (.vi g) m (.vs ks) (.vi t)=(Tb.joinedOf g t ((bi m (.vs ks)).map R6)).map (pr ks):=by
  unfold fh;rw[hjn,o7];rfl
 have hjm: ∀p∈Tb.joinedOf g t ((bi m (.vs ks)).map R6),∃c,lk m ks p.1 p.2=some c:=λp hp=>by
  have h1:=(n7.1 hp).1;cases hl:lk m ks p.1 p.2 with
  |some c=>grind
  |none=>grind
 refine⟨?_,λa ha=> ?_⟩
 .rw[hpn];unfold gO;rw[n9,o7,o7,kK];refine congrArg (List.cons _) (x6 λp hp=> ?_);obtain⟨c,hc⟩:=hjm p hp;show gQ m (pr ks p)=be ((lk m ks p.1 p.2).getD (0,0,0,0));rw[hc];obtain⟨r,hr,_,hA,_,hcol⟩:=AD (m:=m) (p:=cC (pr ks p)) (a:=c) hc;obtain⟨k',x,y,A,rfl,_,_⟩:=hT.nrm r hr;subst hA;unfold gQ HF;rw[hcol,hcol,hcol,hcol];rfl
 .rcases m7.1 ha with rfl|ha
  .rw[kK];exact⟨u9 _,ve,hv,hv,hv⟩
  .obtain⟨p,hp,rfl⟩:=j8.1 ha;obtain⟨c,hc⟩:=hjm p hp;simp_all;exact⟨(hT.pos hc).1,(hT.pos hc).2.1⟩
open Classical in
theorem cL7(h3:k=3)(hR:R9 k s l g=true){evs:List bB}(hT:TOK (bP k s l g) evs m)(hm:m.length<=400)(hev:fF evs)(hn:evs.length<=24)(hv:aY v)(h0:S8 ek ks t v=0)(h1:ek=1)(hf:gN (bP k s l g) (evs++[(ks,t,v)])):
 bY (bA k s l g m ek ks t v)=0:=by
 have hw:bP k s l g= .ses g:=e8 h3;rw[hw]at hT hf;have ht:=(qQ h0 h1).2;obtain⟨hg1,hg2⟩:=yB hR h3;obtain⟨hb,hc⟩:=cL6 (ks:=ks) hg1 hg2 hT hev hv ht;obtain⟨s1,s2,s3⟩:=Fd hT ks;have hJl:(Tb.joinedOf g t ((bi m (.vs ks)).map R6)).length<=400:=by
  have h1:=I9 (λp:Int×Int=>Tb.lapB p.1 p.2 t (t+g)) ((bi m (.vs ks)).map R6);rw[o9,(Rd m ks).length_eq]at h1;exact n8 h1 (n8 (Dm m ks) hm)
 rw[qE,b9 (λc=>c h0),b9 (λc=>c h1),e8 h3];unfold ou;rw[hb];obtain⟨M',hM'⟩: ∃M':List UInt8->Int->Int->Option Tb.Ag,M'=λk' a b=>if k'=ks/\(a,b)=Tb.nowOf t (t+g) (Tb.joinedOf g t ((bi m (.vs ks)).map R6))then some (Tb.agAll (Tb.agOf [v]::(Tb.joinedOf g t ((bi m (.vs ks)).map R6)).map λp=>(lk m ks p.1 p.2).getD (0,0,0,0)))
  else if k'=ks/\(a,b)∈Tb.joinedOf g t ((bi m (.vs ks)).map R6)then none else lk m k' a b:=⟨_,rfl⟩
 have htab:=Tb.tab_ses (g:=g) (by omega) (M':=M') ((ks,t,v):bB) hT.tab s2 s1 (λa b h=>by
  grind) (λa b hne hin=>by
  grind) (λk' a b h=>by
  grind)
 have hN:=(htab ks (Tb.nowOf t (t+g) (Tb.joinedOf g t ((bi m (.vs ks)).map R6))).1 (Tb.nowOf t (t+g) (Tb.joinedOf g t ((bi m (.vs ks)).map R6))).2 _).1 (by rw[hM'];exact e8 ⟨rfl,rfl⟩);generalize Tb.nowOf t (t+g) (Tb.joinedOf g t ((bi m (.vs ks)).map R6))=N at hN;generalize hgs:(Tb.agOf [v]::(Tb.joinedOf g t ((bi m (.vs ks)).map R6)).map λp=>(lk m ks p.1 p.2).getD (0,0,0,0))=gs at hc hN⊢;obtain⟨hpan,hag⟩:=hN;have hfit:=hf ks N.1 N.2 hpan;obtain⟨q1,q2⟩:=NM (gs:=gs);have hl:=Gh (evs++[(ks,t,v)]) ks N.1 N.2;refine Uq hc (by grind) ?_ ?_
 .rw[<-q1,hag];show aY ((Tb.vals (evs++[(ks,t,v)]) ks N.1 N.2).length:Int);grind[aY]
 .rw[<-q2,hag];exact hfit
theorem cL8{X:Nat->List Val->Val}(hX:XOk X)(hR:R9 k s l g=true){evs:List bB}(hT:TOK (bP k s l g) evs m)(hev:fF evs)(hn:evs.length<=24)(hv:aY v)(h0:S8 ek ks t v=0)(h1:ek=1):
 bY (bA k s l g m ek ks t v)=0↔gN (bP k s l g) (evs++[(ks,t,v)]):=by
 have hm:=(wz hR hT hev hn).2.2.1;constructor
 .intro h;obtain⟨R,m',a1,a2,a3,a4,a5,a6,a7⟩:=Yp hX hR hT hm hev hv h;intro key a b hp;have:=(a5.tab key a b _).2 ⟨hp,rfl⟩;exact(a5.pos this).2.1.2.1
 grind[cL7,cL5]
end
end Go.Ev.S9
namespace Go.Ev.S9
open Go Go.Ev
theorem ct8{p q:Nat->Bool}{n:Nat}(h: ∀i,i<n->(∀j,j<i->p j=false)->p i=q i):(List.range n).find? p=(List.range n).find? q:=by
 cases hp:(List.range n).find? p with
 |none=>
  have hz: ∀j,j<n->p j=false:=λj hj=>by
   have:=s9.1 hp j (m8.2 hj);simpa using this
  exact(s9.2 λi hi=>by
   have hi:=m8.1 hi;rw[<-h i hi λj hj=>hz j (by omega),hz i hi];simp).symm
 |some i=>
  obtain⟨a,b,c⟩:=W6 hp;symm;rw[List.find?_range_eq_some];refine⟨by rw[<-h i a c];exact b,m8.2 a,λj hj=> ?_⟩;rw[<-h j (by omega) λx hx=>c x (by omega),c j hj];rfl
theorem cL9(L:List Val)(mark:Int)(hL: ∀r∈L,W3 r=r):kI L mark=L.filter (cW mark):=by
 have h:=Gd (λr=>bif cW mark r then [W3 r]else []) L;unfold kI;rw[show Yg L mark=λi=>(λr=>bif cW mark r then [W3 r]else []) (aO L i)from rfl,h,FM (cW mark) W3 L];exact(x6 (g:=id) λr hr=>hL r (n7.1 hr).1).trans (E9 _)
theorem WR{k s w g:Int}{evs:List bB}{m:List Val}(hT:TOK (bP k s w g) evs m):gN (bP k s w g) evs:=λkey a b hp=>(hT.pos ((hT.tab key a b _).2 ⟨hp,rfl⟩)).2.1.2.1
section
variable{X:Nat->List Val->Val}{k s w g:Int}{l:List Val}(hX:XOk X)(hR:R9 k s w g=true)(hn:l.length<=24)(ho: ∀r∈l,opOk r=true)
include hX hR hn ho
theorem Ss(i:Nat)(hi:i<l.length)(he: ∀j,j<i->dY X (.vi k) (.vi s) (.vi w) (.vi g) l j=0):dY X (.vi k) (.vi s) (.vi w) (.vi g) l i=rE k s w g l i:=by
 obtain⟨m,evs,g1,g2,g3,g4,g5,g6⟩:=AT hX hR hn ho i (by omega) he;obtain⟨ek,ks,t,v,hr,hv⟩:=zS (ho _ (gp hi));unfold dY rE;by_cases c:ed l i=0
 .have cn: ¬ed l i≠0:=λh=>h c
  rw[b9 cn,b9 cn];have c':=c;rw[EG hr]at c';have hk:ci (aO l i) 0=ek:=by rw[hr];rfl
  rw[hk,Hf hi,g2];rcases RR c' with rfl|rfl
  .have ht:=qQ c' rfl;have hG:lO l i=[bm (ks,t,v)]:=by
    unfold lO;rw[hk,e9 rfl,cond_true,hr];rfl
   have hev2:fF (evs++[(ks,t,v)]):=λx hx=>by
    rcases t7.1 hx with hx|hx
    .exact g4 x hx
    .rw[m9.1 hx];exact⟨ht.2,hv⟩
   have hok:=FL hR hev2 (by rw[l5];show evs.length+1<=24;omega);have hm:evs.map bm++[bm (ks,t,v)]=(evs++[(ks,t,v)]).map bm:=by rw[u4];rfl
   rw[b9 (by omega),Nb (k:=k) (s:=s) (l:=w) (g:=g) g1 hr,hG,hm];have htf:=cL8 hX hR g3 g4 (by omega) hv c' rfl;by_cases f:gN (bP k s w g) (evs++[(ks,t,v)])
   .rw[htf.2 f,e8 (hok.2 f)]
   .rw[b9 (λh=>f (hok.1 h))];rcases du5 (k:=k) (s:=s) (l:=w) (g:=g) (m:=m) c' rfl with h|h
    .exact absurd (htf.1 h) f
    .exact h
  .have hG:lO l i=[]:=by
    unfold lO;rw[hk];rfl
   rw[e8 rfl,hG,p9,e8 ((FL hR g4 (by omega)).2 (WR g3))]
 omega
theorem Vd:jZ X (.vi k) (.vi s) (.vi w) (.vi g) l=rF k s w g l:=by
 grind[jZ,rF,ct8,Ss]
theorem WT(hf:jZ X (.vi k) (.vi s) (.vi w) (.vi g) l=none): ∃L,pW X [dM X (.vi k) (.vi s) (.vi w) (.vi g) l l.length,cR l l.length]= .vl L/\Ja [jz X [.vi k,.vi s,.vi w,.vi g,.vl (cU l)],xd [.vl l]]= .vl L/\L.length<=400/\(∀r∈L,rowS r)/\
 ∃L0,jz X [.vi k,.vi s,.vi w,.vi g,.vl (cU l)]= .vl L0/\L0.length<=400/\ ∀r∈L0,rowS r:=by
 have hz: ∀j,j<l.length->dY X (.vi k) (.vi s) (.vi w) (.vi g) l j=0:=λj hj=>by
  have:=s9.1 hf j (m8.2 hj);grind
 obtain⟨m,evs,g1,g2,g3,g4,g5,g6⟩:=AT hX hR hn ho l.length (i6 _) hz;have hev:cU l=evs.map bm:=by grind[dC,List.take_length]
 have hok:=(FL hR g4 (by omega)).2 (WR g3);have hrt:=Xp hR g4 (by omega) g5 hok;have hm400:=(wz hR g3 g4 (by omega)).2.2.1;have hp:(bD k s w g (evs.map bm) (evs.map bm).length).Perm m:=cJ9 g3 hrt (M4 _);obtain⟨L0,hL,hLp⟩:=hX.x490 m (λr hr=>wK (g3.nrm r hr));have e490:X 490 [.vl (bD k s w g (evs.map bm) (evs.map bm).length)]= .vl L0:=by
  rw[hX.x490u _ m (λr hr=>wK (hrt.nrm r hr)) hp hrt.nd,hL]
 have h828:jz X [.vi k,.vi s,.vi w,.vi g,.vl (cU l)]= .vl L0:=by
  show(if dU k s w g (cU l)=true then X 490 [.vl (bD k s w g (cU l) (cU l).length)]else .vl [])=_;grind
 have hS: ∀r∈L0,rowS r:=λr hr=>wK (g3.nrm r (hLp.mem_iff.1 hr))
 have h7: ∀r∈L0,W3 r=r:=λr hr=>by
  obtain⟨a,b,c,A,e,_⟩:=g3.nrm r (hLp.mem_iff.1 hr);rw[e,d93]
 refine⟨L0.filter (cW (cR l l.length).toI),?_,?_,?_,λr hr=>hS r (n7.1 hr).1,L0,h828,by rw[hLp.length_eq];omega,hS⟩
 .show Val.vl ((X 490 [dM X (.vi k) (.vi s) (.vi w) (.vi g) l l.length]).toL.filter (cW (cR l l.length).toI))=_;simp_all
 .show Val.vl (kI (jz X [.vi k,.vi s,.vi w,.vi g,.vl (cU l)]).toL (cR l l.length).toI)=_;rw[h828];show Val.vl (kI L0 _)=_;grind[cL9]
 .have:=I9 (cW (cR l l.length).toI) L0;rw[hLp.length_eq]at this;omega
end
theorem Mm{X:Nat->List Val->Val}{k s w g:Int}{l:List Val}(hX:XOk X)(hn:l.length<=24)(ho: ∀r∈l,opOk r=true):
 Bm X (.vi k) (.vi s) (.vi w) (.vi g) l=pX k s w g l/\mz X (.vi k) (.vi s) (.vi w) (.vi g) l=tV X k s w g l/\(mz X (.vi k) (.vi s) (.vi w) (.vi g) l).toL.length<=400/\(X 431 [mz X (.vi k) (.vi s) (.vi w) (.vi g) l]).toB=true:=by
 have hnil:(X 431 [.vl []]).toB=true:=hX.x431 [] (λr h=>(by cases h));show(if R9 k s w g=true then _ else 2)=_/\(if R9 k s w g=true then _ else Val.vl [])=_/\(if R9 k s w g=true then _ else Val.vl []).toL.length<=400/\(X 431 [if R9 k s w g=true then _ else Val.vl []]).toB=true;unfold pX tV;by_cases hR:R9 k s w g=true
 .rw[e8 hR,e8 hR,e8 hR,e8 hR];have hfe:=Vd hX hR hn ho;cases hc:jZ X (.vi k) (.vi s) (.vi w) (.vi g) l with
  |some i=>
   rw[hc]at hfe;rw[<-hfe];obtain⟨a,b,c⟩:=W6 hc;refine⟨Ss hX hR hn ho i a λj hj=>by have:=c j hj;simpa using this,rfl,p7 _,hnil⟩
  |none=>
   obtain⟨L,h1,h2,h3,h4,_⟩:=WT hX hR hn ho hc;rw[hc]at hfe;rw[<-hfe];refine⟨rfl,?_,?_,?_⟩
   .rw[h1,h2]
   .rw[h1];exact h3
   .rw[h1];exact hX.x431 L h4
 simp_all
end Go.Ev.S9
namespace Go.Ev.S9
open Go Go.Ev
def qz:Val->Bool
 | .vl [.vi e,.vs k,.vi t,.vi v]=>decide (e=1)&&(decide (S8 1 k t v=0)&&(decide (-9223372036854775808<=v)&&decide (v<9223372036854775808)))
 |_=>false
def e15(a:List Val):Val:= .vb (R9 (aN a 0).toI (aN a 1).toI (aN a 2).toI (aN a 3).toI&&(decide ((aN a 4).toL.length<=24)&&(aN a 4).toL.all qz))
noncomputable def FE(X:Nat->List Val->Val):Nat->List Val->Val:=λi a=>match i with
 |726=>pW X a
 |763=>SJ a
 |764=>YC a
 |810=>GL a
 |811=>Qe a
 |812=>FI a
 |813=>Fh a
 |820=>yw a
 |824=>Gg a
 |825=>LH a
 |826=>AU a
 |827=>yg a
 |828=>jz X a
 |829=>Am a
 |830=>MA a
 |831=>xd a
 |832=>Ja a
 |833=>Is X a
 |834=>Fx a
 |835=>VG a
 |836=>uc X a
 |837=>sG X a
 |838=>dX8 a
 |839=>e14 a
 |840=>e15 a
 |842=> .vi (sR (aN a 0).toL)
 |843=> .vi (sE (aN a 0).toL)
 |850=>Xm a
 |851=>YH a
 |852=>Ey jP (aN a 4).toL (aN a 7).toL
 |853=>dW5 a
 |854=>dW7 a
 |855=>UV a
 |856=>FJ a
 |857=>yq a
 |858=>qd a
 |859=>kW a
 |860=>Xh a
 |861=>Vr a
 |862=>SU a
 |863=>Um a
 |864=>YM a
 |865=>ZL a
 |866=>NT a
 |867=>xo a
 |868=>UP a
 |869=>dX6 a
 |870=>dV8 a
 |871=>VF a
 |872=>CQ X a
 |873=>ZI a
 |874=>ku (U4 (λi=>[W3 (aO (aN a 5).toL i)]) (aN a 5).toL.length) (aN a 5).toL.length
 |875=>SZ a
 |_=>X i a
section
variable{X Y:Nat->List Val->Val}(h: ∀a,X 490 a=Y 490 a)
include h
theorem dy6(w:List Val):cj X w=cj Y w:=by grind[cj]
theorem dy7(w:List Val):eY X w=eY Y w:=by grind[eY,dy6]
theorem EU(a b c d:Val)(l:List Val): ∀i,dM X a b c d l i=dM Y a b c d l i
 |0=>rfl
 |i+1=>by unfold dM;rw[EU a b c d l i,dy7 h]
theorem LI(a b c d:Val)(l:List Val)(i:Nat):dY X a b c d l i=dY Y a b c d l i:=by grind[dY,EU]
theorem Lz(a b c d:Val)(l:List Val):jZ X a b c d l=jZ Y a b c d l:=by
 unfold jZ;rw[show(λi=>decide (dY X a b c d l i≠0))=λi=>decide (dY Y a b c d l i≠0)from funext λi=>by rw[LI h]]
theorem dy8(a:List Val):CQ X a=CQ Y a:=by
 unfold CQ yM;rw[Lz h];grind[jZ,aN,V0,dM,EU,dY,LI]
theorem WD(a:List Val):pW X a=pW Y a:=by grind[pW]
theorem dy9(a:List Val):sG X a=sG Y a:=by
 unfold sG Bm;grind[Lz,LI]
theorem dz0(a:List Val):uc X a=uc Y a:=by
 unfold uc mz;grind[Lz,EU,WD]
end
theorem dR0{X:Nat->List Val->Val}(h:XOk X):XOk (FE X):=⟨h.x431,h.x491,h.x490,h.x490u,h.x3⟩
end Go.Ev.S9
