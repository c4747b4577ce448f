import Derived.Test.YtcmjiepodnicoaaGreatEP34
set_option linter.unusedSimpArgs false
set_option linter.unusedVariables false
namespace Go.Ev.S9
open Go Go.Ev
theorem Zq{A B:List PaneM}(hA:A.Pairwise (λp q=>gz p q=true))(hB:B.Pairwise (λp q=>gz p q=true))(h: ∀p,p∈A↔p∈B):A=B:=by
 have nd: ∀{C:List PaneM},C.Pairwise (λp q=>gz p q=true)->C.Nodup:=λhC=>by
  rw[B9];refine G7 ?_ hC;rintro p q c rfl;rw[SD]at c;cases c
 refine W7 (le:=λp q=>gz p q=true) (λa b _ _ h1 h2=> ?_) hA hB ((I8 (nd hA) (nd hB)).2 h);rw[Ph h1]at h2;cases h2
theorem bc8{l:List Val}(h:((S7.srt false l).map Z6).Nodup):((S7.srt false l).map Z6).Pairwise (λp q=>gz p q=true):=by
 have h1:((S7.srt false l).map Z6).Pairwise (λp q=>gz q p=false):=G6.2 (S7.srt_sorted false l);rw[B9]at h;refine G7 ?_ (h1.and h);rintro p q ⟨a,b⟩;cases c:gz p q with
 |true=>rfl
 |false=>exact absurd (Pm c a) b
theorem c01{m:List Val}(nd:(m.map Z6).Nodup): ∀A B:List Val,(∀x∈A,x∈m)->(∀x∈B,x∈m)->A.map Z6=B.map Z6->A=B
 | [],[],_,_,_=>rfl
 | [],b::B,_,_,h=>(by cases h)
 |a::A,[],_,_,h=>(by cases h)
 |a::A,b::B,hA,hB,h=>by
  rw[l9,l9,List.cons.injEq]at h;rw[Tv nd (hA a B8) (hB b B8) h.1,c01 nd A B (λx hx=>hA x (y7 _ hx)) (λx hx=>hB x (y7 _ hx)) h.2]
theorem cA1{x y:Val}(hx:nrm x)(hy:nrm y)(h:Z6 x=Z6 y)(h2:rA x=rA y):x=y:=by
 obtain⟨a,b,c,A,rfl,_⟩:=hx;obtain⟨a',b',c',A',rfl,_⟩:=hy;rw[CE,CE,PaneM.mk.injEq]at h;rw[Nh,Nh]at h2;obtain⟨rfl,rfl,rfl⟩:=h;rw[h2]
theorem cQ0{x y:Val}(hx:nrm x)(hy:nrm y)(h:fJ x=fJ y):x=y:=by
 obtain⟨⟨a,b,c⟩,d,e,f,g⟩:=(CG _ _).1 h;refine cA1 hx hy ?_ ?_
 .show(⟨_,_,_⟩:PaneM)=⟨_,_,_⟩;rw[a,b,c]
 .show(_,_,_,_)=(_,_,_,_);unfold ci;rw[d,e,f,g]
theorem cQ1{k s l g ek t v:Int}{ks:List UInt8}{m m':List Val}(hR:cV k s l g=true){evs:List dG}(hT:TOK (eH k s l g) evs m)(hm:m.length<=400)(hev:fT evs)(hv:cP v)(he:dC (cL k s l g m ek ks t v)=0)(hP:eQ F0 (cL k s l g m ek ks t v)= .vl m')(hT':TOK (eH k s l g) (evs++[(ks,t,v)]) m'):
 (eF (cL k s l g m ek ks t v)).map Z6=(qn (S7.srt false m) (S7.srt false m')).map Z6/\eS F0 (cL k s l g m ek ks t v)= .vl (lZ (S7.srt false m) (S7.srt false m')):=by
 obtain⟨R,r1,r2,r3,r4,g1,g2⟩:=cN4 pe hR hT hm hev hv he;obtain⟨R',m2,q1,q2,q3,q4,q5,q6,q7⟩:=Bs pe hR hT hm hev hv he;rw[r1,Val.vl.injEq]at q1;subst q1;rw[hP,Val.vl.injEq]at q2;subst q2;have hPm:m'=R.foldl set1 ((eF (cL k s l g m ek ks t v)).foldl mS m):=by
  have:=hP;rw[Jq,b9 (by rw[he];simp),r1,a65,bW8,UA,Val.vl.injEq]at this;exact this.symm
 generalize eF (cL k s l g m ek ks t v)=G at*
 have sub: ∀{l:List Val} {p:Val->Bool},(l.map Z6).Nodup->(((S7.srt false l).filter p).map Z6).Pairwise (λp q=>gz p q=true):=λ{l p} h=>
  (bc8 ((((S7.srt_perm false l).map Z6).nodup_iff).2 h)).sublist (T6.map _)
 refine⟨Zq g1 (sub hT.nd) λp=> ?_,?_⟩
 .constructor
  .intro hp;obtain⟨q,hq,rfl⟩:=j7.1 hp;cases hl:dX m (Z6 q)with
   |none=>exact absurd hl (g2 q hq)
   |some c=>
    obtain⟨r,hr,e,_⟩:=wU hl;refine j7.2 ⟨r,l6.2 ⟨S7.srt_mem.2 hr,?_⟩,e⟩;rw[y6,F6];intro y hy c;have hy:=uq hT'.nd (S7.srt_mem.1 hy);rw[j5 c,e,(q7 q hq).1]at hy;cases hy
  .intro hp;obtain⟨r,hr,rfl⟩:=j7.1 hp;obtain⟨hr,hn⟩:=l6.1 hr;have hr:=S7.srt_mem.1 hr;refine Decidable.byContradiction λhg=> ?_
   have h1:=uq hT.nd hr;have h2:dX m' (Z6 r)≠none:=by
    rw[hPm];by_cases hpr:Z6 r∈R.map Z6
    .obtain⟨y,hy,e⟩:=j7.1 hpr;rw[<-e,Lk R _ r2 hy];simp
    .rw[Ns R _ hpr,Oq _ G m hT.nd,b9 hg,h1];simp
   cases hl:dX m' (Z6 r)with
   |none=>exact h2 hl
   |some c=>
    obtain⟨y,hy,e,_⟩:=wU hl;rw[y6,F6]at hn;exact hn y (S7.srt_mem.2 hy) (c9 e)
 .rw[r1];have inm: ∀r∈R,r∈m':=λr hr=>by
   obtain⟨h1,h2⟩:=q6 r hr;obtain⟨y,hy,e1,e2⟩:=wU h2;rw[cA1 h1 (hT'.nrm y hy) e1.symm e2.symm];exact hy
  refine congrArg Val.vl (c01 hT'.nd R _ inm (λx hx=>S7.srt_mem.1 (l6.1 hx).1) (Zq ?_ (sub hT'.nd) λp=> ?_))
  .rcases r4 with h|⟨L,h⟩
   .match R,h with
    | [],_=>exact .nil
    | [x],_=>simp
   .have h:Val.vl R= .vl (S7.srt false L):=h;rw[Val.vl.injEq]at h;rw[h]at r2⊢;exact bc8 r2
  .constructor
   .intro hp;obtain⟨r,hr,rfl⟩:=j7.1 hp;refine j7.2 ⟨r,l6.2 ⟨S7.srt_mem.2 (inm r hr),?_⟩,rfl⟩;rw[y6,F6];intro y hy c;have hy:=S7.srt_mem.1 hy;have e:=cQ0 (hT.nrm y hy) (hT'.nrm r (inm r hr)) (j5 c);subst e;have c1:=(wC hT hy).2.1;have c2:=(wC hT' (inm y hr)).2.1;obtain⟨i1,i2,i3⟩:=r3 y hr;have hin:lI y (ks,t,v)=true:=Tb.inP_iff.2 ⟨i1.symm,i2,i3⟩;rw[C5,k5,W2 hin]at c2;simp at c2;omega
   .intro hp;obtain⟨r,hr,rfl⟩:=j7.1 hp;obtain⟨hr,hn⟩:=l6.1 hr;have hr:=S7.srt_mem.1 hr;rw[y6,F6]at hn;rw[hPm]at hr;rcases Ng _ _ r hr with h|⟨x,hx,rfl⟩
    .exact absurd (c9 rfl) (hn r (S7.srt_mem.2 ((LK G m).subset h)))
    .exact j7.2 ⟨x,hx,rfl⟩
def jr(was:List Val)(y:Val):Nat->Bool
 |0=>false
 |k+1=>jr was y k||decide (fJ (cg was k)=fJ y)
theorem c02(was:List Val)(y:Val): ∀k,k<=was.length->jr was y k=gJ (was.take k) y
 |0,_=>rfl
 |k+1,h=>by
  rw[jr,c02 was y k (by omega),gJ,gJ,yk (by omega),List.any_append];simp
theorem dl3(was:List Val)(y:Val):jr was y was.length=gJ was y:=by rw[c02 _ _ _ (e9 _),A8]
theorem dl4:XJ=Ch 2000 (zl 0) (zH 2000 (Og 0 2001)):=rfl
theorem dl5{I:Opq}(hf: ∀a,I.f 923 a=YI a)(hn:(I.w 0).toL.length<=400)(h7:I.w 0= .vl (I.w 0).toL)(h8: ∀r∈(I.w 0).toL,cQ r=r):Z0 T_lrows I=some (0,[I.w 0]):=by
 generalize hl:(I.w 0).toL=l at*
 have hg:cB (λi=>[cQ (cg l i)]) l.length=l:=by
  rw[Bi cQ l];exact(s9 (g:=id) h8).trans (G5 _)
 have e0:bZ I JB=cA (0,[.vi l.length,.vi l.length,.vl l]):=by
  show I.f 923 [.vi 0,.vi 0,.vl [],.vi 0,.vi (I.w 0).toL.length,I.w 0]=_;rw[hf];show mP (cB (λi=>[cQ (cg (I.w 0).toL i)]) (I.w 0).toL.length) (I.w 0).toL.length=_;rw[hl,hg];rfl
 have d1:bZ I Kl= .vl l:=by
  show co (bZ I JB).toL 1 2=_;rw[e0];rfl
 unfold T_lrows;refine Z5 (r:=(0,[.vi l.length,.vi l.length,.vl l])) ?_ e0 (JX e0 d1 ?_)
 .rw[dl4];have:=cX9 (I:=I) (v0:=2000) (N:= (zl 0)) (row:=Og 0 2001) (f:=λi=>cQ (cg l i)) (n:=l.length) (by omega) (λvs=> ?_) (λi a acc hi=> ?_)
  .rw[hg]at this;exact this
  .rw[Z8,dR,cU _ _ _ (by omega),hl]
  .rw[cO0 (gr ..),cU _ _ _ (by omega),hl]
 .show some (0,[bZ I Kl])=_;rw[d1,h7]
theorem c03(a b:Val):Z6 a=Z6 b↔(Z7 a 0).toS=(Z7 b 0).toS/\(Z7 a 1).toI=(Z7 b 1).toI/\(Z7 a 2).toI=(Z7 b 2).toI:=by
 unfold Z6;rw[PaneM.mk.injEq]
theorem dE8{a b:List Val}(h:a.length=b.length):(List.range a.length).any (ue a b)= !decide (a.map Z6=b.map Z6):=by
 by_cases c:a.map Z6=b.map Z6
 .rw[c9 c,E9,F6];intro i hi e;have hi:=r9.1 hi;unfold ue at e;rw[nC hi,nC (show i<b.length by omega)]at e;have:(a.map Z6)[i]? =(b.map Z6)[i]? :=by rw[c]
  rw[B0,B0,l7 hi,l7 (show i<b.length by omega)]at this;simp at this;simp[this]at e
 .rw[i6 c,P8,I6];refine Decidable.byContradiction λd=>c (J5 (by simp[h]) λi h1 h2=> ?_)
  rw[J3,J3];rw[k6]at h1 h2;refine Decidable.byContradiction λe=>d ⟨i,r9.2 h1,?_⟩
  unfold ue;rw[nC h1,nC h2,i6 e];rfl
theorem t_samePanes{I:Opq}(hf: ∀a,I.f 924 a=WU a)(hn:(I.w 0).toL.length<=400):Z0 T_samePanes I=some (0,[Vx [I.w 0,I.w 1]]):=by
 have hv:Vx [I.w 0,I.w 1]= .vb (decide ((I.w 0).toL.map Z6=(I.w 1).toL.map Z6)):=rfl;rw[hv];unfold T_samePanes;by_cases hl:(I.w 0).toL.length=(I.w 1).toL.length
 .have e0:I.f 924 [.vb false,.vi 0,.vi 0,.vi (I.w 0).toL.length,I.w 0,.vi 0,.vi (I.w 1).toL.length,I.w 1]=cA (gZ (.vb false) (λk=>[.vb false,.vi k]) (ue (I.w 0).toL (I.w 1).toL) (I.w 0).toL.length):=by rw[hf];rfl
  have hs:=GP (x:= .vb false) (px:=λk=>[.vb false,.vi k]) (bad:=ue (I.w 0).toL (I.w 1).toL) (n:=(I.w 0).toL.length);refine cE (by rw[eZ,Z8,Z8,dR,dR,hl];simp) (Z5 (r:=gZ (.vb false) (λk=>[.vb false,.vi k]) (ue (I.w 0).toL (I.w 1).toL) (I.w 0).toL.length) ?_ e0 ?_)
  .refine xu (λi hi hb=> ?_) (λi hi hb=> ?_) ?_<;>unfold e77
   .have p1:(i:Int)<((I.w 0).toL.length:Int):=by omega
    have p2:(i:Int)<((I.w 1).toL.length:Int):=by omega
    have p3:=eJ hi (by omega);have e:Z6 (cg (I.w 0).toL i)=Z6 (cg (I.w 1).toL i):=by unfold ue at hb;simpa using hb
    obtain⟨q1,q2,q3⟩:=(c03 _ _).1 e;have r0: ∀(l:List Val) (j:Nat),co l (i:Int) (j:Int)=Z7 (cg l i) j:=λl j=>rfl
    have r1:=λl=>r0 l 0
    have r2:=λl=>r0 l 1
    have r3:=λl=>r0 l 2
    simp at r1 r2 r3;simp[Z0,ck,bZ,dB,cK,cN,p1,p2,p3,r1,r2,r3,q1,q2,q3]
   .have p1:(i:Int)<((I.w 0).toL.length:Int):=by omega
    have p2:(i:Int)<((I.w 1).toL.length:Int):=by omega
    have e: ¬Z6 (cg (I.w 0).toL i)=Z6 (cg (I.w 1).toL i):=by unfold ue at hb;simpa using hb
    rw[c03]at e;have r0: ∀(l:List Val) (j:Nat),co l (i:Int) (j:Int)=Z7 (cg l i) j:=λl j=>rfl
    have r1:=λl=>r0 l 0
    have r2:=λl=>r0 l 1
    have r3:=λl=>r0 l 2
    simp at r1 r2 r3;simp[Z0,ck,bZ,dB,cK,cN,p1,p2,r1,r2,r3];simpa using e
   .simp[Z0,ck,bZ,dB,cK,cN]
  .rw[hs]at e0⊢;rw[dE8 hl]at e0⊢;by_cases c:(I.w 0).toL.map Z6=(I.w 1).toL.map Z6
   .rw[c9 c]at e0⊢;rfl
   .rw[i6 c]at e0⊢;show some (0,[co (I.f 924 [.vb false,.vi 0,.vi 0,.vi (I.w 0).toL.length,I.w 0,.vi 0,.vi (I.w 1).toL.length,I.w 1]).toL 1 0])=_;rw[e0];rfl
 .have:(I.w 0).toL.map Z6≠(I.w 1).toL.map Z6:=λe=>hl (by have:=congrArg List.length e;simpa using this)
  rw[i6 this];exact cG (by rw[eZ,Z8,Z8,dR,dR];simp;omega) rfl
def dY8(q:SX)(k:Nat):SX:= .op .row [cj q (.va k) 0,cj q (.va k) 1,cj q (.va k) 2]
def dE9(q:SX)(k:Nat):SX:= .op .row [cj q (.va k) 0,cj q (.va k) 1,cj q (.va k) 2,cj q (.va k) 3,cj q (.va k) 4,cj q (.va k) 5,cj q (.va k) 6]
def ZY:SX:= .app 827 [ef,cj dE aR 0,cj dE aR 1,cj dE aR 2]
theorem dl6:Sn=Ch 2000 (zL dE) (.need (zb (zL ef) 1000000) (.ite (dP ZY) (zH 2000 (dY8 dE 2001)) (Fl 2000))):=rfl
def MU:List SX:=[zL dE,dE,zL ef,ef,wt,sM,aV,aW,aR]
def SO:SX:= .app 922 ([.cb false,aM]++MU)
theorem dl7:Qh= .ite (zs aR (zL ef)) (.loop ⟨922,[.cb false,aM],4000,MU⟩ xO [.ite (dP (zo SO 0)) (.need (zp aR) (zH 2000 (dE9 ef 2001))) (Fl 2000)]) (.ret 1 [aV,aR,aW]):=rfl
section
variable{I:Opq}{W N:List Val}
theorem uR{I:Opq}{q:SX}{l:List Val}{k i:Nat}(j:Nat)(hq:bZ I q= .vl l)(h:I.w k= .vi i):bZ I (.op .lget [q,.va k,.ci j])=Z7 (cg l i) j:=by
 show co (bZ I q).toL (I.w k).toI (j:Int)=_;rw[hq,h];rfl
theorem dZ0(f827: ∀a,I.f 827 a=wT a)(D2: ∀vs,bZ (I.upd 2000 vs) dE= .vl W)(D3: ∀vs,bZ (I.upd 2000 vs) ef= .vl N)(hW:W.length<=400)(hN:N.length<=400):
 cO (λvs=>Z0 Sn (I.upd 2000 vs)) [.vi 0,.vi 0,.vl []]=some (0,[.vi ((qn W N).map eP).length,.vi W.length,.vl ((qn W N).map eP)]):=by
 have hg:cB (λi=>bif !N.any (λy=>decide (Z6 y=Z6 (cg W i)))then [eP (cg W i)]else []) W.length=(qn W N).map eP:=
  (Cv (λr=>bif !N.any (λy=>decide (Z6 y=Z6 r))then [eP r]else []) W).trans (Dm _ eP W)
 rw[<-hg,dl6];refine Sl (by omega) (λi=>by cases (!N.any λy=>decide (Z6 y=Z6 (cg W i)))<;>simp) (λvs=>by rw[Z8,D2];rfl) λi acc hi ha=> ?_
 have D2:=D2 [.vi acc.length,.vi i,.vl acc];have D3:=D3 [.vi acc.length,.vi i,.vl acc];have u1:=gr I 2000 (.vi acc.length) (.vi i) (.vl acc);have l0:=uR 0 D2 u1;have l1:=uR 1 D2 u1;have l2:=uR 2 D2 u1;refine W8 (by rw[cI,Z8,D3,cF];exact c9 (by show(N.length:Int)<=1000000;omega)) ?_;have hb:dB (I.upd 2000 [.vi acc.length,.vi i,.vl acc]) (dP ZY)= !N.any λy=>decide (Z6 y=Z6 (cg W i)):=by
  rw[fm];show(!((I.upd 2000 _).f 827 [bZ _ ef,bZ _ (cj dE aR 0),bZ _ (cj dE aR 1),bZ _ (cj dE aR 2)]).toB)=_;rw[eV,f827,D3];show(!N.any λr=>decide (Z6 r=⟨(bZ _ (cj dE aR 0)).toS,(bZ _ (cj dE aR 1)).toI,(bZ _ (cj dE aR 2)).toI⟩))=_;rw[show(bZ (I.upd 2000 [.vi acc.length,.vi i,.vl acc]) (cj dE aR 0))=_ from l0,show(bZ (I.upd 2000 [.vi acc.length,.vi i,.vl acc]) (cj dE aR 1))=_ from l1,show(bZ (I.upd 2000 [.vi acc.length,.vi i,.vl acc]) (cj dE aR 2))=_ from l2];rfl
 cases h: !N.any λy=>decide (Z6 y=Z6 (cg W i))with
 |true=>
  refine cG (hb.trans h) (Lw (lB ..) (gr ..) (kW ..) ?_ (by omega) (by omega));show Val.vl [bZ _ (cj dE aR 0),bZ _ (cj dE aR 1),bZ _ (cj dE aR 2)]=_;rw[show(bZ (I.upd 2000 [.vi acc.length,.vi i,.vl acc]) (cj dE aR 0))=_ from l0,show(bZ (I.upd 2000 [.vi acc.length,.vi i,.vl acc]) (cj dE aR 1))=_ from l1,show(bZ (I.upd 2000 [.vi acc.length,.vi i,.vl acc]) (cj dE aR 2))=_ from l2];rfl
 |false=>
  rw[cond_false,s8];exact cE (hb.trans h) (PY (lB ..) (gr ..) (kW ..) (by omega))
theorem dZ1{i:Nat}(D2: ∀vs,bZ (I.upd 4000 vs) dE= .vl W)(D3: ∀vs,bZ (I.upd 4000 vs) ef= .vl N)(hW:W.length<=400)(h1:I.w 2001= .vi i)(hi:i<N.length):
 cO (λvs=>Z0 xO (I.upd 4000 vs)) [.vb false,.vi 0]=some (0,[.vb (gJ W (cg N i)),.vi W.length]):=by
 rw[<-dl3];refine eE (st:=λk=>[.vb (jr W (cg N i) k),.vi k]) (n:=W.length) (λk hk=> ?_) ?_
 .have D2:=D2 [.vb (jr W (cg N i) k),.vi k];have D3:=D3 [.vb (jr W (cg N i) k),.vi k];have v0:(I.upd 4000 [.vb (jr W (cg N i) k),.vi k]).w 4000= .vb (jr W (cg N i) k):=by rw[cN];simp
  have v1:(I.upd 4000 [.vb (jr W (cg N i) k),.vi k]).w 4001= .vi k:=by rw[cN];simp
  have w1:(I.upd 4000 [.vb (jr W (cg N i) k),.vi k]).w 2001= .vi i:=by rw[cU _ _ _ (by omega),h1]
  show Z0 xO (I.upd 4000 [.vb (jr W (cg N i) k),.vi k])=some (0,[.vb (jr W (cg N i) k||decide (fJ (cg W k)=fJ (cg N i))),.vi (k+1:Nat)]);generalize I.upd 4000 [.vb (jr W (cg N i) k),.vi k]=aa at*
  have inc:=eJ hk (by omega);have a:=λj=>uR j D2 v1
  have b:=λj=>uR j D3 w1
  unfold xO;refine cG (by rw[cT,Z8,cy,v1,D2];exact c9 (by show(k:Int)<(W.length:Int);omega)) ?_;cases ht:jr W (cg N i) k with
  |true=>
   rw[ht]at v0;refine cG (by show(aa.w 4000).toB=true;rw[v0];rfl) ?_;show some (0,[Val.vb true,Val.vi (cn .add .i64 (aa.w 4001).toI 1)])=_;rw[v1,a09,inc];rfl
  |false=>
   rw[ht]at v0;refine cE (by show(aa.w 4000).toB=false;rw[v0];rfl) (W8 ?_ (W8 ?_ ?_))
   .rw[cI,cF,cy,v1];exact c9 (by show(0:Int)<=(k:Int);omega)
   .rw[cX,cI,cF,cy,w1];show(decide ((0:Int)<=(i:Int))&&dB aa (zs aR (zL ef)))=true;rw[cT,Z8,cy,w1,D3];exact and2 (c9 (by omega)) (c9 (by show(i:Int)<(N.length:Int);omega))
   .have hv: ∀c x:SX,aa.w 4000= .vb false->bZ aa (.op .ite [bu,c,x])=bZ aa x:=λc x h=>by
     show(bif (aa.w 4000).toB then bZ aa c else bZ aa x)=_;rw[h];rfl
    have he: ∀j:Nat,dB aa (cJ (.op .lget [dE,bg,.ci j]) (.op .lget [ef,aR,.ci j]))=decide ((Z7 (cg W k) j).toI=(Z7 (cg N i) j).toI):=λj=>by rw[eo,a,b]
    have h0:dB aa (.op (.scmp .eql) [cj dE bg 0,cj ef aR 0])=decide ((Z7 (cg W k) 0).toS=(Z7 (cg N i) 0).toS):=by
     show decide ((bZ aa (.op .lget [dE,bg,.ci (0:Nat)])).toS=(bZ aa (.op .lget [ef,aR,.ci (0:Nat)])).toS)=_;rw[a,b]
    have hm:(decide ((Z7 (cg W k) 0).toS=(Z7 (cg N i) 0).toS)&&(decide ((Z7 (cg W k) 1).toI=(Z7 (cg N i) 1).toI)&&decide ((Z7 (cg W k) 2).toI=(Z7 (cg N i) 2).toI))&&(decide ((Z7 (cg W k) 3).toI=(Z7 (cg N i) 3).toI)&&(decide ((Z7 (cg W k) 4).toI=(Z7 (cg N i) 4).toI)&&(decide ((Z7 (cg W k) 5).toI=(Z7 (cg N i) 5).toI)&&decide ((Z7 (cg W k) 6).toI=(Z7 (cg N i) 6).toI)))))=decide (fJ (cg W k)=fJ (cg N i)):=by
     rw[C0];simp only[j6,decide_eq_true_eq,CG]
    have e1:=he 1;have e2:=he 2;have e3:=he 3;have e4:=he 4;have e5:=he 5;have e6:=he 6;show some (0,[bZ aa (.op .ite [bu,.cb true,_]),Val.vi (cn .add .i64 (aa.w 4001).toI 1)])=_;rw[v1,a09,inc,hv _ _ v0,<-hm,B2];refine congrArg (λx=>some (0,[x,Val.vi ((k+1:Nat):Int)])) ?_;show Val.vb ((dB aa _&&(dB aa _&&dB aa _))&&(dB aa _&&(dB aa _&&(dB aa _&&dB aa _))))=_;rw[<-h0,<-e1,<-e2,<-e3,<-e4,<-e5,<-e6];rfl
 .have D2:=D2 [.vb (jr W (cg N i) W.length),.vi W.length];have v0:(I.upd 4000 [.vb (jr W (cg N i) W.length),.vi W.length]).w 4000= .vb (jr W (cg N i) W.length):=by rw[cN];simp
  have v1:(I.upd 4000 [.vb (jr W (cg N i) W.length),.vi W.length]).w 4001= .vi W.length:=by rw[cN];simp
  show Z0 xO (I.upd 4000 [.vb (jr W (cg N i) W.length),.vi W.length])=_;generalize I.upd 4000 [.vb (jr W (cg N i) W.length),.vi W.length]=aa at*
  unfold xO;refine cE (by rw[cT,Z8,cy,v1,D2];exact i6 (by show¬(W.length:Int)<(W.length:Int);omega)) ?_;show some (1,[aa.w 4000,aa.w 4001])=_;rw[v0,v1]
end
end Go.Ev.S9
namespace Go.Ev.S9
open Go Go.Ev
section
variable{I:Opq}{W N:List Val}
theorem cA2{I:Opq}{q:SX}{l:List Val}{k i:Nat}(hq:bZ I q= .vl l)(h:I.w k= .vi i):bZ I (dE9 q k)=cQ (cg l i):=by
 have a:=λj=>uR (I:=I) j hq h
 have a0:=a 0;have a1:=a 1;have a2:=a 2;have a3:=a 3;have a4:=a 4;have a5:=a 5;have a6:=a 6;show Val.vl [bZ I _,bZ I _,bZ I _,bZ I _,bZ I _,bZ I _,bZ I _]= .vl [_,_,_,_,_,_,_];rw[<-a0,<-a1,<-a2,<-a3,<-a4,<-a5,<-a6];rfl
theorem dZ2(f922: ∀a,I.f 922 a=JL a)(D2: ∀vs,bZ (I.upd 2000 vs) dE= .vl W)(D3: ∀vs,bZ (I.upd 2000 vs) ef= .vl N)(E2: ∀u vs,bZ ((I.upd 2000 u).upd 4000 vs) dE= .vl W)(E3: ∀u vs,bZ ((I.upd 2000 u).upd 4000 vs) ef= .vl N)(hW:W.length<=400)(hN:N.length<=400):
 cO (λvs=>Z0 Qh (I.upd 2000 vs)) [.vi 0,.vi 0,.vl []]=some (0,[.vi ((lZ W N).map cQ).length,.vi N.length,.vl ((lZ W N).map cQ)]):=by
 have hg:cB (λi=>bif !gJ W (cg N i)then [cQ (cg N i)]else []) N.length=(lZ W N).map cQ:=
  (Cv (λr=>bif !gJ W r then [cQ r]else []) N).trans (Dm _ cQ N)
 have hl: ∀i,(cB (λi=>bif !gJ W (cg N i)then [cQ (cg N i)]else []) i).length<=i:=λi=>by
  have:=jD (g:=λi=>bif !gJ W (cg N i)then [cQ (cg N i)]else []) (m:=1) (λi=>by cases (!gJ W (cg N i))<;>simp) i;omega
 rw[<-hg,dl7];refine eE (st:=λi=>[.vi (cB (λi=>bif !gJ W (cg N i)then [cQ (cg N i)]else []) i).length,.vi i,.vl (cB (λi=>bif !gJ W (cg N i)then [cQ (cg N i)]else []) i)]) (n:=N.length) (λi hi=> ?_) ?_
 .have hacc:=hl i;show Z0 _ (I.upd 2000 [.vi (cB (λi=>bif !gJ W (cg N i)then [cQ (cg N i)]else []) i).length,.vi i,.vl (cB (λi=>bif !gJ W (cg N i)then [cQ (cg N i)]else []) i)])=some (0,[.vi (cB (λi=>bif !gJ W (cg N i)then [cQ (cg N i)]else []) i++bif !gJ W (cg N i)then [cQ (cg N i)]else []).length,.vi (i+1:Nat),.vl (cB (λi=>bif !gJ W (cg N i)then [cQ (cg N i)]else []) i++bif !gJ W (cg N i)then [cQ (cg N i)]else [])]);generalize cB (λi=>bif !gJ W (cg N i)then [cQ (cg N i)]else []) i=acc at*
  have D2:=D2 [.vi acc.length,.vi i,.vl acc];have D3:=D3 [.vi acc.length,.vi i,.vl acc];have E2:=E2 [.vi acc.length,.vi i,.vl acc];have E3:=E3 [.vi acc.length,.vi i,.vl acc];have u0:=lB I 2000 (.vi acc.length) (.vi i) (.vl acc);have u1:=gr I 2000 (.vi acc.length) (.vi i) (.vl acc);have u2:=kW I 2000 (.vi acc.length) (.vi i) (.vl acc);have hf: ∀a,(I.upd 2000 [.vi acc.length,.vi i,.vl acc]).f 922 a=JL a:=λa=>by rw[eV];exact f922 a
  generalize I.upd 2000 [.vi acc.length,.vi i,.vl acc]=aa at*
  have e:aa.f 922 (ck aa ([.cb false,aM]++MU))=cA (0,[.vb (gJ W (cg N i)),.vi W.length]):=by
   rw[hf];show cA (0,[.vb (gJ (bZ aa dE).toL (cg (bZ aa ef).toL (aa.w 2001).toI.toNat)),.vi (bZ aa dE).toL.length])=_;rw[D2,D3,u1];rfl
  refine cG (by rw[cT,Z8,cy,u1,D3];exact c9 (by show(i:Int)<(N.length:Int);omega)) (Z5 (r:=(0,[.vb (gJ W (cg N i)),.vi W.length])) (dZ1 E2 E3 hW u1 hi) e ?_);have hq:dB aa (dP (zo SO 0))= !gJ W (cg N i):=by
   rw[fm];show(!(co (aa.f 922 (ck aa ([.cb false,aM]++MU))).toL 1 0).toB)=_;rw[e];rfl
  show Z0 (.ite (dP (zo SO 0)) _ _) aa=_;cases h: !gJ W (cg N i)with
  |true=>
   refine cG (hq.trans h) (W8 (by rw[cI,cF,cy,u1];exact c9 (by show(0:Int)<=(i:Int);omega)) (Lw u0 u1 u2 (cA2 D3 u1) (by omega) (by omega)))
  |false=>
   rw[cond_false,s8];exact cE (hq.trans h) (PY u0 u1 u2 (by omega))
 .show Z0 _ (I.upd 2000 [.vi (cB (λi=>bif !gJ W (cg N i)then [cQ (cg N i)]else []) N.length).length,.vi N.length,.vl (cB (λi=>bif !gJ W (cg N i)then [cQ (cg N i)]else []) N.length)])=_;refine cE (by rw[cT,Z8,cy,D3,gr];exact i6 (by show¬(N.length:Int)<(N.length:Int);omega)) ?_;show some (1,[(I.upd 2000 _).w 2000,(I.upd 2000 _).w (2000+1),(I.upd 2000 _).w (2000+2)])=_;rw[lB,gr,kW]
end
theorem dF0{X:Nat->List Val->Val}{I:Opq}(f701: ∀a,I.f 701 a=e72 a)(f827: ∀a,I.f 827 a=wT a)(f828: ∀a,I.f 828 a=oL X a)(f829: ∀a,I.f 829 a=Hf a)(f920: ∀a,I.f 920 a=Wr a)(f921: ∀a,I.f 921 a=e79 a)(f922: ∀a,I.f 922 a=JL a){a:List Val}(ha:a=[I.w 0,I.w 1,I.w 2,I.w 3,I.w 4,I.w 5,I.w 6,I.w 7,I.w 8])
 (hn:(I.w 4).toL.length<=99) (h840:(I.f 840 [I.w 0,I.w 1,I.w 2,I.w 3,I.w 4]).toB=true) (h841:dH (I.w 5).toI (I.w 6).toS (I.w 7).toI (I.w 8).toI=0->(I.w 5).toI=1->(I.f 840 [I.w 0,I.w 1,I.w 2,I.w 3,.vl ((I.w 4).toL++[xo a])]).toB=true)
 (hX: ∀v,∃l,X 490 [v]= .vl l) (hW:(lQ X a).length<=400) (hN:lv a=0->(lC X a).length<=400):
 Z0 T_rTry I=some (0,[PW a,zX X a,FX X a]):=by
 have d1:bZ I ul= .vl ((I.w 4).toL++[xo a]):=by rw[ha];rfl
 have d0:bZ I LU= .vi (dH (I.w 5).toI (I.w 6).toS (I.w 7).toI (I.w 8).toI):=f701 _;have hE:lv a=if dH (I.w 5).toI (I.w 6).toS (I.w 7).toI (I.w 8).toI≠0 then dH (I.w 5).toI (I.w 6).toS (I.w 7).toI (I.w 8).toI else if(I.w 5).toI≠1 then 2 else if gg (I.w 0).toI (I.w 1).toI (I.w 2).toI (I.w 3).toI ((I.w 4).toL++[xo a])=true then 0 else 30:=by rw[ha];rfl
 have out: ∀e:Int,e≠0->lv a=e->some (0,[Val.vi e,.vl [],.vl []])=some (0,[PW a,zX X a,FX X a]):=λe he h=>by
  show _=some (0,[Val.vi (lv a),Val.vl (if lv a=0 then _ else []),Val.vl (if lv a=0 then _ else [])]);rw[h,b9 he,b9 he]
 unfold T_rTry;by_cases c0:dH (I.w 5).toI (I.w 6).toS (I.w 7).toI (I.w 8).toI=0
 .have h841:=h841 c0;rw[c0,b9 (by simp)]at hE;refine cE (by rw[eZ,d0,c0];rfl) ?_;by_cases c1:(I.w 5).toI=1
  .have h841:=h841 c1;rw[b9 (by omega)]at hE;refine cE (by rw[eZ,cy,c1];rfl) (W8 ?_ (W8 ?_ (W8 ?_ ?_)))
   .show dB I (zb (zl 4) 1000000)=true;rw[cI,Z8,dR,cF];exact c9 (by omega)
   .rw[cI,Z8,d1,cF,a65,k5];exact c9 (by show(((I.w 4).toL.length+1:Nat):Int)<=1000000;omega)
   .rw[cX,cI,Z8,d1,cF,a65,k5];refine and2 (c9 (by show(((I.w 4).toL.length+1:Nat):Int)<=100;omega)) ?_;show(I.f 840 [I.w 0,I.w 1,I.w 2,I.w 3,bZ I ul]).toB=true;rw[d1];exact h841
   have d829:dB I (dP (.app 829 [aN,aO,aT,aU,ul]))= !gg (I.w 0).toI (I.w 1).toI (I.w 2).toI (I.w 3).toI ((I.w 4).toL++[xo a]):=by
    rw[fm];show(!(I.f 829 [I.w 0,I.w 1,I.w 2,I.w 3,bZ I ul]).toB)=_;rw[f829,d1];rfl
   cases ho:gg (I.w 0).toI (I.w 1).toI (I.w 2).toI (I.w 3).toI ((I.w 4).toL++[xo a])with
   |false=>
    rw[ho,b9 (by simp)]at hE;exact cG (by rw[d829,ho];rfl) (out 30 (by simp) hE)
   |true=>
    rw[ho,e8 rfl]at hE;have hN:=hN hE;have key: ∀aa:Opq,(∀n,n<2000->aa.w n=I.w n)->aa.f=I.f->bZ aa dE= .vl (lQ X a)/\bZ aa ef= .vl (lC X a):=λaa hw hf=>by
     have v: ∀b,oL X b= .vl (oL X b).toL:=λb=>by
      unfold oL;split
      .obtain⟨l,h⟩:=hX _;rw[h];rfl
      .rfl
     constructor
     .show aa.f 828 [aa.w 0,aa.w 1,aa.w 2,aa.w 3,aa.w 4]=_;rw[hf,f828,hw _ (by omega),hw _ (by omega),hw _ (by omega),hw _ (by omega),hw _ (by omega),ha,v];rfl
     .show aa.f 828 [aa.w 0,aa.w 1,aa.w 2,aa.w 3,.vl ((aa.w 4).toL++[.vl [aa.w 5,aa.w 6,aa.w 7,aa.w 8]])]=_;rw[hf,f828,hw 0 (by omega),hw 1 (by omega),hw 2 (by omega),hw 3 (by omega),hw 4 (by omega),hw 5 (by omega),hw 6 (by omega),hw 7 (by omega),hw 8 (by omega),ha,v];rfl
    have k0:=key I (λ_ _=>rfl) rfl;have k1:=λvs=>key (I.upd 2000 vs) (λn hn=>cU _ _ _ hn) rfl
    have k2:=λu vs=>key ((I.upd 2000 u).upd 4000 vs) (λn hn=>by rw[cU _ _ _ (by omega),cU _ _ _ hn]) rfl
    have e4:bZ I Ij=cA (0,[.vi ((qn (lQ X a) (lC X a)).map eP).length,.vi (lQ X a).length,.vl ((qn (lQ X a) (lC X a)).map eP)]):=by
     show I.f 920 [.vi 0,.vi 0,.vl [],.vi (bZ I dE).toL.length,bZ I dE,.vi (bZ I ef).toL.length,bZ I ef]=_;rw[f920,k0.1,k0.2];rfl
    have d5:bZ I wt= .vi ((qn (lQ X a) (lC X a)).map eP).length:=by show co (bZ I Ij).toL 1 0=_;rw[e4];rfl
    have d6:bZ I sM= .vl ((qn (lQ X a) (lC X a)).map eP):=by show co (bZ I Ij).toL 1 2=_;rw[e4];rfl
    have e7:bZ I HE=cA (0,[.vi ((lZ (lQ X a) (lC X a)).map cQ).length,.vi (lC X a).length,.vl ((lZ (lQ X a) (lC X a)).map cQ)]):=by
     show I.f 921 [.vi 0,.vi 0,.vl [],.vi (bZ I dE).toL.length,bZ I dE,.vi (bZ I ef).toL.length,bZ I ef,bZ I wt,bZ I sM]=_;rw[f921,k0.1,k0.2];rfl
    have d8:bZ I MN= .vl ((lZ (lQ X a) (lC X a)).map cQ):=by show co (bZ I HE).toL 1 2=_;rw[e7];rfl
    refine cE (by rw[d829,ho];rfl) (W8 ?_ (Z5 (dZ0 f827 (λvs=>(k1 vs).1) (λvs=>(k1 vs).2) hW hN) e4 (Z5 (dZ2 f922 (λvs=>(k1 vs).1) (λvs=>(k1 vs).2) (λu vs=>(k2 u vs).1) (λu vs=>(k2 u vs).2) hW hN) e7 ?_)))
    .rw[cX,cI,Z8,dR,cF];exact and2 (c9 (by omega)) h840
    .refine W8 ?_ ?_
     .rw[cX,eo,eo,Z8,Z8,d5,d6,d8];refine and2 (c9 rfl) (c9 ?_);show(co (bZ I HE).toL 1 0).toI=_;rw[e7];rfl
     .show some (0,[Val.vi 0,bZ I sM,bZ I MN])=some (0,[Val.vi (lv a),Val.vl (if lv a=0 then _ else []),Val.vl (if lv a=0 then _ else [])]);rw[d6,d8,hE,e8 rfl,e8 rfl]
  .rw[e8 c1]at hE;refine cG (by rw[eZ,cy,cF];simp[c1]) (out 2 (by simp) hE)
 .rw[e8 c0]at hE;refine cG (by rw[eZ,d0,cF];simp[c0]) ?_;show some (0,[bZ I LU,Val.vl [],Val.vl []])=_;rw[d0];exact out _ c0 hE
end Go.Ev.S9
namespace Go.Ev.S9
open Go Go.Ev
theorem QI(L:List Val): ∀i,(ew L i).length=L.length
 |0=>rfl
 |i+1=>by rw[ew,D8,QI L i]
theorem Zb(L:List Val)(j:Nat): ∀i,i<=j->cg (ew L i) j=cg L j
 |0,_=>rfl
 |i+1,h=>by
  rw[ew,<-Zb L j i (by omega)];unfold cg;rw[j8,j8,W3 (by omega)]
def rX(j:Int):SX:= .op .lget [bn,bg,.ci j]
def cY(j j':Int):SX:= cJ (.op .lget [Y5,aM,.ci j]) (rX j')
theorem Ye:wG= .ite (zs bg oW) (.need (zp bg) (.need (zs bg (zl 4002)) (.need (zb (zl 4) 1000000) (.ite (dP (.app 722 [aS,rX 0,rX 1,rX 2])) (.ret 2 [.cb false,bg,bn]) (.ite (dP (zn (cY 0 3) (zn (cY 1 4) (zn (cY 2 5) (cY 3 6))))) (.ret 2 [.cb false,bg,bn]) (.ret 0 [bu,zi bg,.op .lset [bn,bg,Y6]])))))) (.ret 1 [bu,bg,bn]):=rfl
section
variable{I:Opq}{L m:List Val}
theorem dZ3{fl:Val}(f721: ∀a,I.f 721 a= .vl [.vl (qa (ce a 0).toL (.vl [ce a 1,ce a 2,ce a 3]))])(f722: ∀a,I.f 722 a= .vb (gO (ce a 0).toL (.vl [ce a 1,ce a 2,ce a 3])))(D: ∀vs,(bZ (I.upd 4000 vs) oW).toI=(L.length:Int))(h4:(I.w 4).toL=m)(hL:L.length<=400)(hm:m.length<=400)(hr: ∀r∈L,dX m (Z6 r)=some (rA r)):
 cO (λvs=>Z0 wG (I.upd 4000 vs)) [fl,.vi 0,.vl L]=some (0,[fl,.vi L.length,.vl (ew L L.length)]):=by
 refine eE (st:=λk=>[fl,.vi k,.vl (ew L k)]) (n:=L.length) (λk hk=> ?_) ?_
 .show Z0 wG (I.upd 4000 [fl,.vi k,.vl (ew L k)])=some (0,[fl,.vi (k+1:Nat),.vl ((ew L k).set k Il)]);have D:=D [fl,.vi k,.vl (ew L k)];have v0:(I.upd 4000 [fl,.vi k,.vl (ew L k)]).w 4000=fl:=lB ..;have v1:(I.upd 4000 [fl,.vi k,.vl (ew L k)]).w 4001= .vi k:=gr ..;have v2:(I.upd 4000 [fl,.vi k,.vl (ew L k)]).w 4002= .vl (ew L k):=kW ..;have w4:((I.upd 4000 [fl,.vi k,.vl (ew L k)]).w 4).toL=m:=by rw[cU _ _ _ (by omega),h4]
  have f721: ∀a,(I.upd 4000 [fl,.vi k,.vl (ew L k)]).f 721 a= .vl [.vl (qa (ce a 0).toL (.vl [ce a 1,ce a 2,ce a 3]))]:=λa=>by rw[eV];exact f721 a
  have f722: ∀a,(I.upd 4000 [fl,.vi k,.vl (ew L k)]).f 722 a= .vb (gO (ce a 0).toL (.vl [ce a 1,ce a 2,ce a 3])):=λa=>by rw[eV];exact f722 a
  generalize I.upd 4000 [fl,.vi k,.vl (ew L k)]=aa at*
  have inc:cn .add .i64 (Val.vi (k:Int)).toI 1=((k+1:Nat):Int):=eJ hk (by omega);have hx:=hr _ (iN hk);have dr: ∀j:Nat,bZ aa (rX j)=Z7 (cg L k) j:=λj=>by
   show co (aa.w 4002).toL (aa.w 4001).toI (j:Int)=_;rw[v1,v2,<-Zb L k k (e9 _)];rfl
  have r0:bZ aa (rX 0)=Z7 (cg L k) 0:=dr 0;have r1:bZ aa (rX 1)=Z7 (cg L k) 1:=dr 1;have r2:bZ aa (rX 2)=Z7 (cg L k) 2:=dr 2;have r3:bZ aa (rX 3)=Z7 (cg L k) 3:=dr 3;have r4:bZ aa (rX 4)=Z7 (cg L k) 4:=dr 4;have r5:bZ aa (rX 5)=Z7 (cg L k) 5:=dr 5;have r6:bZ aa (rX 6)=Z7 (cg L k) 6:=dr 6;generalize hp:Val.vl [Z7 (cg L k) 0,Z7 (cg L k) 1,Z7 (cg L k) 2]=p at*
  obtain⟨r,hrm,_,hA,hh,hc⟩:=Aw (m:=m) (p:=p) (a:=rA (cg L k)) (by rw[<-hp];exact hx);have hA0:(Z7 r 3).toI=(Z7 (cg L k) 3).toI:=congrArg (λa=>a.1) hA;have hA1:(Z7 r 4).toI=(Z7 (cg L k) 4).toI:=congrArg (λa=>a.2.1) hA;have hA2:(Z7 r 5).toI=(Z7 (cg L k) 5).toI:=congrArg (λa=>a.2.2.1) hA;have hA3:(Z7 r 6).toI=(Z7 (cg L k) 6).toI:=congrArg (λa=>a.2.2.2) hA;have dt:bZ aa Y5= .vl [.vl (qa m p)]:=by
   show aa.f 721 [aa.w 4,bZ aa (rX 0),bZ aa (rX 1),bZ aa (rX 2)]=_;rw[f721,r0,r1,r2,<-hp,<-w4];rfl
  have dq: ∀j,co (bZ aa Y5).toL 0 j=(qa m p).getD j.toNat default:=λj=>by rw[dt];rfl
  rw[Ye];refine cG ?_ (W8 ?_ (W8 ?_ (W8 ?_ (cE ?_ (cE ?_ ?_)))))
  .rw[cT,cy,v1,D];exact c9 (by show(k:Int)<(L.length:Int);omega)
  .rw[cI,cF,cy,v1];exact c9 (by show(0:Int)<=(k:Int);omega)
  .rw[cT,cy,Z8,dR,v1,v2];exact c9 (by show(k:Int)<((ew L k).length:Int);rw[QI];omega)
  .rw[cI,Z8,cF,dR,w4];exact c9 (by show(m.length:Int)<=1000000;omega)
  .rw[fm];show(!(aa.f 722 [aa.w 4,bZ aa (rX 0),bZ aa (rX 1),bZ aa (rX 2)]).toB)=false;rw[f722,r0,r1,r2];show(!gO (aa.w 4).toL (Val.vl [Z7 (cg L k) 0,Z7 (cg L k) 1,Z7 (cg L k) 2]))=false;rw[w4,hp,hh];rfl
  .rw[fm,cX,cX,cX];show(!(decide ((co (bZ aa Y5).toL 0 0).toI=(bZ aa (rX 3)).toI)&&(decide ((co (bZ aa Y5).toL 0 1).toI=(bZ aa (rX 4)).toI)&&(decide ((co (bZ aa Y5).toL 0 2).toI=(bZ aa (rX 5)).toI)&&decide ((co (bZ aa Y5).toL 0 3).toI=(bZ aa (rX 6)).toI)))))=false;rw[dq,dq,dq,dq,r3,r4,r5,r6];show(!(decide ((ii m p 3).toI=(Z7 (cg L k) 3).toI)&&(decide ((ii m p 4).toI=(Z7 (cg L k) 4).toI)&&(decide ((ii m p 5).toI=(Z7 (cg L k) 5).toI)&&decide ((ii m p 6).toI=(Z7 (cg L k) 6).toI)))))=false;rw[hc,hc,hc,hc,c9 hA0,c9 hA1,c9 hA2,c9 hA3];rfl
  .show some (0,[aa.w 4000,Val.vi (cn .add .i64 (aa.w 4001).toI 1),Val.vl ((aa.w 4002).toL.set (aa.w 4001).toI.toNat Il)])=_;rw[v0,v1,v2,inc];rfl
 .show Z0 wG (I.upd 4000 [fl,.vi L.length,.vl (ew L L.length)])=_;have D:=D [fl,.vi L.length,.vl (ew L L.length)];have v0:(I.upd 4000 [fl,.vi L.length,.vl (ew L L.length)]).w 4000=fl:=lB ..;have v1:(I.upd 4000 [fl,.vi L.length,.vl (ew L L.length)]).w 4001= .vi L.length:=gr ..;have v2:(I.upd 4000 [fl,.vi L.length,.vl (ew L L.length)]).w 4002= .vl (ew L L.length):=kW ..;generalize I.upd 4000 [fl,.vi L.length,.vl (ew L L.length)]=aa at*
  rw[Ye];refine cE ?_ ?_
  .rw[cT,cy,v1,D];exact i6 (by show¬(L.length:Int)<(L.length:Int);omega)
  .show some (1,[aa.w 4000,aa.w 4001,aa.w 4002])=_;rw[v0,v1,v2]
theorem dZ4(D: ∀vs,(bZ (I.upd 4000 vs) pi).toI=(L.length:Int))(hL:L.length<=400):
 cO (λvs=>Z0 vt (I.upd 4000 vs)) [.vi 0,.vl L]=some (0,[.vi L.length,.vl (ew L L.length)]):=by
 have run: ∀k,k<=L.length->Z0 vt (I.upd 4000 [.vi k,.vl (ew L k)])=if k<L.length then some (0,[.vi (k+1:Nat),.vl ((ew L k).set k Il)])else some (1,[.vi k,.vl (ew L k)]):=λk hk=>by
  have D:=D [.vi k,.vl (ew L k)];have v0:(I.upd 4000 [.vi k,.vl (ew L k)]).w 4000= .vi k:=by rw[cN];simp
  have v1:(I.upd 4000 [.vi k,.vl (ew L k)]).w 4001= .vl (ew L k):=by rw[cN];simp
  generalize I.upd 4000 [.vi k,.vl (ew L k)]=aa at*
  unfold vt;by_cases c:k<L.length
  .rw[e8 c];refine cG ?_ (W8 ?_ (W8 ?_ ?_))
   .rw[cT,cy,v0,D];exact c9 (by show(k:Int)<(L.length:Int);omega)
   .rw[cI,cF,cy,v0];exact c9 (by show(0:Int)<=(k:Int);omega)
   .rw[cT,cy,Z8,dR,v0,v1];exact c9 (by show(k:Int)<((ew L k).length:Int);rw[QI];omega)
   .show some (0,[Val.vi (cn .add .i64 (aa.w 4000).toI 1),Val.vl ((aa.w 4001).toL.set (aa.w 4000).toI.toNat Il)])=_;rw[v0,v1,a09,eJ c (by omega)];rfl
  .rw[b9 c];refine cE ?_ ?_
   .rw[cT,cy,v0,D];exact i6 (by show¬(k:Int)<(L.length:Int);omega)
   .show some (1,[aa.w 4000,aa.w 4001])=_;rw[v0,v1]
 refine eE (st:=λk=>[.vi k,.vl (ew L k)]) (n:=L.length) (λk hk=> ?_) ?_
 .show Z0 vt (I.upd 4000 [.vi k,.vl (ew L k)])=_;rw[run k (by omega),e8 hk];rfl
 .show Z0 vt (I.upd 4000 [.vi L.length,.vl (ew L L.length)])=_;rw[run _ (e9 _),b9 (by omega)]
end
end Go.Ev.S9
namespace Go.Ev.S9
open Go Go.Ev
theorem Vm{x:dG}(h:dH 1 x.1 x.2.1 x.2.2=0)(hv:cP x.2.2):pB (cw x)=true:=by
 show(decide ((1:Int)=1)&&(decide (dH 1 x.1 x.2.1 x.2.2=0)&&(decide (-9223372036854775808<=x.2.2)&&decide (x.2.2<9223372036854775808))))=true;rw[c9 h,c9 hv.1,c9 hv.2];rfl
theorem uC{evs:List dG}(ht:fT evs)(hv:qL evs):(evs.map cw).all pB=true:=by
 rw[List.all_map,k8];exactλx hx=>Vm (hv x hx) (ht x hx).2
section
variable{k s w g:Int}{evs:List dG}{m:List Val}(h:TBL k s w g evs m)
include h
theorem TBL.n840{a b c d:Val}(ha:a= .vi k)(hb:b= .vi s)(hc:c= .vi w)(hd:d= .vi g):(F 840 [a,b,c,d,.vl (evs.map cw)]).toB=true:=by
 subst ha hb hc hd;show(cV k s w g&&(decide ((evs.map cw).length<=24)&&(evs.map cw).all pB))=true;rw[h.R,uC h.tm h.va,k6,c9 h.ln];rfl
theorem TBL.okw:gg k s w g (evs.map cw)=true:=(Ri h.R h.tm h.ln).2 (cP5 h.T)
theorem TBL.ok:vJ k m:=uV h.R h.T h.tm h.ln
theorem TBL.rows:oL F0 [.vi k,.vi s,.vi w,.vi g,.vl (evs.map cw)]= .vl (S7.srt false m):=by
 show(if gg k s w g (evs.map cw)=true then F0 490 [.vl (eL k s w g (evs.map cw) (evs.map cw).length)]else .vl [])=_;rw[e8 h.okw];have hr:=cy1 h.R h.tm h.ln h.va h.okw;exact pe.x490u _ m (λr hr'=>uI (hr.nrm r hr')) (bX7 h.T hr (O5 _)) hr.nd
theorem TBL.lks{r:Val}(hr:r∈S7.srt false m):dX m (Z6 r)=some (rA r):=uq h.T.nd (S7.srt_mem.1 hr)
theorem TBL.rowsS{r:Val}(hr:r∈S7.srt false m):rowS r:=uI (h.T.nrm r (S7.srt_mem.1 hr))
theorem TBL.rows7{r:Val}(hr:r∈S7.srt false m):cQ r=r:=by
 obtain⟨a,b,c,A,e,_⟩:=h.T.nrm r (S7.srt_mem.1 hr);rw[e,cu9]
end
theorem t_is{I:Opq}(hf: ∀i a,I.f i a=F i a)(hn:(F 907 [I.w 0,I.w 1,I.w 2,I.w 3,I.w 4,I.w 5,I.w 6,I.w 7,I.w 8,I.w 9,I.w 10]).toB=true):Z0 T_is I=some (0,[.vb true]):=by
 obtain⟨k,s,w,g,evs,m,w5,w6,w7,w8,w4,w9,H⟩:=Gr.1 hn;have w5:I.w 5= .vi k:=w5;have w6:I.w 6= .vi s:=w6;have w7:I.w 7= .vi w:=w7;have w8:I.w 8= .vi g:=w8;have w4:I.w 4= .vl m:=w4;have w9:I.w 9= .vl (evs.map cw):=w9;obtain⟨_,_,m400,_⟩:=H.ok;have L400:(S7.srt false m).length<=400:=by rw[S7.srt_len];exact m400
 have key: ∀aa:Opq,(∀n,n<2000->aa.w n=I.w n)->aa.f=I.f->bZ aa (.app 490 [aS])= .vl (S7.srt false m)/\bZ aa iv= .vl (S7.srt false m)/\bZ aa (.app 726 [aS,bt])= .vl ((S7.srt false m).filter (fj (I.w 10).toI)):=λaa hw hf'=>by
  refine⟨?_,?_,?_⟩
  .show aa.f 490 [aa.w 4]=_;rw[hf',hf,hw _ (by omega),w4];rfl
  .show aa.f 828 [aa.w 5,aa.w 6,aa.w 7,aa.w 8,aa.w 9]=_;rw[hf',hf,hw _ (by omega),hw _ (by omega),hw _ (by omega),hw _ (by omega),hw _ (by omega),w5,w6,w7,w8,w9];exact H.rows
  .show aa.f 726 [aa.w 4,aa.w 10]=_;rw[hf',hf,hw _ (by omega),hw _ (by omega),w4];rfl
 obtain⟨k1,k2,k3⟩:=key I (λ_ _=>rfl) rfl;have u:=λvs=>key (I.upd 4000 vs) (λn hn=>cU _ _ _ (by omega)) rfl
 have hFm:((S7.srt false m).filter (fj (I.w 10).toI)).length<=400:=m7 (J9 ..) L400;have n431: ∀l:List Val,(∀r∈l,rowS r)->(I.f 431 [.vl l]).toB=true:=λl hl=>by rw[hf];exact pe.x431 l hl
 have same: ∀v,I.f 3 [v,v]= .vb true:=λv=>(hf 3 [v,v]).trans (pe.x3 v)
 have i0:bZ I oW= .vi (S7.srt false m).length:=by show Val.vi ((bZ I (.app 490 [aS])).toL.length:Int)=_;rw[k1];rfl
 have i2:bZ I pi= .vi ((S7.srt false m).filter (fj (I.w 10).toI)).length:=by show Val.vi ((bZ I (.app 726 [aS,bt])).toL.length:Int)=_;rw[k3];rfl
 have d832:bZ I (.app 832 [iv,bt])= .vl ((S7.srt false m).filter (fj (I.w 10).toI)):=by
  show I.f 832 [bZ I iv,I.w 10]=_;rw[hf,k2];exact congrArg Val.vl (cP4 _ _ λr hr=>H.rows7 hr)
 have f721: ∀a,I.f 721 a= .vl [.vl (qa (ce a 0).toL (.vl [ce a 1,ce a 2,ce a 3]))]:=λa=>hf 721 a
 have f722: ∀a,I.f 722 a= .vb (gO (ce a 0).toL (.vl [ce a 1,ce a 2,ce a 3])):=λa=>hf 722 a
 have D0: ∀vs,(bZ (I.upd 4000 vs) oW).toI=((S7.srt false m).length:Int):=λvs=>by
  show((bZ (I.upd 4000 vs) (.app 490 [aS])).toL.length:Int)=_;rw[(u vs).1];rfl
 have D2: ∀vs,(bZ (I.upd 4000 vs) pi).toI=(((S7.srt false m).filter (fj (I.w 10).toI)).length:Int):=λvs=>by
  show((bZ (I.upd 4000 vs) (.app 726 [aS,bt])).toL.length:Int)=_;rw[(u vs).2.2];rfl
 have l1:=λfl=>dZ3 (I:=I) (L:=S7.srt false m) (m:=m) (fl:=fl) f721 f722 D0 (by rw[w4];rfl) L400 m400 λr hr=>H.lks hr
 have l2:=dZ4 (I:=I) (L:=(S7.srt false m).filter (fj (I.w 10).toI)) D2 hFm;have e1: ∀(fl:SX) (r:List SX),I.f 925 (bZ I fl:: .vi 0::bZ I (.app 490 [aS])::ck I r)=cA (0,[bZ I fl,.vi (S7.srt false m).length,.vl (ew (S7.srt false m) (S7.srt false m).length)]):=λfl r=>by
  rw[hf,k1];rfl
 have e2: ∀r:List SX,I.f 926 (.vi 0::bZ I (.app 726 [aS,bt])::ck I r)=cA (0,[.vi ((S7.srt false m).filter (fj (I.w 10).toI)).length,.vl (ew ((S7.srt false m).filter (fj (I.w 10).toI)) ((S7.srt false m).filter (fj (I.w 10).toI)).length)]):=λr=>by
  rw[hf,k3];rfl
 unfold T_is;refine W8 ?_ (cE ?_ (W8 (tH hf fe_x (by rw[dR,w4]) H.ok) (cE ?_ (W8 ?_ (W8 ?_ (cE ?_ (W8 ?_ (W8 ?_ (W8 ?_ (cE ?_ ?_))))))))))
 .rw[cX,cI,Z8,dR,w9,cF,a65,k6];refine and2 (c9 (by have:=H.ln;omega)) ?_;show(I.f 840 [I.w 5,I.w 6,I.w 7,I.w 8,I.w 9]).toB=true;rw[hf,w9];exact H.n840 w5 w6 w7 w8
 .rw[fm];show(!(I.f 829 [I.w 5,I.w 6,I.w 7,I.w 8,I.w 9]).toB)=false;rw[hf,w5,w6,w7,w8,w9];show(!gg k s w g (evs.map cw))=false;rw[H.okw];rfl
 .rw[eZ,i0,Z8,k2,a65,a09];simp
 .rw[cX,cI,i0,cF];refine and2 (c9 (by show((S7.srt false m).length:Int)<=400;omega)) ?_;show(I.f 431 [bZ I (.app 490 [aS])]).toB=true;rw[k1];exact n431 _ λr hr=>H.rowsS hr
 .rw[cI,i0,cF];exact c9 (by show((S7.srt false m).length:Int)<=1000000;omega)
 .rw[fm];show(!(I.f 3 [bZ I (.app 490 [aS]),bZ I iv]).toB)=false;rw[k1,k2,same];rfl
 .rw[cX,cI,i2,cF];refine and2 (c9 (by show(((S7.srt false m).filter (fj (I.w 10).toI)).length:Int)<=400;omega)) ?_;show(I.f 431 [bZ I (.app 726 [aS,bt])]).toB=true;rw[k3];exact n431 _ λr hr=>H.rowsS (l6.1 hr).1
 .rw[cX,cI,Z8,k2,cF];refine and2 (c9 (by show((S7.srt false m).length:Int)<=400;omega)) ?_;show(I.f 431 [bZ I iv]).toB=true;rw[k2];exact n431 _ λr hr=>H.rowsS hr
 .rw[cI,i2,cF];exact c9 (by show(((S7.srt false m).filter (fj (I.w 10).toI)).length:Int)<=1000000;omega)
 .rw[fm];show(!(I.f 3 [bZ I (.app 726 [aS,bt]),bZ I (.app 832 [iv,bt])]).toB)=false;rw[k3,d832,same];rfl
 .have s1:cO (λvs=>Z0 wG (I.upd 4000 vs)) [bZ I (.cb false),.vi 0,bZ I (.app 490 [aS])]=some (0,[bZ I (.cb false),.vi (S7.srt false m).length,.vl (ew (S7.srt false m) (S7.srt false m).length)]):=by rw[k1];exact l1 _
  have s2:cO (λvs=>Z0 vt (I.upd 4000 vs)) [.vi 0,bZ I (.app 726 [aS,bt])]=some (0,[.vi ((S7.srt false m).filter (fj (I.w 10).toI)).length,.vl (ew ((S7.srt false m).filter (fj (I.w 10).toI)) ((S7.srt false m).filter (fj (I.w 10).toI)).length)]):=by rw[k3];exact l2
  have s3:cO (λvs=>Z0 wG (I.upd 4000 vs)) [bZ I CZ,.vi 0,bZ I (.app 490 [aS])]=some (0,[bZ I CZ,.vi (S7.srt false m).length,.vl (ew (S7.srt false m) (S7.srt false m).length)]):=by rw[k1];exact l1 _
  exact Z5 s1 (e1 (.cb false) _) (Z5 s2 (e2 _) (Z5 s3 (e1 CZ _) (Z5 s2 (e2 _) rfl)))
end Go.Ev.S9
namespace Go.Ev.S9
open Go Go.Ev
def aQ(k s w g:Int)(evs:List dG)(ek:Int)(ks:List UInt8)(t v:Int):List Val:=[.vi k,.vi s,.vi w,.vi g,.vl (evs.map cw),.vi ek,.vs ks,.vi t,.vi v]
section
variable{k s w g ek t v:Int}{ks:List UInt8}{m:List Val}{evs:List dG}(H:TBL k s w g evs m)(h24:evs.length<24)(hv:cP v)
include H hv
theorem PD(h0:dH 1 ks t v=0):fT (evs++[(ks,t,v)]):=Tg H.tm (tL h0 rfl).2 hv
include h24
theorem KL:lv (aQ k s w g evs ek ks t v)=dC (cL k s w g m ek ks t v):=by
 have e:lv (aQ k s w g evs ek ks t v)=if dH ek ks t v≠0 then dH ek ks t v else if ek≠1 then 2 else if gg k s w g (evs.map cw++[.vl [.vi ek,.vs ks,.vi t,.vi v]])=true then 0 else 30:=rfl
 rw[e];by_cases h0:dH ek ks t v=0
 .rw[b9 (by simp[h0])];by_cases h1:ek=1
  .rw[b9 (by omega)];have hm:evs.map cw++[.vl [.vi ek,.vs ks,.vi t,.vi v]]=(evs++[(ks,t,v)]).map cw:=by rw[n8,h1];rfl
   rw[hm];have hok:=Ri H.R (PD H hv (by rw[<-h1];exact h0)) (by rw[k5];show evs.length+1<=24;omega);have htf:=cP3 pe H.R H.T H.tm H.ln hv h0 h1;by_cases f:sb (eH k s w g) (evs++[(ks,t,v)])
   .rw[htf.2 f,e8 (hok.2 f)]
   .rw[b9 λh=>f (hok.1 h)];rcases cX1 (k:=k) (s:=s) (l:=w) (g:=g) (m:=m) h0 h1 with h|h
    .exact absurd (htf.1 h) f
    .exact h.symm
  .rw[e8 h1,oT,b9 (by simp[h0]),e8 h1]
 .rw[e8 h0,oT,e8 h0]
theorem Wc: ∃m' evs',eQ F0 (cL k s w g m ek ks t v)= .vl m'/\TBL k s w g evs' m'/\evs'.length<=evs.length+1/\(if dC (cL k s w g m ek ks t v)≠0 then evs.map cw else evs.map cw++[.vl [.vi ek,.vs ks,.vi t,.vi v]])=evs'.map cw/\
 (eF (cL k s w g m ek ks t v)).length<=400/\(eF (cL k s w g m ek ks t v)).map Z6=(zX F0 (aQ k s w g evs ek ks t v)).toL.map Z6/\ ∃R,eS F0 (cL k s w g m ek ks t v)= .vl R/\FX F0 (aQ k s w g evs ek ks t v)= .vl R/\R.length<=400/\ ∀r∈R,rowS r:=by
 have hrt:=KL H h24 hv (ek:=ek) (ks:=ks) (t:=t);have e3:zX F0 (aQ k s w g evs ek ks t v)= .vl (if lv (aQ k s w g evs ek ks t v)=0 then(qn (lQ F0 (aQ k s w g evs ek ks t v)) (lC F0 (aQ k s w g evs ek ks t v))).map eP else []):=rfl;have e4:FX F0 (aQ k s w g evs ek ks t v)= .vl (if lv (aQ k s w g evs ek ks t v)=0 then(lZ (lQ F0 (aQ k s w g evs ek ks t v)) (lC F0 (aQ k s w g evs ek ks t v))).map cQ else []):=rfl;rw[e3,e4,hrt];by_cases he:dC (cL k s w g m ek ks t v)=0
 .rw[b9 (by simp[he]),e8 he,e8 he];obtain⟨q0,q1⟩:=BX he;subst q1;obtain⟨R,m',a1,a2,a3,a4,a5,a6,a7⟩:=Bs pe H.R H.T H.ok.2.2.1 H.tm hv he;have H':TBL k s w g (evs++[(ks,t,v)]) m':=⟨H.R,a5,PD H hv q0,So H.va q0,by rw[k5];show evs.length+1<=24;omega⟩;have hx:evs.map cw++[Val.vl [.vi 1,.vs ks,.vi t,.vi v]]=(evs++[(ks,t,v)]).map cw:=by rw[n8];rfl
  have hW:lQ F0 (aQ k s w g evs 1 ks t v)=S7.srt false m:=congrArg Val.toL H.rows;have hN:lC F0 (aQ k s w g evs 1 ks t v)=S7.srt false m':=by
   show(oL F0 [.vi k,.vi s,.vi w,.vi g,.vl (evs.map cw++[Val.vl [.vi 1,.vs ks,.vi t,.vi v]])]).toL=_;rw[hx];exact congrArg Val.toL H'.rows
  obtain⟨d1,d2⟩:=cQ1 H.R H.T H.ok.2.2.1 H.tm hv he a2 a5;rw[a1,Val.vl.injEq]at d2;refine⟨m',_,a2,H',by rw[k5];exact e9 _,hx,a4,?_,R,a1,?_,by omega,λr hr=>uI (a6 r hr).1⟩
  .rw[d1,hW,hN,a65,n7];exact s9 λr _=>rfl
  .rw[hW,hN,<-d2];refine congrArg Val.vl ((s9 (g:=id) λr hr=> ?_).trans (G5 _));obtain⟨a,b,c,A,e,_⟩:=(a6 r hr).1;rw[e,cu9];rfl
 .rw[e8 he,b9 he,b9 he];obtain⟨b1,b2,b3⟩:=Jn (X:=F0) he;refine⟨m,evs,b3,H,by omega,rfl,by rw[b1];exact s7 _,by rw[b1];rfl,[],b2,rfl,s7 _,λr hr=>(by cases hr)⟩
theorem ed8:Za (aQ k s w g evs ek ks t v):=⟨k,s,w,g,evs,m,ek,ks,t,v,rfl,rfl,rfl,rfl,rfl,rfl,rfl,rfl,rfl,hv,H,h24⟩
end
theorem c_rTry{I:Opq}(hf: ∀i a,I.f i a=F i a)(hn:(F 906 [I.w 0,I.w 1,I.w 2,I.w 3,I.w 4,I.w 5,I.w 6,I.w 7,I.w 8]).toB=true):Z0 T_rTry I=some (0,[F 905 [I.w 0,I.w 1,I.w 2,I.w 3,I.w 4,I.w 5,I.w 6,I.w 7,I.w 8],F 903 [I.w 0,I.w 1,I.w 2,I.w 3,I.w 4,I.w 5,I.w 6,I.w 7,I.w 8],F 904 [I.w 0,I.w 1,I.w 2,I.w 3,I.w 4,I.w 5,I.w 6,I.w 7,I.w 8]]):=by
 obtain⟨k,s,w,g,evs,m,ek,ks,t,v,w0,w1,w2,w3,w4,w5,w6,w7,w8,hv,H,h24⟩:=Gr.1 hn;have w0:I.w 0= .vi k:=w0;have w1:I.w 1= .vi s:=w1;have w2:I.w 2= .vi w:=w2;have w3:I.w 3= .vi g:=w3;have w4:I.w 4= .vl (evs.map cw):=w4;have w5:I.w 5= .vi ek:=w5;have w6:I.w 6= .vs ks:=w6;have w7:I.w 7= .vi t:=w7;have w8:I.w 8= .vi v:=w8;have ha:aQ k s w g evs ek ks t v=[I.w 0,I.w 1,I.w 2,I.w 3,I.w 4,I.w 5,I.w 6,I.w 7,I.w 8]:=by rw[w0,w1,w2,w3,w4,w5,w6,w7,w8];rfl
 have hl:(I.w 4).toL=evs.map cw:=by rw[w4];rfl
 have hW:lQ F0 (aQ k s w g evs ek ks t v)=S7.srt false m:=congrArg Val.toL H.rows;rw[<-ha];refine dF0 (X:=F0) (λa=>hf 701 a) (λa=>hf 827 a) (λa=>hf 828 a) (λa=>hf 829 a) (λa=>hf 920 a) (λa=>hf 921 a) (λa=>hf 922 a) ha (by rw[hl,k6];omega) (by rw[hf,w4];exact H.n840 w0 w1 w2 w3) (λh0 h1=> ?_) (λv=>⟨_,rfl⟩) (by rw[hW,S7.srt_len];exact H.ok.2.2.1) (λhE=> ?_)
 .rw[w5,w6,w7,w8]at h0;rw[w5]at h1;have h1:ek=1:=h1;subst h1;have h0:dH 1 ks t v=0:=h0;rw[hf,w0,w1,w2,w3,hl];show(cV k s w g&&(decide ((evs.map cw++[cw (ks,t,v)]).length<=24)&&(evs.map cw++[cw (ks,t,v)]).all pB))=true;rw[H.R,C9,uC H.tm H.va,k5,k6];have:pB (cw (ks,t,v))=true:=Vm h0 hv;rw[c9 (by show evs.length+1<=24;omega),List.all_cons,this];rfl
 .rw[KL H h24 hv]at hE;obtain⟨q0,q1⟩:=BX hE;subst q1;obtain⟨R,m',a1,a2,a3,a4,a5,a6,a7⟩:=Bs pe H.R H.T H.ok.2.2.1 H.tm hv hE;have H':TBL k s w g (evs++[(ks,t,v)]) m':=⟨H.R,a5,PD H hv q0,So H.va q0,by rw[k5];show evs.length+1<=24;omega⟩;have hN:lC F0 (aQ k s w g evs 1 ks t v)=S7.srt false m':=by
   show(oL F0 [.vi k,.vi s,.vi w,.vi g,.vl (evs.map cw++[Val.vl [.vi 1,.vs ks,.vi t,.vi v]])]).toL=_;rw[show evs.map cw++[Val.vl [.vi 1,.vs ks,.vi t,.vi v]]=(evs++[(ks,t,v)]).map cw by rw[n8];rfl];exact congrArg Val.toL H'.rows
  rw[hN,S7.srt_len];exact H'.ok.2.2.1
end Go.Ev.S9
namespace Go.Ev.S9
open Go Go.Ev
structure RQ (I:Opq) (k s w g:Int) (ops:List Val) (i:Nat) (m:List Val) (evs:List dG) (fi ek:Int) (ks:List UInt8) (t v:Int):Prop where
 f: ∀i a,I.f i a=F i a
 w0:I.w 0= .vi k
 w1:I.w 1= .vi s
 w2:I.w 2= .vi w
 w3:I.w 3= .vi g
 w4:I.w 4= .vl ops
 u0:I.w 2000= .vb false
 u1:I.w 2001= .vi evs.length
 u2:I.w 2002= .vi fi
 u3:I.w 2003= .vi i
 u4:I.w 2004= .vl m
 u5:I.w 2005= .vl (evs.map cw)
 row:cg ops i= .vl [.vi ek,.vs ks,.vi t,.vi v]
def eX(j:Int):SX:= .op .lget [aS,bj,.ci j]
def rQ:SX:= .op .lsub [bq,aM,aR]
section
variable{I:Opq}{k s w g:Int}{ops:List Val}{i:Nat}{m:List Val}{evs:List dG}{fi ek:Int}{ks:List UInt8}{t v:Int}(h:RQ I k s w g ops i m evs fi ek ks t v)
include h
theorem RQ.ex(j:Nat):bZ I (eX j)=Z7 (.vl [.vi ek,.vs ks,.vi t,.vi v]) j:=by
 rw[show eX j= .op .lget [aS,bj,.ci j]from rfl,uR (q:= aS) j h.w4 h.u3,h.row]
theorem RQ.exs:[bZ I (eX 0),bZ I (eX 1),bZ I (eX 2),bZ I (eX 3)]=[.vi ek,.vs ks,.vi t,.vi v]:=by
 have a:=h.ex 0;have b:=h.ex 1;have c:=h.ex 2;have d:=h.ex 3;rw[show bZ I (eX 0)=_ from a,show bZ I (eX 1)=_ from b,show bZ I (eX 2)=_ from c,show bZ I (eX 3)=_ from d];rfl
theorem RQ.r:bZ I rQ= .vl (evs.map cw):=BS (x:= bq) (n:= aR) h.u5 (by rw[k6];exact h.u1)
theorem RQ.nine:[I.w 0,I.w 1,I.w 2,I.w 3,I.w 2004,bZ I (eX 0),bZ I (eX 1),bZ I (eX 2),bZ I (eX 3)]=cL k s w g m ek ks t v:=by
 rw[h.w0,h.w1,h.w2,h.w3,h.u4,h.exs];rfl
theorem RQ.nineQ:[I.w 0,I.w 1,I.w 2,I.w 3,bZ I rQ,bZ I (eX 0),bZ I (eX 1),bZ I (eX 2),bZ I (eX 3)]=aQ k s w g evs ek ks t v:=by
 rw[h.w0,h.w1,h.w2,h.w3,h.r,h.exs];rfl
theorem RQ.y8:bZ I Y8= .vi (dH ek ks t v):=by
 show I.f 701 [bZ I (eX 0),bZ I (eX 1),bZ I (eX 2),bZ I (eX 3)]=_;rw[h.f,h.exs];rfl
theorem RQ.y9:bZ I Y9= .vi (dC (cL k s w g m ek ks t v)):=by
 show I.f 732 [I.w 0,I.w 1,I.w 2,I.w 3,I.w 2004,bZ I (eX 0),bZ I (eX 1),bZ I (eX 2),bZ I (eX 3)]=_;rw[h.f,h.nine];rfl
theorem RQ.y18:bZ I Ce=eQ F0 (cL k s w g m ek ks t v):=by
 show I.f 733 [I.w 0,I.w 1,I.w 2,I.w 3,I.w 2004,bZ I (eX 0),bZ I (eX 1),bZ I (eX 2),bZ I (eX 3)]=_;rw[h.f,h.nine];exact cZ0 (X:=FQ F0) (λ_=>rfl) _
theorem dZ5(H:TBL k s w g evs m)(h24:evs.length<24)(hv:cP v)(hi:i<ops.length)(hn:ops.length<=24){e n r:SX}(he:(bZ I e).toI=dC (cL k s w g m ek ks t v)):
 Z0 (AE e n r) I=some (0,[.vb false,bZ I n,if fi=0 then bZ I e else .vi fi,.vi (i+1:Nat),eQ F0 (cL k s w g m ek ks t v),bZ I r]):=by
 obtain⟨m',evs',a1,a2,a3,a4,a5,a6,R,a7,a8,a9,a10⟩:=Wc H h24 hv (ek:=ek) (ks:=ks) (t:=t);have inc:cn .add .i64 (Val.vi (i:Int)).toI 1=((i+1:Nat):Int):=eJ hi (by omega);have d905:bZ I (.app 905 [aN,aO,aT,aU,rQ,eX 0,eX 1,eX 2,eX 3])= .vi (dC (cL k s w g m ek ks t v)):=by
  show I.f 905 [I.w 0,I.w 1,I.w 2,I.w 3,bZ I rQ,bZ I (eX 0),bZ I (eX 1),bZ I (eX 2),bZ I (eX 3)]=_;rw[h.f,h.nineQ];exact congrArg Val.vi (KL H h24 hv)
 have d903:bZ I (.app 903 [aN,aO,aT,aU,rQ,eX 0,eX 1,eX 2,eX 3])=zX F0 (aQ k s w g evs ek ks t v):=by
  show I.f 903 [I.w 0,I.w 1,I.w 2,I.w 3,bZ I rQ,bZ I (eX 0),bZ I (eX 1),bZ I (eX 2),bZ I (eX 3)]=_;rw[h.f,h.nineQ];rfl
 have d904:bZ I (.app 904 [aN,aO,aT,aU,rQ,eX 0,eX 1,eX 2,eX 3])= .vl R:=by
  show I.f 904 [I.w 0,I.w 1,I.w 2,I.w 3,bZ I rQ,bZ I (eX 0),bZ I (eX 1),bZ I (eX 2),bZ I (eX 3)]=_;rw[h.f,h.nineQ];exact a8
 have y11:bZ I Ea= .vl (eF (cL k s w g m ek ks t v)):=by
  show I.f 730 [I.w 0,I.w 1,I.w 2,I.w 3,I.w 2004,bZ I (eX 0),bZ I (eX 1),bZ I (eX 2),bZ I (eX 3)]=_;rw[h.f,h.nine];rfl
 have y13:bZ I qU= .vl R:=by
  show I.f 731 [I.w 0,I.w 1,I.w 2,I.w 3,I.w 2004,bZ I (eX 0),bZ I (eX 1),bZ I (eX 2),bZ I (eX 3)]=_;rw[h.f,h.nine,<-a7];exact cY9 (X:=FQ F0) (λ_=>rfl) _
 unfold AE;refine cE ?_ (W8 ?_ (cE ?_ (W8 ?_ (W8 ?_ (cE ?_ (W8 ?_ (cE ?_ ?_)))))))
 .show dB I (cZ Y9 (.app 905 [aN,aO,aT,aU,rQ,eX 0,eX 1,eX 2,eX 3]))=false;rw[eZ,h.y9,d905];simp
 .rw[cI,Z8,y11,cF];exact c9 (by show((eF (cL k s w g m ek ks t v)).length:Int)<=400;omega)
 .show dB I (dP (.app 900 [Ea,.app 903 [aN,aO,aT,aU,rQ,eX 0,eX 1,eX 2,eX 3]]))=false;rw[fm];show(!(I.f 900 [bZ I Ea,bZ I (.app 903 [aN,aO,aT,aU,rQ,eX 0,eX 1,eX 2,eX 3])]).toB)=false;rw[h.f,y11,d903];show(!decide ((eF (cL k s w g m ek ks t v)).map Z6=(zX F0 (aQ k s w g evs ek ks t v)).toL.map Z6))=false;rw[c9 a6];rfl
 .show dB I (zn (zb (zL qU) 400) (.app 431 [qU]))=true;rw[cX,cI,Z8,y13,cF];refine and2 (c9 (by show(R.length:Int)<=400;omega)) ?_;show(I.f 431 [bZ I qU]).toB=true;rw[y13,h.f];exact pe.x431 R a10
 .show dB I (zb (zL qU) 1000000)=true;rw[cI,Z8,y13,cF];exact c9 (by show(R.length:Int)<=1000000;omega)
 .show dB I (dP (.app 3 [qU,.app 904 [aN,aO,aT,aU,rQ,eX 0,eX 1,eX 2,eX 3]]))=false;rw[fm];show(!(I.f 3 [bZ I qU,bZ I (.app 904 [aN,aO,aT,aU,rQ,eX 0,eX 1,eX 2,eX 3])]).toB)=false;rw[y13,d904,(h.f 3 [.vl R,.vl R]).trans (pe.x3 (.vl R))];rfl
 .show(I.f 907 [I.w 0,I.w 1,I.w 2,I.w 3,I.w 2004,I.w 0,I.w 1,I.w 2,I.w 3,bZ I rQ,I.w 5]).toB=true;rw[h.f];exact Gr.2 ⟨k,s,w,g,evs,m,h.w0,h.w1,h.w2,h.w3,h.u4,h.r,H⟩
 .rw[eZ,h.y9,he];simp
 .by_cases c:fi=0
  .rw[e8 c];refine cG (by rw[eo,cy,cF,h.u2,c];rfl) ?_;show some (0,[I.w 2000,bZ I n,bZ I e,Val.vi (cn .add .i64 (I.w 2003).toI 1),bZ I Ce,bZ I r])=_;rw[h.u0,h.u3,inc,h.y18]
  .rw[b9 c];refine cE (by rw[eo,cy,cF,h.u2];exact i6 c) ?_;show some (0,[I.w 2000,bZ I n,I.w 2002,Val.vi (cn .add .i64 (I.w 2003).toI 1),bZ I Ce,bZ I r])=_;rw[h.u0,h.u3,inc,h.y18,h.u2]
end
end Go.Ev.S9
namespace Go.Ev.S9
open Go Go.Ev
theorem dl8{k s w g:Int}(hR:cV k s w g=true):TBL k s w g [] []:=⟨hR,Vo hR,λx hx=>(by cases hx),λx hx=>(by cases hx),s7 _⟩
section
variable{k s w g:Int}{ops:List Val}(hR:cV k s w g=true)(hn:ops.length<=24)(ho: ∀r∈ops,nL r=true)
include hR hn ho
theorem Kd: ∀i,i<=ops.length-> ∃m evs,(fh F0 (.vi k) (.vi s) (.vi w) (.vi g) ops i).2.1= .vl m/\(fh F0 (.vi k) (.vi s) (.vi w) (.vi g) ops i).2.2=evs.map cw/\TBL k s w g evs m/\evs.length<=i
 |0,_=>⟨[],[],rfl,rfl,dl8 hR,e9 _⟩
 |i+1,hi=>by
  obtain⟨m,evs,h1,h2,H,hl⟩:=Kd i (by omega);obtain⟨ek,ks,t,v,hr,hv⟩:=HB (ho _ (iN (show i<ops.length by omega)));have hw:=AO (k:=k) (s:=s) (l:=w) (g:=g) h1 hr;obtain⟨m',evs',a1,a2,a3,a4,_⟩:=Wc H (by omega) hv (ek:=ek) (ks:=ks) (t:=t);refine⟨m',evs',?_,?_,a2,by omega⟩
  .show eQ F0 (gk _ _ _ _ _ _)=_;rw[hw,a1]
  .show(if dC (gk _ _ _ _ _ _)≠0 then _ else _++[lq (cg ops i)])=_;rw[hw,h2,hr,<-a4];rfl
theorem cQ4{I:Opq}{i:Nat}(hi:i<ops.length)(hf: ∀i a,I.f i a=F i a)(w0:I.w 0= .vi k)(w1:I.w 1= .vi s)(w2:I.w 2= .vi w)(w3:I.w 3= .vi g)(w4:I.w 4= .vl ops):
 Z0 Dz (I.upd 2000 (nA F0 (.vi k) (.vi s) (.vi w) (.vi g) ops i))=some (0,nA F0 (.vi k) (.vi s) (.vi w) (.vi g) ops (i+1)):=by
 obtain⟨m,evs,h1,h2,H,hl⟩:=Kd hR hn ho i (by omega);obtain⟨ek,ks,t,v,hr,hv⟩:=HB (ho _ (iN hi));have hw:=AO (k:=k) (s:=s) (l:=w) (g:=g) h1 hr;have nx:nA F0 (.vi k) (.vi s) (.vi w) (.vi g) ops (i+1)=[.vb false,.vi (if dC (cL k s w g m ek ks t v)≠0 then evs.map cw else evs.map cw++[.vl [.vi ek,.vs ks,.vi t,.vi v]]).length,.vi (if(fh F0 (.vi k) (.vi s) (.vi w) (.vi g) ops i).1=0 then dC (cL k s w g m ek ks t v)else(fh F0 (.vi k) (.vi s) (.vi w) (.vi g) ops i).1),.vi (i+1:Nat),eQ F0 (cL k s w g m ek ks t v),.vl (if dC (cL k s w g m ek ks t v)≠0 then evs.map cw else evs.map cw++[.vl [.vi ek,.vs ks,.vi t,.vi v]])]:=by
  unfold nA;rw[show fh F0 (.vi k) (.vi s) (.vi w) (.vi g) ops (i+1)=(if(fh F0 (.vi k) (.vi s) (.vi w) (.vi g) ops i).1=0 then dC (gk (.vi k) (.vi s) (.vi w) (.vi g) (fh F0 (.vi k) (.vi s) (.vi w) (.vi g) ops i).2.1 (cg ops i))else(fh F0 (.vi k) (.vi s) (.vi w) (.vi g) ops i).1,eQ F0 (gk (.vi k) (.vi s) (.vi w) (.vi g) (fh F0 (.vi k) (.vi s) (.vi w) (.vi g) ops i).2.1 (cg ops i)),if dC (gk (.vi k) (.vi s) (.vi w) (.vi g) (fh F0 (.vi k) (.vi s) (.vi w) (.vi g) ops i).2.1 (cg ops i))≠0 then(fh F0 (.vi k) (.vi s) (.vi w) (.vi g) ops i).2.2 else(fh F0 (.vi k) (.vi s) (.vi w) (.vi g) ops i).2.2++[lq (cg ops i)])from rfl,hw,h2,hr];rfl
 have h24:evs.length<24:=by omega
 have pv:nA F0 (.vi k) (.vi s) (.vi w) (.vi g) ops i=[.vb false,.vi evs.length,.vi (fh F0 (.vi k) (.vi s) (.vi w) (.vi g) ops i).1,.vi i,.vl m,.vl (evs.map cw)]:=by
  unfold nA;rw[h1,h2,k6]
 rw[nx,pv];generalize (fh F0 (.vi k) (.vi s) (.vi w) (.vi g) ops i).1=fi;have Q:RQ (I.upd 2000 [.vb false,.vi evs.length,.vi fi,.vi i,.vl m,.vl (evs.map cw)]) k s w g ops i m evs fi ek ks t v:=
  ⟨hf,by rw[cU _ _ _ (by omega),w0],by rw[cU _ _ _ (by omega),w1],by rw[cU _ _ _ (by omega),w2],by rw[cU _ _ _ (by omega),w3],by rw[cU _ _ _ (by omega),w4],by rw[cN];simp,by rw[cN];simp,by rw[cN];simp,by rw[cN];simp,by rw[cN];simp,by rw[cN];simp,hr⟩
 generalize I.upd 2000 [.vb false,.vi evs.length,.vi fi,.vi i,.vl m,.vl (evs.map cw)]=aa at*
 have tl:=λ{e n r:SX} he=>dZ5 Q H h24 hv hi hn (e:=e) (n:=n) (r:=r) he
 have no: ∀{e:SX} {c:Int},c≠0->dC (cL k s w g m ek ks t v)=c->bZ aa e= .vi c->Z0 (AE e aR bq) aa=some (0,[.vb false,.vi (if dC (cL k s w g m ek ks t v)≠0 then evs.map cw else evs.map cw++[.vl [.vi ek,.vs ks,.vi t,.vi v]]).length,.vi (if fi=0 then dC (cL k s w g m ek ks t v)else fi),.vi (i+1:Nat),eQ F0 (cL k s w g m ek ks t v),.vl (if dC (cL k s w g m ek ks t v)≠0 then evs.map cw else evs.map cw++[.vl [.vi ek,.vs ks,.vi t,.vi v]])]):=λ{e c} hc he hd=>by
  rw[tl (by rw[hd,he];rfl),hd,he,e8 hc,k6];show some (0,[Val.vb false,aa.w 2001,_,_,_,aa.w 2005])=_;rw[Q.u1,Q.u5];by_cases z:fi=0
  .rw[e8 z,e8 z]
  .rw[b9 z,b9 z]
 have e0:bZ aa (eX 0)= .vi ek:=Q.ex 0;have e1:bZ aa (eX 1)= .vs ks:=Q.ex 1;have hev:(evs.map cw).length=evs.length:=k6 ..;unfold Dz;refine cG ?_ (W8 ?_ (W8 ?_ (W8 ?_ ?_)))
 .rw[cT,cy,Z8,dR,Q.u3,Q.w4];exact c9 (by show(i:Int)<(ops.length:Int);omega)
 .rw[cI,cF,cy,Q.u3];exact c9 (by show(0:Int)<=(i:Int);omega)
 .show dB aa (zn (AY bp) (.app 739 [aN,bp,eX 1]))=true;rw[cX];exact and2 (tH Q.f fe_x Q.u4 H.ok) (Nd Q.f Q.w0 Q.u4 e1 H.ok)
 .show dB aa (zn (zn (zp aR) (fO aR (zl 2005))) (zn (zb (zL rQ) 100) (.app 906 [aN,aO,aT,aU,rQ,eX 0,eX 1,eX 2,eX 3])))=true;rw[cX,cX,cX,cI,cI,cI,Z8,Z8,cy,dR,cF,cF,Q.u1,Q.u5,Q.r,a65,hev,a09];refine and2 (and2 (c9 (by omega)) (c9 (x5 _))) (and2 (c9 (by omega)) ?_);show(aa.f 906 [aa.w 0,aa.w 1,aa.w 2,aa.w 3,bZ aa rQ,bZ aa (eX 0),bZ aa (eX 1),bZ aa (eX 2),bZ aa (eX 3)]).toB=true;rw[Q.f,Q.nineQ];exact Gr.2 (ed8 H h24 hv)
 by_cases c0:dH ek ks t v=0
 .refine cE (by rw[eZ,Q.y8,c0];rfl) ?_;by_cases c1:ek=1
  .subst c1;have y19:bZ aa pt= .vl (evs.map cw++[.vl [.vi 1,.vs ks,.vi t,.vi v]]):=by
    show Val.vl ((aa.w 2005).toL++[Val.vl [bZ aa (eX 0),bZ aa (eX 1),bZ aa (eX 2),bZ aa (eX 3)]])=_;rw[Q.u5,Q.exs];rfl
   have l19:(evs.map cw++[Val.vl [.vi 1,.vs ks,.vi t,.vi v]]).length=evs.length+1:=by rw[k5,hev];rfl
   have hx:evs.map cw++[Val.vl [.vi 1,.vs ks,.vi t,.vi v]]=(evs++[(ks,t,v)]).map cw:=by rw[n8];rfl
   have d829:dB aa (dP (.app 829 [aN,aO,aT,aU,pt]))= !gg k s w g (evs.map cw++[.vl [.vi 1,.vs ks,.vi t,.vi v]]):=by
    rw[fm];show(!(aa.f 829 [aa.w 0,aa.w 1,aa.w 2,aa.w 3,bZ aa pt]).toB)=_;rw[Q.f,Q.w0,Q.w1,Q.w2,Q.w3,y19];rfl
   have hrt:=KL H h24 hv (ek:=1) (ks:=ks) (t:=t);have hrt:(if gg k s w g (evs.map cw++[.vl [.vi 1,.vs ks,.vi t,.vi v]])=true then 0 else 30)=dC (cL k s w g m 1 ks t v):=by
    rw[<-hrt];have e:lv (aQ k s w g evs 1 ks t v)=if dH 1 ks t v≠0 then dH 1 ks t v else if(1:Int)≠1 then 2 else if gg k s w g (evs.map cw++[.vl [.vi 1,.vs ks,.vi t,.vi v]])=true then 0 else 30:=rfl
    exact(e.trans ((b9 (λh=>h c0)).trans (b9 (λh=>h rfl)))).symm
   refine cE (by show dB aa (cZ (eX 0) aZ)=false;rw[eZ,e0];rfl) (W8 ?_ (W8 ?_ (W8 ?_ ?_)))
   .rw[cX,eo,cI,cy,Z8,dR,cF,Q.u1,Q.u5,a65,hev];exact and2 (c9 rfl) (c9 (by omega))
   .rw[cI,Z8,y19,cF,a65,l19];exact c9 (by omega)
   .rw[cX,cI,Z8,y19,cF,a65,l19];refine and2 (c9 (by omega)) ?_;show(aa.f 840 [aa.w 0,aa.w 1,aa.w 2,aa.w 3,bZ aa pt]).toB=true;rw[Q.f,Q.w0,Q.w1,Q.w2,Q.w3,y19];show(cV k s w g&&(decide ((evs.map cw++[cw (ks,t,v)]).length<=24)&&(evs.map cw++[cw (ks,t,v)]).all pB))=true;rw[hR,C9,uC H.tm H.va,k5,hev,List.all_cons,Vm (x:=(ks,t,v)) c0 hv];rw[c9 (by show evs.length+1<=24;omega)];rfl
   .cases hk:gg k s w g (evs.map cw++[.vl [.vi 1,.vs ks,.vi t,.vi v]])with
    |false=>
     rw[hk,b9 (by simp)]at hrt;exact cG (by rw[d829,hk];rfl) (no (c:=30) (by simp) hrt.symm rfl)
    |true=>
     rw[hk,e8 rfl]at hrt;refine cE (by rw[d829,hk];rfl) ?_;rw[tl (by rw[<-hrt];rfl),<-hrt,b9 (λh:(0:Int)≠0=>h rfl)];show some (0,[Val.vb false,Val.vi ((bZ aa pt).toL.length:Int),_,_,_,bZ aa pt])=_;rw[y19];by_cases z:fi=0
     .rw[e8 z,e8 z];rfl
     .rw[b9 z,b9 z];rfl
  .refine cG (by show dB aa (cZ (eX 0) aZ)=true;rw[eZ,e0,cF];simp[c1]) (no (c:=2) (by simp) ?_ rfl);rw[oT,b9 (by simp[c0]),e8 c1]
 .refine cG (by rw[eZ,Q.y8,cF];simp[c0]) (no c0 ?_ Q.y8);rw[oT,e8 c0]
end
end Go.Ev.S9
namespace Go.Ev.S9
open Go Go.Ev
theorem Lr(X:Nat->List Val->Val)(a b c d:Val)(U:List Val): ∀i,jB X a b c d U i=(fh X a b c d U i).2.1
 |0=>rfl
 |i+1=>by
  show eQ X (gk a b c d (jB X a b c d U i) (cg U i))=eQ X (gk a b c d (fh X a b c d U i).2.1 (cg U i));rw[Lr X a b c d U i]
theorem ed9(X:Nat->List Val->Val)(a b c d:Val)(U:List Val)(i:Nat):(fh X a b c d U (i+1)).1=if(fh X a b c d U i).1=0 then gd X a b c d U i else(fh X a b c d U i).1:=by
 show(if(fh X a b c d U i).1=0 then dC (gk a b c d (fh X a b c d U i).2.1 (cg U i))else(fh X a b c d U i).1)=_;unfold gd;rw[Lr]
theorem c05(X:Nat->List Val->Val)(a b c d:Val)(U:List Val): ∀i,i<=U.length->(fh X a b c d U i).1=if eO X a b c d U<i then gd X a b c d U (eO X a b c d U)else 0
 |0,_=>by rw[b9 (G8 _)];rfl
 |i+1,hi=>by
  obtain⟨k1,k2,k3⟩:=FB X a b c d U;rw[ed9,c05 X a b c d U i (by omega)];by_cases c1:eO X a b c d U<i
  .rw[e8 c1,b9 (k3 (by omega)),e8 (by omega)]
  .rw[b9 c1,e8 rfl];by_cases c2:eO X a b c d U=i
   .rw[e8 (by omega),c2]
   .rw[b9 (by omega),k2 i (by omega)]
section
variable{k s w g:Int}{ops:List Val}{I:Opq}(hR:cV k s w g=true)(hn:ops.length<=24)(ho: ∀r∈ops,nL r=true)(hf: ∀i a,I.f i a=F i a)(w0:I.w 0= .vi k)(w1:I.w 1= .vi s)(w2:I.w 2= .vi w)(w3:I.w 3= .vi g)(w4:I.w 4= .vl ops)
include hR hn ho hf w0 w1 w2 w3 w4
theorem dZ6:cO (λvs=>Z0 Dz (I.upd 2000 vs)) [.vb false,.vi 0,.vi 0,.vi 0,.vl [],.vl []]=some (0,nA F0 (.vi k) (.vi s) (.vi w) (.vi g) ops ops.length):=by
 refine eE (st:=nA F0 (.vi k) (.vi s) (.vi w) (.vi g) ops) (n:=ops.length) (λi hi=>cQ4 hR hn ho hi hf w0 w1 w2 w3 w4) ?_;show Z0 Dz (I.upd 2000 (nA F0 (.vi k) (.vi s) (.vi w) (.vi g) ops ops.length))=_;unfold nA;generalize (fh F0 (.vi k) (.vi s) (.vi w) (.vi g) ops ops.length)=p;unfold Dz;refine cE ?_ ?_
 .have a4:(I.upd 2000 [.vb false,.vi p.2.2.length,.vi p.1,.vi ops.length,p.2.1,.vl p.2.2]).w 4= .vl ops:=by rw[cU _ _ _ (by omega),w4]
  rw[cT,cy,Z8,dR,a4];have:(I.upd 2000 [.vb false,.vi p.2.2.length,.vi p.1,.vi ops.length,p.2.1,.vl p.2.2]).w 2003= .vi ops.length:=by rw[cN];simp
  rw[this];exact i6 (by show¬(ops.length:Int)<(ops.length:Int);omega)
 .show some (1,[(I.upd 2000 _).w 2000,(I.upd 2000 _).w 2001,(I.upd 2000 _).w 2002,(I.upd 2000 _).w 2003,(I.upd 2000 _).w 2004,(I.upd 2000 _).w 2005])=_;simp[cN]
omit hR in
theorem Um{i:Nat}{p:Int}{m:List Val}{evs:List dG}(H:TBL k s w g evs m)(hi:i<=ops.length):Z0 xn (I.upd 2000 [.vi 0,.vi p,.vi i,.vl m])=if i<ops.length then(if p≠0 then some (2,[.vi p,.vi p,.vi i,.vl m])else some (0,[.vi 0,.vi (dC (gk (.vi k) (.vi s) (.vi w) (.vi g) (.vl m) (cg ops i))),.vi (i+1:Nat),eQ F0 (gk (.vi k) (.vi s) (.vi w) (.vi g) (.vl m) (cg ops i))]))else some (1,[.vi 0,.vi p,.vi i,.vl m]):=by
 have v0:(I.upd 2000 [.vi 0,.vi p,.vi i,.vl m]).w 2000= .vi 0:=by rw[cN];simp
 have v1:(I.upd 2000 [.vi 0,.vi p,.vi i,.vl m]).w 2001= .vi p:=by rw[cN];simp
 have v2:(I.upd 2000 [.vi 0,.vi p,.vi i,.vl m]).w 2002= .vi i:=by rw[cN];simp
 have v3:(I.upd 2000 [.vi 0,.vi p,.vi i,.vl m]).w 2003= .vl m:=by rw[cN];simp
 have a0:(I.upd 2000 [.vi 0,.vi p,.vi i,.vl m]).w 0= .vi k:=by rw[cU _ _ _ (by omega),w0]
 have a1:(I.upd 2000 [.vi 0,.vi p,.vi i,.vl m]).w 1= .vi s:=by rw[cU _ _ _ (by omega),w1]
 have a2:(I.upd 2000 [.vi 0,.vi p,.vi i,.vl m]).w 2= .vi w:=by rw[cU _ _ _ (by omega),w2]
 have a3:(I.upd 2000 [.vi 0,.vi p,.vi i,.vl m]).w 3= .vi g:=by rw[cU _ _ _ (by omega),w3]
 have a4:(I.upd 2000 [.vi 0,.vi p,.vi i,.vl m]).w 4= .vl ops:=by rw[cU _ _ _ (by omega),w4]
 have hf': ∀j a,(I.upd 2000 [.vi 0,.vi p,.vi i,.vl m]).f j a=F j a:=λj a=>by rw[eV];exact hf j a
 generalize I.upd 2000 [.vi 0,.vi p,.vi i,.vl m]=aa at*
 unfold xn;by_cases c:i<ops.length
 .rw[e8 c];have inc:cn .add .i64 (Val.vi (i:Int)).toI 1=((i+1:Nat):Int):=eJ c (by omega);refine cG ?_ (W8 ?_ ?_)
  .show dB aa (zs aW (zl 4))=true;rw[cT,cy,Z8,dR,v2,a4];exact c9 (by show(i:Int)<(ops.length:Int);omega)
  .rw[cI,cF,cy,v2];exact c9 (by show(0:Int)<=(i:Int);omega)
  by_cases cp:p=0
  .subst cp;rw[b9 (λh=>h rfl)];obtain⟨ek,ks,t,v,hr,hv⟩:=HB (ho _ (iN c));have ex: ∀j:Nat,bZ aa (.op .lget [aS,aW,.ci j])=Z7 (cg ops i) j:=λj=>uR (q:= aS) j a4 v2
   have e0:=ex 0;have e1:=ex 1;have e2:=ex 2;have e3:=ex 3;have nine:[aa.w 0,aa.w 1,aa.w 2,aa.w 3,aa.w 2003,bZ aa (zg 4 2002 0),bZ aa (zg 4 2002 1),bZ aa (zg 4 2002 2),bZ aa (zg 4 2002 3)]=gk (.vi k) (.vi s) (.vi w) (.vi g) (.vl m) (cg ops i):=by
    rw[a0,a1,a2,a3,v3,show bZ aa (zg 4 2002 0)=_ from e0,show bZ aa (zg 4 2002 1)=_ from e1,show bZ aa (zg 4 2002 2)=_ from e2,show bZ aa (zg 4 2002 3)=_ from e3];rfl
   refine cE (by rw[eZ,cy,cF,v1];rfl) (W8 ?_ ?_)
   .show dB aa (zn (AY bj) (.app 739 [aN,bj,zg 4 2002 1]))=true;rw[cX];exact and2 (tH hf' fe_x v3 H.ok) (Nd hf' a0 v3 (show bZ aa (zg 4 2002 1)= .vs ks by rw[show bZ aa (zg 4 2002 1)=_ from e1,hr];rfl) H.ok)
   .show some (0,[aa.w 2000,aa.f 732 [aa.w 0,aa.w 1,aa.w 2,aa.w 3,aa.w 2003,bZ aa (zg 4 2002 0),bZ aa (zg 4 2002 1),bZ aa (zg 4 2002 2),bZ aa (zg 4 2002 3)],Val.vi (cn .add .i64 (aa.w 2002).toI 1),aa.f 733 [aa.w 0,aa.w 1,aa.w 2,aa.w 3,aa.w 2003,bZ aa (zg 4 2002 0),bZ aa (zg 4 2002 1),bZ aa (zg 4 2002 2),bZ aa (zg 4 2002 3)]])=_;rw[nine,hf',hf',v0,v2,inc];refine congrArg (λx=>some (0,[Val.vi 0,Val.vi (dC (gk (.vi k) (.vi s) (.vi w) (.vi g) (.vl m) (cg ops i))),Val.vi (i+1:Nat),x])) ?_;exact cZ0 (X:=FQ F0) (λ_=>rfl) _
  .rw[e8 cp];refine cG (by rw[eZ,cy,cF,v1];simp[cp]) ?_;show some (2,[aa.w 2001,aa.w 2001,aa.w 2002,aa.w 2003])=_;rw[v1,v2,v3]
 .rw[b9 c];refine cE ?_ ?_
  .show dB aa (zs aW (zl 4))=false;rw[cT,cy,Z8,dR,v2,a4];exact i6 (by show¬(i:Int)<(ops.length:Int);omega)
  .show some (1,[aa.w 2000,aa.w 2001,aa.w 2002,aa.w 2003])=_;rw[v0,v1,v2,v3]
theorem dZ7:cO (λvs=>Z0 xn (I.upd 2000 vs)) [.vi 0,.vi 0,.vi 0,.vl []]=some (qX F0 (.vi k) (.vi s) (.vi w) (.vi g) ops):=by
 obtain⟨k1,k2,k3⟩:=FB F0 (.vi k) (.vi s) (.vi w) (.vi g) ops;have tab: ∀i,i<=ops.length-> ∃m evs,jB F0 (.vi k) (.vi s) (.vi w) (.vi g) ops i= .vl m/\TBL k s w g evs m:=λi hi=>by
  obtain⟨m,evs,h1,_,H,_⟩:=Kd hR hn ho i hi;exact⟨m,evs,by rw[Lr,h1],H⟩
 have step: ∀i,i<ops.length->i<=eO F0 (.vi k) (.vi s) (.vi w) (.vi g) ops->Z0 xn (I.upd 2000 [.vi 0,.vi (if i=0 then 0 else gd F0 (.vi k) (.vi s) (.vi w) (.vi g) ops (i-1)),.vi i,jB F0 (.vi k) (.vi s) (.vi w) (.vi g) ops i])=some (0,[.vi 0,.vi (if i+1=0 then 0 else gd F0 (.vi k) (.vi s) (.vi w) (.vi g) ops (i+1-1)),.vi (i+1:Nat),jB F0 (.vi k) (.vi s) (.vi w) (.vi g) ops (i+1)]):=λi hi hK=>by
  obtain⟨m,evs,h1,H⟩:=tab i (by omega);have hp:(if i=0 then 0 else gd F0 (.vi k) (.vi s) (.vi w) (.vi g) ops (i-1))=0:=by
   by_cases c:i=0
   .rw[e8 c]
   .rw[b9 c,k2 (i-1) (by omega)]
  rw[hp,b9 (M7 i),show i+1-1=i from rfl];have:jB F0 (.vi k) (.vi s) (.vi w) (.vi g) ops (i+1)=eQ F0 (gk (.vi k) (.vi s) (.vi w) (.vi g) (.vl m) (cg ops i)):=by rw[<-h1];rfl
  rw[this,show gd F0 (.vi k) (.vi s) (.vi w) (.vi g) ops i=dC (gk (.vi k) (.vi s) (.vi w) (.vi g) (.vl m) (cg ops i)) by rw[<-h1];rfl,h1,Um hn ho hf w0 w1 w2 w3 w4 H (by omega),e8 hi,b9 (λh=>h rfl)]
 unfold qX;by_cases c:eO F0 (.vi k) (.vi s) (.vi w) (.vi g) ops+1<ops.length
 .rw[e8 c];refine eE (st:=λi=>[.vi 0,.vi (if i=0 then 0 else gd F0 (.vi k) (.vi s) (.vi w) (.vi g) ops (i-1)),.vi i,jB F0 (.vi k) (.vi s) (.vi w) (.vi g) ops i]) (n:=eO F0 (.vi k) (.vi s) (.vi w) (.vi g) ops+1) (λi hi=>step i (by omega) (by omega)) ?_;obtain⟨m,evs,h1,H⟩:=tab (eO F0 (.vi k) (.vi s) (.vi w) (.vi g) ops+1) (by omega);show Z0 xn (I.upd 2000 [.vi 0,.vi (if eO F0 (.vi k) (.vi s) (.vi w) (.vi g) ops+1=0 then 0 else gd F0 (.vi k) (.vi s) (.vi w) (.vi g) ops (eO F0 (.vi k) (.vi s) (.vi w) (.vi g) ops+1-1)),.vi (eO F0 (.vi k) (.vi s) (.vi w) (.vi g) ops+1:Nat),jB F0 (.vi k) (.vi s) (.vi w) (.vi g) ops (eO F0 (.vi k) (.vi s) (.vi w) (.vi g) ops+1)])=_;rw[b9 (M7 _),M8,h1,Um hn ho hf w0 w1 w2 w3 w4 H (by omega),e8 c,e8 (k3 (by omega))]
 .rw[b9 c];refine eE (st:=λi=>[.vi 0,.vi (if i=0 then 0 else gd F0 (.vi k) (.vi s) (.vi w) (.vi g) ops (i-1)),.vi i,jB F0 (.vi k) (.vi s) (.vi w) (.vi g) ops i]) (n:=ops.length) (λi hi=>step i hi (by omega)) ?_;obtain⟨m,evs,h1,H⟩:=tab ops.length (e9 _);show Z0 xn (I.upd 2000 [.vi 0,.vi (if ops.length=0 then 0 else gd F0 (.vi k) (.vi s) (.vi w) (.vi g) ops (ops.length-1)),.vi ops.length,jB F0 (.vi k) (.vi s) (.vi w) (.vi g) ops ops.length])=_;rw[h1,Um hn ho hf w0 w1 w2 w3 w4 H (e9 _),b9 (O6 _)];refine congrArg (λx=>some (1,[Val.vi 0,x,Val.vi ops.length,Val.vl m])) ?_;by_cases z:eO F0 (.vi k) (.vi s) (.vi w) (.vi g) ops<ops.length
  .rw[e8 z,b9 (by omega),show ops.length-1=eO F0 (.vi k) (.vi s) (.vi w) (.vi g) ops by omega]
  .rw[b9 z];by_cases y:ops.length=0
   .rw[e8 y]
   .rw[b9 y,k2 _ (by omega)]
omit hR hn ho hf w0 w1 w2 w3 in
theorem dF1:cO (λvs=>Z0 Co (I.upd 2000 vs)) [.vi 0,.vi 2,.vi 0]=some (if ops.length=0 then(0,[.vi 0,.vi 2,.vi 0])else(1,[.vi 2,.vi 2,.vi 0])):=by
 have v0:(I.upd 2000 [.vi 0,.vi 2,.vi 0]).w 2000= .vi 0:=lB ..;have v1:(I.upd 2000 [.vi 0,.vi 2,.vi 0]).w 2001= .vi 2:=gr ..;have v2:(I.upd 2000 [.vi 0,.vi 2,.vi 0]).w 2002= .vi 0:=kW ..;have a4:(I.upd 2000 [.vi 0,.vi 2,.vi 0]).w 4= .vl ops:=by rw[cU _ _ _ (by omega),w4]
 by_cases c:ops.length=0
 .rw[e8 c];refine eE (st:=λ_=>[.vi 0,.vi 2,.vi 0]) (n:=0) (λi hi=>absurd hi (G8 _)) ?_;show Z0 Co (I.upd 2000 [.vi 0,.vi 2,.vi 0])=_;generalize I.upd 2000 [.vi 0,.vi 2,.vi 0]=aa at*
  unfold Co;refine cE (by show dB aa (zs aW (zl 4))=false;rw[cT,cy,Z8,dR,v2,a4];exact i6 (by show¬(0:Int)<(ops.length:Int);omega)) ?_;show some (1,[aa.w 2000,aa.w 2001,aa.w 2002])=_;rw[v0,v1,v2]
 .rw[b9 c];refine eE (st:=λ_=>[.vi 0,.vi 2,.vi 0]) (n:=0) (λi hi=>absurd hi (G8 _)) ?_;show Z0 Co (I.upd 2000 [.vi 0,.vi 2,.vi 0])=_;generalize I.upd 2000 [.vi 0,.vi 2,.vi 0]=aa at*
  unfold Co;refine cG (by show dB aa (zs aW (zl 4))=true;rw[cT,cy,Z8,dR,v2,a4];exact c9 (by show(0:Int)<(ops.length:Int);omega)) (W8 (by rw[cI,cF,cy,v2];rfl) (cG (by rw[eZ,cy,cF,v1];rfl) ?_));show some (2,[aa.w 2001,aa.w 2001,aa.w 2002])=_;rw[v1,v2]
end
end Go.Ev.S9
namespace Go.Ev.S9
open Go Go.Ev
def iU(L:List Val)(p:PaneM):Nat->Bool
 |0=>false
 |k+1=>iU L p k||decide (Z6 (cg L k)=p)
theorem Zx(L:List Val)(p:PaneM): ∀k,k<=L.length->iU L p k=nX (L.take k) p
 |0,_=>rfl
 |k+1,h=>by
  rw[iU,Zx L p k (by omega),nX,nX,yk (by omega),List.any_append];simp
theorem dl9(L:List Val)(p:PaneM):iU L p L.length=nX L p:=by rw[Zx _ _ _ (e9 _),A8]
theorem c07(q:Val): ∀m:List Val,gO m q=nX m (Z6 q)
 | []=>rfl
 |x::m=>by rw[DY,c07 q m];rfl
theorem dm0(m:List Val)(p:PaneM):nX (S7.srt false m) p=nX m p:=by
 unfold nX;rw[C0,I6,I6];constructor<;>rintro⟨x,a,b⟩
 .exact⟨x,S7.srt_mem.1 a,b⟩
 .exact⟨x,S7.srt_mem.2 a,b⟩
def rP(j:Int):SX:= .op .lget [.app 490 [gU],aR,.ci j]
theorem dm1:BQ= .need (AY gU) (.ite (zs aR (zL (.app 490 [gU]))) (.ite aV (.ret 0 [.cb true,zi aR]) (.need (zp aR) (.ret 0 [.op .ite [aV,.cb true,zn (.op (.scmp .eql) [rP 0,bd]) (zn (cJ (rP 1) bf) (cJ (rP 2) bi))],zi aR]))) (.ret 1 [aV,aR])):=rfl
theorem dZ8{I:Opq}{k:Int}{m:List Val}(hf: ∀i a,I.f i a=F i a)(D: ∀vs,bZ (I.upd 2000 vs) gU= .vl m)(ho:vJ k m):
 cO (λvs=>Z0 BQ (I.upd 2000 vs)) [.vb false,.vi 0]=some (0,[.vb (nX (S7.srt false m) ⟨(I.w 6).toS,(I.w 7).toI,(I.w 8).toI⟩),.vi (S7.srt false m).length]):=by
 have hL:(S7.srt false m).length<=400:=by rw[S7.srt_len];exact ho.2.2.1
 have D490: ∀vs,bZ (I.upd 2000 vs) (.app 490 [gU])= .vl (S7.srt false m):=λvs=>by
  show(I.upd 2000 vs).f 490 [bZ _ gU]=_;rw[D,eV,hf];rfl
 rw[<-dl9];generalize hp:(⟨(I.w 6).toS,(I.w 7).toI,(I.w 8).toI⟩:PaneM)=p;have run: ∀i,i<=(S7.srt false m).length->Z0 BQ (I.upd 2000 [.vb (iU (S7.srt false m) p i),.vi i])=if i<(S7.srt false m).length then some (0,[.vb (iU (S7.srt false m) p (i+1)),.vi (i+1:Nat)])else some (1,[.vb (iU (S7.srt false m) p i),.vi i]):=λi hi=>by
  have D5:=D [.vb (iU (S7.srt false m) p i),.vi i];have D4:=D490 [.vb (iU (S7.srt false m) p i),.vi i];have v0:(I.upd 2000 [.vb (iU (S7.srt false m) p i),.vi i]).w 2000= .vb (iU (S7.srt false m) p i):=by rw[cN];simp
  have v1:(I.upd 2000 [.vb (iU (S7.srt false m) p i),.vi i]).w 2001= .vi i:=by rw[cN];simp
  have hp':(⟨((I.upd 2000 [.vb (iU (S7.srt false m) p i),.vi i]).w 6).toS,((I.upd 2000 [.vb (iU (S7.srt false m) p i),.vi i]).w 7).toI,((I.upd 2000 [.vb (iU (S7.srt false m) p i),.vi i]).w 8).toI⟩:PaneM)=p:=by
   rw[cU _ _ _ (by omega),cU _ _ _ (by omega),cU _ _ _ (by omega)];exact hp
  have hf': ∀j a,(I.upd 2000 [.vb (iU (S7.srt false m) p i),.vi i]).f j a=F j a:=λj a=>by rw[eV];exact hf j a
  generalize I.upd 2000 [.vb (iU (S7.srt false m) p i),.vi i]=aa at*
  rw[dm1];refine W8 (tH hf' fe_x D5 ho) ?_;by_cases c:i<(S7.srt false m).length
  .rw[e8 c];have inc:cn .add .i64 (Val.vi (i:Int)).toI 1=((i+1:Nat):Int):=eJ c (by omega);refine cG (by rw[cT,cy,Z8,v1,D4];exact c9 (by show(i:Int)<((S7.srt false m).length:Int);omega)) ?_;show _=some (0,[Val.vb (iU (S7.srt false m) p i||decide (Z6 (cg (S7.srt false m) i)=p)),_]);cases hb:iU (S7.srt false m) p i with
   |true=>
    rw[hb]at v0;refine cG (by show(aa.w 2000).toB=true;rw[v0];rfl) ?_;show some (0,[Val.vb true,Val.vi (cn .add .i64 (aa.w 2001).toI 1)])=_;rw[v1,inc];rfl
   |false=>
    rw[hb]at v0;refine cE (by show(aa.w 2000).toB=false;rw[v0];rfl) (W8 (by rw[cI,cF,cy,v1];exact c9 (by show(0:Int)<=(i:Int);omega)) ?_);have r:=λj:Nat=>uR (q:= .app 490 [gU]) j D4 v1
    have r0:bZ aa (rP 0)=_:=r 0;have r1:bZ aa (rP 1)=_:=r 1;have r2:bZ aa (rP 2)=_:=r 2;show some (0,[bif (aa.w 2000).toB then Val.vb true else Val.vb (decide ((bZ aa (rP 0)).toS=(aa.w 6).toS)&&(decide ((bZ aa (rP 1)).toI=(aa.w 7).toI)&&decide ((bZ aa (rP 2)).toI=(aa.w 8).toI))),Val.vi (cn .add .i64 (aa.w 2001).toI 1)])=_;rw[v0,v1,inc,r0,r1,r2,<-hp',B2];refine congrArg (λx=>some (0,[Val.vb x,Val.vi ((i+1:Nat):Int)])) ?_;unfold Z6;rw[C0];simp only[j6,decide_eq_true_eq,PaneM.mk.injEq]
  .rw[b9 c];refine cE (by rw[cT,cy,Z8,v1,D4];exact i6 (by show¬(i:Int)<((S7.srt false m).length:Int);omega)) ?_;show some (1,[aa.w 2000,aa.w 2001])=_;rw[v0,v1]
 refine eE (st:=λi=>[.vb (iU (S7.srt false m) p i),.vi i]) (n:=(S7.srt false m).length) (λi hi=> ?_) ?_
 .show Z0 BQ (I.upd 2000 [.vb (iU (S7.srt false m) p i),.vi i])=_;rw[run i (by omega),e8 hi]
 .show Z0 BQ (I.upd 2000 [.vb (iU (S7.srt false m) p (S7.srt false m).length),.vi (S7.srt false m).length])=_;rw[run _ (e9 _),b9 (O6 _)]
theorem dZ9{X:Nat->List Val->Val}{a ops:List Val}(h1:(ce a 1).toI=2)(h5:(ce a 5).toL=ops):GQ X a=cA (if ops.length=0 then(0,[.vi 0,.vi 2,.vi 0])else(1,[.vi 2,.vi 2,.vi 0])):=by
 unfold GQ;rw[if_pos h1,h5];split<;>rfl
theorem e00{X:Nat->List Val->Val}{a:List Val}(h1:(ce a 1).toI=0):GQ X a=cA (qX X (ce a 4) (ce a 5) (ce a 6) (ce a 7) (ce a 11).toL):=by
 unfold GQ;rw[if_neg (by omega)]
theorem t_puts{I:Opq}(hf: ∀i a,I.f i a=F i a)(hn:(F 908 [I.w 0,I.w 1,I.w 2,I.w 3,I.w 4,I.w 5,I.w 6,I.w 7,I.w 8]).toB=true):Z0 T_puts I=some (0,[.vb true]):=by
 obtain⟨g0,hn⟩:=Z1 (show(ed (I.w 0)&&(ed (I.w 1)&&(ed (I.w 2)&&(ed (I.w 3)&&wX (I.w 4)))))=true from hn);obtain⟨g1,hn⟩:=Z1 hn;obtain⟨g2,hn⟩:=Z1 hn;obtain⟨g3,g4⟩:=Z1 hn;obtain⟨k,w0⟩:=tV g0;obtain⟨s,w1⟩:=tV g1;obtain⟨w,w2⟩:=tV g2;obtain⟨g,w3⟩:=tV g3;obtain⟨ops,w4,ho⟩:=cw0 g4;unfold T_puts;have d734:dB I (.app 734 [aS,bQ])=(!(List.range (min ops.length 100)).any (λi=>pd (cg ops i))&&decide ((ops.length:Int)<=24)):=by
  show(I.f 734 [I.w 4,.vi 24]).toB=_;rw[hf,w4];rfl
 cases hfew:(!(List.range (min ops.length 100)).any (λi=>pd (cg ops i))&&decide ((ops.length:Int)<=24))with
 |false=>exact cG (by rw[fm,d734,hfew];rfl) rfl
 |true=>
 refine cE (by rw[fm,d734,hfew];rfl) ?_;have hn:ops.length<=24:=by have:=j5 (Z1 hfew).2;omega
 cases h50:dB I (zt (.op .slen [bd]) 50)with
 |true=>exact cG h50 rfl
 |false=>
 refine cE h50 ?_;have d700:dB I (.app 700 [aN,aO,aT,aU])=cV k s w g:=by
  show(I.f 700 [I.w 0,I.w 1,I.w 2,I.w 3]).toB=_;rw[hf,w0,w1,w2,w3];rfl
 cases hR:cV k s w g with
 |false=>
  refine cG (by rw[fm,d700,hR];rfl) ?_;have e0:bZ I HN=cA (if ops.length=0 then(0,[.vi 0,.vi 2,.vi 0])else(1,[.vi 2,.vi 2,.vi 0])):=by
   show I.f 771 [.vi 0,.vi 2,.vi 0,.vi 0,.vi (I.w 4).toL.length,I.w 4,.vi (I.w 4).toL.length]=_;rw[hf,w4];exact dZ9 (X:=F0) (a:=[.vi 0,.vi 2,.vi 0,.vi 0,.vi (Val.vl ops).toL.length,.vl ops,.vi (Val.vl ops).toL.length]) rfl rfl
  refine Z5 (dF1 w4) e0 ?_;by_cases c:ops.length=0
  .rw[e8 c]at e0⊢;have p1:bZ I Md= .vi 2:=by show co (bZ I HN).toL 1 1=_;rw[e0];rfl
   have p2:bZ I HJ= .vb true:=by show Val.vb (decide ((bZ I Md).toI=2))=_;rw[p1];rfl
   refine cG (by rw[eZ,p1];rfl) (cG (by show(bZ I HJ).toB=true;rw[p2];rfl) ?_);show some (0,[bZ I HJ])=_;rw[p2]
  .rw[b9 c]at e0⊢;have p3:bZ I GM= .vb true:=by show Val.vb (decide ((co (bZ I HN).toL 1 0).toI=2))=_;rw[e0];rfl
   refine cG (by show(bZ I GM).toB=true;rw[p3];rfl) ?_;show some (0,[bZ I GM])=_;rw[p3]
 |true=>
 refine cE (by rw[fm,d700,hR];rfl) ?_;obtain⟨m,evs,h1,h2,H,hl⟩:=Kd hR hn ho ops.length (e9 _);have hfst:=c05 F0 (.vi k) (.vi s) (.vi w) (.vi g) ops ops.length (e9 _);have key: ∀aa:Opq,(∀n,n<2000->aa.w n=I.w n)->aa.f=I.f->bZ aa rV=cA (0,nA F0 (.vi k) (.vi s) (.vi w) (.vi g) ops ops.length):=λaa hw hf'=>by
  show aa.f 927 [.vb false,.vi 0,.vi 0,.vi 0,.vl [],.vl [],.vi 0,.vi (aa.w 4).toL.length,aa.w 4,aa.w 5,aa.w 0,aa.w 1,aa.w 2,aa.w 3,aa.w 6,aa.w 7,aa.w 8,aa.w 0,aa.w 1,aa.w 2,aa.w 3,.vl []]=_;rw[hf',hf,hw 0 (by omega),hw 1 (by omega),hw 2 (by omega),hw 3 (by omega),hw 4 (by omega),w0,w1,w2,w3,w4];rfl
 have pv:nA F0 (.vi k) (.vi s) (.vi w) (.vi g) ops ops.length=[.vb false,.vi evs.length,.vi (fh F0 (.vi k) (.vi s) (.vi w) (.vi g) ops ops.length).1,.vi ops.length,.vl m,.vl (evs.map cw)]:=by
  unfold nA;rw[h1,h2,k6]
 generalize hfi:(fh F0 (.vi k) (.vi s) (.vi w) (.vi g) ops ops.length).1=fi at*
 have e4:=key I (λ_ _=>rfl) rfl;have D5: ∀vs,bZ (I.upd 2000 vs) gU= .vl m:=λvs=>by
  show co (bZ (I.upd 2000 vs) rV).toL 1 4=_;rw[key _ (λn hn=>cU _ _ _ hn) rfl,pv];rfl
 have p5:bZ I gU= .vl m:=by show co (bZ I rV).toL 1 4=_;rw[e4,pv];rfl
 have p6:bZ I qT= .vi evs.length:=by show co (bZ I rV).toL 1 1=_;rw[e4,pv];rfl
 have p7:bZ I vd= .vl (evs.map cw):=by show co (bZ I rV).toL 1 5=_;rw[e4,pv];rfl
 have p8:bZ I wS= .vi fi:=by show co (bZ I rV).toL 1 2=_;rw[e4,pv];rfl
 have p13:bZ I CK= .vl (evs.map cw):=BS (x:=vd) (n:=qT) p7 (by rw[k6];exact p6);have p9:bZ I Ar= .vb (nX m ⟨(I.w 6).toS,(I.w 7).toI,(I.w 8).toI⟩):=by
  show I.f 722 [bZ I gU,I.w 6,I.w 7,I.w 8]=_;rw[hf,p5];exact congrArg Val.vb (c07 _ m)
 have e28:I.f 928 [.vb false,.vi 0,.vi 0,.vi (I.w 4).toL.length,I.w 4,I.w 5,I.w 0,I.w 1,I.w 2,I.w 3,I.w 6,I.w 7,I.w 8,I.w 0,I.w 1,I.w 2,I.w 3,bZ I gU,bZ I qT,bZ I vd,bZ I wS,bZ I Ar]=cA (0,[.vb (nX (S7.srt false m) ⟨(I.w 6).toS,(I.w 7).toI,(I.w 8).toI⟩),.vi (S7.srt false m).length]):=by
  rw[hf,p5];rfl
 have p18:bZ I oC= .vb true:=by
  show Val.vb (decide ((bZ I Ar).toB=(co (I.f 928 [.vb false,.vi 0,.vi 0,.vi (I.w 4).toL.length,I.w 4,I.w 5,I.w 0,I.w 1,I.w 2,I.w 3,I.w 6,I.w 7,I.w 8,I.w 0,I.w 1,I.w 2,I.w 3,bZ I gU,bZ I qT,bZ I vd,bZ I wS,bZ I Ar]).toL 1 0).toB))=_;rw[e28,p9];show Val.vb (decide (nX m _=nX (S7.srt false m) _))=_;rw[dm0,c9 rfl]
 have hev:(evs.map cw).length=evs.length:=k6 ..;have p12:dB I Eh=true:=by
  show dB I (zn (zp qT) (fO qT (zL vd)))=true;rw[cX,cI,cI,cF,Z8,p6,p7,a65,hev,a09];exact and2 (c9 (by omega)) (c9 (x5 _))
 have p14:dB I Mu=true:=by
  show dB I (zb (zL CK) 100)=true;rw[cI,Z8,p13,cF,a65,hev];exact c9 (by omega)
 have q907: ∀x:SX,bZ I x= .vl m->(I.f 907 [I.w 0,I.w 1,I.w 2,I.w 3,bZ I x,I.w 0,I.w 1,I.w 2,I.w 3,bZ I CK,I.w 5]).toB=true:=λx hx=>by
  rw[hf,hx];exact Gr.2 ⟨k,s,w,g,evs,m,w0,w1,w2,w3,rfl,p13,H⟩
 have p15:dB I KB=true:=q907 gU p5;have p17:dB I Tw=true:=by
  show dB I (zn Eh (zn Mu KB))=true;rw[cX,cX,p12,p14,p15];rfl
 have fin:Z0 (.ite oC (.ret 0 [oC]) (.ret 0 [.cb false])) I=some (0,[.vb true]):=by
  refine cG (by show(bZ I oC).toB=true;rw[p18];rfl) ?_;show some (0,[bZ I oC])=_;rw[p18]
 have e10:bZ I vQ=cA (qX F0 (.vi k) (.vi s) (.vi w) (.vi g) ops):=by
  show I.f 771 [.vi 0,.vi 0,.vi 0,.vl [],I.w 0,I.w 1,I.w 2,I.w 3,.vl [],.vi 0,.vi (I.w 4).toL.length,I.w 4,.vi (I.w 4).toL.length]=_;rw[hf,w0,w1,w2,w3,w4];exact e00 (X:=F0) (a:=[.vi 0,.vi 0,.vi 0,.vl [],.vi k,.vi s,.vi w,.vi g,.vl [],.vi 0,.vi (Val.vl ops).toL.length,.vl ops,.vi (Val.vl ops).toL.length]) rfl
 refine Z5 (dZ6 hR hn ho hf w0 w1 w2 w3 w4) e4 (W8 ?_ (Z5 (dZ8 (k:=k) hf D5 H.ok) e28 (Z5 (dZ7 hR hn ho hf w0 w1 w2 w3 w4) e10 ?_)))
 .rw[cI,Z8,p5,cF];exact c9 (by have:=H.ok.2.2.1;show(m.length:Int)<=1000000;omega)
 obtain⟨K1,K2,K3⟩:=FB F0 (.vi k) (.vi s) (.vi w) (.vi g) ops;have hM:jB F0 (.vi k) (.vi s) (.vi w) (.vi g) ops ops.length= .vl m:=by rw[Lr,h1]
 unfold qX at e10⊢;generalize eO F0 (.vi k) (.vi s) (.vi w) (.vi g) ops=K at*
 by_cases c:K+1<ops.length
 .have hne:=K3 (by omega);rw[e8 (by omega)]at hfst;rw[e8 c]at e10⊢;generalize gd F0 (.vi k) (.vi s) (.vi w) (.vi g) ops K=e at*
  have p19:bZ I IP= .vi e:=by show co (bZ I vQ).toL 1 0=_;rw[e10];rfl
  have p20:dB I Kr=false:=by show decide ((bZ I IP).toI=0)=false;rw[p19];exact i6 hne
  refine cE (by rw[eZ,p19,p8,hfst];simp) (cE ?_ (cE p20 (W8 p17 fin)));show(!decide (dB I Kr=false))=false;rw[p20];rfl
 .rw[b9 c]at e10⊢;have p11:bZ I FU=if K<ops.length then .vi (gd F0 (.vi k) (.vi s) (.vi w) (.vi g) ops K)else .vi 0:=by show co (bZ I vQ).toL 1 1=_;rw[e10];rfl
  by_cases z:K<ops.length
  .have hne:=K3 z;rw[e8 z]at hfst p11;generalize gd F0 (.vi k) (.vi s) (.vi w) (.vi g) ops K=e at*
   refine cG (by rw[eZ,p11,cF];simp[hne]) (cE (by rw[eZ,p11,p8,hfst];simp) (cE ?_ (W8 p17 fin)));show(!decide (decide ((bZ I FU).toI=0)=false))=false;rw[p11,i6 (show¬(Val.vi e).toI=0 from hne)];rfl
  .rw[b9 z]at hfst p11;have hm3:bZ I (zo vQ 3)= .vl m:=by
    show co (bZ I vQ).toL 1 3=_;rw[e10,<-hM];rfl
   refine cE (by rw[eZ,p11,cF];rfl) (cE (by rw[eZ,p8,hfst];rfl) (W8 ?_ (W8 p15 fin)));rw[cX,cX,p12,p14];exact q907 _ hm3
theorem c_lrows{I:Opq}(hf: ∀i a,I.f i a=F i a)(hn:(I.w 0).toL.length<=400)(h:(F 431 [I.w 0]).toB=true):Z0 T_lrows I=some (0,[I.w 0]):=
 let q:=PN h
 dl5 (λa=>hf 923 a) hn q.1 q.2
def GS:SX:= .op .row [.op .row [.cs [97]],.op .row [.cs [97]],.op .row [.cs [98]]]
def EG:SX:= .op .row [.op .row [.ci 5],.op .row [.ci (-2)],.op .row [.ci 9223372036854775805],.op .row [.ci 4],.op .row [.ci (-4611686018427387904)]]
def pU:SX:= .op (.ar .rem .i64) [za bc bU,bx]
def qC:SX:= .op (.ar .rem .i64) [za (.op (.ar .quo .i64) [bc,bx]) bU,.ci 5]
def Bx:SX:= zc (.va 3003) (.op .row [.op .row [aZ,cj GS pU 0,zm (.op (.ar .mul .i64) [.op (.ar .rem .i64) [bc,.ci 12],bx]) (.ci 9),cj EG qC 0]])
def gI:SX:= .op .row [.op .row [aZ,bS,aM,aM],.op .row [bx,aM,aM,bS],.op .row [bm,.ci 6,bm,aM]]
def fL:SX:= .op (.ar .rem .i64) [aR,bx]
def ir:SX:= .app 971 [zL cu,aR,aM,cu,aR]
def Gh:VT:= .ite (zs bU (.ci 4)) (.need (cZ bx aM) (.need (zn (zp pU) (zs pU bx)) (.need (zs pU (zL GS)) (.need (cZ (.ci 12) aM) (.need (cZ (.ci 5) aM) (.need (zn (zp qC) (zs qC (.ci 5))) (.need (zs qC (zL EG)) (.need (zn (cJ aY (zl 3003)) (zb (zL Bx) 1000000)) (.ret 0 [zL Bx,za (.op (.ar .quo .i64) [.op (.ar .mul .i64) [bc,.ci 5],bx]) (.op (.ar .mul .i64) [.ci 7,bU]),zi bU,Bx]))))))))) (.ret 1 [aY,bc,bU,.va 3003])
def Ut:VT:= .ite (zs aR (.ci 144)) (.loop ⟨971,[zL cu,aR,aM,cu],3000,[aR]⟩ Gh [.need (cZ bx aM) (.need (zn (zp fL) (zs fL bx)) (.need (zs fL (zL gI)) (.need (cZ bJ aM) (.need (zn (zn (zp (zo ir 0)) (fO (zo ir 0) (zL (zo ir 3)))) (.app 908 [cj gI fL 0,cj gI fL 1,cj gI fL 2,cj gI fL 3,.op .lsub [zo ir 3,aM,zo ir 0],.op (.ar .rem .i64) [aR,bJ],.cs [97],aM,bS])) (.need (.app 738 [cj gI fL 0,cj gI fL 1,cj gI fL 2,cj gI fL 3,.op .lsub [zo ir 3,aM,zo ir 0],aR]) (.ret 0 [aV,zi aR]))))))]) (.ret 1 [aV,aR])
def zd:SX:= .op .row [.op .row [aM,.cs [],aM,aM],.op .row [bm,.cs [],.ci 5,aM],.op .row [aZ,.cs [],aZ,aZ],.op .row [aZ,.cs [97],.ci 1099511627777,aZ],.op .row [aZ,.cs [97],.ci (-1099511627776),.ci 9223372036854775807],.op .row [aZ,.cs [97],bO,.ci (-9223372036854775808)],.op .row [aZ,.cs [97],.ci (-1099511627776),aZ],.op .row [bx,.cs [97],aM,aM]]
def T_known:VT:= .loop ⟨970,[.cb false,aM],2000,[]⟩ Ut [.need (.app 908 [aZ,bS,aM,aM,zd,bO,.cs [],aM,aM]) (.need (.app 738 [aZ,bS,aM,aM,zd,aM]) (.need (.app 908 [bx,aM,aM,bS,zd,bO,.cs [],aM,aM]) (.need (.app 738 [bx,aM,aM,bS,zd,aZ]) (.need (.app 908 [bm,.ci 6,bm,aM,zd,bO,.cs [],aM,aM]) (.need (.app 738 [bm,.ci 6,bm,aM,zd,bm]) (.need (.app 908 [aM,aM,aM,aM,zd,aM,.cs [],aM,aM]) (.need (.app 908 [bm,.ci 5,bm,aM,cu,aM,.cs [],aM,aM]) (.ret 0 [.cb true])))))))),.ret 0 [zo (.app 970 [.cb false,aM]) 0]]
theorem Jz(n:Nat): ∀i,(nW n i).length=i
 |0=>rfl
 |i+1=>by rw[nW,k5,Jz];rfl
theorem e02{n i:Nat}(hn:n<144)(hi:i<=4):kk n i<=1200:=by
 have:i=0\/i=1\/i=2\/i=3\/i=4:=by omega
 rcases this with rfl|rfl|rfl|rfl|rfl<;>simp only[kk]<;>omega
theorem Pr{a b:Nat}:cn .rem .i64 (a:Int) (b:Int)=((a % b:Nat):Int):=rfl
theorem Yw{a b:Nat}(h:a<=1000000):cn .quo .i64 (a:Int) (b:Int)=((a/b:Nat):Int):=by
 have hq:=Nat.div_le_self a b;show IntKind.i64.wrap ((a/b:Nat):Int)=_;generalize a/b=q at*
 exact lu (by omega) (by omega)
theorem UM{a b:Nat}(h:a+b<=1000000):cn .add .i64 (a:Int) (b:Int)=((a+b:Nat):Int):=gj (by omega) (by omega)
theorem TD{a b:Nat}(h:a*b<=1000000):cn .mul .i64 (a:Int) (b:Int)=((a*b:Nat):Int):=lu (x:=((a*b:Nat):Int)) (by omega) (by omega)
theorem e03{I:Opq}{n i:Nat}(hn:n<144)(hi:i<4):Z0 Gh (I.upd 3000 (og n i))=some (0,og n (i+1)):=by
 have w0:(I.upd 3000 (og n i)).w 3000= .vi i:=rfl;have w1:(I.upd 3000 (og n i)).w 3001= .vi (kk n i):=rfl;have w2:(I.upd 3000 (og n i)).w 3002= .vi i:=rfl;have w3:(I.upd 3000 (og n i)).w 3003= .vl (nW n i):=rfl;have hk:=e02 hn (P3 hi);have hl:=Jz n i;have hs:og n (i+1)=[.vi (i+1:Nat),.vi (kk n i*5/3+7*i:Nat),.vi (i+1:Nat),.vl (nW n i++[wW (kk n i) i])]:=rfl;rw[hs];generalize I.upd 3000 (og n i)=aa at*
 generalize kk n i=k at*
 generalize nW n i=R at*
 have a3:bZ aa pU= .vi ((k+i) % 3:Nat):=by
  show Val.vi (cn .rem .i64 (cn .add .i64 (aa.w 3001).toI (aa.w 3002).toI) 3)=_;rw[w1,w2];show Val.vi (cn .rem .i64 (cn .add .i64 (k:Int) (i:Int)) (3:Nat))=_;rw[UM (by omega),Pr]
 have a5:bZ aa qC= .vi ((k/3+i) % 5:Nat):=by
  show Val.vi (cn .rem .i64 (cn .add .i64 (cn .quo .i64 (aa.w 3001).toI 3) (aa.w 3002).toI) 5)=_;rw[w1,w2];show Val.vi (cn .rem .i64 (cn .add .i64 (cn .quo .i64 (k:Int) (3:Nat)) (i:Int)) (5:Nat))=_;rw[Yw (by omega),UM (by omega),Pr]
 have c:bZ aa Bx= .vl (R++[wW k i]):=by
  show Val.vl ((aa.w 3003).toL++[Val.vl [.vi 1,bZ aa (cj GS pU 0),.vi (cn .sub .i64 (cn .mul .i64 (cn .rem .i64 (aa.w 3001).toI 12) 3) 9),bZ aa (cj EG qC 0)]])=_;have g1:bZ aa (cj GS pU 0)=Z7 (cg dD6 ((k+i) % 3)) 0:=by
   show co (bZ aa GS).toL (bZ aa pU).toI 0=_;rw[a3];rfl
  have g2:bZ aa (cj EG qC 0)=Z7 (cg Ys ((k/3+i) % 5)) 0:=by
   show co (bZ aa EG).toL (bZ aa qC).toI 0=_;rw[a5];rfl
  rw[g1,g2,w1,w3];have g3:cn .sub .i64 (cn .mul .i64 (cn .rem .i64 (k:Int) (12:Nat)) (3:Nat)) 9=((k % 12*3:Nat):Int)-9:=by
   rw[Pr,TD (by omega),kN (by omega) (by omega)]
  exact congrArg (λx=>Val.vl (R++[Val.vl [.vi 1,_,.vi x,_]])) g3
 unfold Gh;refine cG (by show decide ((aa.w 3002).toI<4)=true;rw[w2];exact c9 (by show(i:Int)<4;omega)) ?_;refine W8 rfl (W8 ?_ (W8 ?_ (W8 rfl (W8 rfl (W8 ?_ (W8 ?_ (W8 ?_ ?_)))))))
 .show(decide (0<=(bZ aa pU).toI)&&decide ((bZ aa pU).toI<3))=true;rw[a3,c9 (by show(0:Int)<=((k+i) % 3:Nat);omega),c9 (by show(((k+i) % 3:Nat):Int)<3;omega)];rfl
 .show decide ((bZ aa pU).toI<3)=true;rw[a3,c9 (by show(((k+i) % 3:Nat):Int)<3;omega)]
 .show(decide (0<=(bZ aa qC).toI)&&decide ((bZ aa qC).toI<5))=true;rw[a5,c9 (by show(0:Int)<=((k/3+i) % 5:Nat);omega),c9 (by show(((k/3+i) % 5:Nat):Int)<5;omega)];rfl
 .show decide ((bZ aa qC).toI<5)=true;rw[a5,c9 (by show(((k/3+i) % 5:Nat):Int)<5;omega)]
 .show(decide ((aa.w 3000).toI=((aa.w 3003).toL.length:Int))&&decide (((bZ aa Bx).toL.length:Int)<=1000000))=true;rw[w0,w3,c,c9 (by show(i:Int)=(R.length:Int);omega),c9 (by show((R++[wW k i]).length:Int)<=1000000;rw[k5];show((R.length+1:Nat):Int)<=_;omega)];rfl
 .show some (0,[Val.vi ((bZ aa Bx).toL.length:Int),Val.vi (cn .add .i64 (cn .quo .i64 (cn .mul .i64 (aa.w 3001).toI 5) 3) (cn .mul .i64 7 (aa.w 3002).toI)),Val.vi (cn .add .i64 (aa.w 3002).toI 1),bZ aa Bx])=_;rw[c,w1,w2];have g4:cn .add .i64 (cn .quo .i64 (cn .mul .i64 (k:Int) (5:Nat)) (3:Nat)) (cn .mul .i64 (7:Nat) (i:Int))=((k*5/3+7*i:Nat):Int):=by
   rw[TD (by omega),TD (by omega),Yw (by omega),UM (by omega)]
  have g5:cn .add .i64 (i:Int) 1=((i+1:Nat):Int):=eJ hi (by omega);have g6:(((Val.vl (R++[wW k i])).toL.length:Nat):Int)=((i+1:Nat):Int):=by
   show(((R++[wW k i]).length:Nat):Int)=_;rw[k5,hl];rfl
  rw[g6];show some (0,[_,Val.vi (cn .add .i64 (cn .quo .i64 (cn .mul .i64 (k:Int) (5:Nat)) (3:Nat)) (cn .mul .i64 (7:Nat) (i:Int))),Val.vi (cn .add .i64 (i:Int) 1),_])=_;rw[g4,g5]
theorem e04{I:Opq}{n:Nat}(hn:n<144):cO (λvs=>Z0 Gh (I.upd 3000 vs)) [.vi 0,.vi n,.vi 0,.vl []]=some (0,og n 4):=by
 refine eE (st:=og n) (n:=4) (λi hi=>e03 hn hi) ?_;rfl
theorem dm5(k i:Nat):nL (wW k i)=true:=by
 unfold wW;have h3:(k+i) % 3=0\/(k+i) % 3=1\/(k+i) % 3=2:=by omega
 have h5:(k/3+i) % 5=0\/(k/3+i) % 5=1\/(k/3+i) % 5=2\/(k/3+i) % 5=3\/(k/3+i) % 5=4:=by omega
 rcases h3 with h|h|h<;>rcases h5 with g|g|g|g|g<;>rw[h,g]<;>rfl
theorem Vh(n:Nat): ∀i,(nW n i).all nL=true
 |0=>rfl
 |i+1=>by rw[nW,C9,Vh];simp[dm5]
def Pu(a:List Val):Val:= .vb (ed (ce a 0)&&(ed (ce a 1)&&(ed (ce a 2)&&(ed (ce a 3)&&(ed (ce a 5)&&wX (ce a 4))))))
section
variable{I:Opq}(h908: ∀a,I.f 908 a=Hi a)(h738: ∀a,I.f 738 a=Pu a)(h971: ∀a,I.f 971 a=SU a)
include h908 h738 h971
theorem dm6{n:Nat}(hn:n<144)(w1:I.w 2001= .vi n)(w0:I.w 2000= .vb false):Z0 Ut I=some (0,[.vb false,.vi (n+1:Nat)]):=by
 have dF:bZ I ir=cA (0,og n 4):=by
  show I.f 971 [.vi 0,I.w 2001,.vi 0,.vl [],I.w 2001]=_;rw[h971,w1];rfl
 have dN:bZ I fL= .vi (n % 3:Nat):=by
  show Val.vi (cn .rem .i64 (I.w 2001).toI 3)=_;rw[w1];rfl
 have d0:bZ I (zo ir 0)= .vi 4:=by
  show co (bZ I ir).toL 1 0=_;rw[dF];rfl
 have d3:bZ I (zo ir 3)= .vl (nW n 4):=by
  show co (bZ I ir).toL 1 3=_;rw[dF];rfl
 have dO:bZ I (.op .lsub [zo ir 3,aM,zo ir 0])= .vl (nW n 4):=by
  show Val.vl (((bZ I (zo ir 3)).toL.drop 0).take ((bZ I (zo ir 0)).toI-0).toNat)=_;rw[d3,d0];exact congrArg Val.vl (I5 (S1 (Jz n 4)))
 have dW: ∀j:Nat,j<4->ed (bZ I (.op .lget [gI,fL,.ci j]))=true:=λj hj=>by
  show ed (co (bZ I gI).toL (bZ I fL).toI j)=true;rw[dN];have h3:n % 3=0\/n % 3=1\/n % 3=2:=by omega
  have h4:j=0\/j=1\/j=2\/j=3:=by omega
  rcases h3 with h|h|h<;>rcases h4 with rfl|rfl|rfl|rfl<;>rw[h]<;>rfl
 unfold Ut;refine cG (by show decide ((I.w 2001).toI<144)=true;rw[w1];exact c9 (by show(n:Int)<144;omega)) ?_;refine Z5 (r:=(0,og n 4)) (by
  show cO (λvs=>Z0 Gh (I.upd 3000 vs)) [.vi 0,I.w 2001,.vi 0,.vl []]=_;rw[w1];exact e04 hn) dF ?_
 show Z0 _ I=_;refine W8 rfl (W8 ?_ (W8 ?_ (W8 rfl (W8 ?_ (W8 ?_ ?_)))))
 .show(decide (0<=(bZ I fL).toI)&&decide ((bZ I fL).toI<3))=true;rw[dN,c9 (by show(0:Int)<=(n % 3:Nat);omega),c9 (by show((n % 3:Nat):Int)<3;omega)];rfl
 .show decide ((bZ I fL).toI<3)=true;rw[dN,c9 (by show((n % 3:Nat):Int)<3;omega)]
 .show((decide (0<=(bZ I (zo ir 0)).toI)&&decide ((bZ I (zo ir 0)).toI<=((bZ I (zo ir 3)).toL.length:Int)))&&(I.f 908 [bZ I (cj gI fL 0),bZ I (cj gI fL 1),bZ I (cj gI fL 2),bZ I (cj gI fL 3),bZ I (.op .lsub [zo ir 3,aM,zo ir 0]),_,_,_,_]).toB)=true;rw[h908,dO,d0,d3];show(decide ((0:Int)<=4)&&decide ((4:Int)<=((nW n 4).length:Int))&&(ed _&&(ed _&&(ed _&&(ed _&&(nW n 4).all nL)))))=true;rw[Vh,Jz];show(true&&true&&(ed (bZ I (.op .lget [gI,fL,.ci (0:Nat)]))&&(ed (bZ I (.op .lget [gI,fL,.ci (1:Nat)]))&&(ed (bZ I (.op .lget [gI,fL,.ci (2:Nat)]))&&(ed (bZ I (.op .lget [gI,fL,.ci (3:Nat)]))&&true)))))=true;rw[dW 0 (by omega),dW 1 (by omega),dW 2 (by omega),dW 3 (by omega)];rfl
 .show(I.f 738 [bZ I (cj gI fL 0),bZ I (cj gI fL 1),bZ I (cj gI fL 2),bZ I (cj gI fL 3),bZ I (.op .lsub [zo ir 3,aM,zo ir 0]),I.w 2001]).toB=true;rw[h738,dO,w1];show(ed _&&(ed _&&(ed _&&(ed _&&(true&&(nW n 4).all nL)))))=true;rw[Vh];show(ed (bZ I (.op .lget [gI,fL,.ci (0:Nat)]))&&(ed (bZ I (.op .lget [gI,fL,.ci (1:Nat)]))&&(ed (bZ I (.op .lget [gI,fL,.ci (2:Nat)]))&&(ed (bZ I (.op .lget [gI,fL,.ci (3:Nat)]))&&true))))=true;rw[dW 0 (by omega),dW 1 (by omega),dW 2 (by omega),dW 3 (by omega)];rfl
 .show some (0,[I.w 2000,Val.vi (cn .add .i64 (I.w 2001).toI 1)])=_;rw[w0,w1];have g5:cn .add .i64 (n:Int) 1=((n+1:Nat):Int):=eJ hn (by omega);show some (0,[_,Val.vi (cn .add .i64 (n:Int) 1)])=_;rw[g5]
end
theorem t_known{I:Opq}(h908: ∀a,I.f 908 a=Hi a)(h738: ∀a,I.f 738 a=Pu a)(h970: ∀a,I.f 970 a=Xx a)(h971: ∀a,I.f 971 a=SU a):Z0 T_known I=some (0,[.vb true]):=by
 unfold T_known;have n9: ∀a,I.f 908 a=Hi a:=h908;refine Z5 (r:=(0,[.vb false,.vi 144])) ?_ (h970 _) ?_
 .refine eE (st:=λi=>[.vb false,.vi i]) (n:=144) (λi hi=> ?_) rfl;exact dm6 (I:=I.upd 2000 [.vb false,.vi i]) (λa=>h908 a) (λa=>h738 a) (λa=>h971 a) hi rfl rfl
 .show Z0 _ I=_;have k9: ∀{l:List SX},(Hi (ck I l)).toB=true->dB I (.app 908 l)=true:=λ{l} h=>by
   show(I.f 908 (ck I l)).toB=true;rw[h908];exact h
  have k7: ∀{l:List SX},(Pu (ck I l)).toB=true->dB I (.app 738 l)=true:=λ{l} h=>by
   show(I.f 738 (ck I l)).toB=true;rw[h738];exact h
  exact W8 (k9 rfl) (W8 (k7 rfl) (W8 (k9 rfl) (W8 (k7 rfl) (W8 (k9 rfl) (W8 (k7 rfl) (W8 (k9 rfl) (W8 (k9 rfl) rfl)))))))
end Go.Ev.S9
