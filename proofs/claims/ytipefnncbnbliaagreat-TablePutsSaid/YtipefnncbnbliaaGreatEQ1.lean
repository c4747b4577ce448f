import Derived.Test.YtipefnncbnbliaaGreatEP34
set_option linter.unusedSimpArgs false
set_option linter.unusedVariables false
namespace Go.Ev.S9
open Go Go.Ev
theorem Zh{A B:List PaneM}(hA:A.Pairwise (λp q=>fW p q=true))(hB:B.Pairwise (λp q=>fW p q=true))(h: ∀p,p∈A↔p∈B):A=B:=by
 have nd: ∀{C:List PaneM},C.Pairwise (λp q=>fW p q=true)->C.Nodup:=λhC=>by
  refine J0 ?_ hC;rintro p q c rfl;rw[UA]at c;cases c
 grind[List.Perm.eq_of_pairwise,fW,List.perm_ext_iff_of_nodup,ON]
theorem bd2{l:List Val}(h:((S7.srt false l).map Z2).Nodup):((S7.srt false l).map Z2).Pairwise (λp q=>fW p q=true):=by
 have h1:((S7.srt false l).map Z2).Pairwise (λp q=>fW q p=false):=I9.2 (S7.srt_sorted false l);refine J0 ?_ (h1.and h);grind[fW,absurd,Ns]
theorem XV{m:List Val}(nd:(m.map Z2).Nodup): ∀A B:List Val,(∀x∈A,x∈m)->(∀x∈B,x∈m)->A.map Z2=B.map Z2->A=B
 | [],[],_,_,_=>rfl
 | [],b::B,_,_,h=>(by cases h)
 |a::A,[],_,_,h=>(by cases h)
 |a::A,b::B,hA,hB,h=>by
  rw[m8,m8,List.cons.injEq]at h;rw[SV nd (hA a B6) (hB b B6) h.1,XV nd A B (λx hx=>hA x (x9 _ hx)) (λx hx=>hB x (x9 _ hx)) h.2]
theorem VD{x y:Val}(hx:nrm x)(hy:nrm y)(h:Z2 x=Z2 y)(h2:rA x=rA y):x=y:=by
 obtain⟨a,b,c,A,rfl,_⟩:=hx;obtain⟨a',b',c',A',rfl,_⟩:=hy;rw[HI,HI]at h2;obtain⟨rfl,rfl,rfl⟩:=h;rw[h2]
theorem cW4{x y:Val}(hx:nrm x)(hy:nrm y)(h:eW x=eW y):x=y:=by
 obtain⟨⟨a,b,c⟩,d,e,f,g⟩:=(Br _ _).1 h;refine VD hx hy ?_ ?_
 .show(⟨_,_,_⟩:PaneM)=⟨_,_,_⟩;grind
 .show(_,_,_,_)=(_,_,_,_);grind[ci]
theorem cW5{k s l g ek t v:Int}{ks:List UInt8}{m m':List Val}(hR:cT k s l g=true){evs:List dy}(hT:TOK (ei k s l g) evs m)(hm:m.length<=400)(hev:gA evs)(hv:cH v)(he:dD (cG k s l g m ek ks t v)=0)(hP:fN F0 (cG k s l g m ek ks t v)= .vl m')(hT':TOK (ei k s l g) (evs++[(ks,t,v)]) m'):
 (ew (cG k s l g m ek ks t v)).map Z2=(pU (S7.srt false m) (S7.srt false m')).map Z2/\eJ F0 (cG k s l g m ek ks t v)= .vl (lX (S7.srt false m) (S7.srt false m')):=by
 obtain⟨R,r1,r2,r3,r4,g1,g2⟩:=cS7 ox hR hT hm hev hv he;obtain⟨R',m2,q1,q2,q3,q4,q5,q6,q7⟩:=IB ox hR hT hm hev hv he;rw[r1,Val.vl.injEq]at q1;subst q1;rw[hP,Val.vl.injEq]at q2;subst q2;have hPm:m'=R.foldl set1 ((ew (cG k s l g m ek ks t v)).foldl lW m):=by
  have:=hP;rw[Ni,b9 (by rw[he];simp),r1,a84,Wg,PN,Val.vl.injEq]at this;exact this.symm
 generalize ew (cG k s l g m ek ks t v)=G at*
 have sub: ∀{l:List Val} {p:Val->Bool},(l.map Z2).Nodup->(((S7.srt false l).filter p).map Z2).Pairwise (λp q=>fW p q=true):=λ{l p} h=>
  (bd2 ((((S7.srt_perm false l).map Z2).nodup_iff).2 h)).sublist (T5.map _)
 refine⟨Zh g1 (sub hT.nd) λp=> ?_,?_⟩
 .constructor
  .intro hp;obtain⟨q,hq,rfl⟩:=j8.1 hp;cases hl:dP m (Z2 q)with
   |none=>exact absurd hl (g2 q hq)
   |some c=>
    obtain⟨r,hr,e,_⟩:=vH hl;refine j8.2 ⟨r,l7.2 ⟨S7.srt_mem.2 hr,?_⟩,e⟩;rw[y6,E7];intro y hy c;have hy:=tH hT'.nd (S7.srt_mem.1 hy);rw[j6 c,e,(q7 q hq).1]at hy;cases hy
  .intro hp;obtain⟨r,hr,rfl⟩:=j8.1 hp;obtain⟨hr,hn⟩:=l7.1 hr;have hr:=S7.srt_mem.1 hr;refine Decidable.byContradiction λhg=> ?_
   have h1:=tH hT.nd hr;have h2:dP m' (Z2 r)≠none:=by
    rw[hPm];by_cases hpr:Z2 r∈R.map Z2
    .obtain⟨y,hy,e⟩:=j8.1 hpr;rw[<-e,Lf R _ r2 hy];simp
    .rw[HO R _ hpr,SR _ G m hT.nd,b9 hg,h1];simp
   cases hl:dP m' (Z2 r)with
   |none=>exact h2 hl
   |some c=>
    obtain⟨y,hy,e,_⟩:=vH hl;rw[y6,E7]at hn;exact hn y (S7.srt_mem.2 hy) (e9 e)
 .rw[r1];have inm: ∀r∈R,r∈m':=λr hr=>by
   obtain⟨h1,h2⟩:=q6 r hr;obtain⟨y,hy,e1,e2⟩:=vH h2;rw[VD h1 (hT'.nrm y hy) e1.symm e2.symm];exact hy
  refine congrArg Val.vl (XV hT'.nd R _ inm (λx hx=>S7.srt_mem.1 (l7.1 hx).1) (Zh ?_ (sub hT'.nd) λp=> ?_))
  .rcases r4 with h|⟨L,h⟩
   .match R,h with
    | [],_=>exact .nil
    | [x],_=>simp
   .have h:Val.vl R= .vl (S7.srt false L):=h;rw[Val.vl.injEq]at h;rw[h]at r2⊢;exact bd2 r2
  .constructor
   .intro hp;obtain⟨r,hr,rfl⟩:=j8.1 hp;refine j8.2 ⟨r,l7.2 ⟨S7.srt_mem.2 (inm r hr),?_⟩,rfl⟩;rw[y6,E7];intro y hy c;have hy:=S7.srt_mem.1 hy;have e:=cW4 (hT.nrm y hy) (hT'.nrm r (inm r hr)) (j6 c);subst e;have c1:=(MG hT hy).2.1;have c2:=(MG hT' (inm y hr)).2.1;obtain⟨i1,i2,i3⟩:=r3 y hr;have hin:oO y (ks,t,v)=true:=Tb.inP_iff.2 ⟨i1.symm,i2,i3⟩;rw[C6,k7,V9 hin]at c2;simp at c2;omega
   .intro hp;obtain⟨r,hr,rfl⟩:=j8.1 hp;obtain⟨hr,hn⟩:=l7.1 hr;have hr:=S7.srt_mem.1 hr;rw[y6,E7]at hn;rw[hPm]at hr;rcases MH _ _ r hr with h|⟨x,hx,rfl⟩
    .exact absurd (e9 rfl) (hn r (S7.srt_mem.2 ((Nd G m).subset h)))
    .exact j8.2 ⟨x,hx,rfl⟩
def iU(was:List Val)(y:Val):Nat->Bool
 |0=>false
 |k+1=>iU was y k||decide (eW (bW was k)=eW y)
theorem c31(was:List Val)(y:Val): ∀k,k<=was.length->iU was y k=gE (was.take k) y
 |0,_=>rfl
 |k+1,h=>by
  rw[iU,c31 was y k (by omega),gE,gE,CK (by omega),List.any_append];simp
theorem dq1(was:List Val)(y:Val):iU was y was.length=gE was y:=by simp_all[c31,i6,A1]
theorem dq2{I:Opq}(hf: ∀a,I.f 923 a=e86 a)(hn:(I.w 0).toL.length<=400)(h7:I.w 0= .vl (I.w 0).toL)(h8: ∀r∈(I.w 0).toL,cK r=r):W7 T_lrows I=some (0,[I.w 0]):=by
 generalize hl:(I.w 0).toL=l at*
 have hg:cn (λi=>[cK (bW l i)]) l.length=l:=by
  rw[An cK l];exact(y7 (g:=id) h8).trans (G4 _)
 have e0:bU I Kq=cr (0,[.vi l.length,.vi l.length,.vl l]):=by
  show I.f 923 [.vi 0,.vi 0,.vl [],.vi 0,.vi (I.w 0).toL.length,I.w 0]=_;rw[hf];show mF (cn (λi=>[cK (bW (I.w 0).toL i)]) (I.w 0).toL.length) (I.w 0).toL.length=_;rw[hl,hg];rfl
 have d1:bU I Ng= .vl l:=by
  show bZ (bU I Kq).toL 1 2=_;rw[e0];rfl
 refine Z3 (r:=(0,[.vi l.length,.vi l.length,.vl l])) ?_ e0 (Kp e0 d1 ?_)
 .have:=YA (I:=I) (v0:=2000) (N:= (zl 0)) (row:=Qw 0 2001) (f:=λi=>cK (bW l i)) (n:=l.length) (by omega) (λvs=> ?_) (λi a acc hi=> ?_)
  .rw[hg]at this;exact this
  .grind[Z8,dN,cN]
  .rw[cU4 (fX ..),cN _ _ _ (by omega),hl]
 .show some (0,[bU I Ng])=_;grind
theorem c32(a b:Val):Z2 a=Z2 b↔(Z7 a 0).toS=(Z7 b 0).toS/\(Z7 a 1).toI=(Z7 b 1).toI/\(Z7 a 2).toI=(Z7 b 2).toI:=by
 grind[Z2,PaneM.mk.injEq]
theorem dI8{a b:List Val}(h:a.length=b.length):(List.range a.length).any (tI a b)= !decide (a.map Z2=b.map Z2):=by
 by_cases c:a.map Z2=b.map Z2
 .rw[e9 c,E5,E7];intro i hi e;have hi:=o8.1 hi;unfold tI at e;rw[nU hi,nU (show i<b.length by omega)]at e;have:(a.map Z2)[i]? =(b.map Z2)[i]? :=by rw[c]
  grind
 .rw[j5 c,M9,O2];refine Decidable.byContradiction λd=>c (J3 (by simp[h]) λi h1 h2=> ?_)
  rw[l5]at h1 h2;refine Decidable.byContradiction λe=>d ⟨i,o8.2 h1,?_⟩
  grind[tI,nU,decide_eq_false]
theorem t_samePanes{I:Opq}(hf: ∀a,I.f 924 a=ZZ a)(hn:(I.w 0).toL.length<=400):W7 T_samePanes I=some (0,[Og [I.w 0,I.w 1]]):=by
 have hv:Og [I.w 0,I.w 1]= .vb (decide ((I.w 0).toL.map Z2=(I.w 1).toL.map Z2)):=rfl;rw[hv];by_cases hl:(I.w 0).toL.length=(I.w 1).toL.length
 .have e0:I.f 924 [.vb false,.vi 0,.vi 0,.vi (I.w 0).toL.length,I.w 0,.vi 0,.vi (I.w 1).toL.length,I.w 1]=cr (gv (.vb false) (λk=>[.vb false,.vi k]) (tI (I.w 0).toL (I.w 1).toL) (I.w 0).toL.length):=by rw[hf];rfl
  have hs:=Ek (x:= .vb false) (px:=λk=>[.vb false,.vi k]) (bad:=tI (I.w 0).toL (I.w 1).toL) (n:=(I.w 0).toL.length);refine cu (by grind[eZ,Z8,dN]) (Z3 (r:=gv (.vb false) (λk=>[.vb false,.vi k]) (tI (I.w 0).toL (I.w 1).toL) (I.w 0).toL.length) ?_ e0 ?_)
  .refine ws (λi hi hb=> ?_) (λi hi hb=> ?_) ?_<;>unfold e82
   .have p3:=eH hi (by omega);have e:Z2 (bW (I.w 0).toL i)=Z2 (bW (I.w 1).toL i):=by unfold tI at hb;simpa using hb
    obtain⟨q1,q2,q3⟩:=(c32 _ _).1 e;have r0: ∀(l:List Val) (j:Nat),bZ l (i:Int) (j:Int)=Z7 (bW l i) j:=λl j=>rfl
    have r1:=λl=>r0 l 0
    have r2:=λl=>r0 l 1
    have r3:=λl=>r0 l 2
    simp_all[W7,Z6,bU,dB,cA,cM]
   .have e: ¬Z2 (bW (I.w 0).toL i)=Z2 (bW (I.w 1).toL i):=by unfold tI at hb;simpa using hb
    rw[c32]at e;have r0: ∀(l:List Val) (j:Nat),bZ l (i:Int) (j:Int)=Z7 (bW l i) j:=λl j=>rfl
    have r1:=λl=>r0 l 0
    have r2:=λl=>r0 l 1
    have r3:=λl=>r0 l 2
    simp_all[W7,Z6,bU,dB,cA,cM]
   .simp[W7,Z6,bU,dB,cA,cM]
  .rw[hs]at e0⊢;rw[dI8 hl]at e0⊢;by_cases c:(I.w 0).toL.map Z2=(I.w 1).toL.map Z2
   .rw[e9 c]at e0⊢;rfl
   .rw[j5 c]at e0⊢;show some (0,[bZ (I.f 924 [.vb false,.vi 0,.vi 0,.vi (I.w 0).toL.length,I.w 0,.vi 0,.vi (I.w 1).toL.length,I.w 1]).toL 1 0])=_;rw[e0];rfl
 .have:(I.w 0).toL.map Z2≠(I.w 1).toL.map Z2:=λe=>hl (by have:=congrArg List.length e;grind)
  rw[j5 this];exact cy (by grind[eZ,Z8,dN]) rfl
def e14(q:SX)(k:Nat):SX:= .op .row [bX q (.va k) 0,bX q (.va k) 1,bX q (.va k) 2]
def dI9(q:SX)(k:Nat):SX:= .op .row [bX q (.va k) 0,bX q (.va k) 1,bX q (.va k) 2,bX q (.va k) 3,bX q (.va k) 4,bX q (.va k) 5,bX q (.va k) 6]
def VJ:SX:= .app 827 [dK,bX cZ aR 0,bX cZ aR 1,bX cZ aR 2]
theorem dq3:Tu=Gt 2000 (zL cZ) (.need (zb (zL dK) 1000000) (.ite (dJ VJ) (CB 2000 (e14 cZ 2001)) (Fd 2000))):=rfl
def Io:List SX:=[zL cZ,cZ,zL dK,dK,vw,rj,aV,aW,aR]
def e91:SX:= .app 922 ([.cb false,aN]++Io)
theorem dq4:US= .ite (zs aR (zL dK)) (.loop ⟨922,[.cb false,aN],4000,Io⟩ Lv [.ite (dJ (zo e91 0)) (.need (zp aR) (CB 2000 (dI9 dK 2001))) (Fd 2000)]) (.ret 1 [aV,aR,aW]):=rfl
section
variable{I:Opq}{W N:List Val}
theorem te{I:Opq}{q:SX}{l:List Val}{k i:Nat}(j:Nat)(hq:bU I q= .vl l)(h:I.w k= .vi i):bU I (.op .lget [q,.va k,.ci j])=Z7 (bW l i) j:=by
 show bZ (bU I q).toL (I.w k).toI (j:Int)=_;rw[hq,h];rfl
theorem e15(f827: ∀a,I.f 827 a=ux a)(D2: ∀vs,bU (I.upd 2000 vs) cZ= .vl W)(D3: ∀vs,bU (I.upd 2000 vs) dK= .vl N)(hW:W.length<=400)(hN:N.length<=400):
 cI (λvs=>W7 Tu (I.upd 2000 vs)) [.vi 0,.vi 0,.vl []]=some (0,[.vi ((pU W N).map eh).length,.vi W.length,.vl ((pU W N).map eh)]):=by
 have hg:cn (λi=>bif !N.any (λy=>decide (Z2 y=Z2 (bW W i)))then [eh (bW W i)]else []) W.length=(pU W N).map eh:=
  (AF (λr=>bif !N.any (λy=>decide (Z2 y=Z2 r))then [eh r]else []) W).trans (AR _ eh W)
 rw[<-hg,dq3];refine Qg (by omega) (λi=>by grind) (λvs=>by rw[Z8,D2];rfl) λi acc hi ha=> ?_
 have D2:=D2 [.vi acc.length,.vi i,.vl acc];have u1:=fX I 2000 (.vi acc.length) (.vi i) (.vl acc);have l0:=te 0 D2 u1;have l1:=te 1 D2 u1;have l2:=te 2 D2 u1;refine W8 (by rw[cB,Z8,D3,cx];exact e9 (by show(N.length:Int)<=1000000;omega)) ?_;have hb:dB (I.upd 2000 [.vi acc.length,.vi i,.vl acc]) (dJ VJ)= !N.any λy=>decide (Z2 y=Z2 (bW W i)):=by
  show(!((I.upd 2000 _).f 827 [bU _ dK,bU _ (bX cZ aR 0),bU _ (bX cZ aR 1),bU _ (bX cZ aR 2)]).toB)=_;rw[eV,f827,D3];rw[show(bU (I.upd 2000 [.vi acc.length,.vi i,.vl acc]) (bX cZ aR 0))=_ from l0,show(bU (I.upd 2000 [.vi acc.length,.vi i,.vl acc]) (bX cZ aR 1))=_ from l1,show(bU (I.upd 2000 [.vi acc.length,.vi i,.vl acc]) (bX cZ aR 2))=_ from l2];rfl
 cases h: !N.any λy=>decide (Z2 y=Z2 (bW W i))with
 |true=>
  refine cy (hb.trans h) (Ir (kW ..) (fX ..) (kP ..) ?_ (by omega) (by omega));show Val.vl [bU _ (bX cZ aR 0),bU _ (bX cZ aR 1),bU _ (bX cZ aR 2)]=_;rw[show(bU (I.upd 2000 [.vi acc.length,.vi i,.vl acc]) (bX cZ aR 0))=_ from l0,show(bU (I.upd 2000 [.vi acc.length,.vi i,.vl acc]) (bX cZ aR 1))=_ from l1,show(bU (I.upd 2000 [.vi acc.length,.vi i,.vl acc]) (bX cZ aR 2))=_ from l2];rfl
 |false=>
  rw[cond_false,s6];exact cu (hb.trans h) (TM (kW ..) (fX ..) (kP ..) (by omega))
theorem e16{i:Nat}(D2: ∀vs,bU (I.upd 4000 vs) cZ= .vl W)(D3: ∀vs,bU (I.upd 4000 vs) dK= .vl N)(hW:W.length<=400)(h1:I.w 2001= .vi i)(hi:i<N.length):
 cI (λvs=>W7 Lv (I.upd 4000 vs)) [.vb false,.vi 0]=some (0,[.vb (gE W (bW N i)),.vi W.length]):=by
 rw[<-dq1];refine eG (st:=λk=>[.vb (iU W (bW N i) k),.vi k]) (n:=W.length) (λk hk=> ?_) ?_
 .have D2:=D2 [.vb (iU W (bW N i) k),.vi k];have D3:=D3 [.vb (iU W (bW N i) k),.vi k];have v0:(I.upd 4000 [.vb (iU W (bW N i) k),.vi k]).w 4000= .vb (iU W (bW N i) k):=by rfl
  have v1:(I.upd 4000 [.vb (iU W (bW N i) k),.vi k]).w 4001= .vi k:=by rfl
  have w1:(I.upd 4000 [.vb (iU W (bW N i) k),.vi k]).w 2001= .vi i:=by grind[cN]
  show W7 Lv (I.upd 4000 [.vb (iU W (bW N i) k),.vi k])=some (0,[.vb (iU W (bW N i) k||decide (eW (bW W k)=eW (bW N i))),.vi (k+1:Nat)]);generalize I.upd 4000 [.vb (iU W (bW N i) k),.vi k]=aa at*
  have inc:=eH hk (by omega);have a:=λj=>te j D2 v1
  have b:=λj=>te j D3 w1
  refine cy (by simp_all[cP,Z8,co,e9]) ?_;cases ht:iU W (bW N i) k with
  |true=>
   rw[ht]at v0;refine cy (by show(aa.w 4000).toB=true;rw[v0];rfl) ?_;show some (0,[Val.vb true,Val.vi (cg .add .i64 (aa.w 4001).toI 1)])=_;simp_all
  |false=>
   rw[ht]at v0;refine cu (by show(aa.w 4000).toB=false;rw[v0];rfl) (W8 ?_ (W8 ?_ ?_))
   .simp_all[cB,cx,co,e9]
   .rw[db,cB,cx,co,w1];show(decide ((0:Int)<=(i:Int))&&dB aa (zs aR (zL dK)))=true;simp_all[cP,Z8,co,and2,e9]
   .have hv: ∀c x:SX,aa.w 4000= .vb false->bU aa (.op .ite [bu,c,x])=bU aa x:=λc x h=>by
     show(bif (aa.w 4000).toB then bU aa c else bU aa x)=_;rw[h];rfl
    have he: ∀j:Nat,dB aa (cC (.op .lget [cZ,bg,.ci j]) (.op .lget [dK,aR,.ci j]))=decide ((Z7 (bW W k) j).toI=(Z7 (bW N i) j).toI):=λj=>by rw[dX,a,b]
    have h0:dB aa (.op (.scmp .eql) [bX cZ bg 0,bX dK aR 0])=decide ((Z7 (bW W k) 0).toS=(Z7 (bW N i) 0).toS):=by
     show decide ((bU aa (.op .lget [cZ,bg,.ci (0:Nat)])).toS=(bU aa (.op .lget [dK,aR,.ci (0:Nat)])).toS)=_;rw[a,b]
    have hm:(decide ((Z7 (bW W k) 0).toS=(Z7 (bW N i) 0).toS)&&(decide ((Z7 (bW W k) 1).toI=(Z7 (bW N i) 1).toI)&&decide ((Z7 (bW W k) 2).toI=(Z7 (bW N i) 2).toI))&&(decide ((Z7 (bW W k) 3).toI=(Z7 (bW N i) 3).toI)&&(decide ((Z7 (bW W k) 4).toI=(Z7 (bW N i) 4).toI)&&(decide ((Z7 (bW W k) 5).toI=(Z7 (bW N i) 5).toI)&&decide ((Z7 (bW W k) 6).toI=(Z7 (bW N i) 6).toI)))))=decide (eW (bW W k)=eW (bW N i)):=by
     simp[j7,decide_eq_true_eq,Br]
    show some (0,[bU aa (.op .ite [bu,.cb true,_]),Val.vi (cg .add .i64 (aa.w 4001).toI 1)])=_;rw[v1,a06,inc,hv _ _ v0,<-hm,A9];refine congrArg (λx=>some (0,[x,Val.vi ((k+1:Nat):Int)])) ?_;show Val.vb ((dB aa _&&(dB aa _&&dB aa _))&&(dB aa _&&(dB aa _&&(dB aa _&&dB aa _))))=_;grind
 .have D2:=D2 [.vb (iU W (bW N i) W.length),.vi W.length];have v0:(I.upd 4000 [.vb (iU W (bW N i) W.length),.vi W.length]).w 4000= .vb (iU W (bW N i) W.length):=by rw[cM];simp
  have v1:(I.upd 4000 [.vb (iU W (bW N i) W.length),.vi W.length]).w 4001= .vi W.length:=by rw[cM];simp
  generalize I.upd 4000 [.vb (iU W (bW N i) W.length),.vi W.length]=aa at*
  refine cu (by rw[cP,Z8,co,v1,D2];exact j5 (by show¬(W.length:Int)<(W.length:Int);omega)) ?_;show some (1,[aa.w 4000,aa.w 4001])=_;grind
end
end Go.Ev.S9
namespace Go.Ev.S9
open Go Go.Ev
section
variable{I:Opq}{W N:List Val}
theorem cE9{I:Opq}{q:SX}{l:List Val}{k i:Nat}(hq:bU I q= .vl l)(h:I.w k= .vi i):bU I (dI9 q k)=cK (bW l i):=by
 have a:=λj=>te (I:=I) j hq h
 show Val.vl [bU I _,bU I _,bU I _,bU I _,bU I _,bU I _,bU I _]= .vl [_,_,_,_,_,_,_];grind
theorem e17(f922: ∀a,I.f 922 a=IN a)(D2: ∀vs,bU (I.upd 2000 vs) cZ= .vl W)(D3: ∀vs,bU (I.upd 2000 vs) dK= .vl N)(E2: ∀u vs,bU ((I.upd 2000 u).upd 4000 vs) cZ= .vl W)(E3: ∀u vs,bU ((I.upd 2000 u).upd 4000 vs) dK= .vl N)(hW:W.length<=400)(hN:N.length<=400):
 cI (λvs=>W7 US (I.upd 2000 vs)) [.vi 0,.vi 0,.vl []]=some (0,[.vi ((lX W N).map cK).length,.vi N.length,.vl ((lX W N).map cK)]):=by
 have hg:cn (λi=>bif !gE W (bW N i)then [cK (bW N i)]else []) N.length=(lX W N).map cK:=
  (AF (λr=>bif !gE W r then [cK r]else []) N).trans (AR _ cK N)
 have hl: ∀i,(cn (λi=>bif !gE W (bW N i)then [cK (bW N i)]else []) i).length<=i:=λi=>by
  have:=je (g:=λi=>bif !gE W (bW N i)then [cK (bW N i)]else []) (m:=1) (λi=>by grind) i;omega
 rw[<-hg,dq4];refine eG (st:=λi=>[.vi (cn (λi=>bif !gE W (bW N i)then [cK (bW N i)]else []) i).length,.vi i,.vl (cn (λi=>bif !gE W (bW N i)then [cK (bW N i)]else []) i)]) (n:=N.length) (λi hi=> ?_) ?_
 .have hacc:=hl i;show W7 _ (I.upd 2000 [.vi (cn (λi=>bif !gE W (bW N i)then [cK (bW N i)]else []) i).length,.vi i,.vl (cn (λi=>bif !gE W (bW N i)then [cK (bW N i)]else []) i)])=some (0,[.vi (cn (λi=>bif !gE W (bW N i)then [cK (bW N i)]else []) i++bif !gE W (bW N i)then [cK (bW N i)]else []).length,.vi (i+1:Nat),.vl (cn (λi=>bif !gE W (bW N i)then [cK (bW N i)]else []) i++bif !gE W (bW N i)then [cK (bW N i)]else [])]);generalize cn (λi=>bif !gE W (bW N i)then [cK (bW N i)]else []) i=acc at*
  have D2:=D2 [.vi acc.length,.vi i,.vl acc];have D3:=D3 [.vi acc.length,.vi i,.vl acc];have E2:=E2 [.vi acc.length,.vi i,.vl acc];have E3:=E3 [.vi acc.length,.vi i,.vl acc];have u0:=kW I 2000 (.vi acc.length) (.vi i) (.vl acc);have u1:=fX I 2000 (.vi acc.length) (.vi i) (.vl acc);have u2:=kP I 2000 (.vi acc.length) (.vi i) (.vl acc);have hf: ∀a,(I.upd 2000 [.vi acc.length,.vi i,.vl acc]).f 922 a=IN a:=λa=>by grind[eV]
  generalize I.upd 2000 [.vi acc.length,.vi i,.vl acc]=aa at*
  have e:aa.f 922 (Z6 aa ([.cb false,aN]++Io))=cr (0,[.vb (gE W (bW N i)),.vi W.length]):=by
   rw[hf];show cr (0,[.vb (gE (bU aa cZ).toL (bW (bU aa dK).toL (aa.w 2001).toI.toNat)),.vi (bU aa cZ).toL.length])=_;simp_all
  refine cy (by simp_all[cP,Z8,co,e9]) (Z3 (r:=(0,[.vb (gE W (bW N i)),.vi W.length])) (e16 E2 E3 hW u1 hi) e ?_);have hq:dB aa (dJ (zo e91 0))= !gE W (bW N i):=by
   rw[iu];show(!(bZ (aa.f 922 (Z6 aa ([.cb false,aN]++Io))).toL 1 0).toB)=_;rw[e];rfl
  cases h: !gE W (bW N i)with
  |true=>
   refine cy (hq.trans h) (W8 (by simp_all[cB,cx,co,e9]) (Ir u0 u1 u2 (cE9 D3 u1) (by omega) (by omega)))
  |false=>
   rw[cond_false,s6];exact cu (hq.trans h) (TM u0 u1 u2 (by omega))
 .refine cu (by rw[cP,Z8,co,D3,fX];exact j5 (by show¬(N.length:Int)<(N.length:Int);omega)) ?_;rfl
end
theorem dJ0{X:Nat->List Val->Val}{I:Opq}(f701: ∀a,I.f 701 a=Xj a)(f827: ∀a,I.f 827 a=ux a)(f828: ∀a,I.f 828 a=nO X a)(f829: ∀a,I.f 829 a=Fs a)(f920: ∀a,I.f 920 a=e84 a)(f921: ∀a,I.f 921 a=e85 a)(f922: ∀a,I.f 922 a=IN a){a:List Val}(ha:a=[I.w 0,I.w 1,I.w 2,I.w 3,I.w 4,I.w 5,I.w 6,I.w 7,I.w 8])
 (hn:(I.w 4).toL.length<=99) (h840:(I.f 840 [I.w 0,I.w 1,I.w 2,I.w 3,I.w 4]).toB=true) (h841:Z9 (I.w 5).toI (I.w 6).toS (I.w 7).toI (I.w 8).toI=0->(I.w 5).toI=1->(I.f 840 [I.w 0,I.w 1,I.w 2,I.w 3,.vl ((I.w 4).toL++[wZ a])]).toB=true)
 (hX: ∀v,∃l,X 490 [v]= .vl l) (hW:(kY X a).length<=400) (hN:kw a=0->(kK X a).length<=400):
 W7 T_rTry I=some (0,[Tg a,Ac X a,GJ X a]):=by
 have d1:bU I sY= .vl ((I.w 4).toL++[wZ a]):=by rw[ha];rfl
 have d0:bU I Kx= .vi (Z9 (I.w 5).toI (I.w 6).toS (I.w 7).toI (I.w 8).toI):=f701 _;have hE:kw a=if Z9 (I.w 5).toI (I.w 6).toS (I.w 7).toI (I.w 8).toI≠0 then Z9 (I.w 5).toI (I.w 6).toS (I.w 7).toI (I.w 8).toI else if(I.w 5).toI≠1 then 2 else if fB (I.w 0).toI (I.w 1).toI (I.w 2).toI (I.w 3).toI ((I.w 4).toL++[wZ a])=true then 0 else 30:=by rw[ha];rfl
 have out: ∀e:Int,e≠0->kw a=e->some (0,[Val.vi e,.vl [],.vl []])=some (0,[Tg a,Ac X a,GJ X a]):=λe he h=>by
  show _=some (0,[Val.vi (kw a),Val.vl (if kw a=0 then _ else []),Val.vl (if kw a=0 then _ else [])]);grind
 by_cases c0:Z9 (I.w 5).toI (I.w 6).toS (I.w 7).toI (I.w 8).toI=0
 .have h841:=h841 c0;rw[c0,b9 (by simp)]at hE;refine cu (by rw[eZ,d0,c0];rfl) ?_;by_cases c1:(I.w 5).toI=1
  .rw[b9 (by omega)]at hE;refine cu (by rw[eZ,co,c1];rfl) (W8 ?_ (W8 ?_ (W8 ?_ ?_)))
   .show dB I (zb (zl 4) 1000000)=true;grind[cB,Z8,dN,cx,decide_eq_true]
   .grind[cB,Z8,cx,a84,List.length_append,decide_eq_true]
   .rw[db,cB,Z8,d1,cx,a84,k7];refine and2 (e9 (by show(((I.w 4).toL.length+1:Nat):Int)<=100;omega)) ?_;show(I.f 840 [I.w 0,I.w 1,I.w 2,I.w 3,bU I sY]).toB=true;grind
   have d829:dB I (dJ (.app 829 [aM,aO,aT,aU,sY]))= !fB (I.w 0).toI (I.w 1).toI (I.w 2).toI (I.w 3).toI ((I.w 4).toL++[wZ a]):=by
    show(!(I.f 829 [I.w 0,I.w 1,I.w 2,I.w 3,bU I sY]).toB)=_;rw[f829,d1];rfl
   cases ho:fB (I.w 0).toI (I.w 1).toI (I.w 2).toI (I.w 3).toI ((I.w 4).toL++[wZ a])with
   |false=>
    rw[ho,b9 (by simp)]at hE;exact cy (by grind) (out 30 (by simp) hE)
   |true=>
    rw[ho,e8 rfl]at hE;have hN:=hN hE;have key: ∀aa:Opq,(∀n,n<2000->aa.w n=I.w n)->aa.f=I.f->bU aa cZ= .vl (kY X a)/\bU aa dK= .vl (kK X a):=λaa hw hf=>by
     have v: ∀b,nO X b= .vl (nO X b).toL:=λb=>by
      unfold nO;split
      .obtain⟨l,h⟩:=hX _;rw[h];rfl
      .rfl
     constructor
     .show aa.f 828 [aa.w 0,aa.w 1,aa.w 2,aa.w 3,aa.w 4]=_;rw[hf,f828,hw _ (by omega),hw _ (by omega),hw _ (by omega),hw _ (by omega),hw _ (by omega),ha,v];rfl
     .show aa.f 828 [aa.w 0,aa.w 1,aa.w 2,aa.w 3,.vl ((aa.w 4).toL++[.vl [aa.w 5,aa.w 6,aa.w 7,aa.w 8]])]=_;rw[hf,f828,hw 0 (by omega),hw 1 (by omega),hw 2 (by omega),hw 3 (by omega),hw 4 (by omega),hw 5 (by omega),hw 6 (by omega),hw 7 (by omega),hw 8 (by omega),ha,v];rfl
    have k0:=key I (λ_ _=>rfl) rfl;have k1:=λvs=>key (I.upd 2000 vs) (λn hn=>cN _ _ _ hn) rfl
    have k2:=λu vs=>key ((I.upd 2000 u).upd 4000 vs) (λn hn=>by grind[cN]) rfl
    have e4:bU I Hs=cr (0,[.vi ((pU (kY X a) (kK X a)).map eh).length,.vi (kY X a).length,.vl ((pU (kY X a) (kK X a)).map eh)]):=by
     show I.f 920 [.vi 0,.vi 0,.vl [],.vi (bU I cZ).toL.length,bU I cZ,.vi (bU I dK).toL.length,bU I dK]=_;rw[f920,k0.1,k0.2];rfl
    have d5:bU I vw= .vi ((pU (kY X a) (kK X a)).map eh).length:=by show bZ (bU I Hs).toL 1 0=_;rw[e4];rfl
    have d6:bU I rj= .vl ((pU (kY X a) (kK X a)).map eh):=by show bZ (bU I Hs).toL 1 2=_;rw[e4];rfl
    have e7:bU I DT=cr (0,[.vi ((lX (kY X a) (kK X a)).map cK).length,.vi (kK X a).length,.vl ((lX (kY X a) (kK X a)).map cK)]):=by
     show I.f 921 [.vi 0,.vi 0,.vl [],.vi (bU I cZ).toL.length,bU I cZ,.vi (bU I dK).toL.length,bU I dK,bU I vw,bU I rj]=_;rw[f921,k0.1,k0.2];rfl
    have d8:bU I HZ= .vl ((lX (kY X a) (kK X a)).map cK):=by show bZ (bU I DT).toL 1 2=_;rw[e7];rfl
    refine cu (by grind) (W8 ?_ (Z3 (e15 f827 (λvs=>(k1 vs).1) (λvs=>(k1 vs).2) hW hN) e4 (Z3 (e17 f922 (λvs=>(k1 vs).1) (λvs=>(k1 vs).2) (λu vs=>(k2 u vs).1) (λu vs=>(k2 u vs).2) hW hN) e7 ?_)))
    .rw[db,cB,Z8,dN,cx];exact and2 (e9 (by omega)) h840
    .refine W8 ?_ ?_
     .rw[db,dX,dX,Z8,Z8,d5,d6,d8];refine and2 (e9 rfl) (e9 ?_);show(bZ (bU I DT).toL 1 0).toI=_;rw[e7];rfl
     .show some (0,[Val.vi 0,bU I rj,bU I HZ])=some (0,[Val.vi (kw a),Val.vl (if kw a=0 then _ else []),Val.vl (if kw a=0 then _ else [])]);grind
  .rw[e8 c1]at hE;refine cy (by grind[eZ,co,cx]) (out 2 (by simp) hE)
 .refine cy (by rw[eZ,d0,cx];simp[c0]) ?_;show some (0,[bU I Kx,Val.vl [],Val.vl []])=_;grind
end Go.Ev.S9
namespace Go.Ev.S9
open Go Go.Ev
theorem Sk(L:List Val): ∀i,(dZ L i).length=L.length
 |0=>rfl
 |i+1=>by rw[dZ,C4,Sk L i]
theorem Wt(L:List Val)(j:Nat): ∀i,i<=j->bW (dZ L i) j=bW L j
 |0,_=>rfl
 |i+1,h=>by
  rw[dZ,<-Wt L j i (by omega)];unfold bW;rw[j9,j9,W1 (by omega)]
def rX(j:Int):SX:= .op .lget [bm,bg,.ci j]
def cY(j j':Int):SX:= cC (.op .lget [Y5,aN,.ci j]) (rX j')
theorem dq5:xy= .ite (zs bg oS) (.need (zp bg) (.need (zs bg (zl 4002)) (.need (zb (zl 4) 1000000) (.ite (dJ (.app 722 [aS,rX 0,rX 1,rX 2])) (.ret 2 [.cb false,bg,bm]) (.ite (dJ (zn (cY 0 3) (zn (cY 1 4) (zn (cY 2 5) (cY 3 6))))) (.ret 2 [.cb false,bg,bm]) (.ret 0 [bu,zi bg,.op .lset [bm,bg,Y6]])))))) (.ret 1 [bu,bg,bm]):=rfl
section
variable{I:Opq}{L m:List Val}
theorem e18{fl:Val}(f721: ∀a,I.f 721 a= .vl [.vl (tc (bV a 0).toL (.vl [bV a 1,bV a 2,bV a 3]))])(f722: ∀a,I.f 722 a= .vb (gy (bV a 0).toL (.vl [bV a 1,bV a 2,bV a 3])))(D: ∀vs,(bU (I.upd 4000 vs) oS).toI=(L.length:Int))(h4:(I.w 4).toL=m)(hL:L.length<=400)(hm:m.length<=400)(hr: ∀r∈L,dP m (Z2 r)=some (rA r)):
 cI (λvs=>W7 xy (I.upd 4000 vs)) [fl,.vi 0,.vl L]=some (0,[fl,.vi L.length,.vl (dZ L L.length)]):=by
 refine eG (st:=λk=>[fl,.vi k,.vl (dZ L k)]) (n:=L.length) (λk hk=> ?_) ?_
 .show W7 xy (I.upd 4000 [fl,.vi k,.vl (dZ L k)])=some (0,[fl,.vi (k+1:Nat),.vl ((dZ L k).set k Er)]);have D:=D [fl,.vi k,.vl (dZ L k)];have v0:(I.upd 4000 [fl,.vi k,.vl (dZ L k)]).w 4000=fl:=kW ..;have v1:(I.upd 4000 [fl,.vi k,.vl (dZ L k)]).w 4001= .vi k:=fX ..;have v2:(I.upd 4000 [fl,.vi k,.vl (dZ L k)]).w 4002= .vl (dZ L k):=kP ..;have w4:((I.upd 4000 [fl,.vi k,.vl (dZ L k)]).w 4).toL=m:=by grind[cN]
  have f721: ∀a,(I.upd 4000 [fl,.vi k,.vl (dZ L k)]).f 721 a= .vl [.vl (tc (bV a 0).toL (.vl [bV a 1,bV a 2,bV a 3]))]:=λa=>by grind[eV]
  have f722: ∀a,(I.upd 4000 [fl,.vi k,.vl (dZ L k)]).f 722 a= .vb (gy (bV a 0).toL (.vl [bV a 1,bV a 2,bV a 3])):=λa=>by grind[eV]
  generalize I.upd 4000 [fl,.vi k,.vl (dZ L k)]=aa at*
  have inc:cg .add .i64 (Val.vi (k:Int)).toI 1=((k+1:Nat):Int):=eH hk (by omega);have hx:=hr _ (kl hk);have dr: ∀j:Nat,bU aa (rX j)=Z7 (bW L k) j:=λj=>by
   show bZ (aa.w 4002).toL (aa.w 4001).toI (j:Int)=_;rw[v1,v2,<-Wt L k k (i6 _)];rfl
  have r0:bU aa (rX 0)=Z7 (bW L k) 0:=dr 0;have r1:bU aa (rX 1)=Z7 (bW L k) 1:=dr 1;have r2:bU aa (rX 2)=Z7 (bW L k) 2:=dr 2;have r3:bU aa (rX 3)=Z7 (bW L k) 3:=dr 3;have r4:bU aa (rX 4)=Z7 (bW L k) 4:=dr 4;have r5:bU aa (rX 5)=Z7 (bW L k) 5:=dr 5;have r6:bU aa (rX 6)=Z7 (bW L k) 6:=dr 6;generalize hp:Val.vl [Z7 (bW L k) 0,Z7 (bW L k) 1,Z7 (bW L k) 2]=p at*
  obtain⟨r,hrm,_,hA,hh,hc⟩:=Be (m:=m) (p:=p) (a:=rA (bW L k)) (by rw[<-hp];exact hx);have hA0:(Z7 r 3).toI=(Z7 (bW L k) 3).toI:=congrArg (λa=>a.1) hA;have hA1:(Z7 r 4).toI=(Z7 (bW L k) 4).toI:=congrArg (λa=>a.2.1) hA;have hA2:(Z7 r 5).toI=(Z7 (bW L k) 5).toI:=congrArg (λa=>a.2.2.1) hA;have hA3:(Z7 r 6).toI=(Z7 (bW L k) 6).toI:=congrArg (λa=>a.2.2.2) hA;have dt:bU aa Y5= .vl [.vl (tc m p)]:=by
   show aa.f 721 [aa.w 4,bU aa (rX 0),bU aa (rX 1),bU aa (rX 2)]=_;rw[f721,r0,r1,r2,<-hp,<-w4];rfl
  have dq: ∀j,bZ (bU aa Y5).toL 0 j=(tc m p).getD j.toNat default:=λj=>by rw[dt];rfl
  rw[dq5];refine cy ?_ (W8 ?_ (W8 ?_ (W8 ?_ (cu ?_ (cu ?_ ?_)))))
  .simp_all[cP,co,e9]
  .simp_all[cB,cx,co,e9]
  .simp_all[cP,co,Z8,dN,e9,dZ,Sk]
  .grind[cB,Z8,cx,dN,decide_eq_true]
  .show(!(aa.f 722 [aa.w 4,bU aa (rX 0),bU aa (rX 1),bU aa (rX 2)]).toB)=false;rw[f722,r0,r1,r2];show(!gy (aa.w 4).toL (Val.vl [Z7 (bW L k) 0,Z7 (bW L k) 1,Z7 (bW L k) 2]))=false;grind
  .show(!(decide ((bZ (bU aa Y5).toL 0 0).toI=(bU aa (rX 3)).toI)&&(decide ((bZ (bU aa Y5).toL 0 1).toI=(bU aa (rX 4)).toI)&&(decide ((bZ (bU aa Y5).toL 0 2).toI=(bU aa (rX 5)).toI)&&decide ((bZ (bU aa Y5).toL 0 3).toI=(bU aa (rX 6)).toI)))))=false;rw[dq,dq,dq,dq,r3,r4,r5,r6];show(!(decide ((iZ m p 3).toI=(Z7 (bW L k) 3).toI)&&(decide ((iZ m p 4).toI=(Z7 (bW L k) 4).toI)&&(decide ((iZ m p 5).toI=(Z7 (bW L k) 5).toI)&&decide ((iZ m p 6).toI=(Z7 (bW L k) 6).toI)))))=false;grind
  .show some (0,[aa.w 4000,Val.vi (cg .add .i64 (aa.w 4001).toI 1),Val.vl ((aa.w 4002).toL.set (aa.w 4001).toI.toNat Er)])=_;simp_all
 .have D:=D [fl,.vi L.length,.vl (dZ L L.length)];have v0:(I.upd 4000 [fl,.vi L.length,.vl (dZ L L.length)]).w 4000=fl:=kW ..;have v1:(I.upd 4000 [fl,.vi L.length,.vl (dZ L L.length)]).w 4001= .vi L.length:=fX ..;have v2:(I.upd 4000 [fl,.vi L.length,.vl (dZ L L.length)]).w 4002= .vl (dZ L L.length):=kP ..;generalize I.upd 4000 [fl,.vi L.length,.vl (dZ L L.length)]=aa at*
  refine cu ?_ ?_
  .simp_all[cP,co,j5]
  .show some (1,[aa.w 4000,aa.w 4001,aa.w 4002])=_;grind
theorem e19(D: ∀vs,(bU (I.upd 4000 vs) oT).toI=(L.length:Int))(hL:L.length<=400):
 cI (λvs=>W7 Gd (I.upd 4000 vs)) [.vi 0,.vl L]=some (0,[.vi L.length,.vl (dZ L L.length)]):=by
 have run: ∀k,k<=L.length->W7 Gd (I.upd 4000 [.vi k,.vl (dZ L k)])=if k<L.length then some (0,[.vi (k+1:Nat),.vl ((dZ L k).set k Er)])else some (1,[.vi k,.vl (dZ L k)]):=λk hk=>by
  have D:=D [.vi k,.vl (dZ L k)];have v0:(I.upd 4000 [.vi k,.vl (dZ L k)]).w 4000= .vi k:=by rw[cM];simp
  have v1:(I.upd 4000 [.vi k,.vl (dZ L k)]).w 4001= .vl (dZ L k):=by rw[cM];simp
  generalize I.upd 4000 [.vi k,.vl (dZ L k)]=aa at*
  by_cases c:k<L.length
  .rw[e8 c];refine cy ?_ (W8 ?_ (W8 ?_ ?_))
   .rw[cP,co,v0,D];exact e9 (by show(k:Int)<(L.length:Int);omega)
   .rw[cB,cx,co,v0];exact e9 (by show(0:Int)<=(k:Int);omega)
   .rw[cP,co,Z8,dN,v0,v1];exact e9 (by show(k:Int)<((dZ L k).length:Int);rw[Sk];omega)
   .show some (0,[Val.vi (cg .add .i64 (aa.w 4000).toI 1),Val.vl ((aa.w 4001).toL.set (aa.w 4000).toI.toNat Er)])=_;rw[v0,v1,a06,eH c (by omega)];rfl
  .rw[b9 c];refine cu ?_ ?_
   .rw[cP,co,v0,D];exact j5 (by show¬(k:Int)<(L.length:Int);omega)
   .show some (1,[aa.w 4000,aa.w 4001])=_;rw[v0,v1]
 refine eG (st:=λk=>[.vi k,.vl (dZ L k)]) (n:=L.length) (λk hk=> ?_) ?_
 .rw[run k (by omega),e8 hk];rfl
 grind
end
end Go.Ev.S9
namespace Go.Ev.S9
open Go Go.Ev
theorem Sa{x:dy}(h:Z9 1 x.1 x.2.1 x.2.2=0)(hv:cH x.2.2):oq (cD x)=true:=by
 show(decide ((1:Int)=1)&&(decide (Z9 1 x.1 x.2.1 x.2.2=0)&&(decide (-9223372036854775808<=x.2.2)&&decide (x.2.2<9223372036854775808))))=true;rw[e9 h,e9 hv.1,e9 hv.2];rfl
theorem rR{evs:List dy}(ht:gA evs)(hv:BT evs):(evs.map cD).all oq=true:=by
 rw[List.all_map,k6];exactλx hx=>Sa (hv x hx) (ht x hx).2
section
variable{k s w g:Int}{evs:List dy}{m:List Val}(h:TBL k s w g evs m)
include h
theorem TBL.n840{a b c d:Val}(ha:a= .vi k)(hb:b= .vi s)(hc:c= .vi w)(hd:d= .vi g):(F 840 [a,b,c,d,.vl (evs.map cD)]).toB=true:=by
 subst ha hb hc hd;show(cT k s w g&&(decide ((evs.map cD).length<=24)&&(evs.map cD).all oq))=true;rw[h.R,rR h.tm h.va,l5,e9 h.ln];rfl
theorem TBL.okw:fB k s w g (evs.map cD)=true:=(Sc h.R h.tm h.ln).2 (cV9 h.T)
theorem TBL.ok:DH k m:=Oj h.R h.T h.tm h.ln
theorem TBL.rows:nO F0 [.vi k,.vi s,.vi w,.vi g,.vl (evs.map cD)]= .vl (S7.srt false m):=by
 show(if fB k s w g (evs.map cD)=true then F0 490 [.vl (ef k s w g (evs.map cD) (evs.map cD).length)]else .vl [])=_;rw[e8 h.okw];have hr:=YX h.R h.tm h.ln h.va h.okw;exact ox.x490u _ m (λr hr'=>Bv (hr.nrm r hr')) (cU2 h.T hr (O6 _)) hr.nd
theorem TBL.lks{r:Val}(hr:r∈S7.srt false m):dP m (Z2 r)=some (rA r):=tH h.T.nd (S7.srt_mem.1 hr)
theorem TBL.rowsS{r:Val}(hr:r∈S7.srt false m):rowS r:=Bv (h.T.nrm r (S7.srt_mem.1 hr))
theorem TBL.rows7{r:Val}(hr:r∈S7.srt false m):cK r=r:=by
 obtain⟨a,b,c,A,e,_⟩:=h.T.nrm r (S7.srt_mem.1 hr);rw[e,cA0]
end
theorem t_is{I:Opq}(hf: ∀i a,I.f i a=F i a)(hn:(F 907 [I.w 0,I.w 1,I.w 2,I.w 3,I.w 4,I.w 5,I.w 6,I.w 7,I.w 8,I.w 9,I.w 10]).toB=true):W7 T_is I=some (0,[.vb true]):=by
 obtain⟨k,s,w,g,evs,m,w5,w6,w7,w8,w4,w9,H⟩:=EE.1 hn;have w5:I.w 5= .vi k:=w5;have w6:I.w 6= .vi s:=w6;have w7:I.w 7= .vi w:=w7;have w8:I.w 8= .vi g:=w8;have w4:I.w 4= .vl m:=w4;have w9:I.w 9= .vl (evs.map cD):=w9;obtain⟨_,_,m400,_⟩:=H.ok;have L400:(S7.srt false m).length<=400:=by grind[S7.srt_len]
 have key: ∀aa:Opq,(∀n,n<2000->aa.w n=I.w n)->aa.f=I.f->bU aa (.app 490 [aS])= .vl (S7.srt false m)/\bU aa gT= .vl (S7.srt false m)/\bU aa (.app 726 [aS,bt])= .vl ((S7.srt false m).filter (eE (I.w 10).toI)):=λaa hw hf'=>by
  refine⟨?_,?_,?_⟩
  .show aa.f 490 [aa.w 4]=_;rw[hf',hf,hw _ (by omega),w4];rfl
  .show aa.f 828 [aa.w 5,aa.w 6,aa.w 7,aa.w 8,aa.w 9]=_;rw[hf',hf,hw _ (by omega),hw _ (by omega),hw _ (by omega),hw _ (by omega),hw _ (by omega),w5,w6,w7,w8,w9];exact H.rows
  .show aa.f 726 [aa.w 4,aa.w 10]=_;rw[hf',hf,hw _ (by omega),hw _ (by omega),w4];rfl
 obtain⟨k1,k2,k3⟩:=key I (λ_ _=>rfl) rfl;have u:=λvs=>key (I.upd 4000 vs) (λn hn=>cN _ _ _ (by omega)) rfl
 have hFm:((S7.srt false m).filter (eE (I.w 10).toI)).length<=400:=n7 (K6 ..) L400;have n431: ∀l:List Val,(∀r∈l,rowS r)->(I.f 431 [.vl l]).toB=true:=λl hl=>by rw[hf];exact ox.x431 l hl
 have same: ∀v,I.f 3 [v,v]= .vb true:=λv=>(hf 3 [v,v]).trans (ox.x3 v)
 have i0:bU I oS= .vi (S7.srt false m).length:=by show Val.vi ((bU I (.app 490 [aS])).toL.length:Int)=_;rw[k1];rfl
 have i2:bU I oT= .vi ((S7.srt false m).filter (eE (I.w 10).toI)).length:=by show Val.vi ((bU I (.app 726 [aS,bt])).toL.length:Int)=_;rw[k3];rfl
 have d832:bU I (.app 832 [gT,bt])= .vl ((S7.srt false m).filter (eE (I.w 10).toI)):=by
  show I.f 832 [bU I gT,I.w 10]=_;rw[hf,k2];exact congrArg Val.vl (cV8 _ _ λr hr=>H.rows7 hr)
 have f721: ∀a,I.f 721 a= .vl [.vl (tc (bV a 0).toL (.vl [bV a 1,bV a 2,bV a 3]))]:=λa=>hf 721 a
 have f722: ∀a,I.f 722 a= .vb (gy (bV a 0).toL (.vl [bV a 1,bV a 2,bV a 3])):=λa=>hf 722 a
 have D0: ∀vs,(bU (I.upd 4000 vs) oS).toI=((S7.srt false m).length:Int):=λvs=>by
  show((bU (I.upd 4000 vs) (.app 490 [aS])).toL.length:Int)=_;simp_all
 have D2: ∀vs,(bU (I.upd 4000 vs) oT).toI=(((S7.srt false m).filter (eE (I.w 10).toI)).length:Int):=λvs=>by
  show((bU (I.upd 4000 vs) (.app 726 [aS,bt])).toL.length:Int)=_;simp_all
 have l1:=λfl=>e18 (I:=I) (L:=S7.srt false m) (m:=m) (fl:=fl) f721 f722 D0 (by rw[w4];rfl) L400 m400 λr hr=>H.lks hr
 have l2:=e19 (I:=I) (L:=(S7.srt false m).filter (eE (I.w 10).toI)) D2 hFm;have e1: ∀(fl:SX) (r:List SX),I.f 925 (bU I fl:: .vi 0::bU I (.app 490 [aS])::Z6 I r)=cr (0,[bU I fl,.vi (S7.srt false m).length,.vl (dZ (S7.srt false m) (S7.srt false m).length)]):=λfl r=>by
  rw[hf,k1];rfl
 have e2: ∀r:List SX,I.f 926 (.vi 0::bU I (.app 726 [aS,bt])::Z6 I r)=cr (0,[.vi ((S7.srt false m).filter (eE (I.w 10).toI)).length,.vl (dZ ((S7.srt false m).filter (eE (I.w 10).toI)) ((S7.srt false m).filter (eE (I.w 10).toI)).length)]):=λr=>by
  rw[hf,k3];rfl
 refine W8 ?_ (cu ?_ (W8 (Je hf fe_x (by rw[dN,w4]) H.ok) (cu ?_ (W8 ?_ (W8 ?_ (cu ?_ (W8 ?_ (W8 ?_ (W8 ?_ (cu ?_ ?_))))))))))
 .rw[db,cB,Z8,dN,w9,cx,a84,l5];refine and2 (e9 (by have:=H.ln;omega)) ?_;show(I.f 840 [I.w 5,I.w 6,I.w 7,I.w 8,I.w 9]).toB=true;rw[hf,w9];exact H.n840 w5 w6 w7 w8
 .show(!(I.f 829 [I.w 5,I.w 6,I.w 7,I.w 8,I.w 9]).toB)=false;rw[hf,w5,w6,w7,w8,w9];show(!fB k s w g (evs.map cD))=false;rw[H.okw];rfl
 .grind[eZ,Z8,a84,a06]
 .rw[db,cB,i0,cx];refine and2 (e9 (by show((S7.srt false m).length:Int)<=400;omega)) ?_;show(I.f 431 [bU I (.app 490 [aS])]).toB=true;rw[k1];exact n431 _ λr hr=>H.rowsS hr
 .rw[cB,i0,cx];exact e9 (by show((S7.srt false m).length:Int)<=1000000;omega)
 .show(!(I.f 3 [bU I (.app 490 [aS]),bU I gT]).toB)=false;simp_all
 .rw[db,cB,i2,cx];refine and2 (e9 (by show(((S7.srt false m).filter (eE (I.w 10).toI)).length:Int)<=400;omega)) ?_;show(I.f 431 [bU I (.app 726 [aS,bt])]).toB=true;rw[k3];exact n431 _ λr hr=>H.rowsS (l7.1 hr).1
 .rw[db,cB,Z8,k2,cx];refine and2 (e9 (by show((S7.srt false m).length:Int)<=400;omega)) ?_;show(I.f 431 [bU I gT]).toB=true;rw[k2];exact n431 _ λr hr=>H.rowsS hr
 .rw[cB,i2,cx];exact e9 (by show(((S7.srt false m).filter (eE (I.w 10).toI)).length:Int)<=1000000;omega)
 .show(!(I.f 3 [bU I (.app 726 [aS,bt]),bU I (.app 832 [gT,bt])]).toB)=false;simp_all
 .have s1:cI (λvs=>W7 xy (I.upd 4000 vs)) [bU I (.cb false),.vi 0,bU I (.app 490 [aS])]=some (0,[bU I (.cb false),.vi (S7.srt false m).length,.vl (dZ (S7.srt false m) (S7.srt false m).length)]):=by grind
  have s2:cI (λvs=>W7 Gd (I.upd 4000 vs)) [.vi 0,bU I (.app 726 [aS,bt])]=some (0,[.vi ((S7.srt false m).filter (eE (I.w 10).toI)).length,.vl (dZ ((S7.srt false m).filter (eE (I.w 10).toI)) ((S7.srt false m).filter (eE (I.w 10).toI)).length)]):=by grind
  have s3:cI (λvs=>W7 xy (I.upd 4000 vs)) [bU I BF,.vi 0,bU I (.app 490 [aS])]=some (0,[bU I BF,.vi (S7.srt false m).length,.vl (dZ (S7.srt false m) (S7.srt false m).length)]):=by grind
  exact Z3 s1 (e1 (.cb false) _) (Z3 s2 (e2 _) (Z3 s3 (e1 BF _) (Z3 s2 (e2 _) rfl)))
end Go.Ev.S9
namespace Go.Ev.S9
open Go Go.Ev
def aQ(k s w g:Int)(evs:List dy)(ek:Int)(ks:List UInt8)(t v:Int):List Val:=[.vi k,.vi s,.vi w,.vi g,.vl (evs.map cD),.vi ek,.vs ks,.vi t,.vi v]
section
variable{k s w g ek t v:Int}{ks:List UInt8}{m:List Val}{evs:List dy}(H:TBL k s w g evs m)(h24:evs.length<24)(hv:cH v)
include H hv
theorem QG(h0:Z9 1 ks t v=0):gA (evs++[(ks,t,v)]):=cA6 H.tm (xj h0 rfl).2 hv
include h24
theorem Il:kw (aQ k s w g evs ek ks t v)=dD (cG k s w g m ek ks t v):=by
 have e:kw (aQ k s w g evs ek ks t v)=if Z9 ek ks t v≠0 then Z9 ek ks t v else if ek≠1 then 2 else if fB k s w g (evs.map cD++[.vl [.vi ek,.vs ks,.vi t,.vi v]])=true then 0 else 30:=rfl
 rw[e];by_cases h0:Z9 ek ks t v=0
 .rw[b9 (by simp[h0])];by_cases h1:ek=1
  .rw[b9 (by omega)];have hm:evs.map cD++[.vl [.vi ek,.vs ks,.vi t,.vi v]]=(evs++[(ks,t,v)]).map cD:=by rw[u9,h1];rfl
   rw[hm];have hok:=Sc H.R (QG H hv (by rw[<-h1];exact h0)) (by rw[k7];show evs.length+1<=24;omega);have htf:=cV7 ox H.R H.T H.tm H.ln hv h0 h1;by_cases f:kM (ei k s w g) (evs++[(ks,t,v)])
   .rw[htf.2 f,e8 (hok.2 f)]
   .rw[b9 λh=>f (hok.1 h)];rcases dE3 (k:=k) (s:=s) (l:=w) (g:=g) (m:=m) h0 h1 with h|h
    .exact absurd (htf.1 h) f
    .exact h.symm
  .rw[e8 h1,oD,b9 (by simp[h0]),e8 h1]
 simp_all[e8,oD]
theorem WB: ∃m' evs',fN F0 (cG k s w g m ek ks t v)= .vl m'/\TBL k s w g evs' m'/\evs'.length<=evs.length+1/\(if dD (cG k s w g m ek ks t v)≠0 then evs.map cD else evs.map cD++[.vl [.vi ek,.vs ks,.vi t,.vi v]])=evs'.map cD/\
 (ew (cG k s w g m ek ks t v)).length<=400/\(ew (cG k s w g m ek ks t v)).map Z2=(Ac F0 (aQ k s w g evs ek ks t v)).toL.map Z2/\ ∃R,eJ F0 (cG k s w g m ek ks t v)= .vl R/\GJ F0 (aQ k s w g evs ek ks t v)= .vl R/\R.length<=400/\ ∀r∈R,rowS r:=by
 have hrt:=Il H h24 hv (ek:=ek) (ks:=ks) (t:=t);have e3:Ac F0 (aQ k s w g evs ek ks t v)= .vl (if kw (aQ k s w g evs ek ks t v)=0 then(pU (kY F0 (aQ k s w g evs ek ks t v)) (kK F0 (aQ k s w g evs ek ks t v))).map eh else []):=rfl;have e4:GJ F0 (aQ k s w g evs ek ks t v)= .vl (if kw (aQ k s w g evs ek ks t v)=0 then(lX (kY F0 (aQ k s w g evs ek ks t v)) (kK F0 (aQ k s w g evs ek ks t v))).map cK else []):=rfl;rw[e3,e4,hrt];by_cases he:dD (cG k s w g m ek ks t v)=0
 .rw[b9 (by simp[he]),e8 he,e8 he];obtain⟨q0,q1⟩:=IW he;subst q1;obtain⟨R,m',a1,a2,a3,a4,a5,a6,a7⟩:=IB ox H.R H.T H.ok.2.2.1 H.tm hv he;have H':TBL k s w g (evs++[(ks,t,v)]) m':=⟨H.R,a5,QG H hv q0,bA1 H.va q0,by grind⟩;have hx:evs.map cD++[Val.vl [.vi 1,.vs ks,.vi t,.vi v]]=(evs++[(ks,t,v)]).map cD:=by rw[u9];rfl
  have hW:kY F0 (aQ k s w g evs 1 ks t v)=S7.srt false m:=congrArg Val.toL H.rows;have hN:kK F0 (aQ k s w g evs 1 ks t v)=S7.srt false m':=by
   show(nO F0 [.vi k,.vi s,.vi w,.vi g,.vl (evs.map cD++[Val.vl [.vi 1,.vs ks,.vi t,.vi v]])]).toL=_;rw[hx];exact congrArg Val.toL H'.rows
  obtain⟨d1,d2⟩:=cW5 H.R H.T H.ok.2.2.1 H.tm hv he a2 a5;rw[a1,Val.vl.injEq]at d2;refine⟨m',_,a2,H',by grind,hx,a4,?_,R,a1,?_,by omega,λr hr=>Bv (a6 r hr).1⟩
  .rw[d1,hW,hN,a84,o7];rfl
  .rw[hW,hN,<-d2];refine congrArg Val.vl ((y7 (g:=id) λr hr=> ?_).trans (G4 _));obtain⟨a,b,c,A,e,_⟩:=(a6 r hr).1;grind[cA0]
 .rw[e8 he,b9 he,b9 he];obtain⟨b1,b2,b3⟩:=dE1 (X:=F0) he;refine⟨m,evs,b3,H,by omega,rfl,by grind,by rw[b1];rfl,[],b2,rfl,r9 _,λr hr=>(by cases hr)⟩
theorem ef1:e88 (aQ k s w g evs ek ks t v):=⟨k,s,w,g,evs,m,ek,ks,t,v,rfl,rfl,rfl,rfl,rfl,rfl,rfl,rfl,rfl,hv,H,h24⟩
end
theorem c_rTry{I:Opq}(hf: ∀i a,I.f i a=F i a)(hn:(F 906 [I.w 0,I.w 1,I.w 2,I.w 3,I.w 4,I.w 5,I.w 6,I.w 7,I.w 8]).toB=true):W7 T_rTry I=some (0,[F 905 [I.w 0,I.w 1,I.w 2,I.w 3,I.w 4,I.w 5,I.w 6,I.w 7,I.w 8],F 903 [I.w 0,I.w 1,I.w 2,I.w 3,I.w 4,I.w 5,I.w 6,I.w 7,I.w 8],F 904 [I.w 0,I.w 1,I.w 2,I.w 3,I.w 4,I.w 5,I.w 6,I.w 7,I.w 8]]):=by
 obtain⟨k,s,w,g,evs,m,ek,ks,t,v,w0,w1,w2,w3,w4,w5,w6,w7,w8,hv,H,h24⟩:=EE.1 hn;have w0:I.w 0= .vi k:=w0;have w1:I.w 1= .vi s:=w1;have w2:I.w 2= .vi w:=w2;have w3:I.w 3= .vi g:=w3;have w4:I.w 4= .vl (evs.map cD):=w4;have w5:I.w 5= .vi ek:=w5;have w6:I.w 6= .vs ks:=w6;have w7:I.w 7= .vi t:=w7;have w8:I.w 8= .vi v:=w8;have ha:aQ k s w g evs ek ks t v=[I.w 0,I.w 1,I.w 2,I.w 3,I.w 4,I.w 5,I.w 6,I.w 7,I.w 8]:=by rw[w0,w1,w2,w3,w4,w5,w6,w7,w8];rfl
 have hl:(I.w 4).toL=evs.map cD:=by rw[w4];rfl
 have hW:kY F0 (aQ k s w g evs ek ks t v)=S7.srt false m:=congrArg Val.toL H.rows;rw[<-ha];refine dJ0 (X:=F0) (λa=>hf 701 a) (λa=>hf 827 a) (λa=>hf 828 a) (λa=>hf 829 a) (λa=>hf 920 a) (λa=>hf 921 a) (λa=>hf 922 a) ha (by rw[hl,l5];omega) (by rw[hf,w4];exact H.n840 w0 w1 w2 w3) (λh0 h1=> ?_) (λv=>⟨_,rfl⟩) (by rw[hW,S7.srt_len];exact H.ok.2.2.1) (λhE=> ?_)
 .rw[w5,w6,w7,w8]at h0;rw[w5]at h1;subst h1;rw[hf,w0,w1,w2,w3,hl];show(cT k s w g&&(decide ((evs.map cD++[cD (ks,t,v)]).length<=24)&&(evs.map cD++[cD (ks,t,v)]).all oq))=true;rw[H.R,E6,rR H.tm H.va,k7,l5];have:oq (cD (ks,t,v))=true:=Sa h0 hv;rw[e9 (by show evs.length+1<=24;omega),List.all_cons,this];rfl
 .rw[Il H h24 hv]at hE;obtain⟨q0,q1⟩:=IW hE;subst q1;obtain⟨R,m',a1,a2,a3,a4,a5,a6,a7⟩:=IB ox H.R H.T H.ok.2.2.1 H.tm hv hE;have H':TBL k s w g (evs++[(ks,t,v)]) m':=⟨H.R,a5,QG H hv q0,bA1 H.va q0,by rw[k7];show evs.length+1<=24;omega⟩;have hN:kK F0 (aQ k s w g evs 1 ks t v)=S7.srt false m':=by
   show(nO F0 [.vi k,.vi s,.vi w,.vi g,.vl (evs.map cD++[Val.vl [.vi 1,.vs ks,.vi t,.vi v]])]).toL=_;rw[show evs.map cD++[Val.vl [.vi 1,.vs ks,.vi t,.vi v]]=(evs++[(ks,t,v)]).map cD by rw[u9];rfl];exact congrArg Val.toL H'.rows
  rw[hN,S7.srt_len];exact H'.ok.2.2.1
end Go.Ev.S9
namespace Go.Ev.S9
open Go Go.Ev
structure RQ (I:Opq) (k s w g:Int) (ops:List Val) (i:Nat) (m:List Val) (evs:List dy) (fi ek:Int) (ks:List UInt8) (t v:Int):Prop where
 f: ∀i a,I.f i a=F i a
 w0:I.w 0= .vi k
 w1:I.w 1= .vi s
 w2:I.w 2= .vi w
 w3:I.w 3= .vi g
 w4:I.w 4= .vl ops
 u0:I.w 2000= .vb false
 u1:I.w 2001= .vi evs.length
 u2:I.w 2002= .vi fi
 u3:I.w 2003= .vi i
 u4:I.w 2004= .vl m
 u5:I.w 2005= .vl (evs.map cD)
 row:bW ops i= .vl [.vi ek,.vs ks,.vi t,.vi v]
def eX(j:Int):SX:= .op .lget [aS,bj,.ci j]
def rQ:SX:= .op .lsub [bq,aN,aR]
section
variable{I:Opq}{k s w g:Int}{ops:List Val}{i:Nat}{m:List Val}{evs:List dy}{fi ek:Int}{ks:List UInt8}{t v:Int}(h:RQ I k s w g ops i m evs fi ek ks t v)
include h
theorem RQ.ex(j:Nat):bU I (eX j)=Z7 (.vl [.vi ek,.vs ks,.vi t,.vi v]) j:=by
 rw[show eX j= .op .lget [aS,bj,.ci j]from rfl,te (q:= aS) j h.w4 h.u3,h.row]
theorem RQ.exs:[bU I (eX 0),bU I (eX 1),bU I (eX 2),bU I (eX 3)]=[.vi ek,.vs ks,.vi t,.vi v]:=by
 have a:=h.ex 0;have b:=h.ex 1;have c:=h.ex 2;have d:=h.ex 3;rw[show bU I (eX 0)=_ from a,show bU I (eX 1)=_ from b,show bU I (eX 2)=_ from c,show bU I (eX 3)=_ from d];rfl
theorem RQ.r:bU I rQ= .vl (evs.map cD):=Cz (x:= bq) (n:= aR) h.u5 (by rw[l5];exact h.u1)
theorem RQ.nine:[I.w 0,I.w 1,I.w 2,I.w 3,I.w 2004,bU I (eX 0),bU I (eX 1),bU I (eX 2),bU I (eX 3)]=cG k s w g m ek ks t v:=by
 rw[h.w0,h.w1,h.w2,h.w3,h.u4,h.exs];rfl
theorem RQ.nineQ:[I.w 0,I.w 1,I.w 2,I.w 3,bU I rQ,bU I (eX 0),bU I (eX 1),bU I (eX 2),bU I (eX 3)]=aQ k s w g evs ek ks t v:=by
 rw[h.w0,h.w1,h.w2,h.w3,h.r,h.exs];rfl
theorem RQ.y8:bU I Y8= .vi (Z9 ek ks t v):=by
 show I.f 701 [bU I (eX 0),bU I (eX 1),bU I (eX 2),bU I (eX 3)]=_;rw[h.f,h.exs];rfl
theorem RQ.y9:bU I Y9= .vi (dD (cG k s w g m ek ks t v)):=by
 show I.f 732 [I.w 0,I.w 1,I.w 2,I.w 3,I.w 2004,bU I (eX 0),bU I (eX 1),bU I (eX 2),bU I (eX 3)]=_;rw[h.f,h.nine];rfl
theorem RQ.y18:bU I Bp=fN F0 (cG k s w g m ek ks t v):=by
 show I.f 733 [I.w 0,I.w 1,I.w 2,I.w 3,I.w 2004,bU I (eX 0),bU I (eX 1),bU I (eX 2),bU I (eX 3)]=_;rw[h.f,h.nine];rfl
theorem e22(H:TBL k s w g evs m)(h24:evs.length<24)(hv:cH v)(hi:i<ops.length)(hn:ops.length<=24){e n r:SX}(he:(bU I e).toI=dD (cG k s w g m ek ks t v)):
 W7 (Ch e n r) I=some (0,[.vb false,bU I n,if fi=0 then bU I e else .vi fi,.vi (i+1:Nat),fN F0 (cG k s w g m ek ks t v),bU I r]):=by
 obtain⟨m',evs',a1,a2,a3,a4,a5,a6,R,a7,a8,a9,a10⟩:=WB H h24 hv (ek:=ek) (ks:=ks) (t:=t);have inc:cg .add .i64 (Val.vi (i:Int)).toI 1=((i+1:Nat):Int):=eH hi (by omega);have d905:bU I (.app 905 [aM,aO,aT,aU,rQ,eX 0,eX 1,eX 2,eX 3])= .vi (dD (cG k s w g m ek ks t v)):=by
  show I.f 905 [I.w 0,I.w 1,I.w 2,I.w 3,bU I rQ,bU I (eX 0),bU I (eX 1),bU I (eX 2),bU I (eX 3)]=_;rw[h.f,h.nineQ];exact congrArg Val.vi (Il H h24 hv)
 have d903:bU I (.app 903 [aM,aO,aT,aU,rQ,eX 0,eX 1,eX 2,eX 3])=Ac F0 (aQ k s w g evs ek ks t v):=by
  show I.f 903 [I.w 0,I.w 1,I.w 2,I.w 3,bU I rQ,bU I (eX 0),bU I (eX 1),bU I (eX 2),bU I (eX 3)]=_;rw[h.f,h.nineQ];rfl
 have d904:bU I (.app 904 [aM,aO,aT,aU,rQ,eX 0,eX 1,eX 2,eX 3])= .vl R:=by
  show I.f 904 [I.w 0,I.w 1,I.w 2,I.w 3,bU I rQ,bU I (eX 0),bU I (eX 1),bU I (eX 2),bU I (eX 3)]=_;rw[h.f,h.nineQ];exact a8
 have y11:bU I LS= .vl (ew (cG k s w g m ek ks t v)):=by
  show I.f 730 [I.w 0,I.w 1,I.w 2,I.w 3,I.w 2004,bU I (eX 0),bU I (eX 1),bU I (eX 2),bU I (eX 3)]=_;rw[h.f,h.nine];rfl
 have y13:bU I sD= .vl R:=by
  show I.f 731 [I.w 0,I.w 1,I.w 2,I.w 3,I.w 2004,bU I (eX 0),bU I (eX 1),bU I (eX 2),bU I (eX 3)]=_;rw[h.f,h.nine,<-a7];rfl
 refine cu ?_ (W8 ?_ (cu ?_ (W8 ?_ (W8 ?_ (cu ?_ (W8 ?_ (cu ?_ ?_)))))))
 .show dB I (dv Y9 (.app 905 [aM,aO,aT,aU,rQ,eX 0,eX 1,eX 2,eX 3]))=false;rw[eZ,h.y9,d905];simp
 .rw[cB,Z8,y11,cx];exact e9 (by show((ew (cG k s w g m ek ks t v)).length:Int)<=400;omega)
 .show(!(I.f 900 [bU I LS,bU I (.app 903 [aM,aO,aT,aU,rQ,eX 0,eX 1,eX 2,eX 3])]).toB)=false;rw[h.f,y11,d903];show(!decide ((ew (cG k s w g m ek ks t v)).map Z2=(Ac F0 (aQ k s w g evs ek ks t v)).toL.map Z2))=false;grind
 .show dB I (zn (zb (zL sD) 400) (.app 431 [sD]))=true;rw[db,cB,Z8,y13,cx];refine and2 (e9 (by show(R.length:Int)<=400;omega)) ?_;show(I.f 431 [bU I sD]).toB=true;rw[y13,h.f];exact ox.x431 R a10
 .show dB I (zb (zL sD) 1000000)=true;rw[cB,Z8,y13,cx];exact e9 (by show(R.length:Int)<=1000000;omega)
 .show(!(I.f 3 [bU I sD,bU I (.app 904 [aM,aO,aT,aU,rQ,eX 0,eX 1,eX 2,eX 3])]).toB)=false;rw[y13,d904,(h.f 3 [.vl R,.vl R]).trans (ox.x3 (.vl R))];rfl
 .show(I.f 907 [I.w 0,I.w 1,I.w 2,I.w 3,I.w 2004,I.w 0,I.w 1,I.w 2,I.w 3,bU I rQ,I.w 5]).toB=true;rw[h.f];exact EE.2 ⟨k,s,w,g,evs,m,h.w0,h.w1,h.w2,h.w3,h.u4,h.r,H⟩
 .rw[eZ,h.y9,he];simp
 .by_cases c:fi=0
  .rw[e8 c];refine cy (by rw[dX,co,cx,h.u2,c];rfl) ?_;show some (0,[I.w 2000,bU I n,bU I e,Val.vi (cg .add .i64 (I.w 2003).toI 1),bU I Bp,bU I r])=_;rw[h.u0,h.u3,inc,h.y18]
  .rw[b9 c];refine cu (by rw[dX,co,cx,h.u2];simp_all) ?_;show some (0,[I.w 2000,bU I n,I.w 2002,Val.vi (cg .add .i64 (I.w 2003).toI 1),bU I Bp,bU I r])=_;rw[h.u0,h.u3,inc,h.y18,h.u2]
end
end Go.Ev.S9
namespace Go.Ev.S9
open Go Go.Ev
theorem dq6{k s w g:Int}(hR:cT k s w g=true):TBL k s w g [] []:=⟨hR,dk6 hR,λx hx=>(by cases hx),λx hx=>(by cases hx),r9 _⟩
section
variable{k s w g:Int}{ops:List Val}(hR:cT k s w g=true)(hn:ops.length<=24)(ho: ∀r∈ops,opOk r=true)
include hR hn ho
theorem KP: ∀i,i<=ops.length-> ∃m evs,(eL F0 (.vi k) (.vi s) (.vi w) (.vi g) ops i).2.1= .vl m/\(eL F0 (.vi k) (.vi s) (.vi w) (.vi g) ops i).2.2=evs.map cD/\TBL k s w g evs m/\evs.length<=i
 |0,_=>⟨[],[],rfl,rfl,dq6 hR,i6 _⟩
 |i+1,hi=>by
  obtain⟨m,evs,h1,h2,H,hl⟩:=KP i (by omega);obtain⟨ek,ks,t,v,hr,hv⟩:=NI (ho _ (kl (show i<ops.length by omega)));have hw:=YV (k:=k) (s:=s) (l:=w) (g:=g) h1 hr;obtain⟨m',evs',a1,a2,a3,a4,_⟩:=WB H (by omega) hv (ek:=ek) (ks:=ks) (t:=t);refine⟨m',evs',?_,?_,a2,by omega⟩
  .show fN F0 (iO _ _ _ _ _ _)=_;grind
  .show(if dD (iO _ _ _ _ _ _)≠0 then _ else _++[El (bW ops i)])=_;rw[hw,h2,hr,<-a4];rfl
theorem cW8{I:Opq}{i:Nat}(hi:i<ops.length)(hf: ∀i a,I.f i a=F i a)(w0:I.w 0= .vi k)(w1:I.w 1= .vi s)(w2:I.w 2= .vi w)(w3:I.w 3= .vi g)(w4:I.w 4= .vl ops):
 W7 PR (I.upd 2000 (nu F0 (.vi k) (.vi s) (.vi w) (.vi g) ops i))=some (0,nu F0 (.vi k) (.vi s) (.vi w) (.vi g) ops (i+1)):=by
 obtain⟨m,evs,h1,h2,H,hl⟩:=KP hR hn ho i (by omega);obtain⟨ek,ks,t,v,hr,hv⟩:=NI (ho _ (kl hi));have hw:=YV (k:=k) (s:=s) (l:=w) (g:=g) h1 hr;have nx:nu F0 (.vi k) (.vi s) (.vi w) (.vi g) ops (i+1)=[.vb false,.vi (if dD (cG k s w g m ek ks t v)≠0 then evs.map cD else evs.map cD++[.vl [.vi ek,.vs ks,.vi t,.vi v]]).length,.vi (if(eL F0 (.vi k) (.vi s) (.vi w) (.vi g) ops i).1=0 then dD (cG k s w g m ek ks t v)else(eL F0 (.vi k) (.vi s) (.vi w) (.vi g) ops i).1),.vi (i+1:Nat),fN F0 (cG k s w g m ek ks t v),.vl (if dD (cG k s w g m ek ks t v)≠0 then evs.map cD else evs.map cD++[.vl [.vi ek,.vs ks,.vi t,.vi v]])]:=by
  unfold nu;rw[show eL F0 (.vi k) (.vi s) (.vi w) (.vi g) ops (i+1)=(if(eL F0 (.vi k) (.vi s) (.vi w) (.vi g) ops i).1=0 then dD (iO (.vi k) (.vi s) (.vi w) (.vi g) (eL F0 (.vi k) (.vi s) (.vi w) (.vi g) ops i).2.1 (bW ops i))else(eL F0 (.vi k) (.vi s) (.vi w) (.vi g) ops i).1,fN F0 (iO (.vi k) (.vi s) (.vi w) (.vi g) (eL F0 (.vi k) (.vi s) (.vi w) (.vi g) ops i).2.1 (bW ops i)),if dD (iO (.vi k) (.vi s) (.vi w) (.vi g) (eL F0 (.vi k) (.vi s) (.vi w) (.vi g) ops i).2.1 (bW ops i))≠0 then(eL F0 (.vi k) (.vi s) (.vi w) (.vi g) ops i).2.2 else(eL F0 (.vi k) (.vi s) (.vi w) (.vi g) ops i).2.2++[El (bW ops i)])from rfl,hw,h2,hr];rfl
 have h24:evs.length<24:=by omega
 have pv:nu F0 (.vi k) (.vi s) (.vi w) (.vi g) ops i=[.vb false,.vi evs.length,.vi (eL F0 (.vi k) (.vi s) (.vi w) (.vi g) ops i).1,.vi i,.vl m,.vl (evs.map cD)]:=by
  grind[nu,List.length_map]
 rw[nx,pv];generalize (eL F0 (.vi k) (.vi s) (.vi w) (.vi g) ops i).1=fi;have Q:RQ (I.upd 2000 [.vb false,.vi evs.length,.vi fi,.vi i,.vl m,.vl (evs.map cD)]) k s w g ops i m evs fi ek ks t v:=
  ⟨hf,by grind[cN],by grind[cN],by grind[cN],by grind[cN],by grind[cN],by rfl,by rfl,by rfl,by rfl,by rfl,by rfl,hr⟩
 generalize I.upd 2000 [.vb false,.vi evs.length,.vi fi,.vi i,.vl m,.vl (evs.map cD)]=aa at*
 have tl:=λ{e n r:SX} he=>e22 Q H h24 hv hi hn (e:=e) (n:=n) (r:=r) he
 have no: ∀{e:SX} {c:Int},c≠0->dD (cG k s w g m ek ks t v)=c->bU aa e= .vi c->W7 (Ch e aR bq) aa=some (0,[.vb false,.vi (if dD (cG k s w g m ek ks t v)≠0 then evs.map cD else evs.map cD++[.vl [.vi ek,.vs ks,.vi t,.vi v]]).length,.vi (if fi=0 then dD (cG k s w g m ek ks t v)else fi),.vi (i+1:Nat),fN F0 (cG k s w g m ek ks t v),.vl (if dD (cG k s w g m ek ks t v)≠0 then evs.map cD else evs.map cD++[.vl [.vi ek,.vs ks,.vi t,.vi v]])]):=λ{e c} hc he hd=>by
  rw[tl (by rw[hd,he];rfl),hd,he,e8 hc,l5];show some (0,[Val.vb false,aa.w 2001,_,_,_,aa.w 2005])=_;rw[Q.u1,Q.u5];grind
 have e0:bU aa (eX 0)= .vi ek:=Q.ex 0;have e1:bU aa (eX 1)= .vs ks:=Q.ex 1;have hev:(evs.map cD).length=evs.length:=l5 ..;refine cy ?_ (W8 ?_ (W8 ?_ (W8 ?_ ?_)))
 .rw[cP,co,Z8,dN,Q.u3,Q.w4];simp_all
 .rw[cB,cx,co,Q.u3];rfl
 .exact and2 (Je Q.f fe_x Q.u4 H.ok) (Xp Q.f Q.w0 Q.u4 e1 H.ok)
 .show dB aa (zn (zn (zp aR) (fJ aR (zl 2005))) (zn (zb (zL rQ) 100) (.app 906 [aM,aO,aT,aU,rQ,eX 0,eX 1,eX 2,eX 3])))=true;rw[db,db,db,cB,cB,cB,Z8,Z8,co,dN,cx,cx,Q.u1,Q.u5,Q.r,a84,hev,a06];refine and2 (and2 (e9 (by omega)) (e9 (x5 _))) (and2 (e9 (by omega)) ?_);show(aa.f 906 [aa.w 0,aa.w 1,aa.w 2,aa.w 3,bU aa rQ,bU aa (eX 0),bU aa (eX 1),bU aa (eX 2),bU aa (eX 3)]).toB=true;rw[Q.f,Q.nineQ];exact EE.2 (ef1 H h24 hv)
 by_cases c0:Z9 ek ks t v=0
 .refine cu (by rw[eZ,Q.y8,c0];rfl) ?_;by_cases c1:ek=1
  .subst c1;have y19:bU aa ot= .vl (evs.map cD++[.vl [.vi 1,.vs ks,.vi t,.vi v]]):=by
    show Val.vl ((aa.w 2005).toL++[Val.vl [bU aa (eX 0),bU aa (eX 1),bU aa (eX 2),bU aa (eX 3)]])=_;rw[Q.u5,Q.exs];rfl
   have l19:(evs.map cD++[Val.vl [.vi 1,.vs ks,.vi t,.vi v]]).length=evs.length+1:=by grind
   have d829:dB aa (dJ (.app 829 [aM,aO,aT,aU,ot]))= !fB k s w g (evs.map cD++[.vl [.vi 1,.vs ks,.vi t,.vi v]]):=by
    show(!(aa.f 829 [aa.w 0,aa.w 1,aa.w 2,aa.w 3,bU aa ot]).toB)=_;rw[Q.f,Q.w0,Q.w1,Q.w2,Q.w3,y19];rfl
   have hrt:=Il H h24 hv (ek:=1) (ks:=ks) (t:=t);have hrt:(if fB k s w g (evs.map cD++[.vl [.vi 1,.vs ks,.vi t,.vi v]])=true then 0 else 30)=dD (cG k s w g m 1 ks t v):=by
    have e:kw (aQ k s w g evs 1 ks t v)=if Z9 1 ks t v≠0 then Z9 1 ks t v else if(1:Int)≠1 then 2 else if fB k s w g (evs.map cD++[.vl [.vi 1,.vs ks,.vi t,.vi v]])=true then 0 else 30:=rfl
    omega
   refine cu (by show dB aa (dv (eX 0) aZ)=false;rw[eZ,e0];rfl) (W8 ?_ (W8 ?_ (W8 ?_ ?_)))
   .rw[db,dX,cB,co,Z8,dN,cx,Q.u1,Q.u5,a84,hev];exact and2 (e9 rfl) (e9 (by omega))
   .grind[cB,Z8,cx,a84,decide_eq_true]
   .rw[db,cB,Z8,y19,cx,a84,l19];refine and2 (e9 (by omega)) ?_;show(aa.f 840 [aa.w 0,aa.w 1,aa.w 2,aa.w 3,bU aa ot]).toB=true;rw[Q.f,Q.w0,Q.w1,Q.w2,Q.w3,y19];show(cT k s w g&&(decide ((evs.map cD++[cD (ks,t,v)]).length<=24)&&(evs.map cD++[cD (ks,t,v)]).all oq))=true;rw[hR,E6,rR H.tm H.va,k7,hev,List.all_cons,Sa (x:=(ks,t,v)) c0 hv];grind
   .cases hk:fB k s w g (evs.map cD++[.vl [.vi 1,.vs ks,.vi t,.vi v]])with
    |false=>
     rw[hk,b9 (by simp)]at hrt;exact cy (by grind) (no (c:=30) (by simp) hrt.symm rfl)
    |true=>
     rw[hk,e8 rfl]at hrt;refine cu (by rw[d829,hk];rfl) ?_;rw[tl (by rw[<-hrt];rfl),<-hrt,b9 (λh:(0:Int)≠0=>h rfl)];show some (0,[Val.vb false,Val.vi ((bU aa ot).toL.length:Int),_,_,_,bU aa ot])=_;rw[y19];by_cases z:fi=0
     .rw[e8 z,e8 z];rfl
     simp_all
  .refine cy (by show dB aa (dv (eX 0) aZ)=true;rw[eZ,e0,cx];simp[c1]) (no (c:=2) (by simp) ?_ rfl);simp_all[oD,b9,e8]
 .refine cy (by rw[eZ,Q.y8,cx];simp[c0]) (no c0 ?_ Q.y8);rw[oD,e8 c0]
end
end Go.Ev.S9
namespace Go.Ev.S9
open Go Go.Ev
theorem LK(X:Nat->List Val->Val)(a b c d:Val)(U:List Val): ∀i,nA X a b c d U i=(eL X a b c d U i).2.1
 |0=>rfl
 |i+1=>by
  show fN X (iO a b c d (nA X a b c d U i) (bW U i))=fN X (iO a b c d (eL X a b c d U i).2.1 (bW U i));rw[LK X a b c d U i]
theorem ef2(X:Nat->List Val->Val)(a b c d:Val)(U:List Val)(i:Nat):(eL X a b c d U (i+1)).1=if(eL X a b c d U i).1=0 then jN X a b c d U i else(eL X a b c d U i).1:=by
 grind[eL,dD,iO,bW,jN,LK]
theorem c34(X:Nat->List Val->Val)(a b c d:Val)(U:List Val): ∀i,i<=U.length->(eL X a b c d U i).1=if jz X a b c d U<i then jN X a b c d U (jz X a b c d U)else 0
 |0,_=>by rfl
 |i+1,hi=>by
  obtain⟨k1,k2,k3⟩:=RE X a b c d U;rw[ef2,c34 X a b c d U i (by omega)];grind
section
variable{k s w g:Int}{ops:List Val}{I:Opq}(hR:cT k s w g=true)(hn:ops.length<=24)(ho: ∀r∈ops,opOk r=true)(hf: ∀i a,I.f i a=F i a)(w0:I.w 0= .vi k)(w1:I.w 1= .vi s)(w2:I.w 2= .vi w)(w3:I.w 3= .vi g)(w4:I.w 4= .vl ops)
include hR hn ho hf w0 w1 w2 w3 w4
theorem e24:cI (λvs=>W7 PR (I.upd 2000 vs)) [.vb false,.vi 0,.vi 0,.vi 0,.vl [],.vl []]=some (0,nu F0 (.vi k) (.vi s) (.vi w) (.vi g) ops ops.length):=by
 refine eG (st:=nu F0 (.vi k) (.vi s) (.vi w) (.vi g) ops) (n:=ops.length) (λi hi=>cW8 hR hn ho hi hf w0 w1 w2 w3 w4) ?_;unfold nu;generalize (eL F0 (.vi k) (.vi s) (.vi w) (.vi g) ops ops.length)=p;refine cu ?_ ?_
 .have a4:(I.upd 2000 [.vb false,.vi p.2.2.length,.vi p.1,.vi ops.length,p.2.1,.vl p.2.2]).w 4= .vl ops:=by rw[cN _ _ _ (by omega),w4]
  rw[cP,co,Z8,dN,a4];exact j5 (by show¬(ops.length:Int)<(ops.length:Int);omega)
 rfl
omit hR in
theorem UT{i:Nat}{p:Int}{m:List Val}{evs:List dy}(H:TBL k s w g evs m)(hi:i<=ops.length):W7 Ia (I.upd 2000 [.vi 0,.vi p,.vi i,.vl m])=if i<ops.length then(if p≠0 then some (2,[.vi p,.vi p,.vi i,.vl m])else some (0,[.vi 0,.vi (dD (iO (.vi k) (.vi s) (.vi w) (.vi g) (.vl m) (bW ops i))),.vi (i+1:Nat),fN F0 (iO (.vi k) (.vi s) (.vi w) (.vi g) (.vl m) (bW ops i))]))else some (1,[.vi 0,.vi p,.vi i,.vl m]):=by
 have v0:(I.upd 2000 [.vi 0,.vi p,.vi i,.vl m]).w 2000= .vi 0:=by rfl
 have v1:(I.upd 2000 [.vi 0,.vi p,.vi i,.vl m]).w 2001= .vi p:=by rfl
 have v2:(I.upd 2000 [.vi 0,.vi p,.vi i,.vl m]).w 2002= .vi i:=by rfl
 have v3:(I.upd 2000 [.vi 0,.vi p,.vi i,.vl m]).w 2003= .vl m:=by rfl
 have a0:(I.upd 2000 [.vi 0,.vi p,.vi i,.vl m]).w 0= .vi k:=by grind[cN]
 have a1:(I.upd 2000 [.vi 0,.vi p,.vi i,.vl m]).w 1= .vi s:=by grind[cN]
 have a2:(I.upd 2000 [.vi 0,.vi p,.vi i,.vl m]).w 2= .vi w:=by grind[cN]
 have a3:(I.upd 2000 [.vi 0,.vi p,.vi i,.vl m]).w 3= .vi g:=by grind[cN]
 have a4:(I.upd 2000 [.vi 0,.vi p,.vi i,.vl m]).w 4= .vl ops:=by grind[cN]
 have hf': ∀j a,(I.upd 2000 [.vi 0,.vi p,.vi i,.vl m]).f j a=F j a:=λj a=>by grind[eV]
 generalize I.upd 2000 [.vi 0,.vi p,.vi i,.vl m]=aa at*
 by_cases c:i<ops.length
 .rw[e8 c];have inc:cg .add .i64 (Val.vi (i:Int)).toI 1=((i+1:Nat):Int):=eH c (by omega);refine cy ?_ (W8 ?_ ?_)
  .show dB aa (zs aW (zl 4))=true;simp_all[cP,co,Z8,dN,e9]
  .simp_all[cB,cx,co,e9]
  by_cases cp:p=0
  .subst cp;obtain⟨ek,ks,t,v,hr,hv⟩:=NI (ho _ (kl c));have ex: ∀j:Nat,bU aa (.op .lget [aS,aW,.ci j])=Z7 (bW ops i) j:=λj=>te (q:= aS) j a4 v2
   have e0:=ex 0;have e1:=ex 1;have e2:=ex 2;have e3:=ex 3;have nine:[aa.w 0,aa.w 1,aa.w 2,aa.w 3,aa.w 2003,bU aa (zg 4 2002 0),bU aa (zg 4 2002 1),bU aa (zg 4 2002 2),bU aa (zg 4 2002 3)]=iO (.vi k) (.vi s) (.vi w) (.vi g) (.vl m) (bW ops i):=by
    rw[a0,a1,a2,a3,v3,show bU aa (zg 4 2002 0)=_ from e0,show bU aa (zg 4 2002 1)=_ from e1,show bU aa (zg 4 2002 2)=_ from e2,show bU aa (zg 4 2002 3)=_ from e3];rfl
   refine cu (by simp_all[eZ,co,cx]) (W8 ?_ ?_)
   .exact and2 (Je hf' fe_x v3 H.ok) (Xp hf' a0 v3 (show bU aa (zg 4 2002 1)= .vs ks by rw[show bU aa (zg 4 2002 1)=_ from e1,hr];rfl) H.ok)
   .show some (0,[aa.w 2000,aa.f 732 [aa.w 0,aa.w 1,aa.w 2,aa.w 3,aa.w 2003,bU aa (zg 4 2002 0),bU aa (zg 4 2002 1),bU aa (zg 4 2002 2),bU aa (zg 4 2002 3)],Val.vi (cg .add .i64 (aa.w 2002).toI 1),aa.f 733 [aa.w 0,aa.w 1,aa.w 2,aa.w 3,aa.w 2003,bU aa (zg 4 2002 0),bU aa (zg 4 2002 1),bU aa (zg 4 2002 2),bU aa (zg 4 2002 3)]])=_;rw[nine,hf',hf',v0,v2,inc];rfl
  .refine cy (by rw[eZ,co,cx,v1];simp[cp]) ?_;show some (2,[aa.w 2001,aa.w 2001,aa.w 2002,aa.w 2003])=_;grind
 .refine cu ?_ ?_
  .show dB aa (zs aW (zl 4))=false;simp_all[cP,co,Z8,dN,j5]
  .show some (1,[aa.w 2000,aa.w 2001,aa.w 2002,aa.w 2003])=_;grind
theorem e25:cI (λvs=>W7 Ia (I.upd 2000 vs)) [.vi 0,.vi 0,.vi 0,.vl []]=some (Ez F0 (.vi k) (.vi s) (.vi w) (.vi g) ops):=by
 obtain⟨k1,k2,k3⟩:=RE F0 (.vi k) (.vi s) (.vi w) (.vi g) ops;have tab: ∀i,i<=ops.length-> ∃m evs,nA F0 (.vi k) (.vi s) (.vi w) (.vi g) ops i= .vl m/\TBL k s w g evs m:=λi hi=>by
  grind[evs,KP,LK]
 have step: ∀i,i<ops.length->i<=jz F0 (.vi k) (.vi s) (.vi w) (.vi g) ops->W7 Ia (I.upd 2000 [.vi 0,.vi (if i=0 then 0 else jN F0 (.vi k) (.vi s) (.vi w) (.vi g) ops (i-1)),.vi i,nA F0 (.vi k) (.vi s) (.vi w) (.vi g) ops i])=some (0,[.vi 0,.vi (if i+1=0 then 0 else jN F0 (.vi k) (.vi s) (.vi w) (.vi g) ops (i+1-1)),.vi (i+1:Nat),nA F0 (.vi k) (.vi s) (.vi w) (.vi g) ops (i+1)]):=λi hi hK=>by
  obtain⟨m,evs,h1,H⟩:=tab i (by omega);have hp:(if i=0 then 0 else jN F0 (.vi k) (.vi s) (.vi w) (.vi g) ops (i-1))=0:=by
   grind
  rw[hp,b9 (N0 i),show i+1-1=i from rfl];have:nA F0 (.vi k) (.vi s) (.vi w) (.vi g) ops (i+1)=fN F0 (iO (.vi k) (.vi s) (.vi w) (.vi g) (.vl m) (bW ops i)):=by rw[<-h1];rfl
  rw[this,show jN F0 (.vi k) (.vi s) (.vi w) (.vi g) ops i=dD (iO (.vi k) (.vi s) (.vi w) (.vi g) (.vl m) (bW ops i)) by rw[<-h1];rfl,h1,UT hn ho hf w0 w1 w2 w3 w4 H (by omega),e8 hi,b9 (λh=>h rfl)]
 unfold Ez;by_cases c:jz F0 (.vi k) (.vi s) (.vi w) (.vi g) ops+1<ops.length
 .rw[e8 c];refine eG (st:=λi=>[.vi 0,.vi (if i=0 then 0 else jN F0 (.vi k) (.vi s) (.vi w) (.vi g) ops (i-1)),.vi i,nA F0 (.vi k) (.vi s) (.vi w) (.vi g) ops i]) (n:=jz F0 (.vi k) (.vi s) (.vi w) (.vi g) ops+1) (λi hi=>step i (by omega) (by omega)) ?_;obtain⟨m,evs,h1,H⟩:=tab (jz F0 (.vi k) (.vi s) (.vi w) (.vi g) ops+1) (by omega);rw[b9 (N0 _),N1,h1,UT hn ho hf w0 w1 w2 w3 w4 H (by omega),e8 c,e8 (k3 (by omega))]
 .rw[b9 c];refine eG (st:=λi=>[.vi 0,.vi (if i=0 then 0 else jN F0 (.vi k) (.vi s) (.vi w) (.vi g) ops (i-1)),.vi i,nA F0 (.vi k) (.vi s) (.vi w) (.vi g) ops i]) (n:=ops.length) (λi hi=>step i hi (by omega)) ?_;obtain⟨m,evs,h1,H⟩:=tab ops.length (i6 _);rw[h1,UT hn ho hf w0 w1 w2 w3 w4 H (i6 _),b9 (S3 _)];grind
omit hR hn ho hf w0 w1 w2 w3 in
theorem dJ1:cI (λvs=>W7 e83 (I.upd 2000 vs)) [.vi 0,.vi 2,.vi 0]=some (if ops.length=0 then(0,[.vi 0,.vi 2,.vi 0])else(1,[.vi 2,.vi 2,.vi 0])):=by
 have v0:(I.upd 2000 [.vi 0,.vi 2,.vi 0]).w 2000= .vi 0:=kW ..;have v1:(I.upd 2000 [.vi 0,.vi 2,.vi 0]).w 2001= .vi 2:=fX ..;have v2:(I.upd 2000 [.vi 0,.vi 2,.vi 0]).w 2002= .vi 0:=kP ..;have a4:(I.upd 2000 [.vi 0,.vi 2,.vi 0]).w 4= .vl ops:=by grind[cN]
 by_cases c:ops.length=0
 .rw[e8 c];refine eG (st:=λ_=>[.vi 0,.vi 2,.vi 0]) (n:=0) (λi hi=>absurd hi (J1 _)) ?_;generalize I.upd 2000 [.vi 0,.vi 2,.vi 0]=aa at*
  refine cu (by show dB aa (zs aW (zl 4))=false;rw[cP,co,Z8,dN,v2,a4];exact j5 (by show¬(0:Int)<(ops.length:Int);omega)) ?_;show some (1,[aa.w 2000,aa.w 2001,aa.w 2002])=_;grind
 .rw[b9 c];refine eG (st:=λ_=>[.vi 0,.vi 2,.vi 0]) (n:=0) (λi hi=>absurd hi (J1 _)) ?_;generalize I.upd 2000 [.vi 0,.vi 2,.vi 0]=aa at*
  refine cy (by show dB aa (zs aW (zl 4))=true;rw[cP,co,Z8,dN,v2,a4];exact e9 (by show(0:Int)<(ops.length:Int);omega)) (W8 (by rw[cB,cx,co,v2];rfl) (cy (by rw[eZ,co,cx,v1];rfl) ?_));show some (2,[aa.w 2001,aa.w 2001,aa.w 2002])=_;grind
end
end Go.Ev.S9
namespace Go.Ev.S9
open Go Go.Ev
def jc(L:List Val)(p:PaneM):Nat->Bool
 |0=>false
 |k+1=>jc L p k||decide (Z2 (bW L k)=p)
theorem c35(L:List Val)(p:PaneM): ∀k,k<=L.length->jc L p k=mR (L.take k) p
 |0,_=>rfl
 |k+1,h=>by
  rw[jc,c35 L p k (by omega),mR,mR,CK (by omega),List.any_append];simp
theorem dq7(L:List Val)(p:PaneM):jc L p L.length=mR L p:=by simp_all[c35,i6,A1]
theorem c36(q:Val): ∀m:List Val,gy m q=mR m (Z2 q)
 | []=>rfl
 |x::m=>by rw[CN,c36 q m];rfl
theorem dq8(m:List Val)(p:PaneM):mR (S7.srt false m) p=mR m p:=by
 unfold mR;grind[S7.srt_mem]
def rP(j:Int):SX:= .op .lget [.app 490 [gS],aR,.ci j]
theorem e26{I:Opq}{k:Int}{m:List Val}(hf: ∀i a,I.f i a=F i a)(D: ∀vs,bU (I.upd 2000 vs) gS= .vl m)(ho:DH k m):
 cI (λvs=>W7 SZ (I.upd 2000 vs)) [.vb false,.vi 0]=some (0,[.vb (mR (S7.srt false m) ⟨(I.w 6).toS,(I.w 7).toI,(I.w 8).toI⟩),.vi (S7.srt false m).length]):=by
 have hL:(S7.srt false m).length<=400:=by rw[S7.srt_len];exact ho.2.2.1
 have D490: ∀vs,bU (I.upd 2000 vs) (.app 490 [gS])= .vl (S7.srt false m):=λvs=>by
  show(I.upd 2000 vs).f 490 [bU _ gS]=_;rw[D,eV,hf];rfl
 rw[<-dq7];generalize hp:(⟨(I.w 6).toS,(I.w 7).toI,(I.w 8).toI⟩:PaneM)=p;have run: ∀i,i<=(S7.srt false m).length->W7 SZ (I.upd 2000 [.vb (jc (S7.srt false m) p i),.vi i])=if i<(S7.srt false m).length then some (0,[.vb (jc (S7.srt false m) p (i+1)),.vi (i+1:Nat)])else some (1,[.vb (jc (S7.srt false m) p i),.vi i]):=λi hi=>by
  have D5:=D [.vb (jc (S7.srt false m) p i),.vi i];have D4:=D490 [.vb (jc (S7.srt false m) p i),.vi i];have v0:(I.upd 2000 [.vb (jc (S7.srt false m) p i),.vi i]).w 2000= .vb (jc (S7.srt false m) p i):=by rw[cM];simp
  have v1:(I.upd 2000 [.vb (jc (S7.srt false m) p i),.vi i]).w 2001= .vi i:=by rw[cM];simp
  have hp':(⟨((I.upd 2000 [.vb (jc (S7.srt false m) p i),.vi i]).w 6).toS,((I.upd 2000 [.vb (jc (S7.srt false m) p i),.vi i]).w 7).toI,((I.upd 2000 [.vb (jc (S7.srt false m) p i),.vi i]).w 8).toI⟩:PaneM)=p:=by
   exact hp
  have hf': ∀j a,(I.upd 2000 [.vb (jc (S7.srt false m) p i),.vi i]).f j a=F j a:=λj a=>by exact hf j a
  generalize I.upd 2000 [.vb (jc (S7.srt false m) p i),.vi i]=aa at*
  refine W8 (Je hf' fe_x D5 ho) ?_;by_cases c:i<(S7.srt false m).length
  .rw[e8 c];have inc:cg .add .i64 (Val.vi (i:Int)).toI 1=((i+1:Nat):Int):=eH c (by omega);refine cy (by rw[cP,co,Z8,v1,D4];exact e9 (by show(i:Int)<((S7.srt false m).length:Int);omega)) ?_;show _=some (0,[Val.vb (jc (S7.srt false m) p i||decide (Z2 (bW (S7.srt false m) i)=p)),_]);cases hb:jc (S7.srt false m) p i with
   |true=>
    rw[hb]at v0;refine cy (by show(aa.w 2000).toB=true;rw[v0];rfl) ?_;show some (0,[Val.vb true,Val.vi (cg .add .i64 (aa.w 2001).toI 1)])=_;rw[v1,inc];rfl
   |false=>
    rw[hb]at v0;refine cu (by show(aa.w 2000).toB=false;rw[v0];rfl) (W8 (by rw[cB,cx,co,v1];exact e9 (by show(0:Int)<=(i:Int);omega)) ?_);have r:=λj:Nat=>te (q:= .app 490 [gS]) j D4 v1
    have r0:bU aa (rP 0)=_:=r 0;have r1:bU aa (rP 1)=_:=r 1;have r2:bU aa (rP 2)=_:=r 2;show some (0,[bif (aa.w 2000).toB then Val.vb true else Val.vb (decide ((bU aa (rP 0)).toS=(aa.w 6).toS)&&(decide ((bU aa (rP 1)).toI=(aa.w 7).toI)&&decide ((bU aa (rP 2)).toI=(aa.w 8).toI))),Val.vi (cg .add .i64 (aa.w 2001).toI 1)])=_;rw[v0,v1,inc,r0,r1,r2,<-hp',A9];unfold Z2;simp
  .rw[b9 c];refine cu (by rw[cP,co,Z8,v1,D4];exact j5 (by show¬(i:Int)<((S7.srt false m).length:Int);omega)) ?_;show some (1,[aa.w 2000,aa.w 2001])=_;rw[v0,v1]
 refine eG (st:=λi=>[.vb (jc (S7.srt false m) p i),.vi i]) (n:=(S7.srt false m).length) (λi hi=> ?_) ?_
 .rw[run i (by omega),e8 hi]
 grind
theorem e27{X:Nat->List Val->Val}{a ops:List Val}(h1:(bV a 1).toI=2)(h5:(bV a 5).toL=ops):Ua X a=cr (if ops.length=0 then(0,[.vi 0,.vi 2,.vi 0])else(1,[.vi 2,.vi 2,.vi 0])):=by
 unfold Ua;grind
theorem t_puts{I:Opq}(hf: ∀i a,I.f i a=F i a)(hn:(F 908 [I.w 0,I.w 1,I.w 2,I.w 3,I.w 4,I.w 5,I.w 6,I.w 7,I.w 8]).toB=true):W7 T_puts I=some (0,[.vb true]):=by
 obtain⟨g0,hn⟩:=W5 (show(isVi (I.w 0)&&(isVi (I.w 1)&&(isVi (I.w 2)&&(isVi (I.w 3)&&opsOk (I.w 4)))))=true from hn);obtain⟨g1,hn⟩:=W5 hn;obtain⟨g2,hn⟩:=W5 hn;obtain⟨g3,g4⟩:=W5 hn;obtain⟨k,w0⟩:=Ln g0;obtain⟨s,w1⟩:=Ln g1;obtain⟨w,w2⟩:=Ln g2;obtain⟨g,w3⟩:=Ln g3;obtain⟨ops,w4,ho⟩:=dk7 g4;have d734:dB I (.app 734 [aS,.ci 24])=(!(List.range (min ops.length 100)).any (λi=>su (bW ops i))&&decide ((ops.length:Int)<=24)):=by
  show(I.f 734 [I.w 4,.vi 24]).toB=_;rw[hf,w4];rfl
 cases hfew:(!(List.range (min ops.length 100)).any (λi=>su (bW ops i))&&decide ((ops.length:Int)<=24))with
 |false=>exact cy (by grind[iu]) rfl
 |true=>
 refine cu (by grind[iu]) ?_;have hn:ops.length<=24:=by grind
 cases h50:dB I (zt (.op .slen [bd]) 50)with
 |true=>exact cy h50 rfl
 |false=>
 refine cu h50 ?_;have d700:dB I (.app 700 [aM,aO,aT,aU])=cT k s w g:=by
  show(I.f 700 [I.w 0,I.w 1,I.w 2,I.w 3]).toB=_;rw[hf,w0,w1,w2,w3];rfl
 cases hR:cT k s w g with
 |false=>
  refine cy (by grind[iu]) ?_;have e0:bU I FH=cr (if ops.length=0 then(0,[.vi 0,.vi 2,.vi 0])else(1,[.vi 2,.vi 2,.vi 0])):=by
   show I.f 771 [.vi 0,.vi 2,.vi 0,.vi 0,.vi (I.w 4).toL.length,I.w 4,.vi (I.w 4).toL.length]=_;rw[hf,w4];exact e27 (X:=F0) (a:=[.vi 0,.vi 2,.vi 0,.vi 0,.vi (Val.vl ops).toL.length,.vl ops,.vi (Val.vl ops).toL.length]) rfl rfl
  refine Z3 (dJ1 w4) e0 ?_;by_cases c:ops.length=0
  .rw[e8 c]at e0⊢;have p1:bU I Ij= .vi 2:=by show bZ (bU I FH).toL 1 1=_;rw[e0];rfl
   have p2:bU I Gs= .vb true:=by show Val.vb (decide ((bU I Ij).toI=2))=_;rw[p1];rfl
   refine cy (by rw[eZ,p1];rfl) (cy (by show(bU I Gs).toB=true;rw[p2];rfl) ?_);show some (0,[bU I Gs])=_;rw[p2]
  .rw[b9 c]at e0⊢;have p3:bU I Ge= .vb true:=by show Val.vb (decide ((bZ (bU I FH).toL 1 0).toI=2))=_;rw[e0];rfl
   refine cy (by show(bU I Ge).toB=true;rw[p3];rfl) ?_;show some (0,[bU I Ge])=_;rw[p3]
 |true=>
 refine cu (by grind[iu]) ?_;obtain⟨m,evs,h1,h2,H,hl⟩:=KP hR hn ho ops.length (i6 _);have hfst:=c34 F0 (.vi k) (.vi s) (.vi w) (.vi g) ops ops.length (i6 _);have key: ∀aa:Opq,(∀n,n<2000->aa.w n=I.w n)->aa.f=I.f->bU aa qg=cr (0,nu F0 (.vi k) (.vi s) (.vi w) (.vi g) ops ops.length):=λaa hw hf'=>by
  show aa.f 927 [.vb false,.vi 0,.vi 0,.vi 0,.vl [],.vl [],.vi 0,.vi (aa.w 4).toL.length,aa.w 4,aa.w 5,aa.w 0,aa.w 1,aa.w 2,aa.w 3,aa.w 6,aa.w 7,aa.w 8,aa.w 0,aa.w 1,aa.w 2,aa.w 3,.vl []]=_;rw[hf',hf,hw 0 (by omega),hw 1 (by omega),hw 2 (by omega),hw 3 (by omega),hw 4 (by omega),w0,w1,w2,w3,w4];rfl
 have pv:nu F0 (.vi k) (.vi s) (.vi w) (.vi g) ops ops.length=[.vb false,.vi evs.length,.vi (eL F0 (.vi k) (.vi s) (.vi w) (.vi g) ops ops.length).1,.vi ops.length,.vl m,.vl (evs.map cD)]:=by
  grind[nu,List.length_map]
 generalize hfi:(eL F0 (.vi k) (.vi s) (.vi w) (.vi g) ops ops.length).1=fi at*
 have e4:=key I (λ_ _=>rfl) rfl;have D5: ∀vs,bU (I.upd 2000 vs) gS= .vl m:=λvs=>by
  show bZ (bU (I.upd 2000 vs) qg).toL 1 4=_;rw[key _ (λn hn=>cN _ _ _ hn) rfl,pv];rfl
 have p5:bU I gS= .vl m:=by show bZ (bU I qg).toL 1 4=_;rw[e4,pv];rfl
 have p6:bU I qk= .vi evs.length:=by show bZ (bU I qg).toL 1 1=_;rw[e4,pv];rfl
 have p7:bU I tQ= .vl (evs.map cD):=by show bZ (bU I qg).toL 1 5=_;rw[e4,pv];rfl
 have p8:bU I uv= .vi fi:=by show bZ (bU I qg).toL 1 2=_;rw[e4,pv];rfl
 have p13:bU I BM= .vl (evs.map cD):=Cz (x:=tQ) (n:=qk) p7 (by grind);have p9:bU I wz= .vb (mR m ⟨(I.w 6).toS,(I.w 7).toI,(I.w 8).toI⟩):=by
  show I.f 722 [bU I gS,I.w 6,I.w 7,I.w 8]=_;rw[hf,p5];exact congrArg Val.vb (c36 _ m)
 have e28:I.f 928 [.vb false,.vi 0,.vi 0,.vi (I.w 4).toL.length,I.w 4,I.w 5,I.w 0,I.w 1,I.w 2,I.w 3,I.w 6,I.w 7,I.w 8,I.w 0,I.w 1,I.w 2,I.w 3,bU I gS,bU I qk,bU I tQ,bU I uv,bU I wz]=cr (0,[.vb (mR (S7.srt false m) ⟨(I.w 6).toS,(I.w 7).toI,(I.w 8).toI⟩),.vi (S7.srt false m).length]):=by
  rw[hf,p5];rfl
 have p18:bU I nM= .vb true:=by
  show Val.vb (decide ((bU I wz).toB=(bZ (I.f 928 [.vb false,.vi 0,.vi 0,.vi (I.w 4).toL.length,I.w 4,I.w 5,I.w 0,I.w 1,I.w 2,I.w 3,I.w 6,I.w 7,I.w 8,I.w 0,I.w 1,I.w 2,I.w 3,bU I gS,bU I qk,bU I tQ,bU I uv,bU I wz]).toL 1 0).toB))=_;rw[e28,p9];show Val.vb (decide (mR m _=mR (S7.srt false m) _))=_;rw[dq8,e9 rfl]
 have hev:(evs.map cD).length=evs.length:=l5 ..;have p12:dB I EY=true:=by
  show dB I (zn (zp qk) (fJ qk (zL tQ)))=true;rw[db,cB,cB,cx,Z8,p6,p7,a84,hev,a06];grind
 have p14:dB I IG=true:=by
  show dB I (zb (zL BM) 100)=true;grind[cB,Z8,cx,a84,decide_eq_true]
 have q907: ∀x:SX,bU I x= .vl m->(I.f 907 [I.w 0,I.w 1,I.w 2,I.w 3,bU I x,I.w 0,I.w 1,I.w 2,I.w 3,bU I BM,I.w 5]).toB=true:=λx hx=>by
  rw[hf,hx];exact EE.2 ⟨k,s,w,g,evs,m,w0,w1,w2,w3,rfl,p13,H⟩
 have p15:dB I JL=true:=q907 gS p5;have p17:dB I Tp=true:=by
  show dB I (zn EY (zn IG JL))=true;grind[db]
 have fin:W7 (.ite nM (.ret 0 [nM]) (.ret 0 [.cb false])) I=some (0,[.vb true]):=by
  refine cy (by show(bU I nM).toB=true;rw[p18];rfl) ?_;show some (0,[bU I nM])=_;rw[p18]
 have e10:bU I vN=cr (Ez F0 (.vi k) (.vi s) (.vi w) (.vi g) ops):=by
  show I.f 771 [.vi 0,.vi 0,.vi 0,.vl [],I.w 0,I.w 1,I.w 2,I.w 3,.vl [],.vi 0,.vi (I.w 4).toL.length,I.w 4,.vi (I.w 4).toL.length]=_;rw[hf,w0,w1,w2,w3,w4];rfl
 refine Z3 (e24 hR hn ho hf w0 w1 w2 w3 w4) e4 (W8 ?_ (Z3 (e26 (k:=k) hf D5 H.ok) e28 (Z3 (e25 hR hn ho hf w0 w1 w2 w3 w4) e10 ?_)))
 .rw[cB,Z8,p5,cx];exact e9 (by have:=H.ok.2.2.1;show(m.length:Int)<=1000000;omega)
 obtain⟨K1,K2,K3⟩:=RE F0 (.vi k) (.vi s) (.vi w) (.vi g) ops;have hM:nA F0 (.vi k) (.vi s) (.vi w) (.vi g) ops ops.length= .vl m:=by rw[LK,h1]
 unfold Ez at e10⊢;generalize jz F0 (.vi k) (.vi s) (.vi w) (.vi g) ops=K at*
 by_cases c:K+1<ops.length
 .have hne:=K3 (by omega);rw[e8 (by omega)]at hfst;rw[e8 c]at e10⊢;generalize jN F0 (.vi k) (.vi s) (.vi w) (.vi g) ops K=e at*
  have p19:bU I II= .vi e:=by show bZ (bU I vN).toL 1 0=_;rw[e10];rfl
  have p20:dB I KQ=false:=by show decide ((bU I II).toI=0)=false;rw[p19];exact j5 hne
  refine cu (by rw[eZ,p19,p8,hfst];simp) (cu ?_ (cu p20 (W8 p17 fin)));show(!decide (dB I KQ=false))=false;grind
 .rw[b9 c]at e10⊢;have p11:bU I Ee=if K<ops.length then .vi (jN F0 (.vi k) (.vi s) (.vi w) (.vi g) ops K)else .vi 0:=by show bZ (bU I vN).toL 1 1=_;rw[e10];rfl
  by_cases z:K<ops.length
  .have hne:=K3 z;rw[e8 z]at hfst p11;refine cy (by rw[eZ,p11,cx];simp[hne]) (cu (by rw[eZ,p11,p8,hfst];simp) (cu ?_ (W8 p17 fin)));show(!decide (decide ((bU I Ee).toI=0)=false))=false;simp_all
  .rw[b9 z]at hfst p11;have hm3:bU I (zo vN 3)= .vl m:=by
    show bZ (bU I vN).toL 1 3=_;rw[e10,<-hM];rfl
   refine cu (by simp_all[eZ,cx]) (cu (by rw[eZ,p8,hfst];rfl) (W8 ?_ (W8 p15 fin)));rw[db,db,p12,p14];exact q907 _ hm3
theorem c_lrows{I:Opq}(hf: ∀i a,I.f i a=F i a)(hn:(I.w 0).toL.length<=400)(h:(F 431 [I.w 0]).toB=true):W7 T_lrows I=some (0,[I.w 0]):=
 let q:=QM h
 dq2 (λa=>hf 923 a) hn q.1 q.2
end Go.Ev.S9
