import Derived.Test.YtgeohopencabkaaGreatEG3
import Derived.Test.YtgeohopencabkaaGreatEL19
import Derived.Test.YtgeohopencabkaaGreatE43
set_option linter.all false
namespace Go.Ev
open Go
def ND(l:U7):Prop:=(l.map W7).Nodup
theorem AE{a b:U7}(h:a.Perm b)(hb:ND b):ND a:=((h.map W7).nodup_iff).2 hb
def dA6{L:U7}(h:ND L)(x:Val):(L.filter (S7.eqv false x)).length<=1:=by
 have h2:((L.filter (S7.eqv false x)).map W7).Nodup:=h.sublist (E5.map _);have h3: ∀y,y∈L.filter (S7.eqv false x)->W7 x=W7 y:=λy hy=>by obtain⟨a,b⟩:=S7.eqv_iff.1 (l7.1 hy).2;exact Iv a b
 match hf:L.filter (S7.eqv false x),h2,h3 with
 | [],_,_=>grind
 | [a],_,_=>grind
 |a::b::q,h2,h3=>
  grind
theorem KN{L M:U7}(h:L.Perm M)(hL:ND L):S7.srt false L=S7.srt false M:=by
 refine S7.srt_cl λx=> ?_
 have hp:=h.filter (S7.eqv false x);have h1:=dA6 hL x
 match hf:L.filter (S7.eqv false x),h1,hp with
 | [],_,hp=>simp_all
 | [a],_,hp=>simp_all
 |_::_::_,h1,_=>simp at h1
def dT9{I:Opq}(hf: ∀i a,I.f i a=F i a)(hn:dB I (zn (cG aN (zl 1)) (zn (zn (zb (zl 1) 400) (.Q 431 [aO])) (.Q 491 [aO])))=true):
 dI I aN=((dL I aO).length:Int)/\ ∀D:U7,D.Perm (I.w 1).L->I.f 490 [.A D]=I.f 490 [I.w 1]/\dB (I.U 1 [.A D]) (zn (zb (zl 1) 400) (.Q 431 [aO]))=true:=by
 have hn:(decide ((I.w 0).I=((I.w 1).L.length:Int))&&((decide (((I.w 1).L.length:Int)<=400)&&(I.f 431 [I.w 1]).Z)&&(I.f 491 [I.w 1]).Z))=true:=hn;obtain⟨h1,h2⟩:=W4 hn;obtain⟨h2,h3⟩:=W4 h2;obtain⟨h4,h5⟩:=W4 h2;rw[hf]at h3 h5;refine⟨j7 h1,λD hD=> ?_⟩;have nd:ND (I.w 1).L:=j7 (p:=((I.w 1).L.map W7).Nodup) h3;refine⟨?_,?_⟩;rw[hf,hf];show Val.A (S7.srt false D)= .A (S7.srt false (I.w 1).L);grind[KN,AE];show(decide ((D.length:Int)<=400)&&(I.f 431 [.A D]).Z)=true;rw[hf];have h4:=j7 h4;have:=hD.length_eq;refine S7.and2 (j0 (by omega)) (S7.and2 rfl ?_);have hall:=l5.1 (S7.f431 h5).2;exact l5.2 λx hx=>hall x (hD.mem_iff.1 hx)
def OS(a:U7):F 3 a= .B (uj (Ce (ce a 0)) (Ce (ce a 1))):=rfl
def dU0(a:U7):F 107 a=BE gH (ce a 4).L (ce a 7).L:=rfl
def dA7{I:Opq}(hf: ∀i a,I.f i a=F i a)(hn:(I.w 0).L.length<=1000000):W6 RR I=some (0,[F 3 [I.w 0,I.w 1]]):=by
 unfold RR ee3;simp only[W6,kE,X4,bZ,dB,cD,List.cons_append,List.nil_append];by_cases hl:(I.w 0).L.length=(I.w 1).L.length
 have hl':((I.w 0).L.length:Int)=(I.w 1).L.length:=by rw[hl]
 rw[HX (bad:=λi=> !decide (gH (cg (I.w 0).L i)=gH (cg (I.w 1).L i))) (px:=λk=>[.B false,.D k]) (n:=(I.w 0).L.length)];simp only[hf,OS,dU0,wh,vB,LO gH _ _ hl,Uc gH _ _ hl,hl'];by_cases h:(I.w 0).L.map gH=(I.w 1).L.map gH<;>simp[kE,W6,h,bZ,X4,cD,cx,Y3,hf,OS,dU0,wh,vB,hl',uj,LO gH _ _ hl,Ce]
 intro i hi hb;have hi':i<(I.w 1).L.length:=by omega
 simp only[Bool.not_eq_false',decide_eq_true_eq,KO]at hb;simp[hi,hi',cT,am6 (show i<=10000000 by omega),lU,lg,lB,oi,oI,oA,oj,hb]
 intro i hi hb;have hi':i<(I.w 1).L.length:=by omega
 simp only[s7,decide_eq_false_iff_not,KO]at hb;simp[hi,hi',cT,lU,lg,lB,oi,oI,oA,oj];grind;simp[cT]
 have hl': ¬((I.w 0).L.length:Int)=(I.w 1).L.length:=by omega
 simp[hl',OS,wh,vB,Ce,uj,Xt _ hl,X4,bZ]
def dA8{r:Val}(h:S9.rowS r):S7.okK r=true:=by obtain⟨k,a,b,c,d,e,f,rfl,_⟩:=h;rfl
def wj:S9.XOk F0 where
 x431 l h:=by show(true&&l.all S7.okK)=true;simp_all[I2,l5,dA8]
 x491 l h:=j0 h
 x490 l h:=⟨S7.srt false l,rfl,S7.srt_perm false l⟩
 x490u l l' h hp hn:=congrArg Val.A (KN hp hn)
 x3 v:=congrArg Val.B (Yx _)
def Xy{v:Val}(h:(F0 431 [v]).Z=true):v= .A v.L/\ ∀r∈v.L,X8 r=r:=by obtain⟨h1,h2⟩:=W4 (show(S7.isL v&&v.L.all S7.okK)=true from h);grind[S7.isL_at,S7.okK_at,List.all_eq_true]
def ea7(v:Val)(h:(F0 491 [v]).Z=true):(v.L.map W7).Nodup:=j7 h
end Go.Ev
namespace Go.Ev.S9
open Go Go.Ev
theorem dA9{a b:Val}(h1: ¬spanV b a<0)(h2: ¬spanV a b<0):X3 a=X3 b:=by
 have n: ∀x y:Val,¬spanV x y<0-> ¬(ci x 1<ci y 1\/ci x 1=ci y 1/\ci x 0<ci y 0):=λx y h hc=>by apply h;have:=DB x y;rw[j0 hc]at this;exact j7 (p:=spanV x y<0) this
 have a1:=n b a h1;have a2:=n a b h2;exact O7 (show ci a 0=ci b 0 by omega) (show ci a 1=ci b 1 by omega)
def cK2{D l:U7}(hp:D.Perm l)(hn:(l.map X3).Nodup):fD spanV D=fD spanV l:=by obtain⟨p1,s1⟩:=vT swo_spanV D;obtain⟨p2,s2⟩:=vT swo_spanV l;refine S2 (le:=λa b=> ¬spanV b a<0) (λa b ha hb h1 h2=> ?_) (s1.imp λ{a b} h=>h) (s2.imp λ{a b} h=>h) ((p1.trans hp).trans p2.symm);grind[yA,dA9]
def sortsb_ok{I:Opq}(hf: ∀i a,I.f i a=F i a)(hn:dB I (zn (cG aN (zl 1)) (zn (zb (zl 1) 1000000) (.Q 716 [aO])))=true):
 dI I aN=((dL I aO).length:Int)/\ ∀D:U7,D.Perm (I.w 1).L->I.f 715 [.A D]=I.f 715 [I.w 1]/\dB (I.U 1 [.A D]) (zn (cG (zl 1) (zl 1)) (zb (zl 1) 1000000))=true:=by
 rw[dQ,dQ,mV,cZ,ft,ej,dV,cM]at hn;obtain⟨h1,h2⟩:=W4 hn;obtain⟨h3,h4⟩:=W4 h2;have h4:(I.f 716 [I.w 1]).Z=true:=h4;rw[hf]at h4;have h4:((I.w 1).L.map X3).Nodup:=j7 (p:=((I.w 1).L.map X3).Nodup) h4;refine⟨j7 h1,λD hD=>⟨?_,?_⟩⟩;rw[hf,hf];show Val.A (fD spanV D)= .A (fD spanV (I.w 1).L);rw[cK2 hD h4]
 have hl:=hD.length_eq;have w1:(I.U 1 [.A D]).w 1= .A D:=by rw[cT];simp
 rw[dQ,mV,cZ,ej,dV,cM,w1];simp_all
def sins_ok{I:Opq}(hf: ∀i a,I.f i a=F i a)(hn:dB I (.Q 713 [aN,aO,aT,aU,aS])=true):
 ∃(l:U7) (j:Nat),(I.w 0).L=l/\dI I aO=(l.length:Int)/\dI I aT=(j:Int)/\j<=l.length/\l.length<=24/\bZ I (.Q 714 [aN,aO,aT,aU,aS])= .A ((l.take j).map yM++[.A [I.w 3,I.w 4]]++(l.drop j).map yM):=by
 have hn:(I.f 713 [I.w 0,I.w 1,I.w 2,I.w 3,I.w 4]).Z=true:=hn;rw[hf]at hn;have hn:(decide ((I.w 1).I=((I.w 0).L.length:Int))&&decide (0<=(I.w 2).I)&&decide ((I.w 2).I<=((I.w 0).L.length:Int))&&decide ((I.w 0).L.length<=24))=true:=hn;obtain⟨h1,h2⟩:=W4 hn;obtain⟨h3,h4⟩:=W4 h1;obtain⟨h5,h6⟩:=W4 h3;have h2:=j7 h2;have h4:=j7 h4;have h5:=j7 h5;have h6:=j7 h6;refine⟨_,(I.w 2).I.toNat,rfl,h5,(aar h6).symm,by omega,h2,?_⟩;show I.f 714 [I.w 0,I.w 1,I.w 2,I.w 3,I.w 4]=_;rw[hf];rfl
def ea8(w:U7):(eA w).length<=(ce w 4).L.length:=by
 unfold eA;split;grind;split;unfold nD;split;exact s8 _
 unfold iM;have h1:=rG (g:=λi=>kh (ce w 6) ((kO (ce w 3) (ce w 4).L (ce w 6) (ce w 7)).getD 0 default) ((kO (ce w 3) (ce w 4).L (ce w 6) (ce w 7)).getD 1 default) (cg (iS (ce w 3) (ce w 4).L (ce w 6) (ce w 7)) i)) (m:=1) (λi=>Sj _ _ _ _) (iS (ce w 3) (ce w 4).L (ce w 6) (ce w 7)).length;have h2:(iS (ce w 3) (ce w 4).L (ce w 6) (ce w 7)).length=(kC (ce w 3) (ce w 4).L (ce w 6) (ce w 7)).length:=by unfold iS;rw[List.length_map]
 have h3:=Ri (ce w 3) (ce w 4).L (ce w 6) (ce w 7);omega;grind
def ea9(w:U7):(eo (FV F0) w).L.length<=16:=by unfold eo;split;simp_all;split;rw[a71];unfold nq;grind;split;simp_all;show(S7.srt false (fK (ce w 4).L (dF (ce w 0).I (ce w 1).I (ce w 2).I (ce w 3).I (ce w 7)) (ce w 6) (ce w 8) (dF (ce w 0).I (ce w 1).I (ce w 2).I (ce w 3).I (ce w 7)).length)).length<=16;rw[S7.srt_len];have h1:(fK (ce w 4).L (dF (ce w 0).I (ce w 1).I (ce w 2).I (ce w 3).I (ce w 7)) (ce w 6) (ce w 8) (dF (ce w 0).I (ce w 1).I (ce w 2).I (ce w 3).I (ce w 7)).length).length=_:=qA (λi=>nY (ce w 4).L (ce w 6) (ce w 8) (cg (dF (ce w 0).I (ce w 1).I (ce w 2).I (ce w 3).I (ce w 7)) i)) _;grind[WF,ce]
def put_t{I:Opq}(hf: ∀i a,I.f i a=FT (FV F0) i a)(hn:dB I (zn (zn (zn (zb (zl 4) 400) (.Q 431 [aS])) (.Q 491 [aS])) (.Q 739 [aN,aS,bf]))=true):
 W6 T_put I=some (0,[.D (dp (w9 I)),dR (FV F0) (w9 I)]):=by
 have h4:((I.w 4).L.length:Int)<=400:=by exact j7 (W4 (W4 (W4 hn).1).1).1
 have h1:=ea8 (w9 I);have h2:=ea9 (w9 I);have e:ce (w9 I) 4=I.w 4:=rfl;grind[e78]
def pI:VT->Bool
 | .W 0 [.cb true]=>true
 | .both a b=>pI a&&pI b
 |_=>false
def allT_ok{I:Opq}: ∀{t:VT},pI t=true->W6 t I=some (0,[.B true])
 | .W i o,h=>by unfold pI at h;split at h;rename_i e;cases e;rfl;grind;cases h
 | .both a b,h=>by obtain⟨h1,h2⟩:=W4 (show(pI a&&pI b)=true from h);have a1:=allT_ok (I:=I) h1;have a2:=allT_ok (I:=I) h2;grind[W6]
 | .X,h=>by simp[pI]at h
 | .J _ _ _,h=>by simp[pI]at h
 | .N _ _,h=>by simp[pI]at h
 | .loop _ _ _,h=>by simp[pI]at h
 | .mloop _ _ _ _,h=>by simp[pI]at h
