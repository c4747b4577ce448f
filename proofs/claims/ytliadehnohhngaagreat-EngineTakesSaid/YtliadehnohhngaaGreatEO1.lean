import Derived.Test.YtliadehnohhngaaGreatEG3
import Derived.Test.YtliadehnohhngaaGreatEL19
import Derived.Test.YtliadehnohhngaaGreatE43
set_option linter.all false
namespace Go.Ev
open Go
def ND(l:U0):Prop:=(l.map Y2).Nodup
theorem dB4{a b:U0}(h:a.Perm b)(hb:ND b):ND a:=((h.map Y2).nodup_iff).2 hb
def dB5{L:U0}(h:ND L)(x:Val):(L.filter (S7.eqv false x)).length<=1:=by
 have h2:((L.filter (S7.eqv false x)).map Y2).Nodup:=h.sublist (T3.map _);have h3: ∀y,y∈L.filter (S7.eqv false x)->Y2 x=Y2 y:=λy hy=>by obtain⟨a,b⟩:=S7.eqv_iff.1 (l9.1 hy).2;exact OU a b
 match hf:L.filter (S7.eqv false x),h2,h3 with
 | [],_,_=>grind
 | [a],_,_=>grind
 |a::b::q,h2,h3=>
  grind
theorem de7{L M:U0}(h:L.Perm M)(hL:ND L):S7.srt false L=S7.srt false M:=by
 refine S7.srt_cl λx=> ?_
 have hp:=h.filter (S7.eqv false x);have h1:=dB5 hL x
 match hf:L.filter (S7.eqv false x),h1,hp with
 | [],_,hp=>simp_all
 | [a],_,hp=>simp_all
 |_::_::_,h1,_=>simp at h1
def dV7{I:Opq}(hf: ∀i a,I.f i a=F i a)(hn:dB I (zn (cF aN (zl 1)) (zn (zn (zb (zl 1) 400) (.Q 431 [aO])) (.Q 491 [aO])))=true):
 dI I aN=((dL I aO).length:Int)/\ ∀D:U0,D.Perm (I.w 1).L->I.f 490 [.A D]=I.f 490 [I.w 1]/\dB (I.U 1 [.A D]) (zn (zb (zl 1) 400) (.Q 431 [aO]))=true:=by
 have hn:(decide ((I.w 0).I=((I.w 1).L.length:Int))&&((decide (((I.w 1).L.length:Int)<=400)&&(I.f 431 [I.w 1]).Z)&&(I.f 491 [I.w 1]).Z))=true:=hn;obtain⟨h1,h2⟩:=W7 hn;obtain⟨h2,h3⟩:=W7 h2;obtain⟨h4,h5⟩:=W7 h2;rw[hf]at h3 h5;refine⟨j6 h1,λD hD=> ?_⟩;have nd:ND (I.w 1).L:=j6 (p:=((I.w 1).L.map Y2).Nodup) h3;refine⟨?_,?_⟩;rw[hf,hf];show Val.A (S7.srt false D)= .A (S7.srt false (I.w 1).L);grind[de7,dB4];show(decide ((D.length:Int)<=400)&&(I.f 431 [.A D]).Z)=true;rw[hf];have h4:=j6 h4;have:=hD.length_eq;refine S7.and2 (i6 (by omega)) (S7.and2 rfl ?_);have hall:=k9.1 (S7.f431 h5).2;exact k9.2 λx hx=>hall x (hD.mem_iff.1 hx)
def dB6{r:Val}(h:S9.rowS r):S7.okK r=true:=by obtain⟨k,a,b,c,d,e,f,rfl,_⟩:=h;rfl
def oS:S9.XOk F0 where
 x431 l h:=by show(true&&l.all S7.okK)=true;simp_all[B0,k9,dB6]
 x491 l h:=i6 h
 x490 l h:=⟨S7.srt false l,rfl,S7.srt_perm false l⟩
 x490u l l' h hp hn:=congrArg Val.A (de7 hp hn)
 x3 v:=congrArg Val.B (Zw _)
def YD{v:Val}(h:(F0 431 [v]).Z=true):v= .A v.L/\ ∀r∈v.L,cO r=r:=by obtain⟨h1,h2⟩:=W7 (show(S7.isL v&&v.L.all S7.okK)=true from h);grind[S7.isL_at,S7.okK_at,List.all_eq_true]
def ef1(v:Val)(h:(F0 491 [v]).Z=true):(v.L.map Y2).Nodup:=j6 h
end Go.Ev
namespace Go.Ev.S9
open Go Go.Ev
theorem dB8{a b:Val}(h1: ¬spanV b a<0)(h2: ¬spanV a b<0):Y7 a=Y7 b:=by
 have n: ∀x y:Val,¬spanV x y<0-> ¬(ci x 1<ci y 1\/ci x 1=ci y 1/\ci x 0<ci y 0):=λx y h hc=>by apply h;have:=FY x y;rw[i6 hc]at this;exact j6 (p:=spanV x y<0) this
 have a1:=n b a h1;have a2:=n a b h2;exact M3 (show ci a 0=ci b 0 by omega) (show ci a 1=ci b 1 by omega)
def cL8{D l:U0}(hp:D.Perm l)(hn:(l.map Y7).Nodup):gn spanV D=gn spanV l:=by obtain⟨p1,s1⟩:=xS swo_spanV D;obtain⟨p2,s2⟩:=xS swo_spanV l;refine S3 (le:=λa b=> ¬spanV b a<0) (λa b ha hb h1 h2=> ?_) (s1.imp λ{a b} h=>h) (s2.imp λ{a b} h=>h) ((p1.trans hp).trans p2.symm);grind[NJ,dB8]
def sortsb_ok{I:Opq}(hf: ∀i a,I.f i a=F i a)(hn:dB I (zn (cF aN (zl 1)) (zn (zb (zl 1) 1000000) (.Q 716 [aO])))=true):
 dI I aN=((dL I aO).length:Int)/\ ∀D:U0,D.Perm (I.w 1).L->I.f 715 [.A D]=I.f 715 [I.w 1]/\dB (I.U 1 [.A D]) (zn (cF (zl 1) (zl 1)) (zb (zl 1) 1000000))=true:=by
 rw[dG,dG,dY,cJ,cI,cK,cM,cG]at hn;obtain⟨h1,h2⟩:=W7 hn;obtain⟨h3,h4⟩:=W7 h2;have h4:(I.f 716 [I.w 1]).Z=true:=h4;rw[hf]at h4;have h4:((I.w 1).L.map Y7).Nodup:=j6 (p:=((I.w 1).L.map Y7).Nodup) h4;refine⟨j6 h1,λD hD=>⟨?_,?_⟩⟩;rw[hf,hf];show Val.A (gn spanV D)= .A (gn spanV (I.w 1).L);rw[cL8 hD h4]
 have hl:=hD.length_eq;have w1:(I.U 1 [.A D]).w 1= .A D:=by rw[Y8];simp
 rw[dG,dY,cJ,cK,cM,cG,w1];simp_all
def sins_ok{I:Opq}(hf: ∀i a,I.f i a=F i a)(hn:dB I (.Q 713 [aN,aO,aS,aV,aT])=true):
 ∃(l:U0) (j:Nat),(I.w 0).L=l/\dI I aO=(l.length:Int)/\dI I aS=(j:Int)/\j<=l.length/\l.length<=24/\bZ I (.Q 714 [aN,aO,aS,aV,aT])= .A ((l.take j).map Aj++[.A [I.w 3,I.w 4]]++(l.drop j).map Aj):=by
 have hn:(I.f 713 [I.w 0,I.w 1,I.w 2,I.w 3,I.w 4]).Z=true:=hn;rw[hf]at hn;have hn:(decide ((I.w 1).I=((I.w 0).L.length:Int))&&decide (0<=(I.w 2).I)&&decide ((I.w 2).I<=((I.w 0).L.length:Int))&&decide ((I.w 0).L.length<=24))=true:=hn;obtain⟨h1,h2⟩:=W7 hn;obtain⟨h3,h4⟩:=W7 h1;obtain⟨h5,h6⟩:=W7 h3;have h2:=j6 h2;have h4:=j6 h4;have h5:=j6 h5;have h6:=j6 h6;refine⟨_,(I.w 2).I.toNat,rfl,h5,(T1 h6).symm,by omega,h2,?_⟩;show I.f 714 [I.w 0,I.w 1,I.w 2,I.w 3,I.w 4]=_;rw[hf];rfl
def ef2(w:U0):(eP w).length<=(ce w 4).L.length:=by
 unfold eP;split;grind;split;unfold pF;split;exact p8 _
 unfold jJ;have h1:=jz (g:=λi=>lv (ce w 6) ((mj (ce w 3) (ce w 4).L (ce w 6) (ce w 7)).getD 0 default) ((mj (ce w 3) (ce w 4).L (ce w 6) (ce w 7)).getD 1 default) (cg (jH (ce w 3) (ce w 4).L (ce w 6) (ce w 7)) i)) (m:=1) (λi=>Xv _ _ _ _) (jH (ce w 3) (ce w 4).L (ce w 6) (ce w 7)).length;have h2:(jH (ce w 3) (ce w 4).L (ce w 6) (ce w 7)).length=(mi (ce w 3) (ce w 4).L (ce w 6) (ce w 7)).length:=by unfold jH;rw[List.length_map]
 have h3:=UW (ce w 3) (ce w 4).L (ce w 6) (ce w 7);omega;grind
def ef3(w:U0):(eT (FU F0) w).L.length<=16:=by unfold eT;split;simp_all;split;rw[a41];unfold pa;grind;split;simp_all;show(S7.srt false (gF (ce w 4).L (dy (ce w 0).I (ce w 1).I (ce w 2).I (ce w 3).I (ce w 7)) (ce w 6) (ce w 8) (dy (ce w 0).I (ce w 1).I (ce w 2).I (ce w 3).I (ce w 7)).length)).length<=16;rw[S7.srt_len];have h1:(gF (ce w 4).L (dy (ce w 0).I (ce w 1).I (ce w 2).I (ce w 3).I (ce w 7)) (ce w 6) (ce w 8) (dy (ce w 0).I (ce w 1).I (ce w 2).I (ce w 3).I (ce w 7)).length).length=_:=oI (λi=>pu (ce w 4).L (ce w 6) (ce w 8) (cg (dy (ce w 0).I (ce w 1).I (ce w 2).I (ce w 3).I (ce w 7)) i)) _;grind[dc8,ce]
def put_t{I:Opq}(hf: ∀i a,I.f i a=FT (FU F0) i a)(hn:dB I (zn (zn (zn (zb (zl 4) 400) (.Q 431 [aT])) (.Q 491 [aT])) (.Q 739 [aN,aT,bd]))=true):
 W5 T_put I=some (0,[.D (dD (w9 I)),fx (FU F0) (w9 I)]):=by
 have h4:((I.w 4).L.length:Int)<=400:=by exact j6 (W7 (W7 (W7 hn).1).1).1
 have h1:=ef2 (w9 I);have h2:=ef3 (w9 I);have e:ce (w9 I) 4=I.w 4:=rfl;grind[e91]
def qK:VT->Bool
 | .W 0 [.cb true]=>true
 | .both a b=>qK a&&qK b
 |_=>false
def allT_ok{I:Opq}: ∀{t:VT},qK t=true->W5 t I=some (0,[.B true])
 | .W i o,h=>by unfold qK at h;split at h;rename_i e;cases e;rfl;grind;cases h
 | .both a b,h=>by obtain⟨h1,h2⟩:=W7 (show(qK a&&qK b)=true from h);have a1:=allT_ok (I:=I) h1;have a2:=allT_ok (I:=I) h2;grind[W5]
 | .X,h=>by simp[qK]at h
 | .J _ _ _,h=>by simp[qK]at h
 | .N _ _,h=>by simp[qK]at h
 | .loop _ _ _,h=>by simp[qK]at h
 | .mloop _ _ _ _,h=>by simp[qK]at h
