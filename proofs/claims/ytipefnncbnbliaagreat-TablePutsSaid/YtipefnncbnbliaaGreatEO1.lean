import Derived.Test.YtipefnncbnbliaaGreatEG3
import Derived.Test.YtipefnncbnbliaaGreatEL19
import Derived.Test.YtipefnncbnbliaaGreatE43
set_option linter.unusedSimpArgs false
set_option linter.unusedVariables false
namespace Go.Ev
open Go
def ND(l:List Val):Prop:=(l.map Z2).Nodup
theorem dp2{a b:List Val}(h:a.Perm b)(hb:ND b):ND a:=((h.map Z2).nodup_iff).2 hb
theorem dp3{L:List Val}(h:ND L)(x:Val):(L.filter (S7.eqv false x)).length<=1:=by
 have h2:((L.filter (S7.eqv false x)).map Z2).Nodup:=h.sublist (T5.map _);have h3: ∀y,y∈L.filter (S7.eqv false x)->Z2 x=Z2 y:=λy hy=>by
  obtain⟨a,b⟩:=S7.eqv_iff.1 (l7.1 hy).2;exact Ns a b
 match hf:L.filter (S7.eqv false x),h2,h3 with
 | [],_,_=>grind
 | [a],_,_=>grind
 |a::b::q,h2,h3=>
  grind
theorem YM{L M:List Val}(h:L.Perm M)(hL:ND L):S7.srt false L=S7.srt false M:=by
 refine S7.srt_cl λx=> ?_
 have hp:=h.filter (S7.eqv false x);have h1:=dp3 hL x
 match hf:L.filter (S7.eqv false x),h1,hp with
 | [],_,hp=>simp_all
 | [a],_,hp=>simp_all
 |_::_::_,h1,_=>simp at h1
theorem dI5{I:Opq}(hf: ∀i a,I.f i a=F i a)(hn:dB I (zn (cC aM (zl 1)) (zn (zn (zb (zl 1) 400) (.app 431 [aO])) (.app 491 [aO])))=true):
 dI I aM=((dL I aO).length:Int)/\ ∀D:List Val,D.Perm (I.w 1).toL->I.f 490 [.vl D]=I.f 490 [I.w 1]/\dB (I.upd 1 [.vl D]) (zn (zb (zl 1) 400) (.app 431 [aO]))=true:=by
 have hn:(decide ((I.w 0).toI=((I.w 1).toL.length:Int))&&((decide (((I.w 1).toL.length:Int)<=400)&&(I.f 431 [I.w 1]).toB)&&(I.f 491 [I.w 1]).toB))=true:=hn;obtain⟨h1,h2⟩:=W5 hn;obtain⟨h2,h3⟩:=W5 h2;obtain⟨h4,h5⟩:=W5 h2;rw[hf]at h3 h5;refine⟨j6 h1,λD hD=> ?_⟩;have nd:ND (I.w 1).toL:=j6 (p:=((I.w 1).toL.map Z2).Nodup) h3;refine⟨?_,?_⟩
 .rw[hf,hf];show Val.vl (S7.srt false D)= .vl (S7.srt false (I.w 1).toL);grind[YM,dp2]
 .show(decide ((D.length:Int)<=400)&&(I.f 431 [.vl D]).toB)=true;rw[hf];have h4:=j6 h4;have:=hD.length_eq;refine S7.and2 (e9 (by omega)) (S7.and2 rfl ?_);have hall:=k6.1 (S7.f431 h5).2;exact k6.2 λx hx=>hall x (hD.mem_iff.1 hx)
theorem QU(a:List Val):F 3 a= .vb (uZ (vE (bV a 0)) (vE (bV a 1))):=rfl
theorem dI6(a:List Val):F 107 a=GN eW (bV a 4).toL (bV a 7).toL:=rfl
theorem dp4{I:Opq}(hf: ∀i a,I.f i a=F i a)(hn:(I.w 0).toL.length<=1000000):W7 Td I=some (0,[F 3 [I.w 0,I.w 1]]):=by
 unfold Td Xv;simp only[W7,nq,Z6,bU,dB,cA,List.cons_append,List.nil_append];by_cases hl:(I.w 0).toL.length=(I.w 1).toL.length
 .have hl':((I.w 0).toL.length:Int)=(I.w 1).toL.length:=by rw[hl]
  rw[ws (bad:=λi=> !decide (eW (bW (I.w 0).toL i)=eW (bW (I.w 1).toL i))) (px:=λk=>[.vb false,.vi k]) (n:=(I.w 0).toL.length)]
  .simp only[hf,QU,dI6,yf,xQ,Iz eW _ _ hl,UZ eW _ _ hl,hl'];by_cases h:(I.w 0).toL.map eW=(I.w 1).toL.map eW<;>simp[nq,W7,h,bU,Z6,cA,cr,bZ,hf,QU,dI6,yf,xQ,hl',uZ,Iz eW _ _ hl,vE]
  .intro i hi hb;have hi':i<(I.w 1).toL.length:=by omega
   simp only[Bool.not_eq_false',decide_eq_true_eq,Br]at hb;simp[hi,hi',cM,c27 (show i<=10000000 by omega),oR,oJ,oB,um,tZ,tF,tz,hb]
  .intro i hi hb;have hi':i<(I.w 1).toL.length:=by omega
   simp only[y6,decide_eq_false_iff_not,Br]at hb;simp[hi,hi',cM,oR,oJ,oB,um,tZ,tF,tz];grind
  .simp[cM]
 .have hl': ¬((I.w 0).toL.length:Int)=(I.w 1).toL.length:=by omega
  simp[hl',QU,yf,xQ,vE,uZ,d58 _ hl,Z6,bU]
theorem dp5{r:Val}(h:S9.rowS r):S7.okK r=true:=by
 obtain⟨k,a,b,c,d,e,f,rfl,_⟩:=h;rfl
theorem ox:S9.XOk F0 where
 x431 l h:=by
  show(true&&l.all S7.okK)=true;simp_all[B4,k6,dp5]
 x491 l h:=e9 h
 x490 l h:=⟨S7.srt false l,rfl,S7.srt_perm false l⟩
 x490u l l' h hp hn:=congrArg Val.vl (YM hp hn)
 x3 v:=congrArg Val.vb (cQ8 _)
theorem QM{v:Val}(h:(F0 431 [v]).toB=true):v= .vl v.toL/\ ∀r∈v.toL,cK r=r:=by
 obtain⟨h1,h2⟩:=W5 (show(S7.isL v&&v.toL.all S7.okK)=true from h);grind[S7.isL_at,S7.okK_at,List.all_eq_true]
theorem e11(v:Val)(h:(F0 491 [v]).toB=true):(v.toL.map Z2).Nodup:=j6 h
end Go.Ev
namespace Go.Ev.S9
open Go Go.Ev
theorem dp7{a b:Val}(h1: ¬spanV b a<0)(h2: ¬spanV a b<0):Z4 a=Z4 b:=by
 have n: ∀x y:Val,¬spanV x y<0-> ¬(ci x 1<ci y 1\/ci x 1=ci y 1/\ci x 0<ci y 0):=λx y h hc=>by
  apply h;have:=Gh x y;rw[e9 hc]at this;exact j6 (p:=spanV x y<0) this
 have a1:=n b a h1;have a2:=n a b h2;exact O7 (show ci a 0=ci b 0 by omega) (show ci a 1=ci b 1 by omega)
theorem cE6{D l:List Val}(hp:D.Perm l)(hn:(l.map Z4).Nodup):gK spanV D=gK spanV l:=by
 obtain⟨p1,s1⟩:=xE swo_spanV D;obtain⟨p2,s2⟩:=xE swo_spanV l;refine W4 (le:=λa b=> ¬spanV b a<0) (λa b ha hb h1 h2=> ?_) (s1.imp λ{a b} h=>h) (s2.imp λ{a b} h=>h) ((p1.trans hp).trans p2.symm);grind[SV,dp7]
theorem sortsb_ok{I:Opq}(hf: ∀i a,I.f i a=F i a)(hn:dB I (zn (cC aM (zl 1)) (zn (zb (zl 1) 1000000) (.app 716 [aO])))=true):
 dI I aM=((dL I aO).length:Int)/\ ∀D:List Val,D.Perm (I.w 1).toL->I.f 715 [.vl D]=I.f 715 [I.w 1]/\dB (I.upd 1 [.vl D]) (zn (cC (zl 1) (zl 1)) (zb (zl 1) 1000000))=true:=by
 rw[db,db,dX,cB,co,Z8,dN,cx]at hn;obtain⟨h1,h2⟩:=W5 hn;obtain⟨h3,h4⟩:=W5 h2;have h4:(I.f 716 [I.w 1]).toB=true:=h4;rw[hf]at h4;have h4:((I.w 1).toL.map Z4).Nodup:=j6 (p:=((I.w 1).toL.map Z4).Nodup) h4;refine⟨j6 h1,λD hD=>⟨?_,?_⟩⟩
 .rw[hf,hf];show Val.vl (gK spanV D)= .vl (gK spanV (I.w 1).toL);rw[cE6 hD h4]
 .have hl:=hD.length_eq;have w1:(I.upd 1 [.vl D]).w 1= .vl D:=by rw[cM];simp
  rw[db,dX,cB,Z8,dN,cx,w1];simp_all
theorem sins_ok{I:Opq}(hf: ∀i a,I.f i a=F i a)(hn:dB I (.app 713 [aM,aO,aT,aU,aS])=true):
 ∃(l:List Val) (j:Nat),(I.w 0).toL=l/\dI I aO=(l.length:Int)/\dI I aT=(j:Int)/\j<=l.length/\l.length<=24/\bU I (.app 714 [aM,aO,aT,aU,aS])= .vl ((l.take j).map xA++[.vl [I.w 3,I.w 4]]++(l.drop j).map xA):=by
 have hn:(I.f 713 [I.w 0,I.w 1,I.w 2,I.w 3,I.w 4]).toB=true:=hn;rw[hf]at hn;have hn:(decide ((I.w 1).toI=((I.w 0).toL.length:Int))&&decide (0<=(I.w 2).toI)&&decide ((I.w 2).toI<=((I.w 0).toL.length:Int))&&decide ((I.w 0).toL.length<=24))=true:=hn;obtain⟨h1,h2⟩:=W5 hn;obtain⟨h3,h4⟩:=W5 h1;obtain⟨h5,h6⟩:=W5 h3;have h2:=j6 h2;have h4:=j6 h4;have h5:=j6 h5;have h6:=j6 h6;refine⟨_,(I.w 2).toI.toNat,rfl,h5,(T1 h6).symm,by omega,h2,?_⟩;show I.f 714 [I.w 0,I.w 1,I.w 2,I.w 3,I.w 4]=_;rw[hf];rfl
theorem e12(w:List Val):(ew w).length<=(bV w 4).toL.length:=by
 unfold ew;split
 .grind
 .split
  .unfold nB;split
   .exact r9 _
   .unfold iS;have h1:=je (g:=λi=>kv (bV w 6) ((kN (bV w 3) (bV w 4).toL (bV w 6) (bV w 7)).getD 0 default) ((kN (bV w 3) (bV w 4).toL (bV w 6) (bV w 7)).getD 1 default) (bW (ja (bV w 3) (bV w 4).toL (bV w 6) (bV w 7)) i)) (m:=1) (λi=>Vf _ _ _ _) (ja (bV w 3) (bV w 4).toL (bV w 6) (bV w 7)).length;have h2:(ja (bV w 3) (bV w 4).toL (bV w 6) (bV w 7)).length=(kT (bV w 3) (bV w 4).toL (bV w 6) (bV w 7)).length:=by unfold ja;rw[List.length_map]
    have h3:=UL (bV w 3) (bV w 4).toL (bV w 6) (bV w 7);omega
  grind
theorem e13(w:List Val):(eJ (FQ F0) w).toL.length<=16:=by
 unfold eJ;split
 .simp_all
 .split
  .rw[a84];unfold nQ;grind
  .split
   .simp_all
   .show(S7.srt false (fV (bV w 4).toL (cX (bV w 0).toI (bV w 1).toI (bV w 2).toI (bV w 3).toI (bV w 7)) (bV w 6) (bV w 8) (cX (bV w 0).toI (bV w 1).toI (bV w 2).toI (bV w 3).toI (bV w 7)).length)).length<=16;rw[S7.srt_len];have h1:(fV (bV w 4).toL (cX (bV w 0).toI (bV w 1).toI (bV w 2).toI (bV w 3).toI (bV w 7)) (bV w 6) (bV w 8) (cX (bV w 0).toI (bV w 1).toI (bV w 2).toI (bV w 3).toI (bV w 7)).length).length=_:=mX (λi=>nP (bV w 4).toL (bV w 6) (bV w 8) (bW (cX (bV w 0).toI (bV w 1).toI (bV w 2).toI (bV w 3).toI (bV w 7)) i)) _;grind[d39,bV]
theorem put_t{I:Opq}(hf: ∀i a,I.f i a=FT (FQ F0) i a)(hn:dB I (zn (zn (zn (zb (zl 4) 400) (.app 431 [aS])) (.app 491 [aS])) (.app 739 [aM,aS,bd]))=true):
 W7 T_put I=some (0,[.vi (dD (w9 I)),fN (FQ F0) (w9 I)]):=by
 have h4:((I.w 4).toL.length:Int)<=400:=by
  exact j6 (W5 (W5 (W5 hn).1).1).1
 have h1:=e12 (w9 I);have h2:=e13 (w9 I);have e:bV (w9 I) 4=I.w 4:=rfl;grind[dV0]
def pe:VT->Bool
 | .ret 0 [.cb true]=>true
 | .both a b=>pe a&&pe b
 |_=>false
theorem allT_ok{I:Opq}: ∀{t:VT},pe t=true->W7 t I=some (0,[.vb true])
 | .ret i o,h=>by
   unfold pe at h;split at h
   .rename_i e;cases e;rfl
   .grind
   .cases h
 | .both a b,h=>by
   obtain⟨h1,h2⟩:=W5 (show(pe a&&pe b)=true from h);have a1:=allT_ok (I:=I) h1;have a2:=allT_ok (I:=I) h2;grind[W7]
 | .bad,h=>by simp[pe]at h
 | .ite _ _ _,h=>by simp[pe]at h
 | .need _ _,h=>by simp[pe]at h
 | .loop _ _ _,h=>by simp[pe]at h
 | .mloop _ _ _ _,h=>by simp[pe]at h
end Go.Ev.S9
