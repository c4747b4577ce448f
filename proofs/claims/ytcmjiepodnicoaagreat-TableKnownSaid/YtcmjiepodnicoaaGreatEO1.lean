import Derived.Test.YtcmjiepodnicoaaGreatEG3
import Derived.Test.YtcmjiepodnicoaaGreatEL19
import Derived.Test.YtcmjiepodnicoaaGreatE43
set_option linter.unusedSimpArgs false
set_option linter.unusedVariables false
namespace Go.Ev
open Go
def ND(l:List Val):Prop:=(l.map Z6).Nodup
theorem dk4{a b:List Val}(h:a.Perm b)(hb:ND b):ND a:=((h.map Z6).nodup_iff).2 hb
theorem dk5{L:List Val}(h:ND L)(x:Val):(L.filter (S7.eqv false x)).length<=1:=by
 have h2:((L.filter (S7.eqv false x)).map Z6).Nodup:=h.sublist (T6.map _);have h3: ∀y,y∈L.filter (S7.eqv false x)->Z6 x=Z6 y:=λy hy=>by
  obtain⟨a,b⟩:=S7.eqv_iff.1 (l6.1 hy).2;exact Pm a b
 match hf:L.filter (S7.eqv false x),h2,h3 with
 | [],_,_=>grind
 | [a],_,_=>grind
 |a::b::q,h2,h3=>
  grind
theorem cZ5{L M:List Val}(h:L.Perm M)(hL:ND L):S7.srt false L=S7.srt false M:=by
 refine S7.srt_cl λx=> ?_
 have hp:=h.filter (S7.eqv false x);have h1:=dk5 hL x
 match hf:L.filter (S7.eqv false x),h1,hp with
 | [],_,hp=>simp_all
 | [a],_,hp=>simp_all
 |_::_::_,h1,_=>simp at h1
theorem dE5{I:Opq}(hf: ∀i a,I.f i a=F i a)(hn:dB I (zn (cJ aN (zl 1)) (zn (zn (zb (zl 1) 400) (.app 431 [aO])) (.app 491 [aO])))=true):
 dI I aN=((dL I aO).length:Int)/\ ∀D:List Val,D.Perm (I.w 1).toL->I.f 490 [.vl D]=I.f 490 [I.w 1]/\dB (I.upd 1 [.vl D]) (zn (zb (zl 1) 400) (.app 431 [aO]))=true:=by
 have hn:(decide ((I.w 0).toI=((I.w 1).toL.length:Int))&&((decide (((I.w 1).toL.length:Int)<=400)&&(I.f 431 [I.w 1]).toB)&&(I.f 491 [I.w 1]).toB))=true:=hn;obtain⟨h1,h2⟩:=Z1 hn;obtain⟨h2,h3⟩:=Z1 h2;obtain⟨h4,h5⟩:=Z1 h2;rw[hf]at h3 h5;refine⟨j5 h1,λD hD=> ?_⟩;have nd:ND (I.w 1).toL:=j5 (p:=((I.w 1).toL.map Z6).Nodup) h3;refine⟨?_,?_⟩
 .rw[hf,hf];show Val.vl (S7.srt false D)= .vl (S7.srt false (I.w 1).toL);grind[cZ5,dk4]
 .show(decide ((D.length:Int)<=400)&&(I.f 431 [.vl D]).toB)=true;rw[hf];have h4:=j5 h4;have:=hD.length_eq;refine S7.and2 (c9 (by omega)) (S7.and2 rfl ?_);have hall:=k8.1 (S7.f431 h5).2;exact k8.2 λx hx=>hall x (hD.mem_iff.1 hx)
theorem TU(a:List Val):F 3 a= .vb (wZ (vp (ce a 0)) (vp (ce a 1))):=rfl
theorem dE6(a:List Val):F 107 a=EI fJ (ce a 4).toL (ce a 7).toL:=rfl
theorem dk6{I:Opq}(hf: ∀i a,I.f i a=F i a)(hn:(I.w 0).toL.length<=1000000):Z0 RM I=some (0,[F 3 [I.w 0,I.w 1]]):=by
 unfold RM e41;simp only[Z0,sh,ck,bZ,dB,cK,List.cons_append,List.nil_append];by_cases hl:(I.w 0).toL.length=(I.w 1).toL.length
 .have hl':((I.w 0).toL.length:Int)=(I.w 1).toL.length:=by rw[hl]
  rw[xu (bad:=λi=> !decide (fJ (cg (I.w 0).toL i)=fJ (cg (I.w 1).toL i))) (px:=λk=>[.vb false,.vi k]) (n:=(I.w 0).toL.length)]
  .simp only[hf,TU,dE6,xB,yH,JM fJ _ _ hl,Uh fJ _ _ hl,hl'];by_cases h:(I.w 0).toL.map fJ=(I.w 1).toL.map fJ<;>simp[sh,Z0,h,bZ,ck,cK,cA,co,hf,TU,dE6,xB,yH,hl',wZ,JM fJ _ _ hl,vp]
  .intro i hi hb;have hi':i<(I.w 1).toL.length:=by omega
   simp only[Bool.not_eq_false',decide_eq_true_eq,CG]at hb;simp[hi,hi',cN,bZ8 (show i<=10000000 by omega),pw,pD,pJ,uU,um,uP,uw,hb]
  .intro i hi hb;have hi':i<(I.w 1).toL.length:=by omega
   simp only[y6,decide_eq_false_iff_not,CG]at hb;simp[hi,hi',cN,pw,pD,pJ,uU,um,uP,uw];grind
  .simp[cN]
 .have hl': ¬((I.w 0).toL.length:Int)=(I.w 1).toL.length:=by omega
  simp[hl',TU,xB,yH,vp,wZ,cZ4 _ hl,ck,bZ]
theorem dk7{r:Val}(h:S9.rowS r):S7.okK r=true:=by
 obtain⟨k,a,b,c,d,e,f,rfl,_⟩:=h;rfl
theorem pe:S9.XOk F0 where
 x431 l h:=by
  show(true&&l.all S7.okK)=true;simp_all[A9,k8,dk7]
 x491 l h:=c9 h
 x490 l h:=⟨S7.srt false l,rfl,S7.srt_perm false l⟩
 x490u l l' h hp hn:=congrArg Val.vl (cZ5 hp hn)
 x3 v:=congrArg Val.vb (cL5 _)
theorem PN{v:Val}(h:(F0 431 [v]).toB=true):v= .vl v.toL/\ ∀r∈v.toL,cQ r=r:=by
 obtain⟨h1,h2⟩:=Z1 (show(S7.isL v&&v.toL.all S7.okK)=true from h);grind[S7.isL_at,S7.okK_at,List.all_eq_true]
theorem dY5(v:Val)(h:(F0 491 [v]).toB=true):(v.toL.map Z6).Nodup:=j5 h
end Go.Ev
namespace Go.Ev.S9
open Go Go.Ev
theorem dk9{a b:Val}(h1: ¬spanV b a<0)(h2: ¬spanV a b<0):Z9 a=Z9 b:=by
 have n: ∀x y:Val,¬spanV x y<0-> ¬(ci x 1<ci y 1\/ci x 1=ci y 1/\ci x 0<ci y 0):=λx y h hc=>by
  apply h;have:=HP x y;rw[c9 hc]at this;exact j5 (p:=spanV x y<0) this
 have a1:=n b a h1;have a2:=n a b h2;exact C4 (show ci a 0=ci b 0 by omega) (show ci a 1=ci b 1 by omega)
theorem cz9{D l:List Val}(hp:D.Perm l)(hn:(l.map Z9).Nodup):ic spanV D=ic spanV l:=by
 obtain⟨p1,s1⟩:=Bq swo_spanV D;obtain⟨p2,s2⟩:=Bq swo_spanV l;refine W7 (le:=λa b=> ¬spanV b a<0) (λa b ha hb h1 h2=> ?_) (s1.imp λ{a b} h=>h) (s2.imp λ{a b} h=>h) ((p1.trans hp).trans p2.symm);grind[Tv,dk9]
theorem sortsb_ok{I:Opq}(hf: ∀i a,I.f i a=F i a)(hn:dB I (zn (cJ aN (zl 1)) (zn (zb (zl 1) 1000000) (.app 716 [aO])))=true):
 dI I aN=((dL I aO).length:Int)/\ ∀D:List Val,D.Perm (I.w 1).toL->I.f 715 [.vl D]=I.f 715 [I.w 1]/\dB (I.upd 1 [.vl D]) (zn (cJ (zl 1) (zl 1)) (zb (zl 1) 1000000))=true:=by
 rw[cX,cX,eo,cI,cy,Z8,dR,cF]at hn;obtain⟨h1,h2⟩:=Z1 hn;obtain⟨h3,h4⟩:=Z1 h2;have h4:(I.f 716 [I.w 1]).toB=true:=h4;rw[hf]at h4;have h4:((I.w 1).toL.map Z9).Nodup:=j5 (p:=((I.w 1).toL.map Z9).Nodup) h4;refine⟨j5 h1,λD hD=>⟨?_,?_⟩⟩
 .rw[hf,hf];show Val.vl (ic spanV D)= .vl (ic spanV (I.w 1).toL);rw[cz9 hD h4]
 .have hl:=hD.length_eq;have w1:(I.upd 1 [.vl D]).w 1= .vl D:=by rw[cN];simp
  rw[cX,eo,cI,Z8,dR,cF,w1];simp_all
theorem sins_ok{I:Opq}(hf: ∀i a,I.f i a=F i a)(hn:dB I (.app 713 [aN,aO,aT,aU,aS])=true):
 ∃(l:List Val) (j:Nat),(I.w 0).toL=l/\dI I aO=(l.length:Int)/\dI I aT=(j:Int)/\j<=l.length/\l.length<=24/\bZ I (.app 714 [aN,aO,aT,aU,aS])= .vl ((l.take j).map yN++[.vl [I.w 3,I.w 4]]++(l.drop j).map yN):=by
 have hn:(I.f 713 [I.w 0,I.w 1,I.w 2,I.w 3,I.w 4]).toB=true:=hn;rw[hf]at hn;have hn:(decide ((I.w 1).toI=((I.w 0).toL.length:Int))&&decide (0<=(I.w 2).toI)&&decide ((I.w 2).toI<=((I.w 0).toL.length:Int))&&decide ((I.w 0).toL.length<=24))=true:=hn;obtain⟨h1,h2⟩:=Z1 hn;obtain⟨h3,h4⟩:=Z1 h1;obtain⟨h5,h6⟩:=Z1 h3;have h2:=j5 h2;have h4:=j5 h4;have h5:=j5 h5;have h6:=j5 h6;refine⟨_,(I.w 2).toI.toNat,rfl,h5,(T2 h6).symm,by omega,h2,?_⟩;show I.f 714 [I.w 0,I.w 1,I.w 2,I.w 3,I.w 4]=_;rw[hf];rfl
theorem dY6(w:List Val):(eF w).length<=(ce w 4).toL.length:=by
 unfold eF;split
 .grind
 .split
  .unfold oj;split
   .exact s7 _
   .unfold jJ;have h1:=jD (g:=λi=>kU (ce w 6) ((lU (ce w 3) (ce w 4).toL (ce w 6) (ce w 7)).getD 0 default) ((lU (ce w 3) (ce w 4).toL (ce w 6) (ce w 7)).getD 1 default) (cg (jI (ce w 3) (ce w 4).toL (ce w 6) (ce w 7)) i)) (m:=1) (λi=>Ry _ _ _ _) (jI (ce w 3) (ce w 4).toL (ce w 6) (ce w 7)).length;have h2:(jI (ce w 3) (ce w 4).toL (ce w 6) (ce w 7)).length=(lG (ce w 3) (ce w 4).toL (ce w 6) (ce w 7)).length:=by unfold jI;rw[List.length_map]
    have h3:=TT (ce w 3) (ce w 4).toL (ce w 6) (ce w 7);omega
  grind
theorem dY7(w:List Val):(eS (FQ F0) w).toL.length<=16:=by
 unfold eS;split
 .simp_all
 .split
  .rw[a65];unfold oO;grind
  .split
   .simp_all
   .show(S7.srt false (gu (ce w 4).toL (dw (ce w 0).toI (ce w 1).toI (ce w 2).toI (ce w 3).toI (ce w 7)) (ce w 6) (ce w 8) (dw (ce w 0).toI (ce w 1).toI (ce w 2).toI (ce w 3).toI (ce w 7)).length)).length<=16;rw[S7.srt_len];have h1:(gu (ce w 4).toL (dw (ce w 0).toI (ce w 1).toI (ce w 2).toI (ce w 3).toI (ce w 7)) (ce w 6) (ce w 8) (dw (ce w 0).toI (ce w 1).toI (ce w 2).toI (ce w 3).toI (ce w 7)).length).length=_:=mO (λi=>oD (ce w 4).toL (ce w 6) (ce w 8) (cg (dw (ce w 0).toI (ce w 1).toI (ce w 2).toI (ce w 3).toI (ce w 7)) i)) _;grind[RU,ce]
theorem put_t{I:Opq}(hf: ∀i a,I.f i a=FT (FQ F0) i a)(hn:dB I (zn (zn (zn (zb (zl 4) 400) (.app 431 [aS])) (.app 491 [aS])) (.app 739 [aN,aS,bd]))=true):
 Z0 T_put I=some (0,[.vi (dC (w9 I)),eQ (FQ F0) (w9 I)]):=by
 have h4:((I.w 4).toL.length:Int)<=400:=by
  exact j5 (Z1 (Z1 (Z1 hn).1).1).1
 have h1:=dY6 (w9 I);have h2:=dY7 (w9 I);have e:ce (w9 I) 4=I.w 4:=rfl;grind[dS2]
def qj:VT->Bool
 | .ret 0 [.cb true]=>true
 | .both a b=>qj a&&qj b
 |_=>false
theorem allT_ok{I:Opq}: ∀{t:VT},qj t=true->Z0 t I=some (0,[.vb true])
 | .ret i o,h=>by
   unfold qj at h;split at h
   .rename_i e;cases e;rfl
   .grind
   .cases h
 | .both a b,h=>by
   obtain⟨h1,h2⟩:=Z1 (show(qj a&&qj b)=true from h);have a1:=allT_ok (I:=I) h1;have a2:=allT_ok (I:=I) h2;grind[Z0]
 | .bad,h=>by simp[qj]at h
 | .ite _ _ _,h=>by simp[qj]at h
 | .need _ _,h=>by simp[qj]at h
 | .loop _ _ _,h=>by simp[qj]at h
 | .mloop _ _ _ _,h=>by simp[qj]at h
end Go.Ev.S9
