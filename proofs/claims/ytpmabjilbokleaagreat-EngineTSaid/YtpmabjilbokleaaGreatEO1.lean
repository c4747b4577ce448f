import Derived.Test.YtpmabjilbokleaaGreatEG3
import Derived.Test.YtpmabjilbokleaaGreatEL19
import Derived.Test.YtpmabjilbokleaaGreatE43
set_option linter.unusedSimpArgs false
set_option linter.unusedVariables false
namespace Go.Ev
open Go
def ND(l:List Val):Prop:=(l.map R8).Nodup
theorem de8{a b:List Val}(h:a.Perm b)(hb:ND b):ND a:=((h.map R8).nodup_iff).2 hb
theorem de9{L:List Val}(h:ND L)(x:Val):(L.filter (S7.eqv false x)).length<=1:=by
 have h2:((L.filter (S7.eqv false x)).map R8).Nodup:=h.sublist (List.filter_sublist.map _);have h3: ∀y,y∈L.filter (S7.eqv false x)->R8 x=R8 y:=λy hy=>by
  obtain⟨a,b⟩:=S7.eqv_iff.1 (n7.1 hy).2;exact WL a b
 match hf:L.filter (S7.eqv false x),h2,h3 with
 | [],_,_=>grind
 | [a],_,_=>grind
 |a::b::q,h2,h3=>
  grind
theorem YL{L M:List Val}(h:L.Perm M)(hL:ND L):S7.srt false L=S7.srt false M:=by
 refine S7.srt_cl λx=> ?_
 have hp:=h.filter (S7.eqv false x);have h1:=de9 hL x
 match hf:L.filter (S7.eqv false x),h1,hp with
 | [],_,hp=>simp_all
 | [a],_,hp=>simp_all
 |_::_::_,h1,_=>simp at h1
theorem dz9{I:Opq}(hf: ∀i a,I.f i a=F i a)(hn:dB I (zn (.op (.cmp .eql) [.va 0,zl 1]) (zn (zn (zb (zl 1) 400) (.app 431 [.va 1])) (.app 491 [.va 1])))=true):
 dI I (.va 0)=((dL I (.va 1)).length:Int)/\ ∀D:List Val,D.Perm (I.w 1).toL->I.f 490 [.vl D]=I.f 490 [I.w 1]/\dB (I.upd 1 [.vl D]) (zn (zb (zl 1) 400) (.app 431 [.va 1]))=true:=by
 have hn:(decide ((I.w 0).toI=((I.w 1).toL.length:Int))&&((decide (((I.w 1).toL.length:Int)<=400)&&(I.f 431 [I.w 1]).toB)&&(I.f 491 [I.w 1]).toB))=true:=hn;obtain⟨h1,h2⟩:=Q8 hn;obtain⟨h2,h3⟩:=Q8 h2;obtain⟨h4,h5⟩:=Q8 h2;rw[hf]at h3 h5;refine⟨j6 h1,λD hD=> ?_⟩;have nd:ND (I.w 1).toL:=j6 (p:=((I.w 1).toL.map R8).Nodup) h3;refine⟨?_,?_⟩
 .rw[hf,hf];show Val.vl (S7.srt false D)= .vl (S7.srt false (I.w 1).toL);grind[YL,de8]
 .show(decide ((D.length:Int)<=400)&&(I.f 431 [.vl D]).toB)=true;rw[hf];have h4:=j6 h4;have:=hD.length_eq;refine S7.and2 (e9 (by omega)) (S7.and2 rfl ?_);have hall:=k6.1 (S7.f431 h5).2;exact k6.2 λx hx=>hall x (hD.mem_iff.1 hx)
theorem df0{r:Val}(h:S9.rowS r):S7.okK r=true:=by
 obtain⟨k,a,b,c,d,e,f,rfl,_⟩:=h;rfl
theorem pw:S9.XOk F0 where
 x431 l h:=by
  show(true&&l.all S7.okK)=true;simp_all[A5,k6,df0]
 x491 l h:=e9 h
 x490 l h:=⟨S7.srt false l,rfl,S7.srt_perm false l⟩
 x490u l l' h hp hn:=congrArg Val.vl (YL hp hn)
 x3 v:=congrArg Val.vb (cH3 _)
theorem Ki{v:Val}(h:(F0 431 [v]).toB=true):v= .vl v.toL/\ ∀r∈v.toL,W3 r=r:=by
 obtain⟨h1,h2⟩:=Q8 (show(S7.isL v&&v.toL.all S7.okK)=true from h);grind[S7.isL_at,S7.okK_at,List.all_eq_true]
theorem dR9(v:Val)(h:(F0 491 [v]).toB=true):(v.toL.map R8).Nodup:=j6 h
end Go.Ev
namespace Go.Ev.S9
open Go Go.Ev
theorem df2{a b:Val}(h1: ¬spanV b a<0)(h2: ¬spanV a b<0):R6 a=R6 b:=by
 have n: ∀x y:Val,¬spanV x y<0-> ¬(ci x 1<ci y 1\/ci x 1=ci y 1/\ci x 0<ci y 0):=λx y h hc=>by
  apply h;have:=IK x y;rw[e9 hc]at this;exact j6 (p:=spanV x y<0) this
 have a1:=n b a h1;have a2:=n a b h2;exact Prod.ext (show ci a 0=ci b 0 by omega) (show ci a 1=ci b 1 by omega)
theorem cv6{D l:List Val}(hp:D.Perm l)(hn:(l.map R6).Nodup):dT spanV D=dT spanV l:=by
 obtain⟨p1,s1⟩:=yc swo_spanV D;obtain⟨p2,s2⟩:=yc swo_spanV l;refine List.Perm.eq_of_pairwise (le:=λa b=> ¬spanV b a<0) (λa b ha hb h1 h2=> ?_) (s1.imp λ{a b} h=>h) (s2.imp λ{a b} h=>h) ((p1.trans hp).trans p2.symm);grind[Vl,df2]
theorem sortsb_ok{I:Opq}(hf: ∀i a,I.f i a=F i a)(hn:dB I (zn (.op (.cmp .eql) [.va 0,zl 1]) (zn (zb (zl 1) 1000000) (.app 716 [.va 1])))=true):
 dI I (.va 0)=((dL I (.va 1)).length:Int)/\ ∀D:List Val,D.Perm (I.w 1).toL->I.f 715 [.vl D]=I.f 715 [I.w 1]/\dB (I.upd 1 [.vl D]) (zn (.op (.cmp .eql) [zl 1,zl 1]) (zb (zl 1) 1000000))=true:=by
 rw[Y4,Y4,bK,T5,V6,S2,bx,W4]at hn;obtain⟨h1,h2⟩:=Q8 hn;obtain⟨h3,h4⟩:=Q8 h2;have h4:(I.f 716 [I.w 1]).toB=true:=h4;rw[hf]at h4;have h4:((I.w 1).toL.map R6).Nodup:=j6 (p:=((I.w 1).toL.map R6).Nodup) h4;refine⟨j6 h1,λD hD=>⟨?_,?_⟩⟩
 .rw[hf,hf];show Val.vl (dT spanV D)= .vl (dT spanV (I.w 1).toL);rw[cv6 hD h4]
 .have hl:=hD.length_eq;have w1:(I.upd 1 [.vl D]).w 1= .vl D:=by rw[T1];simp
  rw[Y4,bK,T5,S2,bx,W4,w1];simp_all
theorem sins_ok{I:Opq}(hf: ∀i a,I.f i a=F i a)(hn:dB I (.app 713 [.va 0,.va 1,.va 2,.va 3,.va 4])=true):
 ∃(l:List Val) (j:Nat),(I.w 0).toL=l/\dI I (.va 1)=(l.length:Int)/\dI I (.va 2)=(j:Int)/\j<=l.length/\l.length<=24/\aM I (.app 714 [.va 0,.va 1,.va 2,.va 3,.va 4])= .vl ((l.take j).map sX++[.vl [I.w 3,I.w 4]]++(l.drop j).map sX):=by
 have hn:(I.f 713 [I.w 0,I.w 1,I.w 2,I.w 3,I.w 4]).toB=true:=hn;rw[hf]at hn;have hn:(decide ((I.w 1).toI=((I.w 0).toL.length:Int))&&decide (0<=(I.w 2).toI)&&decide ((I.w 2).toI<=((I.w 0).toL.length:Int))&&decide ((I.w 0).toL.length<=24))=true:=hn;obtain⟨h1,h2⟩:=Q8 hn;obtain⟨h3,h4⟩:=Q8 h1;obtain⟨h5,h6⟩:=Q8 h3;have h2:=j6 h2;have h4:=j6 h4;have h5:=j6 h5;have h6:=j6 h6;refine⟨_,(I.w 2).toI.toNat,rfl,h5,(Q2 h6).symm,by omega,h2,?_⟩;show I.f 714 [I.w 0,I.w 1,I.w 2,I.w 3,I.w 4]=_;rw[hf];rfl
theorem dS0(w:List Val):(dJ w).length<=(aN w 4).toL.length:=by
 unfold dJ;split
 .grind
 .split
  .unfold ko;split
   .exact p7 _
   .unfold gK;have h1:=Y7 (g:=λi=>jy (aN w 6) ((gJ (aN w 3) (aN w 4).toL (aN w 6) (aN w 7)).getD 0 default) ((gJ (aN w 3) (aN w 4).toL (aN w 6) (aN w 7)).getD 1 default) (aO (fh (aN w 3) (aN w 4).toL (aN w 6) (aN w 7)) i)) (m:=1) (λi=>Oz _ _ _ _) (fh (aN w 3) (aN w 4).toL (aN w 6) (aN w 7)).length;have h2:(fh (aN w 3) (aN w 4).toL (aN w 6) (aN w 7)).length=(gP (aN w 3) (aN w 4).toL (aN w 6) (aN w 7)).length:=by unfold fh;rw[List.length_map]
    have h3:=Nw (aN w 3) (aN w 4).toL (aN w 6) (aN w 7);omega
  grind
theorem dS1(w:List Val):(cj (FE F0) w).toL.length<=16:=by
 unfold cj;split
 .simp_all
 .split
  .rw[af3];unfold jV;grind
  .split
   .simp_all
   .show(S7.srt false (cS (aN w 4).toL (bh (aN w 0).toI (aN w 1).toI (aN w 2).toI (aN w 3).toI (aN w 7)) (aN w 6) (aN w 8) (bh (aN w 0).toI (aN w 1).toI (aN w 2).toI (aN w 3).toI (aN w 7)).length)).length<=16;rw[S7.srt_len];have h1:(cS (aN w 4).toL (bh (aN w 0).toI (aN w 1).toI (aN w 2).toI (aN w 3).toI (aN w 7)) (aN w 6) (aN w 8) (bh (aN w 0).toI (aN w 1).toI (aN w 2).toI (aN w 3).toI (aN w 7)).length).length=_:=jH (λi=>kC (aN w 4).toL (aN w 6) (aN w 8) (aO (bh (aN w 0).toI (aN w 1).toI (aN w 2).toI (aN w 3).toI (aN w 7)) i)) _;grind[cT3,aN]
theorem put_t{I:Opq}(hf: ∀i a,I.f i a=FT (FE F0) i a)(hn:dB I (zn (zn (zn (zb (zl 4) 400) (.app 431 [.va 4])) (.app 491 [.va 4])) (.app 739 [.va 0,.va 4,.va 6]))=true):
 R0 T_put I=some (0,[.vi (bY (w9 I)),eY (FE F0) (w9 I)]):=by
 have h4:((I.w 4).toL.length:Int)<=400:=by
  exact j6 (Q8 (Q8 (Q8 hn).1).1).1
 have h1:=dS0 (w9 I);have h2:=dS1 (w9 I);have e:aN (w9 I) 4=I.w 4:=rfl;grind[dL8]
def my:VT->Bool
 | .ret 0 [.cb true]=>true
 | .both a b=>my a&&my b
 |_=>false
theorem allT_ok{I:Opq}: ∀{t:VT},my t=true->R0 t I=some (0,[.vb true])
 | .ret i o,h=>by
   unfold my at h;split at h
   .rename_i e;cases e;rfl
   .grind
   .cases h
 | .both a b,h=>by
   obtain⟨h1,h2⟩:=Q8 (show(my a&&my b)=true from h);have a1:=allT_ok (I:=I) h1;have a2:=allT_ok (I:=I) h2;grind[R0]
 | .bad,h=>by simp[my]at h
 | .ite _ _ _,h=>by simp[my]at h
 | .need _ _,h=>by simp[my]at h
 | .loop _ _ _,h=>by simp[my]at h
 | .mloop _ _ _ _,h=>by simp[my]at h
end Go.Ev.S9
