import Derived.Test.YtdbiooidpgafaaaGreatEG3
import Derived.Test.YtdbiooidpgafaaaGreatEL19
import Derived.Test.YtdbiooidpgafaaaGreatE43
set_option linter.unusedSimpArgs false
set_option linter.unusedVariables false
namespace Go.Ev
open Go
def ND(l:List Val):Prop:=(l.map Q5).Nodup
theorem cU0{a b:List Val}(h:a.Perm b)(hb:ND b):ND a:=((h.map Q5).nodup_iff).2 hb
theorem cU1{L:List Val}(h:ND L)(x:Val):(L.filter (S7.eqv false x)).length≤1:=by
 have h2:((L.filter (S7.eqv false x)).map Q5).Nodup:=h.sublist (List.filter_sublist.map _)
 have h3: ∀y,y∈L.filter (S7.eqv false x)→Q5 x=Q5 y:=fun y hy=>by
  obtain⟨a,b⟩:=S7.eqv_iff.1 (n7.1 hy).2
  exact bj9 a b
 match hf:L.filter (S7.eqv false x),h2,h3 with
 | [],_,_=>exact l6 _
 | [a],_,_=>exact e8 _
 |a::b::q,h2,h3=>
  exfalso
  rw[k6,B2]at h2
  exact h2.1 (by rw[←h3 a r8,h3 b (by simp)];exact r8)
theorem cF2{L M:List Val}(h:L.Perm M)(hL:ND L):S7.srt false L=S7.srt false M:=by
 refine S7.srt_cl fun x=> ?_
 have hp:=h.filter (S7.eqv false x)
 have h1:=cU1 hL x
 match hf:L.filter (S7.eqv false x),h1,hp with
 | [],_,hp=>exact(List.nil_perm.1 hp).symm
 | [a],_,hp=>exact List.singleton_perm.1 hp
 |_::_::_,h1,_=>simp at h1
theorem da4{ω:Opq}(hf: ∀i a,ω.f i a=F i a)(hn:dB ω (zn (.op (.cmp .eql) [.va 0,zl 1]) (zn (zn (zb (zl 1) 400) (.app 431 [.va 1])) (.app 491 [.va 1])))=true):
 dI ω (.va 0)=((dL ω (.va 1)).length:Int)∧ ∀D:List Val,D.Perm (ω.w 1).toL→ω.f 490 [.vl D]=ω.f 490 [ω.w 1]∧dB (ω.upd 1 [.vl D]) (zn (zb (zl 1) 400) (.app 431 [.va 1]))=true:=by
 have hn:(decide ((ω.w 0).toI=((ω.w 1).toL.length:Int))&&((decide (((ω.w 1).toL.length:Int)≤400)&&(ω.f 431 [ω.w 1]).toB)&&(ω.f 491 [ω.w 1]).toB))=true:=hn
 obtain⟨h1,h2⟩:=P8 hn
 obtain⟨h2,h3⟩:=P8 h2
 obtain⟨h4,h5⟩:=P8 h2
 rw[hf]at h3 h5
 refine⟨of_decide_eq_true h1,fun D hD=> ?_⟩
 have nd:ND (ω.w 1).toL:=of_decide_eq_true (p:=((ω.w 1).toL.map Q5).Nodup) h3
 refine⟨?_,?_⟩
 ·rw[hf,hf]
  show Val.vl (S7.srt false D)= .vl (S7.srt false (ω.w 1).toL)
  rw[cF2 hD (cU0 hD nd)]
 ·show(decide ((D.length:Int)≤400)&&(ω.f 431 [.vl D]).toB)=true
  rw[hf]
  have h4:=of_decide_eq_true h4
  have:=hD.length_eq
  refine S7.and2 (decide_eq_true (by omega)) (S7.and2 rfl ?_)
  have hall:=j5.1 (S7.f431 h5).2
  exact j5.2 fun x hx=>hall x (hD.mem_iff.1 hx)
theorem F_3(a:List Val):F 3 a= .vb (eqB (bR7 (arg a 0)) (bR7 (arg a 1))):=rfl
theorem da5(a:List Val):F 107 a=cv6 bR6 (arg a 4).toL (arg a 7).toL:=rfl
theorem cU2{ω:Opq}(hf: ∀i a,ω.f i a=F i a)(hn:(ω.w 0).toL.length≤1000000):Q1 b74 ω=some (0,[F 3 [ω.w 0,ω.w 1]]):=by
 unfold b74 dp3
 simp only[Q1,ai5,Q4,den,dB,X5,List.cons_append,List.nil_append]
 by_cases hl:(ω.w 0).toL.length=(ω.w 1).toL.length
 ·have hl':((ω.w 0).toL.length:Int)=(ω.w 1).toL.length:=by rw[hl]
  rw[aQ7 (bad:=fun i=> !decide (bR6 (atV (ω.w 0).toL i)=bR6 (atV (ω.w 1).toL i))) (px:=fun k=>[.vb false,.vi k]) (n:=(ω.w 0).toL.length)]
  ·simp only[hf,F_3,da5,cx0,cx1,bJ7 bR6 _ _ hl,bm5 bR6 _ _ hl,hl']
   by_cases h:(ω.w 0).toL.map bR6=(ω.w 1).toL.map bR6<;>simp[ai5,Q1,h,den,Q4,X5,W4,R6,hf,F_3,da5,cx0,cx1,hl',eqB,bJ7 bR6 _ _ hl,bR7]
  ·intro i hi hb
   have hi':i<(ω.w 1).toL.length:=by omega
   simp only[Bool.not_eq_false',decide_eq_true_eq,bJ8]at hb
   simp[hi,hi',Q3,cx2 (show i≤10000000 by omega),ay6,ay7,ay8,aZ6,aZ7,aZ8,aZ9,hb]
  ·intro i hi hb
   have hi':i<(ω.w 1).toL.length:=by omega
   simp only[x5,decide_eq_false_iff_not,bJ8]at hb
   simp[hi,hi',Q3,ay6,ay7,ay8,aZ6,aZ7,aZ8,aZ9]
   simpa using hb
  ·simp[Q3]
 ·have hl': ¬((ω.w 0).toL.length:Int)=(ω.w 1).toL.length:=by omega
  simp[hl',F_3,cx0,cx1,bR7,eqB,d79 _ hl,Q4,den]
theorem cU3{r:Val}(h:S9.rowS r):S7.okK r=true:=by
 obtain⟨k,a,b,c,d,e,f,rfl,_⟩:=h
 rfl
theorem dp5:S9.XOk F0 where
 x431 l h:=by
  show(true&&l.all S7.okK)=true
  rw[B5,j5]
  exact fun r hr=>cU3 (h r hr)
 x491 l h:=decide_eq_true h
 x490 l h:=⟨S7.srt false l,rfl,S7.srt_perm false l⟩
 x490u l l' h hp hn:=congrArg Val.vl (cF2 hp hn)
 x3 v:=congrArg Val.vb (cv5 _)
theorem dm9{v:Val}(h:(F0 431 [v]).toB=true):v= .vl v.toL∧ ∀r∈v.toL,a30 r=r:=by
 obtain⟨h1,h2⟩:=P8 (show(S7.isL v&&v.toL.all S7.okK)=true from h)
 exact⟨S7.isL_at h1,fun r hr=>S7.okK_at (j5.1 h2 r hr)⟩
theorem dn0(v:Val)(h:(F0 491 [v]).toB=true):(v.toL.map Q5).Nodup:=of_decide_eq_true h
end Go.Ev
namespace Go.Ev.S9
open Go Go.Ev
theorem cU4{a b:Val}(h1: ¬spanV b a<0)(h2: ¬spanV a b<0):Q7 a=Q7 b:=by
 have n: ∀x y:Val,¬spanV x y<0→ ¬(ci x 1<ci y 1∨ci x 1=ci y 1∧ci x 0<ci y 0):=fun x y h hc=>by
  apply h
  have:=aI4 x y
  rw[decide_eq_true hc]at this
  exact of_decide_eq_true (p:=spanV x y<0) this
 have a1:=n b a h1
 have a2:=n a b h2
 exact A3 (show ci a 0=ci b 0 by omega) (show ci a 1=ci b 1 by omega)
theorem ck0{D l:List Val}(hp:D.Perm l)(hn:(l.map Q7).Nodup):a81 spanV D=a81 spanV l:=by
 obtain⟨p1,s1⟩:=a98 swo_spanV D
 obtain⟨p2,s2⟩:=a98 swo_spanV l
 refine List.Perm.eq_of_pairwise (le:=fun a b=> ¬spanV b a<0) (fun a b ha hb h1 h2=> ?_) (s1.imp fun {a b} h=>h) (s2.imp fun {a b} h=>h) ((p1.trans hp).trans p2.symm)
 exact bk0 hn (hp.mem_iff.1 (p1.mem_iff.1 ha)) (p2.mem_iff.1 hb) (cU4 h1 h2)
theorem sortsb_ok{ω:Opq}(hf: ∀i a,ω.f i a=F i a)(hn:dB ω (zn (.op (.cmp .eql) [.va 0,zl 1]) (zn (zb (zl 1) 1000000) (.app 716 [.va 1])))=true):
 dI ω (.va 0)=((dL ω (.va 1)).length:Int)∧ ∀D:List Val,D.Perm (ω.w 1).toL→ω.f 715 [.vl D]=ω.f 715 [ω.w 1]∧dB (ω.upd 1 [.vl D]) (zn (.op (.cmp .eql) [zl 1,zl 1]) (zb (zl 1) 1000000))=true:=by
 rw[Z1,Z1,aC8,V3,ad3,U9,cx6,a08]at hn
 obtain⟨h1,h2⟩:=P8 hn
 obtain⟨h3,h4⟩:=P8 h2
 have h4:(ω.f 716 [ω.w 1]).toB=true:=h4
 rw[hf]at h4
 have h4:((ω.w 1).toL.map Q7).Nodup:=of_decide_eq_true (p:=((ω.w 1).toL.map Q7).Nodup) h4
 have h3:=of_decide_eq_true h3
 refine⟨of_decide_eq_true h1,fun D hD=>⟨?_,?_⟩⟩
 ·rw[hf,hf]
  show Val.vl (a81 spanV D)= .vl (a81 spanV (ω.w 1).toL)
  rw[ck0 hD h4]
 ·have hl:=hD.length_eq
  have w1:(ω.upd 1 [.vl D]).w 1= .vl D:=by rw[Q3];simp
  rw[Z1,aC8,V3,U9,cx6,a08,w1]
  rw[e9]
  exact⟨decide_eq_true rfl,decide_eq_true (by show(D.length:Int)≤1000000;omega)⟩
theorem sins_ok{ω:Opq}(hf: ∀i a,ω.f i a=F i a)(hn:dB ω (.app 713 [.va 0,.va 1,.va 2,.va 3,.va 4])=true):
 ∃(l:List Val) (j:Nat),(ω.w 0).toL=l∧dI ω (.va 1)=(l.length:Int)∧dI ω (.va 2)=(j:Int)∧j≤l.length∧l.length≤24∧den ω (.app 714 [.va 0,.va 1,.va 2,.va 3,.va 4])= .vl ((l.take j).map cO6++[.vl [ω.w 3,ω.w 4]]++(l.drop j).map cO6):=by
 have hn:(ω.f 713 [ω.w 0,ω.w 1,ω.w 2,ω.w 3,ω.w 4]).toB=true:=hn
 rw[hf]at hn
 have hn:(decide ((ω.w 1).toI=((ω.w 0).toL.length:Int))&&decide (0≤(ω.w 2).toI)&&decide ((ω.w 2).toI≤((ω.w 0).toL.length:Int))&&decide ((ω.w 0).toL.length≤24))=true:=hn
 obtain⟨h1,h2⟩:=P8 hn
 obtain⟨h3,h4⟩:=P8 h1
 obtain⟨h5,h6⟩:=P8 h3
 have h2:=of_decide_eq_true h2
 have h4:=of_decide_eq_true h4
 have h5:=of_decide_eq_true h5
 have h6:=of_decide_eq_true h6
 refine⟨_,(ω.w 2).toI.toNat,rfl,h5,(K9 h6).symm,by omega,h2,?_⟩
 show ω.f 714 [ω.w 0,ω.w 1,ω.w 2,ω.w 3,ω.w 4]=_
 rw[hf];rfl
theorem dn1(w:List Val):(ay5 w).length≤(arg w 4).toL.length:=by
 unfold ay5
 split
 ·exact l6 _
 ·split
  ·unfold seG
   split
   ·exact l6 _
   ·unfold goV
    have h1:=a64 (g:=fun i=>goF (arg w 6) ((nwP (arg w 3) (arg w 4).toL (arg w 6) (arg w 7)).getD 0 default) ((nwP (arg w 3) (arg w 4).toL (arg w 6) (arg w 7)).getD 1 default) (atV (pnV (arg w 3) (arg w 4).toL (arg w 6) (arg w 7)) i)) (m:=1) (fun i=>by2 _ _ _ _) (pnV (arg w 3) (arg w 4).toL (arg w 6) (arg w 7)).length
    have h2:(pnV (arg w 3) (arg w 4).toL (arg w 6) (arg w 7)).length=(jnV (arg w 3) (arg w 4).toL (arg w 6) (arg w 7)).length:=by unfold pnV;rw[List.length_map]
    have h3:=by1 (arg w 3) (arg w 4).toL (arg w 6) (arg w 7)
    omega
  ·exact l6 _
theorem dn2(w:List Val):(as8 F0 w).toL.length≤16:=by
 unfold as8
 split
 ·exact l6 _
 ·split
  ·rw[a75]
   unfold seR
   split
   ·exact l6 _
   ·show 1≤16
    omega
  ·split
   ·exact l6 _
   ·show(S7.srt false (tpL (arg w 4).toL (ofV (arg w 0).toI (arg w 1).toI (arg w 2).toI (arg w 3).toI (arg w 7)) (arg w 6) (arg w 8) (ofV (arg w 0).toI (arg w 1).toI (arg w 2).toI (arg w 3).toI (arg w 7)).length)).length≤16
    rw[S7.srt_len]
    have h1:(tpL (arg w 4).toL (ofV (arg w 0).toI (arg w 1).toI (arg w 2).toI (arg w 3).toI (arg w 7)) (arg w 6) (arg w 8) (ofV (arg w 0).toI (arg w 1).toI (arg w 2).toI (arg w 3).toI (arg w 7)).length).length=_:=a18 (fun i=>tpR (arg w 4).toL (arg w 6) (arg w 8) (atV (ofV (arg w 0).toI (arg w 1).toI (arg w 2).toI (arg w 3).toI (arg w 7)) i)) _
    have h2:=ci5 (arg w 0).toI (arg w 1).toI (arg w 2).toI (arg w 3).toI (arg w 7)
    omega
theorem put_t{ω:Opq}(hf: ∀i a,ω.f i a=FT F0 i a)(hn:dB ω (zn (zn (zn (zb (zl 4) 400) (.app 431 [.va 4])) (.app 491 [.va 4])) (.app 739 [.va 0,.va 4,.va 6]))=true):
 Q1 T_put ω=some (0,[.vi (ao5 (w9 ω)),aU1 F0 (w9 ω)]):=by
 have h4:((ω.w 4).toL.length:Int)≤400:=by
  rw[Z1,Z1,Z1,V3,U9,a08]at hn
  exact of_decide_eq_true (P8 (P8 (P8 hn).1).1).1
 have h1:=dn1 (w9 ω)
 have h2:=dn2 (w9 ω)
 have e:arg (w9 ω) 4=ω.w 4:=rfl
 rw[e]at h1
 exact dm0 hf (by omega) (by omega) hn
def ck1:VT→Bool
 | .ret 0 [.cb true]=>true
 | .both a b=>ck1 a&&ck1 b
 |_=>false
theorem allT_ok{ω:Opq}: ∀{t:VT},ck1 t=true→Q1 t ω=some (0,[.vb true])
 | .ret i o,h=>by
   unfold ck1 at h
   split at h
   ·rename_i e;cases e;rfl
   ·rename_i e;cases e
   ·cases h
 | .both a b,h=>by
   obtain⟨h1,h2⟩:=P8 (show(ck1 a&&ck1 b)=true from h)
   have a1:=allT_ok (ω:=ω) h1
   have a2:=allT_ok (ω:=ω) h2
   simp[Q1,a1,a2]
 | .bad,h=>by simp[ck1]at h
 | .ite _ _ _,h=>by simp[ck1]at h
 | .need _ _,h=>by simp[ck1]at h
 | .loop _ _ _,h=>by simp[ck1]at h
 | .mloop _ _ _ _,h=>by simp[ck1]at h
end Go.Ev.S9
