import Derived.Test.YtagmhdcpfhpmfaaGreatE26
set_option linter.unusedVariables false
set_option linter.unusedSimpArgs false
namespace Go.Ev
open Go
variable{β β':Bij}{ω ω':Opq}{K:Nat→Prop}{w0 w:World}{h:Heap}
structure Agr (v0:Nat) (ω ω':Opq):Prop where
 w: ∀n,n<v0→ω'.w n=ω.w n
 f:ω'.f=ω.f
 v:ω'.v=ω.v
 fix:ω'.fix=ω.fix
theorem bq1(ω:Opq)(v0:Nat)(l:List Val):Agr v0 ω (ω.upd v0 l):=
 ⟨fun n hn=>by simp only[Opq.upd];rw[if_neg (by omega)],rfl,rfl,rfl⟩
theorem cZ0{ω:Opq}{v0:Nat}{l:List Val}{j:Nat}{x:Val}(h:l[j]? =some x):(ω.upd v0 l).w (v0+j)=x:=by
 simp only[Opq.upd]
 rw[if_pos (by omega),show v0+j-v0=j by omega,n6,h];rfl
mutual
theorem ad8{v0:Nat}(g:Agr v0 ω ω'): ∀(e:SX),R7 v0 e=true→den ω' e=den ω e
 | .ci n,_=>rfl
 | .cs l,_=>rfl
 | .cb x,_=>rfl
 | .va m,h=>by simp only[R7]at h;simp only[den];exact g.w m (by simpa using h)
 | .op p l,h=>by simp only[R7]at h;simp only[den];rw[bq2 g l h]
 | .app p l,h=>by simp only[R7]at h;simp only[den];rw[bq2 g l h,g.f]
theorem bq2{v0:Nat}(g:Agr v0 ω ω'): ∀(l:List SX),a61 v0 l=true→I9 ω' l=I9 ω l
 | [],_=>rfl
 |a::r,h=>by
  simp only[a61,d6]at h
  simp only[I9]
  rw[ad8 g a h.1,bq2 g r h.2]
end
theorem bF7{v0:Nat}(g:Agr v0 ω ω'){e:SX}(h:R7 v0 e=true):dI ω' e=dI ω e:=by unfold dI;rw[ad8 g e h]
theorem dc7{v0:Nat}(g:Agr v0 ω ω'){e:SX}(h:R7 v0 e=true):dS ω' e=dS ω e:=by unfold dS;rw[ad8 g e h]
theorem dc8{v0:Nat}(g:Agr v0 ω ω'){e:SX}(h:R7 v0 e=true):dB ω' e=dB ω e:=by unfold dB;rw[ad8 g e h]
theorem b35(ω:Opq): ∀a:List SX,(I9 ω a).length=a.length
 | []=>rfl
 |x::a=>by simp only[I9,List.length_cons,b35 ω a]
mutual
theorem ay6{v0 nb:Nat}(g:Agr v0 ω ω')(hb: ∀b,b<nb→β' b=β b): ∀(x:AV) (v:Value),okA v0 nb x=true→VR β ω x v→VR β' ω' x v
 | .bool _,v,_,r=>r
 | .int _ _,v,_,r=>r
 | .str _,v,_,r=>r
 | .nilp,v,_,r=>r
 | .ptr b _,v,h,⟨L,e,q⟩=>⟨L,(hb b (by simpa[okA]using h)).trans e,q⟩
 | .glob _,v,_,r=>r
 | .nils,v,_,r=>r
 | .sl b _ _ _,v,h,⟨L,e,q⟩=>⟨L,(hb b (by simpa[okA]using h)).trans e,q⟩
 | .us b _ _ _,v,h,⟨L,c,e,q⟩=>⟨L,c,(hb b (by simpa[okA]using h)).trans e,q⟩
 | .es b _ _,v,h,⟨L,a,c,e,q⟩=>⟨L,a,c,(hb b (by simpa[okA]using h)).trans e,q⟩
 | .es0,v,_,r=>r
 | .nilm,v,_,r=>r
 | .map b,v,h,⟨L,e,q⟩=>⟨L,(hb b (by simpa[okA]using h)).trans e,q⟩
 | .nilf,v,_,r=>r
 | .func fn x y,v,h,⟨n,p,q,e,r1,r2⟩=>by
   simp only[okA,d6]at h
   exact⟨n,p,q,e,aq3 g hb x _ h.1 r1,aq3 g hb y _ h.2 r2⟩
 | .yield b,v,h,⟨L,e,q⟩=>⟨L,(hb b (by simpa[okA]using h)).trans e,q⟩
 | .nili,v,_,r=>r
 | .iface t x,v,h,⟨y,e,q⟩=>⟨y,e,ay6 g hb x y (by simpa[okA]using h) q⟩
 | .agg l,v,h,⟨xs,e,q⟩=>⟨xs,e,aq3 g hb l _ (by simpa[okA]using h) q⟩
 | .tup l,v,h,⟨xs,e,q⟩=>⟨xs,e,aq3 g hb l _ (by simpa[okA]using h) q⟩
 | .opq n,v,_,r=>by show v=ω'.v n;rw[g.v];exact r
 | .oint k e,v,h,r=>by show v= .int k (dI ω' e);rw[bF7 g (by simpa[okA]using h)];exact r
 | .ostr e,v,h,r=>by show v= .string ⟨(dS ω' e).toArray⟩;rw[dc7 g (by simpa[okA]using h)];exact r
 | .obool e,v,h,r=>by show v= .bool (dB ω' e);rw[dc8 g (by simpa[okA]using h)];exact r
 | .osl b x y sz,v,h,r=>by
   simp only[okA,d6,Nat.blt_eq]at h
   simp only[VR]at r⊢
   rw[bF7 g h.1.2,bF7 g h.2,hb b h.1.1];exact r
 | .optr b x j sz,v,h,r=>by
   simp only[okA,d6,Nat.blt_eq]at h
   simp only[VR]at r⊢
   rw[bF7 g h.2,hb b h.1];exact r
 | .ous b x sz,v,h,r=>by
   simp only[okA,d6,Nat.blt_eq]at h
   simp only[VR]at r⊢
   rw[bF7 g h.2,hb b h.1];exact r
 | .atl _,v,_,r=>r
 | .any,_,_,_=>trivial
theorem aq3{v0 nb:Nat}(g:Agr v0 ω ω')(hb: ∀b,b<nb→β' b=β b): ∀(l:List AV) (vs:List Value),ca8 v0 nb l=true→VRs β ω l vs→VRs β' ω' l vs
 | [],vs,_,r=>r
 |a::l,vs,h,⟨v,vr,e,p,q⟩=>by
  simp only[ca8,d6]at h
  exact⟨v,vr,e,ay6 g hb a v h.1 p,aq3 g hb l vr h.2 q⟩
end
theorem ad9{v0 n:Nat}{p x:SX}{es:List SX}(g:Agr v0 ω ω')(h:bW9 v0 n p x=some es)(hw: ∀j e,es[j]? =some e→ω'.w (v0+(n+j))=den ω e):den ω' p=den ω x:=by
 unfold bW9 at h
 split at h
 ·rename_i m hm
  obtain⟨h1,h2⟩:=G8 h
  simp only[d5]at h2;subst h2
  unfold bJ8 at hm
  split at hm
  ·rename_i k
   obtain⟨h3,h4⟩:=G8 hm
   simp only[d5]at h4
   rw[J4]at h3
   obtain rfl:=I6.1 h1
   have:=hw 0 x rfl
   simp only[den]
   rw[←this];congr 1;omega
  ·cases hm
 ·obtain⟨h1,h2⟩:=G8 h
  obtain⟨h3,h4⟩:=I4 h1
  rw[SX.beq_eq _ _ h3]
  exact ad8 g x h4
theorem Q7{v0 nb:Nat}(g:Agr v0 ω ω')(hb: ∀b,b<nb→β' b=β b){p x:AV}{es:List SX}{v:Value}(h:(bif AV.beq p x&&okA v0 nb x then some ([]:List SX)else none)=some es)(r:VR β ω x v):VR β' ω' p v:=by
 obtain⟨h1,_⟩:=G8 h
 obtain⟨h2,h3⟩:=I4 h1
 rw[AV.beq_eq _ _ h2]
 exact ay6 g hb x v h3 r
theorem cF7{v0 n:Nat}{p q x y:SX}{es:List SX}(g:Agr v0 ω ω')(h:bJ9 v0 n p q x y=some es)(hw: ∀j e,es[j]? =some e→ω'.w (v0+(n+j))=den ω e):den ω' p=den ω x∧den ω' q=den ω y:=by
 unfold bJ9 at h
 split at h
 ·rename_i e1 h1
  split at h
  ·rename_i e2 h2
   simp only[d5]at h;subst h
   refine⟨ad9 g h1 fun j e hj=>hw j e ?_,ad9 g h2 fun j e hj=> ?_⟩
   ·have hlt:=(n9.1 hj).1
    rw[k8 hlt];exact hj
   ·have:=hw (e1.length+j) e (by rw[k9 (v4 _ _),A9];exact hj)
    rw[←this];congr 1;omega
  ·cases h
 ·cases h
theorem cm1{v0 nb n b s:Nat}{p q:SX}{x:AV}{es:List SX}{v:Value}(g:Agr v0 ω ω')(hb: ∀b,b<nb→β' b=β b)(h:bB2 v0 nb n b p q s x=some es)(hw: ∀j e,es[j]? =some e→ω'.w (v0+(n+j))=den ω e)(r:VR β ω x v):VR β' ω' (.osl b p q s) v:=by
 unfold bB2 at h
 split at h
 ·obtain⟨h1,h2⟩:=G8 h
  obtain⟨h1,h3⟩:=I4 h1
  obtain⟨h1,h4⟩:=I4 h1
  obtain rfl:=I6.1 h1
  obtain rfl:=I6.1 h4
  rw[L9]at h3
  obtain⟨k1,k2⟩:=cF7 g h2 hw
  have k1:dI ω' p=dI ω _:=congrArg Val.toI k1
  have k2:dI ω' q=dI ω _:=congrArg Val.toI k2
  simp only[VR]at r⊢
  rw[k1,k2,hb _ h3];exact r
 ·cases h
theorem cm2{v0 nb n b s:Nat}{p:SX}{x:AV}{es:List SX}{v:Value}(g:Agr v0 ω ω')(hb: ∀b,b<nb→β' b=β b)(h:bB3 v0 nb n b p s x=some es)(hw: ∀j e,es[j]? =some e→ω'.w (v0+(n+j))=den ω e)(r:VR β ω x v):VR β' ω' (.ous b p s) v:=by
 unfold bB3 at h
 split at h
 ·obtain⟨h1,h2⟩:=G8 h
  obtain⟨h1,h3⟩:=I4 h1
  obtain⟨h1,h4⟩:=I4 h1
  obtain rfl:=I6.1 h1
  obtain rfl:=I6.1 h4
  rw[L9]at h3
  have k1:dI ω' p=dI ω _:=congrArg Val.toI (ad9 g h2 hw)
  simp only[VR]at r⊢
  rw[k1,hb _ h3];exact r
 ·cases h
mutual
theorem cm3{v0 nb:Nat}(g:Agr v0 ω ω')(hb: ∀b,b<nb→β' b=β b): ∀(n:Nat) (p x:AV) (es:List SX) (v:Value),P0 v0 nb n p x=some es→(∀j e,es[j]? =some e→ω'.w (v0+(n+j))=den ω e)→VR β ω x v→VR β' ω' p v
 |n,.any,x,es,v,h,hw,r=>trivial
 |n,.oint k p,x,es,v,h,hw,r=>by
  simp only[P0]at h
  unfold dm8 at h
  split at h
  ·rename_i k' e hs
   split at h
   ·rename_i hk;subst hk
    rw[a06 hs r]
    show Value.int k (dI ω e)= .int k (dI ω' p)
    unfold dI
    rw[ad9 g h hw]
   ·cases h
  ·cases h
 |n,.ostr p,x,es,v,h,hw,r=>by
  simp only[P0]at h
  unfold cO0 at h
  split at h
  ·rename_i e hs
   rw[ad6 hs r]
   show Value.string ⟨(dS ω e).toArray⟩= .string ⟨(dS ω' p).toArray⟩
   unfold dS
   rw[ad9 g h hw]
  ·cases h
 |n,.obool p,x,es,v,h,hw,r=>by
  simp only[P0]at h
  unfold cO0 at h
  split at h
  ·rename_i e hs
   rw[al7 hs r]
   show Value.bool (dB ω e)= .bool (dB ω' p)
   unfold dB
   rw[ad9 g h hw]
  ·cases h
 |n,.agg ps,.agg xs,es,v,h,hw,r=>by
  simp only[P0]at h
  obtain⟨ys,e,q⟩:=r
  exact⟨ys,e,bq3 g hb n ps xs es _ h hw q⟩
 |n,.agg ps,.bool _,es,v,h,hw,r=>by
  simp only[P0]at h
  exact Q7 g hb h r
 |n,.agg ps,.int _ _,es,v,h,hw,r=>by
  simp only[P0]at h
  exact Q7 g hb h r
 |n,.agg ps,.str _,es,v,h,hw,r=>by
  simp only[P0]at h
  exact Q7 g hb h r
 |n,.agg ps,.nilp,es,v,h,hw,r=>by
  simp only[P0]at h
  exact Q7 g hb h r
 |n,.agg ps,.ptr _ _,es,v,h,hw,r=>by
  simp only[P0]at h
  exact Q7 g hb h r
 |n,.agg ps,.glob _,es,v,h,hw,r=>by
  simp only[P0]at h
  exact Q7 g hb h r
 |n,.agg ps,.nils,es,v,h,hw,r=>by
  simp only[P0]at h
  exact Q7 g hb h r
 |n,.agg ps,.sl _ _ _ _,es,v,h,hw,r=>by
  simp only[P0]at h
  exact Q7 g hb h r
 |n,.agg ps,.us _ _ _ _,es,v,h,hw,r=>by
  simp only[P0]at h
  exact Q7 g hb h r
 |n,.agg ps,.es _ _ _,es,v,h,hw,r=>by
  simp only[P0]at h
  exact Q7 g hb h r
 |n,.agg ps,.es0,es,v,h,hw,r=>by
  simp only[P0]at h
  exact Q7 g hb h r
 |n,.agg ps,.nilm,es,v,h,hw,r=>by
  simp only[P0]at h
  exact Q7 g hb h r
 |n,.agg ps,.map _,es,v,h,hw,r=>by
  simp only[P0]at h
  exact Q7 g hb h r
 |n,.agg ps,.nilf,es,v,h,hw,r=>by
  simp only[P0]at h
  exact Q7 g hb h r
 |n,.agg ps,.func _ _ _,es,v,h,hw,r=>by
  simp only[P0]at h
  exact Q7 g hb h r
 |n,.agg ps,.yield _,es,v,h,hw,r=>by
  simp only[P0]at h
  exact Q7 g hb h r
 |n,.agg ps,.nili,es,v,h,hw,r=>by
  simp only[P0]at h
  exact Q7 g hb h r
 |n,.agg ps,.iface _ _,es,v,h,hw,r=>by
  simp only[P0]at h
  exact Q7 g hb h r
 |n,.agg ps,.tup _,es,v,h,hw,r=>by
  simp only[P0]at h
  exact Q7 g hb h r
 |n,.agg ps,.opq _,es,v,h,hw,r=>by
  simp only[P0]at h
  exact Q7 g hb h r
 |n,.agg ps,.atl _,es,v,h,hw,r=>by
  simp only[P0]at h
  exact Q7 g hb h r
 |n,.agg ps,.osl _ _ _ _,es,v,h,hw,r=>by
  simp only[P0]at h
  exact Q7 g hb h r
 |n,.agg ps,.optr _ _ _ _,es,v,h,hw,r=>by
  simp only[P0]at h
  exact Q7 g hb h r
 |n,.agg ps,.ous _ _ _,es,v,h,hw,r=>by
  simp only[P0]at h
  exact Q7 g hb h r
 |n,.agg ps,.oint _ _,es,v,h,hw,r=>by
  simp only[P0]at h
  exact Q7 g hb h r
 |n,.agg ps,.ostr _,es,v,h,hw,r=>by
  simp only[P0]at h
  exact Q7 g hb h r
 |n,.agg ps,.obool _,es,v,h,hw,r=>by
  simp only[P0]at h
  exact Q7 g hb h r
 |n,.agg ps,.any,es,v,h,hw,r=>by
  simp only[P0]at h
  exact Q7 g hb h r
 |n,.bool _,x,es,v,h,hw,r=>by
  simp only[P0]at h
  exact Q7 g hb h r
 |n,.int _ _,x,es,v,h,hw,r=>by
  simp only[P0]at h
  exact Q7 g hb h r
 |n,.str _,x,es,v,h,hw,r=>by
  simp only[P0]at h
  exact Q7 g hb h r
 |n,.nilp,x,es,v,h,hw,r=>by
  simp only[P0]at h
  exact Q7 g hb h r
 |n,.ptr _ _,x,es,v,h,hw,r=>by
  simp only[P0]at h
  exact Q7 g hb h r
 |n,.glob _,x,es,v,h,hw,r=>by
  simp only[P0]at h
  exact Q7 g hb h r
 |n,.nils,x,es,v,h,hw,r=>by
  simp only[P0]at h
  exact Q7 g hb h r
 |n,.sl _ _ _ _,x,es,v,h,hw,r=>by
  simp only[P0]at h
  exact Q7 g hb h r
 |n,.us _ _ _ _,x,es,v,h,hw,r=>by
  simp only[P0]at h
  exact Q7 g hb h r
 |n,.es _ _ _,x,es,v,h,hw,r=>by
  simp only[P0]at h
  exact Q7 g hb h r
 |n,.es0,x,es,v,h,hw,r=>by
  simp only[P0]at h
  exact Q7 g hb h r
 |n,.nilm,x,es,v,h,hw,r=>by
  simp only[P0]at h
  exact Q7 g hb h r
 |n,.map _,x,es,v,h,hw,r=>by
  simp only[P0]at h
  exact Q7 g hb h r
 |n,.nilf,x,es,v,h,hw,r=>by
  simp only[P0]at h
  exact Q7 g hb h r
 |n,.func _ _ _,x,es,v,h,hw,r=>by
  simp only[P0]at h
  exact Q7 g hb h r
 |n,.yield _,x,es,v,h,hw,r=>by
  simp only[P0]at h
  exact Q7 g hb h r
 |n,.nili,x,es,v,h,hw,r=>by
  simp only[P0]at h
  exact Q7 g hb h r
 |n,.iface _ _,x,es,v,h,hw,r=>by
  simp only[P0]at h
  exact Q7 g hb h r
 |n,.tup _,x,es,v,h,hw,r=>by
  simp only[P0]at h
  exact Q7 g hb h r
 |n,.opq _,x,es,v,h,hw,r=>by
  simp only[P0]at h
  exact Q7 g hb h r
 |n,.atl _,x,es,v,h,hw,r=>by
  simp only[P0]at h
  exact Q7 g hb h r
 |n,.osl _ _ _ _,x,es,v,h,hw,r=>by
  simp only[P0]at h
  exact cm1 g hb h hw r
 |n,.optr _ _ _ _,x,es,v,h,hw,r=>by
  simp only[P0]at h
  exact Q7 g hb h r
 |n,.ous _ _ _,x,es,v,h,hw,r=>by
  simp only[P0]at h
  exact cm2 g hb h hw r
theorem bq3{v0 nb:Nat}(g:Agr v0 ω ω')(hb: ∀b,b<nb→β' b=β b): ∀(n:Nat) (ps xs:List AV) (es:List SX) (vs:List Value),ax7 v0 nb n ps xs=some es→(∀j e,es[j]? =some e→ω'.w (v0+(n+j))=den ω e)→VRs β ω xs vs→VRs β' ω' ps vs
 |n,[],[],es,vs,h,hw,r=>r
 |n,[],_::_,es,vs,h,hw,r=>by simp[ax7]at h
 |n,_::_,[],es,vs,h,hw,r=>by simp[ax7]at h
 |n,p::ps,x::xs,es,vs,h,hw,⟨v,vr,e,r1,r2⟩=>by
  simp only[ax7]at h
  split at h
  ·rename_i e1 h1
   split at h
   ·rename_i e2 h2
    simp only[d5]at h;subst h
    refine⟨v,vr,e,cm3 g hb n p x e1 v h1 (fun j y hy=>hw j y ?_) r1,bq3 g hb _ ps xs e2 vr h2 (fun j y hy=> ?_) r2⟩
    ·rw[k8]
     ·exact hy
     ·rcases g8 j e1.length with hh|hh
      ·exact hh
      ·rw[j8 hh]at hy;cases hy
    ·have:=hw (e1.length+j) y (by rw[k9 (by omega)];rw[show e1.length+j-e1.length=j by omega];exact hy)
     rw[←this];congr 1;omega
   ·cases h
  ·cases h
end
theorem Agr.symm{v0:Nat}(g:Agr v0 ω ω'):Agr v0 ω' ω:=⟨fun n hn=>(g.w n hn).symm,g.f.symm,g.v.symm,g.fix.symm⟩
theorem a45{v0 n:Nat}{p x:SX}{es:List SX}{q:Nat→SX}(g:Agr v0 ω ω')(h:bW9 v0 n p x=some es)(hq: ∀j e,es[j]? =some e→den ω (q (n+j))=ω'.w (v0+(n+j))):den ω (T0 v0 q p)=den ω' p:=by
 unfold bW9 at h
 unfold T0
 split at h
 ·rename_i m hm
  obtain⟨h1,h2⟩:=G8 h
  simp only[d5]at h2;subst h2
  unfold bJ8 at hm
  split at hm
  ·rename_i k
   obtain⟨h3,h4⟩:=G8 hm
   simp only[d5]at h4
   rw[J4]at h3
   obtain rfl:=I6.1 h1
   have:=hq 0 x rfl
   simp only[den]
   rw[show m=m+0 from rfl,this];congr 1;omega
  ·cases hm
 ·rename_i hm
  obtain⟨h1,h2⟩:=G8 h
  obtain⟨h3,h4⟩:=I4 h1
  rw[SX.beq_eq _ _ h3]
  exact(ad8 g x h4).symm
theorem W9{v0 nb:Nat}{q:Nat→SX}(g:Agr v0 ω ω'){p x:AV}{es:List SX}{v:Value}(hp:aZ3 v0 q p=p)(h:(bif AV.beq p x&&okA v0 nb x then some ([]:List SX)else none)=some es)(r:VR β ω' p v):VR β ω (aZ3 v0 q p) v:=by
 obtain⟨h1,_⟩:=G8 h
 obtain⟨h2,h3⟩:=I4 h1
 rw[hp]
 rw[←AV.beq_eq _ _ h2]at h3
 exact ay6 (β':=β) g.symm (fun _ _=>rfl) p v h3 r
theorem cm4{v0 n:Nat}{p q x y:SX}{es:List SX}{f:Nat→SX}(g:Agr v0 ω ω')(h:bJ9 v0 n p q x y=some es)(hq: ∀j e,es[j]? =some e→den ω (f (n+j))=ω'.w (v0+(n+j))):den ω (T0 v0 f p)=den ω' p∧den ω (T0 v0 f q)=den ω' q:=by
 unfold bJ9 at h
 split at h
 ·rename_i e1 h1
  split at h
  ·rename_i e2 h2
   simp only[d5]at h;subst h
   refine⟨a45 g h1 fun j e hj=>hq j e ?_,a45 g h2 fun j e hj=> ?_⟩
   ·have hlt:=(n9.1 hj).1
    rw[k8 hlt];exact hj
   ·have:=hq (e1.length+j) e (by rw[k9 (v4 _ _),A9];exact hj)
    rw[show n+e1.length+j=n+(e1.length+j) by omega];exact this
  ·cases h
 ·cases h
mutual
theorem bZ9{v0 nb:Nat}{q:Nat→SX}(g:Agr v0 ω ω'): ∀(n:Nat) (p x:AV) (es:List SX) (v:Value),P0 v0 nb n p x=some es→(∀j e,es[j]? =some e→den ω (q (n+j))=ω'.w (v0+(n+j)))→VR β ω' p v→VR β ω (aZ3 v0 q p) v
 |n,.any,x,es,v,h,hw,r=>trivial
 |n,.oint k p,x,es,v,h,hw,r=>by
  simp only[P0]at h
  unfold dm8 at h
  split at h
  ·split at h
   ·show v= .int k (dI ω (T0 v0 q p))
    unfold dI
    rw[a45 g h hw];exact r
   ·cases h
  ·cases h
 |n,.ostr p,x,es,v,h,hw,r=>by
  simp only[P0]at h
  unfold cO0 at h
  split at h
  ·show v= .string ⟨(dS ω (T0 v0 q p)).toArray⟩
   unfold dS
   rw[a45 g h hw];exact r
  ·cases h
 |n,.obool p,x,es,v,h,hw,r=>by
  simp only[P0]at h
  unfold cO0 at h
  split at h
  ·show v= .bool (dB ω (T0 v0 q p))
   unfold dB
   rw[a45 g h hw];exact r
  ·cases h
 |n,.agg ps,.agg xs,es,v,h,hw,r=>by
  simp only[P0]at h
  obtain⟨ys,e,r1⟩:=r
  exact⟨ys,e,b36 g n ps xs es _ h hw r1⟩
 |n,.agg ps,.bool _,es,v,h,hw,r=>by
  simp only[P0,AV.beq,m6,cond_false]at h
  cases h
 |n,.agg ps,.int _ _,es,v,h,hw,r=>by
  simp only[P0,AV.beq,m6,cond_false]at h
  cases h
 |n,.agg ps,.str _,es,v,h,hw,r=>by
  simp only[P0,AV.beq,m6,cond_false]at h
  cases h
 |n,.agg ps,.nilp,es,v,h,hw,r=>by
  simp only[P0,AV.beq,m6,cond_false]at h
  cases h
 |n,.agg ps,.ptr _ _,es,v,h,hw,r=>by
  simp only[P0,AV.beq,m6,cond_false]at h
  cases h
 |n,.agg ps,.glob _,es,v,h,hw,r=>by
  simp only[P0,AV.beq,m6,cond_false]at h
  cases h
 |n,.agg ps,.nils,es,v,h,hw,r=>by
  simp only[P0,AV.beq,m6,cond_false]at h
  cases h
 |n,.agg ps,.sl _ _ _ _,es,v,h,hw,r=>by
  simp only[P0,AV.beq,m6,cond_false]at h
  cases h
 |n,.agg ps,.us _ _ _ _,es,v,h,hw,r=>by
  simp only[P0,AV.beq,m6,cond_false]at h
  cases h
 |n,.agg ps,.es _ _ _,es,v,h,hw,r=>by
  simp only[P0,AV.beq,m6,cond_false]at h
  cases h
 |n,.agg ps,.es0,es,v,h,hw,r=>by
  simp only[P0,AV.beq,m6,cond_false]at h
  cases h
 |n,.agg ps,.nilm,es,v,h,hw,r=>by
  simp only[P0,AV.beq,m6,cond_false]at h
  cases h
 |n,.agg ps,.map _,es,v,h,hw,r=>by
  simp only[P0,AV.beq,m6,cond_false]at h
  cases h
 |n,.agg ps,.nilf,es,v,h,hw,r=>by
  simp only[P0,AV.beq,m6,cond_false]at h
  cases h
 |n,.agg ps,.func _ _ _,es,v,h,hw,r=>by
  simp only[P0,AV.beq,m6,cond_false]at h
  cases h
 |n,.agg ps,.yield _,es,v,h,hw,r=>by
  simp only[P0,AV.beq,m6,cond_false]at h
  cases h
 |n,.agg ps,.nili,es,v,h,hw,r=>by
  simp only[P0,AV.beq,m6,cond_false]at h
  cases h
 |n,.agg ps,.iface _ _,es,v,h,hw,r=>by
  simp only[P0,AV.beq,m6,cond_false]at h
  cases h
 |n,.agg ps,.tup _,es,v,h,hw,r=>by
  simp only[P0,AV.beq,m6,cond_false]at h
  cases h
 |n,.agg ps,.opq _,es,v,h,hw,r=>by
  simp only[P0,AV.beq,m6,cond_false]at h
  cases h
 |n,.agg ps,.atl _,es,v,h,hw,r=>by
  simp only[P0,AV.beq,m6,cond_false]at h
  cases h
 |n,.agg ps,.osl _ _ _ _,es,v,h,hw,r=>by
  simp only[P0,AV.beq,m6,cond_false]at h
  cases h
 |n,.agg ps,.optr _ _ _ _,es,v,h,hw,r=>by
  simp only[P0,AV.beq,m6,cond_false]at h
  cases h
 |n,.agg ps,.ous _ _ _,es,v,h,hw,r=>by
  simp only[P0,AV.beq,m6,cond_false]at h
  cases h
 |n,.agg ps,.oint _ _,es,v,h,hw,r=>by
  simp only[P0,AV.beq,m6,cond_false]at h
  cases h
 |n,.agg ps,.ostr _,es,v,h,hw,r=>by
  simp only[P0,AV.beq,m6,cond_false]at h
  cases h
 |n,.agg ps,.obool _,es,v,h,hw,r=>by
  simp only[P0,AV.beq,m6,cond_false]at h
  cases h
 |n,.agg ps,.any,es,v,h,hw,r=>by
  simp only[P0,AV.beq,m6,cond_false]at h
  cases h
 |n,.bool _,x,es,v,h,hw,r=>by
  simp only[P0]at h
  exact W9 g rfl h r
 |n,.int _ _,x,es,v,h,hw,r=>by
  simp only[P0]at h
  exact W9 g rfl h r
 |n,.str _,x,es,v,h,hw,r=>by
  simp only[P0]at h
  exact W9 g rfl h r
 |n,.nilp,x,es,v,h,hw,r=>by
  simp only[P0]at h
  exact W9 g rfl h r
 |n,.ptr _ _,x,es,v,h,hw,r=>by
  simp only[P0]at h
  exact W9 g rfl h r
 |n,.glob _,x,es,v,h,hw,r=>by
  simp only[P0]at h
  exact W9 g rfl h r
 |n,.nils,x,es,v,h,hw,r=>by
  simp only[P0]at h
  exact W9 g rfl h r
 |n,.sl _ _ _ _,x,es,v,h,hw,r=>by
  simp only[P0]at h
  exact W9 g rfl h r
 |n,.us _ _ _ _,x,es,v,h,hw,r=>by
  simp only[P0]at h
  exact W9 g rfl h r
 |n,.es _ _ _,x,es,v,h,hw,r=>by
  simp only[P0]at h
  exact W9 g rfl h r
 |n,.es0,x,es,v,h,hw,r=>by
  simp only[P0]at h
  exact W9 g rfl h r
 |n,.nilm,x,es,v,h,hw,r=>by
  simp only[P0]at h
  exact W9 g rfl h r
 |n,.map _,x,es,v,h,hw,r=>by
  simp only[P0]at h
  exact W9 g rfl h r
 |n,.nilf,x,es,v,h,hw,r=>by
  simp only[P0]at h
  exact W9 g rfl h r
 |n,.func _ _ _,x,es,v,h,hw,r=>by
  simp only[P0]at h
  exact W9 g rfl h r
 |n,.yield _,x,es,v,h,hw,r=>by
  simp only[P0]at h
  exact W9 g rfl h r
 |n,.nili,x,es,v,h,hw,r=>by
  simp only[P0]at h
  exact W9 g rfl h r
 |n,.iface _ _,x,es,v,h,hw,r=>by
  simp only[P0]at h
  exact W9 g rfl h r
 |n,.tup _,x,es,v,h,hw,r=>by
  simp only[P0]at h
  exact W9 g rfl h r
 |n,.opq _,x,es,v,h,hw,r=>by
  simp only[P0]at h
  exact W9 g rfl h r
 |n,.atl _,x,es,v,h,hw,r=>by
  simp only[P0]at h
  exact W9 g rfl h r
 |n,.osl _ _ _ _,x,es,v,h,hw,r=>by
  simp only[P0]at h
  unfold bB2 at h
  split at h
  ·obtain⟨_,h2⟩:=G8 h
   obtain⟨k1,k2⟩:=cm4 g h2 hw
   have k1:=congrArg Val.toI k1
   have k2:=congrArg Val.toI k2
   simp only[VR,aZ3,dI]at r⊢
   rw[k1,k2];exact r
  ·cases h
 |n,.optr _ _ _ _,x,es,v,h,hw,r=>by
  simp only[P0]at h
  exact W9 g rfl h r
 |n,.ous _ _ _,x,es,v,h,hw,r=>by
  simp only[P0]at h
  unfold bB3 at h
  split at h
  ·obtain⟨_,h2⟩:=G8 h
   have k1:=congrArg Val.toI (a45 g h2 hw)
   simp only[VR,aZ3,dI]at r⊢
   rw[k1];exact r
  ·cases h
theorem b36{v0 nb:Nat}{q:Nat→SX}(g:Agr v0 ω ω'): ∀(n:Nat) (ps xs:List AV) (es:List SX) (vs:List Value),ax7 v0 nb n ps xs=some es→(∀j e,es[j]? =some e→den ω (q (n+j))=ω'.w (v0+(n+j)))→VRs β ω' ps vs→VRs β ω (bi9 v0 q ps) vs
 |n,[],[],es,vs,h,hw,r=>r
 |n,[],_::_,es,vs,h,hw,r=>by simp[ax7]at h
 |n,_::_,[],es,vs,h,hw,r=>by simp[ax7]at h
 |n,p::ps,x::xs,es,vs,h,hw,⟨v,vr,e,r1,r2⟩=>by
  simp only[ax7]at h
  split at h
  ·rename_i e1 h1
   split at h
   ·rename_i e2 h2
    simp only[d5]at h;subst h
    refine⟨v,vr,e,bZ9 g n p x e1 v h1 (fun j y hy=>hw j y ?_) r1,b36 g _ ps xs e2 vr h2 (fun j y hy=> ?_) r2⟩
    ·rw[k8]
     ·exact hy
     ·rcases g8 j e1.length with hh|hh
      ·exact hh
      ·rw[j8 hh]at hy;cases hy
    ·have:=hw (e1.length+j) y (by rw[k9 (by omega)];rw[show e1.length+j-e1.length=j by omega];exact hy)
     rw[show n+e1.length+j=n+(e1.length+j) by omega];exact this
   ·cases h
  ·cases h
end
theorem X3: ∀{a b:List CT},Z9 a b=true→a=b
 | [],[],_=>rfl
 | [],_::_,h=>by cases h
 |_::_,[],h=>by cases h
 |a::x,b::y,h=>by
  simp only[Z9,d6,decide_eq_true_eq]at h
  rw[h.1,X3 h.2]
theorem bF8{v0 nb:Nat}: ∀{a b:List Ent},aZ2 v0 nb a b=true→a=b
 | [],[],_=>rfl
 | [],_::_,h=>by cases h
 |_::_,[],h=>by cases h
 |⟨ka,va,ba⟩::x,⟨kb,vb,bb⟩::y,h=>by
  simp only[aZ2,d6,B7]at h
  obtain⟨⟨⟨⟨⟨h1,h2⟩,h3⟩,h4⟩,h5⟩,h6⟩:=h
  rw[AV.beq_eq _ _ h1,AV.beq_eq _ _ h2,h3,bF8 h6]
theorem aD0{v0 nb:Nat}(g:Agr v0 ω ω')(hb: ∀b,b<nb→β' b=β b): ∀{es es':List Ent} {m:List MapEntry},aZ2 v0 nb es es'=true→ERs β ω es' m→ERs β' ω' es m
 | [],[],m,h,r=>by cases r;exact .nil
 | [],_::_,m,h,r=>by cases h
 |_::_,[],m,h,r=>by cases h
 |a::x,b::y,m,h,r=>by
  simp only[aZ2,d6,B7]at h
  obtain⟨⟨⟨⟨⟨h1,h2⟩,h3⟩,h4⟩,h5⟩,h6⟩:=h
  obtain⟨ka,va,ba⟩:=a
  obtain⟨kb,vb,bb⟩:=b
  simp only at h1 h2 h3 h4 h5
  obtain rfl:=AV.beq_eq _ _ h1
  obtain rfl:=AV.beq_eq _ _ h2
  subst h3
  cases r with
  |cons r1 r2 r3=>exact .cons (ay6 g hb _ _ h4 r1) (ay6 g hb _ _ h5 r2) (aD0 g hb h6 r3)
theorem cZ1{v0 nb n:Nat}(g:Agr v0 ω ω')(hb: ∀b,b<nb→β' b=β b){L:Loc}{o:Option Obj}: ∀{p x:Blk} {es:List SX},ce2 v0 nb n p x=some es→(∀j e,es[j]? =some e→ω'.w (v0+(n+j))=den ω e)→BR β ω L o x→BR β' ω' L o p:=by
 intro p x es h hw r
 unfold ce2 at h
 split at h
 ·obtain⟨h1,h2⟩:=G8 h
  obtain⟨h1,h5⟩:=I4 h1
  obtain⟨h3,h4⟩:=I4 h1
  obtain rfl:=I6.1 h3
  obtain rfl:=I6.1 h4
  obtain⟨C,lo,hi,vs,q1,q2,q3,q4,q5,q6,q7,q8⟩:=r
  have hv:=bq3 g hb n _ _ es vs h2 hw q5
  have hl:=hv.length
  have hl2:=q5.length
  exact⟨C,lo,hi,vs,q1,q2,by omega,h5,hv,fun i hi'=>q6 i (by omega),q7,by rw[g.fix];exact q8⟩
 ·rename_i pp _ _ xx
  obtain⟨h1,h2⟩:=G8 h
  obtain⟨h3,h4⟩:=I4 h1
  obtain rfl:=I6.1 h3
  obtain rfl:=X3 h4
  have:=ad9 g h2 hw
  obtain⟨C,e',lo,hi,q1,q0,q2,q3,q4,q5⟩:=r
  have hd:dL ω' pp=dL ω xx:=by unfold dL;rw[this]
  exact⟨C,e',lo,hi,q1,q0,q2,by rw[hd];exact q3,by rw[hd];exact q4,q5⟩
 ·obtain⟨h1,h2⟩:=G8 h
  obtain⟨h3,h4⟩:=I4 h1
  obtain rfl:=I6.1 h4
  obtain⟨Es,q1,q2⟩:=r
  exact⟨Es,q1,aD0 g hb h3 q2⟩
 ·rename_i pp _ _ xx
  obtain⟨h1,h2⟩:=G8 h
  obtain⟨h3,h4⟩:=I4 h1
  obtain rfl:=X3 h3
  obtain rfl:=X3 h4
  have:=ad9 g h2 hw
  obtain⟨Es,c,q1,q2⟩:=r
  exact⟨Es,c,q1,by rw[show dL ω' pp=dL ω xx by unfold dL;rw[this]];exact q2⟩
 ·rename_i pp _
  have:=ad9 g h hw
  obtain⟨Es,q1,q2⟩:=r
  refine⟨Es,_,q1,?_⟩
  have hE:Es.toList=[]:=by generalize Es.toList=z at q2;cases q2;rfl
  rw[hE,show dL ω' pp=[] by unfold dL;rw[this];rfl];rfl
 ·cases h
theorem bF9{v0 nb n:Nat}{p x:Blk}{es:List SX}(h:ce2 v0 nb n p x=some es):p.isArr=x.isArr:=by
 cases p<;>cases x<;>simp only[ce2]at h<;>first|rfl|cases h
theorem c82{v0:Nat}{q:Nat→SX}{p y:Blk}(h:bK0 v0 q (some p)=some y):p.isArr=y.isArr:=by
 cases p<;>simp only[bK0,d5]at h<;>subst h<;>rfl
theorem cF8{v0 nb n:Nat}{q:Nat→SX}(g:Agr v0 ω ω'){L:Loc}{o:Option Obj}: ∀{p x:Blk} {es:List SX},ce2 v0 nb n p x=some es→(∀j e,es[j]? =some e→den ω (q (n+j))=ω'.w (v0+(n+j)))→BR β ω' L o p→ ∃p',bK0 v0 q (some p)=some p'∧BR β ω L o p':=by
 intro p x es h hw r
 unfold ce2 at h
 split at h
 ·rename_i e fz ps e' fz' xs
  obtain⟨h1,h2⟩:=G8 h
  obtain⟨h1,h5⟩:=I4 h1
  obtain⟨C,lo,hi,vs,q1,q2,q3,q4,q5,q6,q7,q8⟩:=r
  have hv:=b36 g n _ _ es vs h2 hw q5
  have hl:=hv.length
  have hl2:=q5.length
  refine⟨_,rfl,C,lo,hi,vs,q1,q2,by omega,?_,hv,fun i hi'=>q6 i (by omega),q7,by rw[←g.fix];exact q8⟩
  have: ∀l:List AV,l.all AV.oneA=true→(bi9 v0 q l).all AV.oneA=true:=by
   intro l
   induction l with
   |nil=>intro _;rfl
   |cons a l ih=>
    intro hh
    simp only[List.all_cons,d6]at hh
    simp only[bi9,List.all_cons,d6]
    refine⟨?_,ih hh.2⟩
    have:=hh.1
    cases a<;>simp only[aZ3]<;>first|exact this|rfl
  exact this _ q4
 ·obtain⟨h1,h2⟩:=G8 h
  have:=a45 g h2 hw
  obtain⟨C,e',lo,hi,q1,q0,q2,q3,q4,q5⟩:=r
  have hd: ∀e:SX,den ω (T0 v0 q e)=den ω' e→dL ω (T0 v0 q e)=dL ω' e:=fun e he=>by unfold dL;rw[he]
  exact⟨_,rfl,C,e',lo,hi,q1,q0,q2,by rw[hd _ this];exact q3,by rw[hd _ this];exact q4,q5⟩
 ·rename_i es1 c es2 c2
  obtain⟨h1,h2⟩:=G8 h
  obtain⟨h3,h4⟩:=I4 h1
  obtain⟨Es,q1,q2⟩:=r
  obtain rfl:=bF8 h3
  exact⟨_,rfl,Es,q1,aD0 (β:=β) (β':=β) g.symm (fun _ _=>rfl) h3 q2⟩
 ·rename_i pp _ _ xx
  obtain⟨h1,h2⟩:=G8 h
  have:=a45 g h2 hw
  obtain⟨Es,c,q1,q2⟩:=r
  exact⟨_,rfl,Es,c,q1,by rw[show dL ω (T0 v0 q pp)=dL ω' pp by unfold dL;rw[this]];exact q2⟩
 ·rename_i pp _
  have:=a45 g h hw
  obtain⟨Es,c,q1,q2⟩:=r
  exact⟨_,rfl,Es,c,q1,by rw[show dL ω (T0 v0 q pp)=dL ω' pp by unfold dL;rw[this]];exact q2⟩
 ·cases h
end Go.Ev
