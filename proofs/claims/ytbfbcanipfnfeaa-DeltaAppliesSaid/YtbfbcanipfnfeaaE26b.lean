import Derived.Test.YtbfbcanipfnfeaaE26
set_option linter.unusedSimpArgs false
set_option linter.unusedVariables false
namespace Go.Ev
open Go
variable{β β':Bij}{ω ω':Opq}{K:Nat→Prop}{w0 w:World}{h:Heap}
structure Agr (v0:Nat) (ω ω':Opq):Prop where
 w: ∀n,n<v0→ω'.w n=ω.w n
 f:ω'.f=ω.f
 v:ω'.v=ω.v
 fix:ω'.fix=ω.fix
 gh:ω'.gh=ω.gh
theorem aL7(ω:Opq)(v0:Nat)(l:List Val):Agr v0 ω (ω.upd v0 l):=
 ⟨fun n hn=>by simp only[Opq.upd];rw[if_neg (by omega)],rfl,rfl,rfl,rfl⟩
theorem bd1{ω:Opq}{v0:Nat}{l:List Val}{j:Nat}{x:Val}(h:l[j]? =some x):(ω.upd v0 l).w (v0+j)=x:=by
 simp only[Opq.upd]
 rw[if_pos (by omega),show v0+j-v0=j by omega,d9,h];rfl
mutual
theorem a78{v0:Nat}(g:Agr v0 ω ω'): ∀(e:SX),R5 v0 e=true→den ω' e=den ω e
 | .ci n,_=>rfl
 | .cs l,_=>rfl
 | .cb x,_=>rfl
 | .va m,h=>by simp only[R5]at h;simp only[den];exact g.w m (by simpa using h)
 | .op p l,h=>by simp only[R5]at h;simp only[den];rw[b23 g l h]
 | .app p l,h=>by simp only[R5]at h;simp only[den];rw[b23 g l h,g.f]
theorem b23{v0:Nat}(g:Agr v0 ω ω'): ∀(l:List SX),a65 v0 l=true→N2 ω' l=N2 ω l
 | [],_=>rfl
 |a::r,h=>by
  simp only[a65,d6]at h
  simp only[N2]
  rw[a78 g a h.1,b23 g r h.2]
end
theorem bd2{v0:Nat}(g:Agr v0 ω ω'){e:SX}(h:R5 v0 e=true):dI ω' e=dI ω e:=by unfold dI;rw[a78 g e h]
theorem cW0{v0:Nat}(g:Agr v0 ω ω'){e:SX}(h:R5 v0 e=true):dS ω' e=dS ω e:=by unfold dS;rw[a78 g e h]
theorem cW1{v0:Nat}(g:Agr v0 ω ω'){e:SX}(h:R5 v0 e=true):dB ω' e=dB ω e:=by unfold dB;rw[a78 g e h]
theorem aL8(ω:Opq): ∀a:List SX,(N2 ω a).length=a.length
 | []=>rfl
 |x::a=>by simp only[N2,List.length_cons,aL8 ω a]
mutual
theorem ag6{v0 nb:Nat}(g:Agr v0 ω ω')(hb: ∀b,b<nb→β' b=β b): ∀(x:AV) (v:Value),okA v0 nb x=true→VR β ω x v→VR β' ω' x v
 | .bool _,v,_,r=>r
 | .int _ _,v,_,r=>r
 | .str _,v,_,r=>r
 | .nilp,v,_,r=>r
 | .ptr b _,v,h,⟨L,e,q⟩=>⟨L,(hb b (by simpa[okA]using h)).trans e,q⟩
 | .glob _,v,_,r=>r
 | .nils,v,_,r=>r
 | .sl b _ _ _,v,h,⟨L,e,q⟩=>⟨L,(hb b (by simpa[okA]using h)).trans e,q⟩
 | .us b _ _ _,v,h,⟨L,c,e,q⟩=>⟨L,c,(hb b (by simpa[okA]using h)).trans e,q⟩
 | .es b _ _,v,h,⟨L,a,c,e,q⟩=>⟨L,a,c,(hb b (by simpa[okA]using h)).trans e,q⟩
 | .es0,v,_,r=>r
 | .nilm,v,_,r=>r
 | .map b,v,h,⟨L,e,q⟩=>⟨L,(hb b (by simpa[okA]using h)).trans e,q⟩
 | .nilf,v,_,r=>r
 | .func fn x y,v,h,⟨n,p,q,e,r1,r2⟩=>by
   simp only[okA,d6]at h
   exact⟨n,p,q,e,ak1 g hb x _ h.1 r1,ak1 g hb y _ h.2 r2⟩
 | .yield b,v,h,⟨L,e,q⟩=>⟨L,(hb b (by simpa[okA]using h)).trans e,q⟩
 | .nili,v,_,r=>r
 | .iface t x,v,h,⟨y,e,q⟩=>⟨y,e,ag6 g hb x y (by simpa[okA]using h) q⟩
 | .agg l,v,h,⟨xs,e,q⟩=>⟨xs,e,ak1 g hb l _ (by simpa[okA]using h) q⟩
 | .tup l,v,h,⟨xs,e,q⟩=>⟨xs,e,ak1 g hb l _ (by simpa[okA]using h) q⟩
 | .opq n,v,_,r=>by show v=ω'.v n;rw[g.v];exact r
 | .oint k e,v,h,r=>by show v= .int k (dI ω' e);rw[bd2 g (by simpa[okA]using h)];exact r
 | .ostr e,v,h,r=>by show v= .string ⟨(dS ω' e).toArray⟩;rw[cW0 g (by simpa[okA]using h)];exact r
 | .obool e,v,h,r=>by show v= .bool (dB ω' e);rw[cW1 g (by simpa[okA]using h)];exact r
 | .osl b x y sz,v,h,r=>by
   simp only[okA,d6,Nat.blt_eq]at h
   simp only[VR]at r⊢
   rw[bd2 g h.1.2,bd2 g h.2,hb b h.1.1];exact r
 | .optr b x j sz,v,h,r=>by
   simp only[okA,d6,Nat.blt_eq]at h
   simp only[VR]at r⊢
   rw[bd2 g h.2,hb b h.1];exact r
 | .ous b x sz,v,h,r=>by
   simp only[okA,d6,Nat.blt_eq]at h
   simp only[VR]at r⊢
   rw[bd2 g h.2,hb b h.1];exact r
 | .atl _,v,_,r=>r
 | .any,_,_,_=>trivial
theorem ak1{v0 nb:Nat}(g:Agr v0 ω ω')(hb: ∀b,b<nb→β' b=β b): ∀(l:List AV) (vs:List Value),bN0 v0 nb l=true→VRs β ω l vs→VRs β' ω' l vs
 | [],vs,_,r=>r
 |a::l,vs,h,⟨v,vr,e,p,q⟩=>by
  simp only[bN0,d6]at h
  exact⟨v,vr,e,ag6 g hb a v h.1 p,ak1 g hb l vr h.2 q⟩
end
theorem aa4{v0 n:Nat}{p x:SX}{es:List SX}(g:Agr v0 ω ω')(h:bj7 v0 n p x=some es)(hw: ∀j e,es[j]? =some e→ω'.w (v0+(n+j))=den ω e):den ω' p=den ω x:=by
 unfold bj7 at h
 split at h
 ·rename_i m hm
  obtain⟨h1,h2⟩:=M7 h
  simp only[a8]at h2;subst h2
  unfold bj6 at hm
  split at hm
  ·rename_i k
   obtain⟨h3,h4⟩:=M7 hm
   simp only[a8]at h4
   rw[N1]at h3
   obtain rfl:=M8.1 h1
   have:=hw 0 x rfl
   simp only[den]
   rw[←this];congr 1;omega
  ·cases hm
 ·obtain⟨h1,h2⟩:=M7 h
  obtain⟨h3,h4⟩:=M6 h1
  rw[SX.beq_eq _ _ h3]
  exact a78 g x h4
theorem S1{v0 nb:Nat}(g:Agr v0 ω ω')(hb: ∀b,b<nb→β' b=β b){p x:AV}{es:List SX}{v:Value}(h:(bif AV.beq p x&&okA v0 nb x then some ([]:List SX)else none)=some es)(r:VR β ω x v):VR β' ω' p v:=by
 obtain⟨h1,_⟩:=M7 h
 obtain⟨h2,h3⟩:=M6 h1
 rw[AV.beq_eq _ _ h2]
 exact ag6 g hb x v h3 r
theorem ci5{v0 n:Nat}{p q x y:SX}{es:List SX}(g:Agr v0 ω ω')(h:bj8 v0 n p q x y=some es)(hw: ∀j e,es[j]? =some e→ω'.w (v0+(n+j))=den ω e):den ω' p=den ω x∧den ω' q=den ω y:=by
 unfold bj8 at h
 split at h
 ·rename_i e1 h1
  split at h
  ·rename_i e2 h2
   simp only[a8]at h;subst h
   refine⟨aa4 g h1 fun j e hj=>hw j e ?_,aa4 g h2 fun j e hj=> ?_⟩
   ·have hlt:=(k6.1 hj).1
    rw[j5 hlt];exact hj
   ·have:=hw (e1.length+j) e (by rw[j3 (t7 _ _),y7];exact hj)
    rw[←this];congr 1;omega
  ·cases h
 ·cases h
theorem c03{v0 nb n b s:Nat}{p q:SX}{x:AV}{es:List SX}{v:Value}(g:Agr v0 ω ω')(hb: ∀b,b<nb→β' b=β b)(h:b87 v0 nb n b p q s x=some es)(hw: ∀j e,es[j]? =some e→ω'.w (v0+(n+j))=den ω e)(r:VR β ω x v):VR β' ω' (.osl b p q s) v:=by
 unfold b87 at h
 split at h
 ·obtain⟨h1,h2⟩:=M7 h
  obtain⟨h1,h3⟩:=M6 h1
  obtain⟨h1,h4⟩:=M6 h1
  obtain rfl:=M8.1 h1
  obtain rfl:=M8.1 h4
  rw[N9]at h3
  obtain⟨k1,k2⟩:=ci5 g h2 hw
  have k1:dI ω' p=dI ω _:=congrArg Val.toI k1
  have k2:dI ω' q=dI ω _:=congrArg Val.toI k2
  simp only[VR]at r⊢
  rw[k1,k2,hb _ h3];exact r
 ·cases h
theorem c04{v0 nb n b s:Nat}{p:SX}{x:AV}{es:List SX}{v:Value}(g:Agr v0 ω ω')(hb: ∀b,b<nb→β' b=β b)(h:b88 v0 nb n b p s x=some es)(hw: ∀j e,es[j]? =some e→ω'.w (v0+(n+j))=den ω e)(r:VR β ω x v):VR β' ω' (.ous b p s) v:=by
 unfold b88 at h
 split at h
 ·obtain⟨h1,h2⟩:=M7 h
  obtain⟨h1,h3⟩:=M6 h1
  obtain⟨h1,h4⟩:=M6 h1
  obtain rfl:=M8.1 h1
  obtain rfl:=M8.1 h4
  rw[N9]at h3
  have k1:dI ω' p=dI ω _:=congrArg Val.toI (aa4 g h2 hw)
  simp only[VR]at r⊢
  rw[k1,hb _ h3];exact r
 ·cases h
mutual
theorem c05{v0 nb:Nat}(g:Agr v0 ω ω')(hb: ∀b,b<nb→β' b=β b): ∀(n:Nat) (p x:AV) (es:List SX) (v:Value),Q1 v0 nb n p x=some es→(∀j e,es[j]? =some e→ω'.w (v0+(n+j))=den ω e)→VR β ω x v→VR β' ω' p v
 |n,.any,x,es,v,h,hw,r=>trivial
 |n,.oint k p,x,es,v,h,hw,r=>by
  simp only[Q1]at h
  unfold d37 at h
  split at h
  ·rename_i k' e hs
   split at h
   ·rename_i hk;subst hk
    rw[a10 hs r]
    show Value.int k (dI ω e)= .int k (dI ω' p)
    unfold dI
    rw[aa4 g h hw]
   ·cases h
  ·cases h
 |n,.ostr p,x,es,v,h,hw,r=>by
  simp only[Q1]at h
  unfold cq0 at h
  split at h
  ·rename_i e hs
   rw[ad0 hs r]
   show Value.string ⟨(dS ω e).toArray⟩= .string ⟨(dS ω' p).toArray⟩
   unfold dS
   rw[aa4 g h hw]
  ·cases h
 |n,.obool p,x,es,v,h,hw,r=>by
  simp only[Q1]at h
  unfold cq0 at h
  split at h
  ·rename_i e hs
   rw[af8 hs r]
   show Value.bool (dB ω e)= .bool (dB ω' p)
   unfold dB
   rw[aa4 g h hw]
  ·cases h
 |n,.agg ps,.agg xs,es,v,h,hw,r=>by
  simp only[Q1]at h
  obtain⟨ys,e,q⟩:=r
  exact⟨ys,e,b24 g hb n ps xs es _ h hw q⟩
 |n,.agg ps,.bool _,es,v,h,hw,r=>by
  simp only[Q1]at h
  exact S1 g hb h r
 |n,.agg ps,.int _ _,es,v,h,hw,r=>by
  simp only[Q1]at h
  exact S1 g hb h r
 |n,.agg ps,.str _,es,v,h,hw,r=>by
  simp only[Q1]at h
  exact S1 g hb h r
 |n,.agg ps,.nilp,es,v,h,hw,r=>by
  simp only[Q1]at h
  exact S1 g hb h r
 |n,.agg ps,.ptr _ _,es,v,h,hw,r=>by
  simp only[Q1]at h
  exact S1 g hb h r
 |n,.agg ps,.glob _,es,v,h,hw,r=>by
  simp only[Q1]at h
  exact S1 g hb h r
 |n,.agg ps,.nils,es,v,h,hw,r=>by
  simp only[Q1]at h
  exact S1 g hb h r
 |n,.agg ps,.sl _ _ _ _,es,v,h,hw,r=>by
  simp only[Q1]at h
  exact S1 g hb h r
 |n,.agg ps,.us _ _ _ _,es,v,h,hw,r=>by
  simp only[Q1]at h
  exact S1 g hb h r
 |n,.agg ps,.es _ _ _,es,v,h,hw,r=>by
  simp only[Q1]at h
  exact S1 g hb h r
 |n,.agg ps,.es0,es,v,h,hw,r=>by
  simp only[Q1]at h
  exact S1 g hb h r
 |n,.agg ps,.nilm,es,v,h,hw,r=>by
  simp only[Q1]at h
  exact S1 g hb h r
 |n,.agg ps,.map _,es,v,h,hw,r=>by
  simp only[Q1]at h
  exact S1 g hb h r
 |n,.agg ps,.nilf,es,v,h,hw,r=>by
  simp only[Q1]at h
  exact S1 g hb h r
 |n,.agg ps,.func _ _ _,es,v,h,hw,r=>by
  simp only[Q1]at h
  exact S1 g hb h r
 |n,.agg ps,.yield _,es,v,h,hw,r=>by
  simp only[Q1]at h
  exact S1 g hb h r
 |n,.agg ps,.nili,es,v,h,hw,r=>by
  simp only[Q1]at h
  exact S1 g hb h r
 |n,.agg ps,.iface _ _,es,v,h,hw,r=>by
  simp only[Q1]at h
  exact S1 g hb h r
 |n,.agg ps,.tup _,es,v,h,hw,r=>by
  simp only[Q1]at h
  exact S1 g hb h r
 |n,.agg ps,.opq _,es,v,h,hw,r=>by
  simp only[Q1]at h
  exact S1 g hb h r
 |n,.agg ps,.atl _,es,v,h,hw,r=>by
  simp only[Q1]at h
  exact S1 g hb h r
 |n,.agg ps,.osl _ _ _ _,es,v,h,hw,r=>by
  simp only[Q1]at h
  exact S1 g hb h r
 |n,.agg ps,.optr _ _ _ _,es,v,h,hw,r=>by
  simp only[Q1]at h
  exact S1 g hb h r
 |n,.agg ps,.ous _ _ _,es,v,h,hw,r=>by
  simp only[Q1]at h
  exact S1 g hb h r
 |n,.agg ps,.oint _ _,es,v,h,hw,r=>by
  simp only[Q1]at h
  exact S1 g hb h r
 |n,.agg ps,.ostr _,es,v,h,hw,r=>by
  simp only[Q1]at h
  exact S1 g hb h r
 |n,.agg ps,.obool _,es,v,h,hw,r=>by
  simp only[Q1]at h
  exact S1 g hb h r
 |n,.agg ps,.any,es,v,h,hw,r=>by
  simp only[Q1]at h
  exact S1 g hb h r
 |n,.bool _,x,es,v,h,hw,r=>by
  simp only[Q1]at h
  exact S1 g hb h r
 |n,.int _ _,x,es,v,h,hw,r=>by
  simp only[Q1]at h
  exact S1 g hb h r
 |n,.str _,x,es,v,h,hw,r=>by
  simp only[Q1]at h
  exact S1 g hb h r
 |n,.nilp,x,es,v,h,hw,r=>by
  simp only[Q1]at h
  exact S1 g hb h r
 |n,.ptr _ _,x,es,v,h,hw,r=>by
  simp only[Q1]at h
  exact S1 g hb h r
 |n,.glob _,x,es,v,h,hw,r=>by
  simp only[Q1]at h
  exact S1 g hb h r
 |n,.nils,x,es,v,h,hw,r=>by
  simp only[Q1]at h
  exact S1 g hb h r
 |n,.sl _ _ _ _,x,es,v,h,hw,r=>by
  simp only[Q1]at h
  exact S1 g hb h r
 |n,.us _ _ _ _,x,es,v,h,hw,r=>by
  simp only[Q1]at h
  exact S1 g hb h r
 |n,.es _ _ _,x,es,v,h,hw,r=>by
  simp only[Q1]at h
  exact S1 g hb h r
 |n,.es0,x,es,v,h,hw,r=>by
  simp only[Q1]at h
  exact S1 g hb h r
 |n,.nilm,x,es,v,h,hw,r=>by
  simp only[Q1]at h
  exact S1 g hb h r
 |n,.map _,x,es,v,h,hw,r=>by
  simp only[Q1]at h
  exact S1 g hb h r
 |n,.nilf,x,es,v,h,hw,r=>by
  simp only[Q1]at h
  exact S1 g hb h r
 |n,.func _ _ _,x,es,v,h,hw,r=>by
  simp only[Q1]at h
  exact S1 g hb h r
 |n,.yield _,x,es,v,h,hw,r=>by
  simp only[Q1]at h
  exact S1 g hb h r
 |n,.nili,x,es,v,h,hw,r=>by
  simp only[Q1]at h
  exact S1 g hb h r
 |n,.iface _ _,x,es,v,h,hw,r=>by
  simp only[Q1]at h
  exact S1 g hb h r
 |n,.tup _,x,es,v,h,hw,r=>by
  simp only[Q1]at h
  exact S1 g hb h r
 |n,.opq _,x,es,v,h,hw,r=>by
  simp only[Q1]at h
  exact S1 g hb h r
 |n,.atl _,x,es,v,h,hw,r=>by
  simp only[Q1]at h
  exact S1 g hb h r
 |n,.osl _ _ _ _,x,es,v,h,hw,r=>by
  simp only[Q1]at h
  exact c03 g hb h hw r
 |n,.optr _ _ _ _,x,es,v,h,hw,r=>by
  simp only[Q1]at h
  exact S1 g hb h r
 |n,.ous _ _ _,x,es,v,h,hw,r=>by
  simp only[Q1]at h
  exact c04 g hb h hw r
theorem b24{v0 nb:Nat}(g:Agr v0 ω ω')(hb: ∀b,b<nb→β' b=β b): ∀(n:Nat) (ps xs:List AV) (es:List SX) (vs:List Value),an4 v0 nb n ps xs=some es→(∀j e,es[j]? =some e→ω'.w (v0+(n+j))=den ω e)→VRs β ω xs vs→VRs β' ω' ps vs
 |n,[],[],es,vs,h,hw,r=>r
 |n,[],_::_,es,vs,h,hw,r=>by simp[an4]at h
 |n,_::_,[],es,vs,h,hw,r=>by simp[an4]at h
 |n,p::ps,x::xs,es,vs,h,hw,⟨v,vr,e,r1,r2⟩=>by
  simp only[an4]at h
  split at h
  ·rename_i e1 h1
   split at h
   ·rename_i e2 h2
    simp only[a8]at h;subst h
    refine⟨v,vr,e,c05 g hb n p x e1 v h1 (fun j y hy=>hw j y ?_) r1,b24 g hb _ ps xs e2 vr h2 (fun j y hy=> ?_) r2⟩
    ·rw[j5]
     ·exact hy
     ·rcases d8 j e1.length with hh|hh
      ·exact hh
      ·rw[j7 hh]at hy;cases hy
    ·have:=hw (e1.length+j) y (by rw[j3 (by omega)];rw[show e1.length+j-e1.length=j by omega];exact hy)
     rw[←this];congr 1;omega
   ·cases h
  ·cases h
end
theorem Agr.symm{v0:Nat}(g:Agr v0 ω ω'):Agr v0 ω' ω:=⟨fun n hn=>(g.w n hn).symm,g.f.symm,g.v.symm,g.fix.symm,g.gh.symm⟩
theorem a24{v0 n:Nat}{p x:SX}{es:List SX}{q:Nat→SX}(g:Agr v0 ω ω')(h:bj7 v0 n p x=some es)(hq: ∀j e,es[j]? =some e→den ω (q (n+j))=ω'.w (v0+(n+j))):den ω (T6 v0 q p)=den ω' p:=by
 unfold bj7 at h
 unfold T6
 split at h
 ·rename_i m hm
  obtain⟨h1,h2⟩:=M7 h
  simp only[a8]at h2;subst h2
  unfold bj6 at hm
  split at hm
  ·rename_i k
   obtain⟨h3,h4⟩:=M7 hm
   simp only[a8]at h4
   rw[N1]at h3
   obtain rfl:=M8.1 h1
   have:=hq 0 x rfl
   simp only[den]
   rw[show m=m+0 from rfl,this];congr 1;omega
  ·cases hm
 ·rename_i hm
  obtain⟨h1,h2⟩:=M7 h
  obtain⟨h3,h4⟩:=M6 h1
  rw[SX.beq_eq _ _ h3]
  exact(a78 g x h4).symm
theorem X0{v0 nb:Nat}{q:Nat→SX}(g:Agr v0 ω ω'){p x:AV}{es:List SX}{v:Value}(hp:aG6 v0 q p=p)(h:(bif AV.beq p x&&okA v0 nb x then some ([]:List SX)else none)=some es)(r:VR β ω' p v):VR β ω (aG6 v0 q p) v:=by
 obtain⟨h1,_⟩:=M7 h
 obtain⟨h2,h3⟩:=M6 h1
 rw[hp]
 rw[←AV.beq_eq _ _ h2]at h3
 exact ag6 (β':=β) g.symm (fun _ _=>rfl) p v h3 r
theorem c06{v0 n:Nat}{p q x y:SX}{es:List SX}{f:Nat→SX}(g:Agr v0 ω ω')(h:bj8 v0 n p q x y=some es)(hq: ∀j e,es[j]? =some e→den ω (f (n+j))=ω'.w (v0+(n+j))):den ω (T6 v0 f p)=den ω' p∧den ω (T6 v0 f q)=den ω' q:=by
 unfold bj8 at h
 split at h
 ·rename_i e1 h1
  split at h
  ·rename_i e2 h2
   simp only[a8]at h;subst h
   refine⟨a24 g h1 fun j e hj=>hq j e ?_,a24 g h2 fun j e hj=> ?_⟩
   ·have hlt:=(k6.1 hj).1
    rw[j5 hlt];exact hj
   ·have:=hq (e1.length+j) e (by rw[j3 (t7 _ _),y7];exact hj)
    rw[show n+e1.length+j=n+(e1.length+j) by omega];exact this
  ·cases h
 ·cases h
mutual
theorem by4{v0 nb:Nat}{q:Nat→SX}(g:Agr v0 ω ω'): ∀(n:Nat) (p x:AV) (es:List SX) (v:Value),Q1 v0 nb n p x=some es→(∀j e,es[j]? =some e→den ω (q (n+j))=ω'.w (v0+(n+j)))→VR β ω' p v→VR β ω (aG6 v0 q p) v
 |n,.any,x,es,v,h,hw,r=>trivial
 |n,.oint k p,x,es,v,h,hw,r=>by
  simp only[Q1]at h
  unfold d37 at h
  split at h
  ·split at h
   ·show v= .int k (dI ω (T6 v0 q p))
    unfold dI
    rw[a24 g h hw];exact r
   ·cases h
  ·cases h
 |n,.ostr p,x,es,v,h,hw,r=>by
  simp only[Q1]at h
  unfold cq0 at h
  split at h
  ·show v= .string ⟨(dS ω (T6 v0 q p)).toArray⟩
   unfold dS
   rw[a24 g h hw];exact r
  ·cases h
 |n,.obool p,x,es,v,h,hw,r=>by
  simp only[Q1]at h
  unfold cq0 at h
  split at h
  ·show v= .bool (dB ω (T6 v0 q p))
   unfold dB
   rw[a24 g h hw];exact r
  ·cases h
 |n,.agg ps,.agg xs,es,v,h,hw,r=>by
  simp only[Q1]at h
  obtain⟨ys,e,r1⟩:=r
  exact⟨ys,e,aL9 g n ps xs es _ h hw r1⟩
 |n,.agg ps,.bool _,es,v,h,hw,r=>by
  simp only[Q1,AV.beq,k5,cond_false]at h
  cases h
 |n,.agg ps,.int _ _,es,v,h,hw,r=>by
  simp only[Q1,AV.beq,k5,cond_false]at h
  cases h
 |n,.agg ps,.str _,es,v,h,hw,r=>by
  simp only[Q1,AV.beq,k5,cond_false]at h
  cases h
 |n,.agg ps,.nilp,es,v,h,hw,r=>by
  simp only[Q1,AV.beq,k5,cond_false]at h
  cases h
 |n,.agg ps,.ptr _ _,es,v,h,hw,r=>by
  simp only[Q1,AV.beq,k5,cond_false]at h
  cases h
 |n,.agg ps,.glob _,es,v,h,hw,r=>by
  simp only[Q1,AV.beq,k5,cond_false]at h
  cases h
 |n,.agg ps,.nils,es,v,h,hw,r=>by
  simp only[Q1,AV.beq,k5,cond_false]at h
  cases h
 |n,.agg ps,.sl _ _ _ _,es,v,h,hw,r=>by
  simp only[Q1,AV.beq,k5,cond_false]at h
  cases h
 |n,.agg ps,.us _ _ _ _,es,v,h,hw,r=>by
  simp only[Q1,AV.beq,k5,cond_false]at h
  cases h
 |n,.agg ps,.es _ _ _,es,v,h,hw,r=>by
  simp only[Q1,AV.beq,k5,cond_false]at h
  cases h
 |n,.agg ps,.es0,es,v,h,hw,r=>by
  simp only[Q1,AV.beq,k5,cond_false]at h
  cases h
 |n,.agg ps,.nilm,es,v,h,hw,r=>by
  simp only[Q1,AV.beq,k5,cond_false]at h
  cases h
 |n,.agg ps,.map _,es,v,h,hw,r=>by
  simp only[Q1,AV.beq,k5,cond_false]at h
  cases h
 |n,.agg ps,.nilf,es,v,h,hw,r=>by
  simp only[Q1,AV.beq,k5,cond_false]at h
  cases h
 |n,.agg ps,.func _ _ _,es,v,h,hw,r=>by
  simp only[Q1,AV.beq,k5,cond_false]at h
  cases h
 |n,.agg ps,.yield _,es,v,h,hw,r=>by
  simp only[Q1,AV.beq,k5,cond_false]at h
  cases h
 |n,.agg ps,.nili,es,v,h,hw,r=>by
  simp only[Q1,AV.beq,k5,cond_false]at h
  cases h
 |n,.agg ps,.iface _ _,es,v,h,hw,r=>by
  simp only[Q1,AV.beq,k5,cond_false]at h
  cases h
 |n,.agg ps,.tup _,es,v,h,hw,r=>by
  simp only[Q1,AV.beq,k5,cond_false]at h
  cases h
 |n,.agg ps,.opq _,es,v,h,hw,r=>by
  simp only[Q1,AV.beq,k5,cond_false]at h
  cases h
 |n,.agg ps,.atl _,es,v,h,hw,r=>by
  simp only[Q1,AV.beq,k5,cond_false]at h
  cases h
 |n,.agg ps,.osl _ _ _ _,es,v,h,hw,r=>by
  simp only[Q1,AV.beq,k5,cond_false]at h
  cases h
 |n,.agg ps,.optr _ _ _ _,es,v,h,hw,r=>by
  simp only[Q1,AV.beq,k5,cond_false]at h
  cases h
 |n,.agg ps,.ous _ _ _,es,v,h,hw,r=>by
  simp only[Q1,AV.beq,k5,cond_false]at h
  cases h
 |n,.agg ps,.oint _ _,es,v,h,hw,r=>by
  simp only[Q1,AV.beq,k5,cond_false]at h
  cases h
 |n,.agg ps,.ostr _,es,v,h,hw,r=>by
  simp only[Q1,AV.beq,k5,cond_false]at h
  cases h
 |n,.agg ps,.obool _,es,v,h,hw,r=>by
  simp only[Q1,AV.beq,k5,cond_false]at h
  cases h
 |n,.agg ps,.any,es,v,h,hw,r=>by
  simp only[Q1,AV.beq,k5,cond_false]at h
  cases h
 |n,.bool _,x,es,v,h,hw,r=>by
  simp only[Q1]at h
  exact X0 g rfl h r
 |n,.int _ _,x,es,v,h,hw,r=>by
  simp only[Q1]at h
  exact X0 g rfl h r
 |n,.str _,x,es,v,h,hw,r=>by
  simp only[Q1]at h
  exact X0 g rfl h r
 |n,.nilp,x,es,v,h,hw,r=>by
  simp only[Q1]at h
  exact X0 g rfl h r
 |n,.ptr _ _,x,es,v,h,hw,r=>by
  simp only[Q1]at h
  exact X0 g rfl h r
 |n,.glob _,x,es,v,h,hw,r=>by
  simp only[Q1]at h
  exact X0 g rfl h r
 |n,.nils,x,es,v,h,hw,r=>by
  simp only[Q1]at h
  exact X0 g rfl h r
 |n,.sl _ _ _ _,x,es,v,h,hw,r=>by
  simp only[Q1]at h
  exact X0 g rfl h r
 |n,.us _ _ _ _,x,es,v,h,hw,r=>by
  simp only[Q1]at h
  exact X0 g rfl h r
 |n,.es _ _ _,x,es,v,h,hw,r=>by
  simp only[Q1]at h
  exact X0 g rfl h r
 |n,.es0,x,es,v,h,hw,r=>by
  simp only[Q1]at h
  exact X0 g rfl h r
 |n,.nilm,x,es,v,h,hw,r=>by
  simp only[Q1]at h
  exact X0 g rfl h r
 |n,.map _,x,es,v,h,hw,r=>by
  simp only[Q1]at h
  exact X0 g rfl h r
 |n,.nilf,x,es,v,h,hw,r=>by
  simp only[Q1]at h
  exact X0 g rfl h r
 |n,.func _ _ _,x,es,v,h,hw,r=>by
  simp only[Q1]at h
  exact X0 g rfl h r
 |n,.yield _,x,es,v,h,hw,r=>by
  simp only[Q1]at h
  exact X0 g rfl h r
 |n,.nili,x,es,v,h,hw,r=>by
  simp only[Q1]at h
  exact X0 g rfl h r
 |n,.iface _ _,x,es,v,h,hw,r=>by
  simp only[Q1]at h
  exact X0 g rfl h r
 |n,.tup _,x,es,v,h,hw,r=>by
  simp only[Q1]at h
  exact X0 g rfl h r
 |n,.opq _,x,es,v,h,hw,r=>by
  simp only[Q1]at h
  exact X0 g rfl h r
 |n,.atl _,x,es,v,h,hw,r=>by
  simp only[Q1]at h
  exact X0 g rfl h r
 |n,.osl _ _ _ _,x,es,v,h,hw,r=>by
  simp only[Q1]at h
  unfold b87 at h
  split at h
  ·obtain⟨_,h2⟩:=M7 h
   obtain⟨k1,k2⟩:=c06 g h2 hw
   have k1:=congrArg Val.toI k1
   have k2:=congrArg Val.toI k2
   simp only[VR,aG6,dI]at r⊢
   rw[k1,k2];exact r
  ·cases h
 |n,.optr _ _ _ _,x,es,v,h,hw,r=>by
  simp only[Q1]at h
  exact X0 g rfl h r
 |n,.ous _ _ _,x,es,v,h,hw,r=>by
  simp only[Q1]at h
  unfold b88 at h
  split at h
  ·obtain⟨_,h2⟩:=M7 h
   have k1:=congrArg Val.toI (a24 g h2 hw)
   simp only[VR,aG6,dI]at r⊢
   rw[k1];exact r
  ·cases h
theorem aL9{v0 nb:Nat}{q:Nat→SX}(g:Agr v0 ω ω'): ∀(n:Nat) (ps xs:List AV) (es:List SX) (vs:List Value),an4 v0 nb n ps xs=some es→(∀j e,es[j]? =some e→den ω (q (n+j))=ω'.w (v0+(n+j)))→VRs β ω' ps vs→VRs β ω (aU2 v0 q ps) vs
 |n,[],[],es,vs,h,hw,r=>r
 |n,[],_::_,es,vs,h,hw,r=>by simp[an4]at h
 |n,_::_,[],es,vs,h,hw,r=>by simp[an4]at h
 |n,p::ps,x::xs,es,vs,h,hw,⟨v,vr,e,r1,r2⟩=>by
  simp only[an4]at h
  split at h
  ·rename_i e1 h1
   split at h
   ·rename_i e2 h2
    simp only[a8]at h;subst h
    refine⟨v,vr,e,by4 g n p x e1 v h1 (fun j y hy=>hw j y ?_) r1,aL9 g _ ps xs e2 vr h2 (fun j y hy=> ?_) r2⟩
    ·rw[j5]
     ·exact hy
     ·rcases d8 j e1.length with hh|hh
      ·exact hh
      ·rw[j7 hh]at hy;cases hy
    ·have:=hw (e1.length+j) y (by rw[j3 (by omega)];rw[show e1.length+j-e1.length=j by omega];exact hy)
     rw[show n+e1.length+j=n+(e1.length+j) by omega];exact this
   ·cases h
  ·cases h
end
theorem V6: ∀{a b:List CT},T8 a b=true→a=b
 | [],[],_=>rfl
 | [],_::_,h=>by cases h
 |_::_,[],h=>by cases h
 |a::x,b::y,h=>by
  simp only[T8,d6,decide_eq_true_eq]at h
  rw[h.1,V6 h.2]
theorem bd3{v0 nb:Nat}: ∀{a b:List Ent},aG5 v0 nb a b=true→a=b
 | [],[],_=>rfl
 | [],_::_,h=>by cases h
 |_::_,[],h=>by cases h
 |⟨ka,va,ba⟩::x,⟨kb,vb,bb⟩::y,h=>by
  simp only[aG5,d6,D0]at h
  obtain⟨⟨⟨⟨⟨h1,h2⟩,h3⟩,h4⟩,h5⟩,h6⟩:=h
  rw[AV.beq_eq _ _ h1,AV.beq_eq _ _ h2,h3,bd3 h6]
theorem as3{v0 nb:Nat}(g:Agr v0 ω ω')(hb: ∀b,b<nb→β' b=β b): ∀{es es':List Ent} {m:List MapEntry},aG5 v0 nb es es'=true→ERs β ω es' m→ERs β' ω' es m
 | [],[],m,h,r=>by cases r;exact .nil
 | [],_::_,m,h,r=>by cases h
 |_::_,[],m,h,r=>by cases h
 |a::x,b::y,m,h,r=>by
  simp only[aG5,d6,D0]at h
  obtain⟨⟨⟨⟨⟨h1,h2⟩,h3⟩,h4⟩,h5⟩,h6⟩:=h
  obtain⟨ka,va,ba⟩:=a
  obtain⟨kb,vb,bb⟩:=b
  simp only at h1 h2 h3 h4 h5
  obtain rfl:=AV.beq_eq _ _ h1
  obtain rfl:=AV.beq_eq _ _ h2
  subst h3
  cases r with
  |cons r1 r2 r3=>exact .cons (ag6 g hb _ _ h4 r1) (ag6 g hb _ _ h5 r2) (as3 g hb h6 r3)
theorem cC7{v0 nb n:Nat}(g:Agr v0 ω ω')(hb: ∀b,b<nb→β' b=β b){L:Loc}{o:Option Obj}: ∀{p x:Blk} {es:List SX},bR3 v0 nb n p x=some es→(∀j e,es[j]? =some e→ω'.w (v0+(n+j))=den ω e)→BR β ω L o x→BR β' ω' L o p:=by
 intro p x es h hw r
 unfold bR3 at h
 split at h
 ·obtain⟨h1,h2⟩:=M7 h
  obtain⟨h1,h5⟩:=M6 h1
  obtain⟨h3,h4⟩:=M6 h1
  obtain rfl:=M8.1 h3
  obtain rfl:=M8.1 h4
  obtain⟨C,lo,hi,vs,q1,q2,q3,q4,q5,q6,q7,q8⟩:=r
  have hv:=b24 g hb n _ _ es vs h2 hw q5
  have hl:=hv.length
  have hl2:=q5.length
  exact⟨C,lo,hi,vs,q1,q2,by omega,h5,hv,fun i hi'=>q6 i (by omega),q7,by rw[g.fix];exact q8⟩
 ·rename_i pp _ _ xx
  obtain⟨h1,h2⟩:=M7 h
  obtain⟨h3,h4⟩:=M6 h1
  obtain rfl:=M8.1 h3
  obtain rfl:=V6 h4
  have:=aa4 g h2 hw
  obtain⟨C,e',lo,hi,q1,q0,q2,q3,q4,q5⟩:=r
  have hd:dL ω' pp=dL ω xx:=by unfold dL;rw[this]
  exact⟨C,e',lo,hi,q1,q0,q2,by rw[hd];exact q3,by rw[hd];exact q4,q5⟩
 ·obtain⟨h1,h2⟩:=M7 h
  obtain⟨h3,h4⟩:=M6 h1
  obtain rfl:=M8.1 h4
  obtain⟨Es,q1,q2⟩:=r
  exact⟨Es,q1,as3 g hb h3 q2⟩
 ·rename_i pp _ _ _ xx
  obtain⟨h1,h2⟩:=M7 h
  obtain⟨h5,h1⟩:=M6 h1
  obtain⟨h3,h4⟩:=M6 h1
  obtain rfl:=V6 h3
  obtain rfl:=V6 h4
  have:=aa4 g h2 hw
  obtain⟨Es,c,q1,q2,q3⟩:=r
  exact⟨Es,c,q1,by rw[show dL ω' pp=dL ω xx by unfold dL;rw[this]];exact q2,q3.weak h5⟩
 ·rename_i pp _
  obtain⟨h5,h⟩:=M7 h
  have:=aa4 g h hw
  obtain⟨Es,q1,q2⟩:=r
  refine⟨Es,_,q1,?_⟩
  have hE:Es.toList=[]:=by generalize Es.toList=z at q2;cases q2;rfl
  rw[hE,show dL ω' pp=[] by unfold dL;rw[this];rfl]
  exact⟨rfl,(U4.nil _).weak h5⟩
 ·rename_i pp _ _ xx
  obtain⟨h1,h2⟩:=M7 h
  obtain⟨h3,h4⟩:=M6 h1
  obtain rfl:=M8.1 h3
  obtain rfl:=V6 h4
  have:=aa4 g h2 hw
  obtain⟨D,q,r⟩:=r
  exact⟨D,by rw[show dL ω' pp=dL ω xx by unfold dL;rw[this]];exact q,r⟩
 ·cases h
theorem bd4{v0 nb n:Nat}{p x:Blk}{es:List SX}(h:bR3 v0 nb n p x=some es):p.isArr=x.isArr:=by
 cases p<;>cases x<;>simp only[bR3]at h<;>first|rfl|cases h
theorem bJ9{v0:Nat}{q:Nat→SX}{p y:Blk}(h:bj9 v0 q (some p)=some y):p.isArr=y.isArr:=by
 cases p<;>simp only[bj9,a8]at h<;>subst h<;>rfl
theorem ci6{v0 nb n:Nat}{q:Nat→SX}(g:Agr v0 ω ω'){L:Loc}{o:Option Obj}: ∀{p x:Blk} {es:List SX},bR3 v0 nb n p x=some es→(∀j e,es[j]? =some e→den ω (q (n+j))=ω'.w (v0+(n+j)))→BR β ω' L o p→ ∃p',bj9 v0 q (some p)=some p'∧BR β ω L o p':=by
 intro p x es h hw r
 unfold bR3 at h
 split at h
 ·rename_i e fz ps e' fz' xs
  obtain⟨h1,h2⟩:=M7 h
  obtain⟨h1,h5⟩:=M6 h1
  obtain⟨C,lo,hi,vs,q1,q2,q3,q4,q5,q6,q7,q8⟩:=r
  have hv:=aL9 g n _ _ es vs h2 hw q5
  have hl:=hv.length
  have hl2:=q5.length
  refine⟨_,rfl,C,lo,hi,vs,q1,q2,by omega,?_,hv,fun i hi'=>q6 i (by omega),q7,by rw[←g.fix];exact q8⟩
  have: ∀l:List AV,l.all AV.oneA=true→(aU2 v0 q l).all AV.oneA=true:=by
   intro l
   induction l with
   |nil=>intro _;rfl
   |cons a l ih=>
    intro hh
    simp only[List.all_cons,d6]at hh
    simp only[aU2,List.all_cons,d6]
    refine⟨?_,ih hh.2⟩
    have:=hh.1
    cases a<;>simp only[aG6]<;>first|exact this|rfl
  exact this _ q4
 ·obtain⟨h1,h2⟩:=M7 h
  have:=a24 g h2 hw
  obtain⟨C,e',lo,hi,q1,q0,q2,q3,q4,q5⟩:=r
  have hd: ∀e:SX,den ω (T6 v0 q e)=den ω' e→dL ω (T6 v0 q e)=dL ω' e:=fun e he=>by unfold dL;rw[he]
  exact⟨_,rfl,C,e',lo,hi,q1,q0,q2,by rw[hd _ this];exact q3,by rw[hd _ this];exact q4,q5⟩
 ·rename_i es1 c es2 c2
  obtain⟨h1,h2⟩:=M7 h
  obtain⟨h3,h4⟩:=M6 h1
  obtain⟨Es,q1,q2⟩:=r
  obtain rfl:=bd3 h3
  exact⟨_,rfl,Es,q1,as3 (β:=β) (β':=β) g.symm (fun _ _=>rfl) h3 q2⟩
 ·rename_i pp _ _ _ xx
  obtain⟨h1,h2⟩:=M7 h
  have:=a24 g h2 hw
  obtain⟨Es,c,q1,q2⟩:=r
  exact⟨_,rfl,Es,c,q1,by rw[show dL ω (T6 v0 q pp)=dL ω' pp by unfold dL;rw[this]];exact q2⟩
 ·rename_i pp _
  obtain⟨h5,h⟩:=M7 h
  have:=a24 g h hw
  obtain⟨Es,c,q1,q2⟩:=r
  exact⟨_,rfl,Es,c,q1,by rw[show dL ω (T6 v0 q pp)=dL ω' pp by unfold dL;rw[this]];exact q2⟩
 ·rename_i pp _ _ xx
  obtain⟨h1,h2⟩:=M7 h
  have:=a24 g h2 hw
  obtain⟨D,q0,r⟩:=r
  exact⟨_,rfl,D,by rw[show dL ω (T6 v0 q pp)=dL ω' pp by unfold dL;rw[this]];exact q0,r⟩
 ·cases h
end Go.Ev
namespace Go.Ev
open Go
variable{β β':Bij}{ω ω':Opq}{K:Nat→Prop}{w0 w:World}{h:Heap}
theorem a94{x:AV}(r:VR β ω x Go.undef):VR β' ω' x Go.undef:=by
 cases x<;>simp only[VR,Go.undef]at r⊢ <;>first
  |exact r
  |(cases r;done)
  |(obtain⟨_,_,r⟩:=r;cases r;done)
  |(obtain⟨_,_,_,_,r⟩:=r;cases r;done)
  |(obtain⟨_,_,_,_,r,_⟩:=r;cases r;done)
  |(obtain⟨_,r⟩:=r;cases r;done)
  |(obtain⟨_,_,_,r,_⟩:=r;cases r;done)
  |(obtain⟨_,r,_⟩:=r;cases r;done)
  |(rcases r with⟨_,_,_,_,r,_⟩|⟨_,_,r,_⟩<;>(cases r;done))
  |(rcases r with⟨_,_,_,_,r,_⟩|⟨r,_⟩<;>cases r)
  |skip
 case opq n=>have:=ω.one n;rw[←r]at this;cases this
 case tup cs=>
  obtain⟨xs,e,q⟩:=r
  simp only[Value.tuple.injEq]at e
  subst e
  cases cs with
  |nil=>exact⟨#[],rfl,rfl⟩
  |cons c cs=>obtain⟨_,_,e,_⟩:=q;cases e
theorem ad4: ∀(l:List (Nat×AV)) (a:Fr),(U0 a l).nt=a.nt
 | [],a=>rfl
 |(t,v)::r,a=>by simp only[U0];rw[ad4 r,Fr.put_nt]
theorem P7: ∀(l:List Nat) (a:Fr),(layDead a l).nt=a.nt
 | [],a=>rfl
 |t::r,a=>by simp only[layDead];rw[P7 r,Fr.put_nt]
theorem by5: ∀(l:List (Nat×AV)) (a:Fr),(U0 a l).pc=a.pc
 | [],a=>rfl
 |(t,v)::r,a=>by simp only[U0];rw[by5 r,Fr.put_pc]
theorem ax3: ∀(l:List Nat) (a:Fr),(layDead a l).pc=a.pc
 | [],a=>rfl
 |t::r,a=>by simp only[layDead];rw[ax3 r,Fr.put_pc]
theorem as4: ∀(l:List (Nat×AV)) (a:Fr),(U0 a l).ds=a.ds
 | [],a=>rfl
 |(t,v)::r,a=>(as4 r _).trans (Fr.put_ds _ _ _)
theorem a61: ∀(l:List Nat) (a:Fr),(layDead a l).ds=a.ds
 | [],a=>rfl
 |t::r,a=>(a61 r _).trans (Fr.put_ds _ _ _)
theorem as5: ∀(l:List (Nat×AV)) (a:Fr),(U0 a l).ro=a.ro
 | [],a=>rfl
 |(t,v)::r,a=>(as5 r _).trans (Fr.put_ro _ _ _)
theorem Y5: ∀(l:List Nat) (a:Fr),(layDead a l).ro=a.ro
 | [],a=>rfl
 |t::r,a=>(Y5 r _).trans (Fr.put_ro _ _ _)
theorem a62{a:Fr}(h:aa1 a=true):a.ds=[]∧a.ro=none:=by
 unfold aa1 at h
 obtain⟨h1,h2⟩:=M6 h
 exact⟨List.isEmpty_iff.1 h1,by cases hh:a.ro with
   |none=>rfl
   |some l=>rw[hh]at h2;cases h2⟩
theorem a12: ∀(l:List (Nat×AV)) (a:Fr),a.nt≤256→ ∀s,a.nt≤s→(U0 a l).slot s=a.slot s
 | [],a,_,s,_=>rfl
 |(t,v)::r,a,hl,s,hs=>by
  simp only[U0]
  rw[a12 r _ (by rw[Fr.put_nt];exact hl) s (by rw[Fr.put_nt];exact hs),Fr.put_slot hl,if_neg (by omega)]
theorem U8: ∀(l:List Nat) (a:Fr),a.nt≤256→ ∀s,a.nt≤s→(layDead a l).slot s=a.slot s
 | [],a,_,s,_=>rfl
 |t::r,a,hl,s,hs=>by
  simp only[layDead]
  rw[U8 r _ (by rw[Fr.put_nt];exact hl) s (by rw[Fr.put_nt];exact hs),Fr.put_slot hl,if_neg (by omega)]
theorem aW3(f:AV→AV): ∀(l:List (Nat×AV)) (a b:Fr) (s:Nat),a.nt≤256→b.nt=a.nt→s<a.nt→(b.slot s=f (a.slot s)∨b.slot s=a.slot s)→
 ((U0 b (l.map fun p=>(p.1,f p.2))).slot s=f ((U0 a l).slot s))∨((U0 b (l.map fun p=>(p.1,f p.2))).slot s=b.slot s∧(U0 a l).slot s=a.slot s)
 | [],a,b,s,_,_,_,_=> .inr ⟨rfl,rfl⟩
 |(t,v)::r,a,b,s,hl,hn,hs,h=>by
  simp only[j9,U0]
  have e1:(a.put (some t) v).slot s=if t=s then v else a.slot s:=by rw[Fr.put_slot hl];simp[hs]
  have e2:(b.put (some t) (f v)).slot s=if t=s then f v else b.slot s:=by rw[Fr.put_slot (by omega)];simp[hn,hs]
  have:=aW3 f r (a.put (some t) v) (b.put (some t) (f v)) s (by rw[Fr.put_nt];exact hl) (by rw[Fr.put_nt,Fr.put_nt,hn]) (by rw[Fr.put_nt];exact hs) (by
    rw[e1,e2]
    by_cases hh:t=s
    ·rw[if_pos hh,if_pos hh];exact .inl rfl
    ·rw[if_neg hh,if_neg hh];exact h)
  rcases this with q|⟨q1,q2⟩
  ·exact .inl q
  ·by_cases hh:t=s
   ·left
    rw[q1,q2,e1,e2,if_pos hh,if_pos hh]
   ·rw[e2,if_neg hh]at q1
    rw[e1,if_neg hh]at q2
    exact .inr ⟨q1,q2⟩
@[simp]theorem Heap.get_upto(h:Heap)(n b:Nat):(h.upto n).get b=h.get b:=by cases h;rfl
@[simp]theorem Heap.next_upto(h:Heap)(n:Nat):(h.upto n).next=n:=by cases h;rfl
@[simp]theorem Heap.wm_upto(h:Heap)(n:Nat):(h.upto n).wm=h.wm:=by cases h;rfl
theorem ak2: ∀(l:List (Nat×Option Blk)) (h:Heap),(Z1 h l).next=h.next
 | [],h=>rfl
 |(b,x)::r,h=>by simp only[Z1];rw[ak2 r];rfl
theorem ak3: ∀(l:List (Nat×Option Blk)) (h:Heap),(Z1 h l).wm=h.wm
 | [],h=>rfl
 |(b,x)::r,h=>by simp only[Z1];rw[ak3 r];rfl
theorem ao8: ∀(l:List (Nat×Option Blk)) (h:Heap) (s:Nat),(∀p∈l,p.1≠s)→(Z1 h l).get s=h.get s
 | [],h,s,_=>rfl
 |(b,x)::r,h,s,hp=>by
  simp only[Z1]
  rw[ao8 r _ s (fun p hh=>hp p (.tail _ hh)),Heap.get_put,if_neg (fun e=>hp (b,x) (.head _) e.symm)]
theorem aW4(f:Option Blk→Option Blk)(hf:f none=none): ∀(l:List (Nat×Option Blk)) (a b:Heap) (s:Nat),(b.get s=f (a.get s)∨b.get s=a.get s)→
 ((Z1 b (l.map fun p=>(p.1,f p.2))).get s=f ((Z1 a l).get s))∨((Z1 b (l.map fun p=>(p.1,f p.2))).get s=b.get s∧(Z1 a l).get s=a.get s)
 | [],a,b,s,_=> .inr ⟨rfl,rfl⟩
 |(t,v)::r,a,b,s,h=>by
  simp only[j9,Z1]
  have e1:(a.put t v).get s=if s=t then(if t<65536 then v else none)else a.get s:=Heap.get_put _ _ _ _
  have e2:(b.put t (f v)).get s=if s=t then(if t<65536 then f v else none)else b.get s:=Heap.get_put _ _ _ _
  have h2:(b.put t (f v)).get s=f ((a.put t v).get s)∨(b.put t (f v)).get s=(a.put t v).get s:=by
   rw[e1,e2]
   by_cases hh:s=t
   ·rw[if_pos hh,if_pos hh]
    by_cases h3:t<65536
    ·rw[if_pos h3,if_pos h3];exact .inl rfl
    ·rw[if_neg h3,if_neg h3];exact .inr rfl
   ·rw[if_neg hh,if_neg hh];exact h
  rcases aW4 f hf r (a.put t v) (b.put t (f v)) s h2 with q|⟨q1,q2⟩
  ·exact .inl q
  ·by_cases hh:s=t
   ·left
    rw[q1,q2,e1,e2,if_pos hh,if_pos hh]
    by_cases h3:t<65536
    ·rw[if_pos h3,if_pos h3]
    ·rw[if_neg h3,if_neg h3,hf]
   ·rw[e2,if_neg hh]at q1
    rw[e1,if_neg hh]at q2
    exact .inr ⟨q1,q2⟩
theorem bn9{n:Nat}{es fs:List SX}{P:Nat→SX→Prop}(hw: ∀j e,(es++fs)[j]? =some e→P (n+j) e): ∀j e,es[j]? =some e→P (n+j) e:=by
 intro j e hj
 refine hw j e ?_
 rw[j5]
 ·exact hj
 ·rcases d8 j es.length with hh|hh
  ·exact hh
  ·rw[j7 hh]at hj;cases hj
theorem b25{n:Nat}{es fs:List SX}{P:Nat→SX→Prop}(hw: ∀j e,(es++fs)[j]? =some e→P (n+j) e): ∀j e,fs[j]? =some e→P (n+es.length+j) e:=by
 intro j e hj
 have:=hw (es.length+j) e (by rw[j3 (by omega),show es.length+j-es.length=j by omega];exact hj)
 rw[show n+es.length+j=n+(es.length+j) by omega];exact this
theorem by6{v0 nb:Nat}{aP a:Fr}{P:Nat→SX→Prop}: ∀{m t n:Nat} {es:List SX},cd2 v0 nb aP a m t n=some es→(∀j e,es[j]? =some e→P (n+j) e)→ ∀s,t≤s→s<t+m→ ∃n' es',Q1 v0 nb n' (aP.slot s) (a.slot s)=some es'∧ ∀j e,es'[j]? =some e→P (n'+j) e
 |0,t,n,es,h,hw,s,h1,h2=>by omega
 |m+1,t,n,es,h,hw,s,h1,h2=>by
  simp only[cd2]at h
  split at h
  ·rename_i e1 he1
   split at h
   ·rename_i e2 he2
    simp only[a8]at h;subst h
    by_cases hs:s=t
    ·subst hs;exact⟨n,e1,he1,bn9 hw⟩
    ·exact by6 he2 (b25 hw) s (by omega) (by omega)
   ·cases h
  ·cases h
theorem by7{v0 nb:Nat}{hP h0:Heap}{P:Nat→SX→Prop}: ∀{m t n:Nat} {es:List SX},cd3 v0 nb hP h0 m t n=some es→(∀j e,es[j]? =some e→P (n+j) e)→ ∀s,t≤s→s<t+m→ ∃n' es',aS5 v0 nb n' (hP.get s) (h0.get s)=some es'∧ ∀j e,es'[j]? =some e→P (n'+j) e
 |0,t,n,es,h,hw,s,h1,h2=>by omega
 |m+1,t,n,es,h,hw,s,h1,h2=>by
  simp only[cd3]at h
  split at h
  ·rename_i e1 he1
   split at h
   ·rename_i e2 he2
    simp only[a8]at h;subst h
    by_cases hs:s=t
    ·subst hs;exact⟨n,e1,he1,bn9 hw⟩
    ·exact by7 he2 (b25 hw) s (by omega) (by omega)
   ·cases h
  ·cases h
def Bij.cut(β:Bij)(n:Nat):Bij:=fun b=>if b<n then β b else none
theorem by8{ω:Opq}{v0:Nat}{es:List SX}: ∀j e,es[j]? =some e→(ω.upd v0 (N2 ω es)).w (v0+(0+j))=den ω e:=by
 intro j e hj
 rw[i3]
 refine bd1 ?_
 induction es generalizing j with
 |nil=>simp at hj
 |cons a r ih=>
  cases j with
  |zero=>simp at hj;subst hj;rfl
  |succ j=>simp only[N2,List.getElem?_cons_succ];exact ih j (by simpa using hj)
structure Met (v0:Nat) (aP:Fr) (hP:Heap) (a:Fr) (h:Heap) (es:List SX):Prop where
 plP:aa1 aP=true
 pl:aa1 a=true
 nt:aP.nt=a.nt
 nx:hP.next≤h.next
 wm:hP.wm=h.wm
 sl: ∀(P:Nat→SX→Prop),(∀j e,es[j]? =some e→P (0+j) e)→ ∀s,s<a.nt→ ∃n' es',Q1 v0 hP.next n' (aP.slot s) (a.slot s)=some es'∧ ∀j e,es'[j]? =some e→P (n'+j) e
 hp: ∀(P:Nat→SX→Prop),(∀j e,es[j]? =some e→P (0+j) e)→ ∀s,s<hP.next→ ∃n' es',aS5 v0 hP.next n' (hP.get s) (h.get s)=some es'∧ ∀j e,es'[j]? =some e→P (n'+j) e
theorem a79{v0:Nat}{aP:Fr}{hP:Heap}{a:Fr}{h:Heap}{es:List SX}(e:a67 v0 aP hP a h=some es):Met v0 aP hP a h es:=by
 unfold a67 at e
 obtain⟨h1,e⟩:=M7 e
 obtain⟨h1,h3⟩:=M6 h1
 obtain⟨h1,h2⟩:=M6 h1
 obtain⟨h0,h1⟩:=M6 h1
 obtain⟨h0,h00⟩:=M6 h0
 rw[M8]at h1 h3
 rw[N1]at h2
 split at e
 ·rename_i e1 he1
  split at e
  ·rename_i e2 he2
   simp only[a8]at e;subst e
   exact⟨h0,h00,h1,h2,h3,fun P hw s hs=>by6 he1 (bn9 hw) s (k8 _) (by omega),fun P hw s hs=>by
     have:=by7 (P:=P) (n:=e1.length) he2 (by have:=b25 (n:=0) hw;simpa using this) s (k8 _) (by omega)
     exact this⟩
  ·cases e
 ·cases e
theorem Met.fr{v0:Nat}{aP:Fr}{hP:Heap}{a:Fr}{es:List SX}{act:Act}(m:Met v0 aP hP a h es)(hpc:aP.pc=[])(hhi: ∀s,a.nt≤s→ ∃x,aP.slot s=x∧VR β ω x Go.undef)(f:FrR β ω a act):FrR (β.cut hP.next) (ω.upd v0 (N2 ω es)) aP act:=by
 refine⟨by rw[m.nt];exact f.size,by rw[m.nt];exact f.lim,fun t _=> ?_,?_,fun p hp=>by rw[hpc]at hp;cases hp⟩
 rotate_left
 ·have hd:=f.defers
  rw[(a62 m.pl).1]at hd
  rw[(a62 m.plP).1];exact hd
 by_cases ht:t<a.nt
 ·obtain⟨n',es',h1,h2⟩:=m.sl (fun j e=>(ω.upd v0 (N2 ω es)).w (v0+j)=den ω e) by8 t ht
  exact c05 (aL7 ω v0 _) (fun b hb=>by simp[Bij.cut,hb]) n' _ _ es' _ h1 h2 (f.slot t id)
 ·obtain⟨x,h1,h2⟩:=hhi t (A8 ht)
  rw[h1,k7,s6 (by rw[f.size];exact A8 ht)]
  exact a94 h2
theorem Met.hr{v0:Nat}{aP:Fr}{hP:Heap}{a:Fr}{es:List SX}(m:Met v0 aP hP a h es)(hfg: ∀b,hP.next≤b→hP.get b=none)(r:HR β ω K w0 h w):HR (β.cut hP.next) (ω.upd v0 (N2 ω es)) K w0 hP w:=by
 have key: ∀b x,hP.get b=some x→b<hP.next∧ ∃y,h.get b=some y∧(∀L o,BR β ω L o y→BR (β.cut hP.next) (ω.upd v0 (N2 ω es)) L o x)∧x.isArr=y.isArr:=by
  intro b x hx
  have hb:b<hP.next:=by
   rcases d8 b hP.next with hh|hh
   ·exact hh
   ·rw[hfg b hh]at hx;cases hx
  refine⟨hb,?_⟩
  obtain⟨n',es',h1,h2⟩:=m.hp (fun j e=>(ω.upd v0 (N2 ω es)).w (v0+j)=den ω e) by8 b hb
  rw[hx]at h1
  simp only[aS5]at h1
  split at h1
  ·rename_i y hy
   exact⟨y,hy,fun L o hbr=>cC7 (aL7 ω v0 _) (fun b hb=>by simp[Bij.cut,hb]) h1 h2 hbr,bd4 h1⟩
  ·cases h1
 have cut: ∀{b L},β.cut hP.next b=some L→β b=some L:=by
  intro b L hb
  simp only[Bij.cut]at hb
  split at hb
  ·exact hb
  ·cases hb
 refine⟨fun b x L hg hb=> ?_,fun b b' x x' L L' hg hg' hb hb' hne hw=> ?_,fun b hb=>by simp only[Bij.cut];rw[if_neg (by omega)],hfg,fun b L hb=>r.lt b L (cut hb),r.kin,r.keep,fun b x L hg hw hb=> ?_,r.size,r.os,r.tape,r.out,r.dr⟩
 ·obtain⟨_,y,h1,h2,_⟩:=key b x hg
  exact h2 L _ (r.blk b y L h1 (cut hb))
 ·obtain⟨_,y,h1,_,k1⟩:=key b x hg
  obtain⟨_,y',h1',_,k2⟩:=key b' x' hg'
  exact r.sep b b' y y' L L' h1 h1' (cut hb) (cut hb') hne (by rw[←k1,←k2,←m.wm];exact hw)
 ·obtain⟨_,y,h1,_⟩:=key b x hg
  exact r.free b y L h1 (by rw[←m.wm];exact hw) (cut hb)
end Go.Ev
namespace Go.Ev
open Go
variable{β β':Bij}{ω:Opq}{K:Nat→Prop}{w0 w:World}{h:Heap}
def Bij.at_(β:Bij)(b:Nat)(L:Option Loc):Bij:=fun x=>if x=b then L else β x
theorem X7{c b:Nat}(h:(!(Nat.beq c b))=true):c≠b:=by
 intro e
 rw[M8.2 e]at h;cases h
mutual
theorem bo0{b:Nat}(hb: ∀x,x≠b→β' x=β x): ∀(x:AV) (v:Value),noB b x=true→VR β ω x v→VR β' ω x v
 | .bool _,v,_,r=>r
 | .int _ _,v,_,r=>r
 | .str _,v,_,r=>r
 | .nilp,v,_,r=>r
 | .ptr c _,v,h,⟨L,e,q⟩=>⟨L,(hb c (X7 (by simpa only[noB]using h))).trans e,q⟩
 | .glob _,v,_,r=>r
 | .nils,v,_,r=>r
 | .sl c _ _ _,v,h,⟨L,e,q⟩=>⟨L,(hb c (X7 (by simpa only[noB]using h))).trans e,q⟩
 | .us c _ _ _,v,h,⟨L,cc,e,q⟩=>⟨L,cc,(hb c (X7 (by simpa only[noB]using h))).trans e,q⟩
 | .es c _ _,v,h,⟨L,a,cc,e,q⟩=>⟨L,a,cc,(hb c (X7 (by simpa only[noB]using h))).trans e,q⟩
 | .es0,v,_,r=>r
 | .nilm,v,_,r=>r
 | .map c,v,h,⟨L,e,q⟩=>⟨L,(hb c (X7 (by simpa only[noB]using h))).trans e,q⟩
 | .nilf,v,_,r=>r
 | .func fn x y,v,h,⟨n,p,q,e,r1,r2⟩=>by
   simp only[noB,d6]at h
   exact⟨n,p,q,e,az9 hb x _ h.1 r1,az9 hb y _ h.2 r2⟩
 | .yield c,v,h,⟨L,e,q⟩=>⟨L,(hb c (X7 (by simpa only[noB]using h))).trans e,q⟩
 | .nili,v,_,r=>r
 | .iface t x,v,h,⟨y,e,q⟩=>⟨y,e,bo0 hb x y (by simpa[noB]using h) q⟩
 | .agg l,v,h,⟨xs,e,q⟩=>⟨xs,e,az9 hb l _ (by simpa[noB]using h) q⟩
 | .tup l,v,h,⟨xs,e,q⟩=>⟨xs,e,az9 hb l _ (by simpa[noB]using h) q⟩
 | .opq n,v,_,r=>r
 | .oint k e,v,h,r=>r
 | .ostr e,v,h,r=>r
 | .obool e,v,h,r=>r
 | .osl c x y sz,v,h,r=>by
   have:=hb c (X7 (by simpa only[noB]using h))
   simp only[VR]at r⊢
   rw[this];exact r
 | .optr c x j sz,v,h,r=>by
   have:=hb c (X7 (by simpa only[noB]using h))
   simp only[VR]at r⊢
   rw[this];exact r
 | .ous c x sz,v,h,r=>by
   have:=hb c (X7 (by simpa only[noB]using h))
   simp only[VR]at r⊢
   rw[this];exact r
 | .atl _,v,_,r=>r
 | .any,_,_,_=>trivial
theorem az9{b:Nat}(hb: ∀x,x≠b→β' x=β x): ∀(l:List AV) (vs:List Value),bk0 b l=true→VRs β ω l vs→VRs β' ω l vs
 | [],vs,_,r=>r
 |a::l,vs,h,⟨v,vr,e,p,q⟩=>by
  simp only[bk0,d6]at h
  exact⟨v,vr,e,bo0 hb a v h.1 p,az9 hb l vr h.2 q⟩
end
theorem cC8{b:Nat}(hb: ∀x,x≠b→β' x=β x): ∀{es:List Ent} {m:List MapEntry},(es.all fun e=>noB b e.key&&noB b e.val)=true→ERs β ω es m→ERs β' ω es m:=by
 intro es m h r
 induction r with
 |nil=>exact .nil
 |cons r1 r2 r3 ih=>
  simp only[List.all_cons,d6]at h
  exact .cons (bo0 hb _ _ h.1.1 r1) (bo0 hb _ _ h.1.2 r2) (ih h.2)
theorem cW2{b:Nat}(hb: ∀x,x≠b→β' x=β x){L:Loc}{o:Option Obj}{x:Blk}(h:bR4 b (some x)=true)(r:BR β ω L o x):BR β' ω L o x:=by
 cases x with
 |cells e fz cs=>
  obtain⟨C,lo,hi,vs,q1,q2,q3,q4,q5,q6⟩:=r
  exact⟨C,lo,hi,vs,q1,q2,q3,q4,az9 hb cs vs h q5,q6⟩
 |arr e sig l=>exact r
 |map es c=>
  obtain⟨Es,q1,q2⟩:=r
  exact⟨Es,q1,cC8 hb h q2⟩
 |marr d ks vs l=>exact r
 |bag e sig l=>exact r
 |mrg it d ks vs l=>
  obtain⟨E,c,Li,q1,q2,q3⟩:=r
  have:it≠b:=by rintro rfl;simp[bR4]at h
  exact⟨E,c,Li,q1,by rw[hb _ this];exact q2,q3⟩
 |mit m=>
  obtain⟨q0,Lm,q1,q2⟩:=r
  have:m≠b:=by rintro rfl;simp[bR4]at h
  exact⟨q0,Lm,by rw[hb _ this];exact q1,q2⟩
 |vec cs=>
  obtain⟨C,e,lo,hi,vs,q1,q2,q3⟩:=r
  exact⟨C,e,lo,hi,vs,q1,az9 hb cs vs h q2,q3⟩
 |_=>cases h
theorem bo1{b t:Nat}{a:Fr}: ∀{n:Nat},bR5 b t a n=true→ ∀s,s<n→s≠t→noB b (a.slot s)=true
 |0,_,s,hs,_=>by omega
 |n+1,h,s,hs,ht=>by
  simp only[bR5,d6,j8,D0]at h
  by_cases e:s=n
  ·subst e
   rcases h.1 with h1|h1
   ·exact absurd h1 ht
   ·exact h1
  ·exact bo1 h.2 s (by omega) ht
theorem bo2{b t:Nat}{a:Fr}: ∀{n:Nat},bR5 b t a n=true→a.ds=[]
 |0,h=>List.isEmpty_iff.1 h
 |n+1,h=>by
  simp only[bR5,d6]at h
  exact bo2 h.2
theorem c07{b:Nat}{h0:Heap}: ∀{n:Nat},cq2 b h0 n=true→ ∀s,s<n→bR4 b (h0.get s)=true
 |0,_,s,hs=>by omega
 |n+1,h,s,hs=>by
  simp only[cq2,d6]at h
  by_cases e:s=n
  ·subst e;exact h.1
  ·exact c07 h.2 s (by omega)
theorem by9{o:OwnP}{a:Fr}{act:Act}{l:SX}{L:Option Loc}(hds:a.ds=[])(f:FrR β ω a act)(r:HR β ω K w0 h w)(hslot:o.slot<a.nt)(hblk:o.blk<h.next)(h65:o.blk<65536)(hnone:h.get o.blk=none)
 (hfr: ∀s,s<a.nt→s≠o.slot→noB o.blk (a.slot s)=true) (hhp: ∀z y,h.get z=some y→bR4 o.blk (some y)=true) (hlt: ∀M,L=some M→M.blk<w.heap.size) (hsep: ∀M x y M',L=some M→h.get x=some y→β x=some M'→M.blk≠M'.blk) (hfree: ∀M,L=some M→ ¬K M.blk)
 (hbr: ∀M,L=some M→BR β ω M w.heap[M.blk]? (.arr o.elem o.sig l)) (hv: ∀u,VR β ω (a.slot o.slot) u→VR (β.at_ o.blk L) ω (.ous o.blk (.op .llen [l]) o.sig.length) u):
 FrR (β.at_ o.blk L) ω (an5 o a h l).1 act∧HR (β.at_ o.blk L) ω K w0 (an5 o a h l).2 w:=by
 have hb: ∀x,x≠o.blk→(β.at_ o.blk L) x=β x:=fun x hx=>by simp only[Bij.at_];rw[if_neg hx]
 have hb0:(β.at_ o.blk L) o.blk=L:=by simp[Bij.at_]
 have a35: ∀z,(h.put o.blk (some (.arr o.elem o.sig l))).get z=if z=o.blk then some (.arr o.elem o.sig l)else h.get z:=fun z=>by rw[Heap.get_put,if_pos h65]
 constructor
 ·refine⟨by show act.tmps.size=(a.put _ _).nt;rw[Fr.put_nt];exact f.size,by show(a.put _ _).nt≤256;rw[Fr.put_nt];exact f.lim,fun t _=> ?_,by show DsR _ ω (a.put _ _).ds act.defers;rw[Fr.put_ds,hds];have:=f.defers;rw[hds]at this;exact this,fun p hp=>f.pcs p (by have:(a.put (some o.slot) (.ous o.blk (.op .llen [l]) o.sig.length)).pc=a.pc:=Fr.put_pc _ _ _;rw[←this];exact hp)⟩
  show VR _ ω ((a.put (some o.slot) (.ous o.blk (.op .llen [l]) o.sig.length)).slot t) _
  rw[Fr.put_slot f.lim]
  by_cases ht:t=o.slot
  ·subst ht
   rw[if_pos ⟨rfl,hslot⟩]
   exact hv _ (f.slot _ id)
  ·rw[if_neg (fun hh=>ht (by have:=hh.1;simp only[a8]at this;exact this.symm))]
   by_cases hn:t<a.nt
   ·exact bo0 hb _ _ (hfr t hn ht) (f.slot t id)
   ·have:=f.slot t id
    rw[k7,s6 (by rw[f.size];exact A8 hn)]at this⊢
    exact a94 this
 ·have key: ∀z y,(h.put o.blk (some (.arr o.elem o.sig l))).get z=some y→(z=o.blk∧y= .arr o.elem o.sig l)∨(z≠o.blk∧h.get z=some y):=by
   intro z y hy
   rw[a35]at hy
   by_cases hz:z=o.blk
   ·rw[if_pos hz]at hy;simp only[a8]at hy;exact .inl ⟨hz,hy.symm⟩
   ·rw[if_neg hz]at hy;exact .inr ⟨hz,hy⟩
  refine⟨fun z y M hy hM=> ?_,fun z z' y y' M M' hy hy' hM hM' hne hw=> ?_,fun z hz=> ?_,fun z hz=> ?_,fun z M hM=> ?_,r.kin,r.keep,fun z y M hy hw hM=> ?_,r.size,r.os,r.tape,r.out,r.dr⟩
  ·rcases key z y hy with⟨rfl,rfl⟩|⟨hz,hy⟩
   ·rw[hb0]at hM;exact hbr M hM
   ·rw[hb z hz]at hM
    exact cW2 hb (hhp z y hy) (r.blk z y M hy hM)
  ·rcases key z y hy with⟨rfl,rfl⟩|⟨hz,hy⟩
   ·rw[hb0]at hM
    rcases key z' y' hy' with⟨rfl,_⟩|⟨hz',hy'⟩
    ·exact absurd rfl hne
    ·rw[hb z' hz']at hM';exact hsep M z' y' M' hM hy' hM'
   ·rw[hb z hz]at hM
    rcases key z' y' hy' with⟨rfl,rfl⟩|⟨hz',hy'⟩
    ·rw[hb0]at hM';exact(hsep M' z y M hM' hy hM).symm
    ·rw[hb z' hz']at hM';exact r.sep z z' y y' M M' hy hy' hM hM' hne hw
  ·have hz:h.next≤z:=hz
   rw[hb z (by omega)];exact r.fresh z hz
  ·have hz:h.next≤z:=hz
   show(h.put o.blk (some (.arr o.elem o.sig l))).get z=none
   rw[a35,if_neg (by omega)];exact r.fget z hz
  ·by_cases hz:z=o.blk
   ·rw[hz,hb0]at hM;exact hlt M hM
   ·rw[hb z hz]at hM;exact r.lt z M hM
  ·rcases key z y hy with⟨rfl,rfl⟩|⟨hz,hy⟩
   ·rw[hb0]at hM;exact hfree M hM
   ·rw[hb z hz]at hM;exact r.free z y M hy hw hM
structure Conv (ω:Opq) (K:Nat→Prop) (w0 w:World) (a a':Fr) (h h':Heap) (act:Act) (β β':Bij) (P:Nat→Prop):Prop where
 fr:FrR β' ω a' act
 hr:HR β' ω K w0 h' w
 bij: ∀x,¬P x→β' x=β x
 nt:a'.nt=a.nt
 next:h'.next=h.next
 wm:h'.wm=h.wm
 get: ∀b,h'.get b=h.get b∨h'.get b=none∨P b∨β b≠none
theorem bz0{len l:SX}(h:cd4 len l=true):dI ω len=dI ω (.op .llen [l]):=by
 unfold cd4 at h
 rw[j8]at h
 rcases h with h|h
 ·rw[SX.beq_eq _ _ h]
 ·split at h
  ·rfl
  ·cases h
theorem c08{o:OwnP}{a a':Fr}{h':Heap}{act:Act}(e:bR6 o a h=some (a',h'))(f:FrR β ω a act)(r:HR β ω K w0 h w): ∃β',Conv ω K w0 w a a' h h' act β β' (· =o.blk):=by
 have common: ∀{c:Bool},(Nat.blt o.slot a.nt&&Nat.blt o.blk h.next&&Nat.blt o.blk 65536&&(h.get o.blk).isNone&&bR5 o.blk o.slot a a.nt&&cq2 o.blk h h.next)=true→
  a.ds=[]∧o.slot<a.nt∧o.blk<h.next∧o.blk<65536∧h.get o.blk=none∧(∀s,s<a.nt→s≠o.slot→noB o.blk (a.slot s)=true)∧(∀z y,h.get z=some y→bR4 o.blk (some y)=true):=by
  intro c hc
  obtain⟨hc,c6⟩:=M6 hc
  obtain⟨hc,c5⟩:=M6 hc
  obtain⟨hc,c4⟩:=M6 hc
  obtain⟨hc,c3⟩:=M6 hc
  obtain⟨c1,c2⟩:=M6 hc
  rw[N9]at c1 c2 c3
  refine⟨bo2 c5,c1,c2,c3,by simpa using c4,bo1 c5,fun z y hy=> ?_⟩
  have hlt:z<h.next:=by
   rcases d8 z h.next with hh|hh
   ·exact hh
   ·rw[r.fget z hh]at hy;cases hy
  have:=c07 c6 z hlt
  rw[hy]at this;exact this
 have gput: ∀(hh:Heap) (l:SX),o.blk<65536→ ∀b,(an5 o a hh l).2.get b=if b=o.blk then some (.arr o.elem o.sig l)else hh.get b:=by
  intro hh l hl b
  show(hh.put o.blk (some (.arr o.elem o.sig l))).get b=_
  rw[Heap.get_put,if_pos hl]
 have bij: ∀(L:Option Loc) x,¬(x=o.blk)→(β.at_ o.blk L) x=β x:=fun L x hx=>by simp only[Bij.at_];rw[if_neg hx]
 unfold bR6 at e
 split at e
 ·rename_i b len sz hsl
  cases hq:Nat.beq b o.blk with
  |true=>
   rw[hq]at e
   simp only[cond_true]at e
   split at e
   ·obtain⟨_,e⟩:=M7 e
    simp only[a8,d7]at e
    obtain⟨rfl,rfl⟩:=e
    exact⟨β,f,r,fun _ _=>rfl,rfl,rfl,rfl,fun _=> .inl rfl⟩
   ·cases e
  |false=>
   rw[hq]at e
   simp only[cond_false]at e
   replace e:=M7 e
   obtain⟨hc,e⟩:=e
   obtain⟨hc,c7⟩:=M6 hc
   rw[N1]at c7
   obtain⟨c0,c1,c2,c3,c4,c5,c6⟩:=common (c:=true) hc
   split at e
   ·rename_i el sig l hg
    replace e:=M7 e
    obtain⟨hd,e⟩:=e
    obtain⟨hd,d4⟩:=M6 hd
    obtain⟨hd,d3⟩:=M6 hd
    obtain⟨d1,d2⟩:=M6 hd
    rw[M8]at d1 d3
    have d2:=V6 d2
    have d4:=bz0 (ω:=ω) d4
    simp only[a8]at e
    obtain⟨r1,_⟩:=r.drop b
    have g1: ∀z y,(h.put b none).get z=some y→z≠b∧h.get z=some y:=by
     intro z y hy
     rw[Heap.get_put]at hy
     by_cases hz:z=b
     ·rw[if_pos hz]at hy;split at hy<;>cases hy
     ·rw[if_neg hz]at hy;exact⟨hz,hy⟩
    have hbn:o.blk≠b:=fun hh=>by rw[hh]at c4;rw[c4]at hg;cases hg
    have m:=by9 (o:=o) (l:=l) (L:=β b) c0 f r1 c1 c2 c3 (by rw[Heap.get_put,if_neg hbn];exact c4) c5 (fun z y hy=>c6 z y (g1 z y hy).2) (fun M hM=>r.lt b M hM)
      (fun M x y M' hM hx hxM=>r.sep b x _ y M M' hg (g1 x y hx).2 hM hxM (g1 x y hx).1.symm (.inl c7)) (fun M hM=>r.free b _ M hg c7 hM)
      (fun M hM=>by rw[←d1,←d2];exact r.blk b _ M hg hM) (fun u hu=>by
        rw[hsl]at hu
        simp only[VR]at hu⊢
        rw[d4]at hu
        rcases hu with⟨L,cap,h1,h2,h3,h4⟩|hu
        ·exact .inl ⟨L,cap,by simp[Bij.at_,h1],by rw[←d2,←d3];exact h2,h3,h4⟩
        ·exact .inr hu)
    rw[e]at m
    have e1:a'=(an5 o a (h.put b none) l).1:=by rw[e]
    have e2:h'=(an5 o a (h.put b none) l).2:=by rw[e]
    refine⟨_,m.1,m.2,bij _,by rw[e1];exact Fr.put_nt _ _ _,by rw[e2];rfl,by rw[e2];rfl,fun x=> ?_⟩
    rw[e2,gput _ _ c3]
    by_cases hx:x=o.blk
    ·exact .inr (.inr (.inl hx))
    ·rw[if_neg hx,Heap.get_put]
     by_cases hx2:x=b
     ·right;left;rw[if_pos hx2];split<;>rfl
     ·left;rw[if_neg hx2]
   ·cases e
 ·rename_i hsl
  obtain⟨hc,e⟩:=M7 e
  obtain⟨c0,c1,c2,c3,c4,c5,c6⟩:=common (c:=true) hc
  simp only[a8]at e
  have m:=by9 (o:=o) (l:= .op .row []) (L:=none) c0 f r c1 c2 c3 c4 c5 c6 (fun M hM=>by cases hM) (fun M x y M' hM=>by cases hM) (fun M hM=>by cases hM) (fun M hM=>by cases hM) (fun u hu=>by
    rw[hsl]at hu
    exact .inr ⟨hu,rfl⟩)
  rw[e]at m
  have e1:a'=(an5 o a h (.op .row [])).1:=by rw[e]
  have e2:h'=(an5 o a h (.op .row [])).2:=by rw[e]
  refine⟨_,m.1,m.2,bij _,by rw[e1];exact Fr.put_nt _ _ _,by rw[e2];rfl,by rw[e2];rfl,fun x=> ?_⟩
  rw[e2,gput _ _ c3]
  by_cases hx:x=o.blk
  ·exact .inr (.inr (.inl hx))
  ·rw[if_neg hx];exact .inl rfl
 ·rename_i b n sz hsl
  replace e:=M7 e
  obtain⟨hc,e⟩:=e
  obtain⟨hc,c8⟩:=M6 hc
  obtain⟨hc,c7⟩:=M6 hc
  rw[N1]at c7
  rw[N9]at c8
  obtain⟨c0,c1,c2,c3,c4,c5,c6⟩:=common (c:=true) hc
  split at e
  ·rename_i el cs hg
   replace e:=M7 e
   obtain⟨hd,e⟩:=e
   obtain⟨hd,d3⟩:=M6 hd
   obtain⟨d1,d2⟩:=M6 hd
   rw[M8]at d1 d2 d3
   split at e
   ·rename_i rs hrs
    simp only[a8]at e
    obtain⟨r1,_⟩:=r.drop b
    have g1: ∀z y,(h.put b none).get z=some y→z≠b∧h.get z=some y:=by
     intro z y hy
     rw[Heap.get_put]at hy
     by_cases hz:z=b
     ·rw[if_pos hz]at hy;split at hy<;>cases hy
     ·rw[if_neg hz]at hy;exact⟨hz,hy⟩
    have hbn:o.blk≠b:=fun hh=>by rw[hh]at c4;rw[c4]at hg;cases hg
    have hcell: ∀M,β b=some M→ ∃C lo hi,w.heap[M.blk]? =some (.cells C el (lo,hi))∧M.off+M.ext≤C.size∧cs.length≤M.ext∧(N2 ω rs).length=n∧
     (∀i v,(N7 o.sig (N2 ω rs))[i]? =some v→C[M.off+i]? =some v)∧(∀i,i<M.ext→ ¬(lo≤M.off+i∧M.off+i<hi)):=by
     intro M hM
     obtain⟨C,lo,hi,vs,q1,q2,q3,q4,q5,q6,q7⟩:=r.cells hg hM
     obtain⟨z1,z2⟩:=a57 hrs d3 q5
     have hvl:=q5.length
     refine⟨C,lo,hi,q1,q2,q3,z2,fun i v hi'=> ?_,fun i hi'=>q7 i (k8 _) hi'⟩
     rw[←z1]at hi'
     rw[q6 i (by
      rcases d8 i vs.length with hh|hh
      ·omega
      ·rw[j7 hh]at hi';cases hi')]
     exact hi'
    have m:=by9 (o:=o) (l:= .op .row rs) (L:=β b) c0 f r1 c1 c2 c3 (by rw[Heap.get_put,if_neg hbn];exact c4) c5 (fun z y hy=>c6 z y (g1 z y hy).2) (fun M hM=>r.lt b M hM)
      (fun M x y M' hM hx hxM=>r.sep b x _ y M M' hg (g1 x y hx).2 hM hxM (g1 x y hx).1.symm (.inl c7)) (fun M hM=>r.free b _ M hg c7 hM)
      (fun M hM=>by
       obtain⟨C,lo,hi,q1,q2,q3,q4,q5,q6⟩:=hcell M hM
       rw[←d1]
       refine⟨C,_,lo,hi,q1,.inl rfl,q2,?_,q5,q6⟩
       show(N2 ω rs).length*o.sig.length≤M.ext
       rw[q4,←d2,←d3];exact q3) (fun u hu=>by
       rw[hsl]at hu
       simp only[VR]at hu⊢
       obtain⟨M,cap,h1,h2,h3⟩:=hu
       obtain⟨C,lo,hi,q1,q2,q3,q4,q5,q6⟩:=hcell M h1
       have hn:(dI ω (.op .llen [.op .row rs])).toNat=n:=by
        rw[S9]
        show(((N2 ω rs).length:Nat):Int).toNat=n
        rw[q4];simp
       have hle:n≤cap:=by
        rw[d3,←show cap*sz=M.ext by omega]at q3
        exact A1 q3 c8
       exact .inl ⟨M,cap,by simp[Bij.at_,h1],by rw[←d2];omega,by rw[hn];simpa using h3,by rw[hn];exact hle⟩)
    rw[e]at m
    have e1:a'=(an5 o a (h.put b none) (.op .row rs)).1:=by rw[e]
    have e2:h'=(an5 o a (h.put b none) (.op .row rs)).2:=by rw[e]
    refine⟨_,m.1,m.2,bij _,by rw[e1];exact Fr.put_nt _ _ _,by rw[e2];rfl,by rw[e2];rfl,fun x=> ?_⟩
    rw[e2,gput _ _ c3]
    by_cases hx:x=o.blk
    ·exact .inr (.inr (.inl hx))
    ·rw[if_neg hx,Heap.get_put]
     by_cases hx2:x=b
     ·right;left;rw[if_pos hx2];split<;>rfl
     ·left;rw[if_neg hx2]
   ·cases e
  ·cases e
 ·rename_i b p n c hsl
  replace e:=M7 e
  obtain⟨hc,e⟩:=e
  obtain⟨hc,c7⟩:=M6 hc
  rw[N1]at c7
  obtain⟨c0,c1,c2,c3,c4,c5,c6⟩:=common (c:=true) hc
  split at e
  ·rename_i el fz cs hg
   replace e:=M7 e
   obtain⟨hd,e⟩:=e
   obtain⟨hd,d4⟩:=M6 hd
   obtain⟨hd,d3⟩:=M6 hd
   obtain⟨d1,d2⟩:=M6 hd
   rw[M8]at d1
   rw[N1]at d2 d3 d4
   split at e
   ·rename_i rs hrs
    simp only[a8]at e
    have hvr:=f.slot o.slot id
    rw[hsl]at hvr
    simp only[VR]at hvr
    obtain⟨L,hL,hv0⟩:=hvr
    obtain⟨r1,_⟩:=r.drop b
    have g1: ∀z y,(h.put b none).get z=some y→z≠b∧h.get z=some y:=by
     intro z y hy
     rw[Heap.get_put]at hy
     by_cases hz:z=b
     ·rw[if_pos hz]at hy;split at hy<;>cases hy
     ·rw[if_neg hz]at hy;exact⟨hz,hy⟩
    have hbn:o.blk≠b:=fun hh=>by rw[hh]at c4;rw[c4]at hg;cases hg
    obtain⟨C,lo,hi,vs,q1,q2,q3,q4,q5,q6,q7⟩:=r.cells hg hL
    obtain⟨z1,z2⟩:=a57 hrs (by simp only[e9,l6];have:=t8 o.sig.length d4;omega) ((q5.drop p).take (n*o.sig.length))
    have hvl:=q5.length
    have hns:n*o.sig.length≤c*o.sig.length:=t8 _ d4
    have m:=by9 (o:=o) (l:= .op .row rs) (L:=some ⟨L.blk,L.off+p,c*o.sig.length⟩) c0 f r1 c1 c2 c3 (by rw[Heap.get_put,if_neg hbn];exact c4) c5 (fun z y hy=>c6 z y (g1 z y hy).2) (fun M hM=>by cases hM;exact r.lt b L hL)
      (fun M x y M' hM hx hxM=>by cases hM;exact r.sep b x _ y L M' hg (g1 x y hx).2 hL hxM (g1 x y hx).1.symm (.inl c7)) (fun M hM=>by cases hM;exact r.free b _ L hg c7 hL)
      (fun M hM=>by
       cases hM
       rw[←d1]
       refine⟨C,_,lo,hi,q1,.inl rfl,by show L.off+p+c*o.sig.length≤C.size;omega,?_,fun i v hi'=> ?_,fun i hi'=> ?_⟩
       ·show(N2 ω rs).length*o.sig.length≤c*o.sig.length
        rw[z2];exact hns
       ·show C[L.off+p+i]? =some v
        have hi':(N7 o.sig (N2 ω rs))[i]? =some v:=hi'
        rw[←z1]at hi'
        have hlt:i<n*o.sig.length:=by
         rcases d8 i (n*o.sig.length)with hh|hh
         ·exact hh
         ·rw[j7 (by simp;omega)]at hi';cases hi'
        rw[show L.off+p+i=L.off+(p+i) by omega,q6 (p+i) (by omega)]
        rw[n8,if_pos hlt,o9]at hi'
        exact hi'
       ·have hi':i<c*o.sig.length:=hi'
        have:=q7 (p+i) (by omega) (by omega)
        show¬(lo≤L.off+p+i∧L.off+p+i<hi)
        rw[show L.off+p+i=L.off+(p+i) by omega];exact this) (fun u hu=>by
       rw[hsl]at hu
       simp only[VR]at hu⊢
       obtain⟨M,hM,h3⟩:=hu
       rw[hL,a8]at hM
       subst hM
       have hn:(dI ω (.op .llen [.op .row rs])).toNat=n:=by
        rw[S9]
        show(((N2 ω rs).length:Nat):Int).toNat=n
        rw[z2];simp
       exact .inl ⟨⟨L.blk,L.off+p,c*o.sig.length⟩,c,by simp[Bij.at_],rfl,by rw[hn];exact h3,by rw[hn];exact d4⟩)
    rw[e]at m
    have e1:a'=(an5 o a (h.put b none) (.op .row rs)).1:=by rw[e]
    have e2:h'=(an5 o a (h.put b none) (.op .row rs)).2:=by rw[e]
    refine⟨_,m.1,m.2,bij _,by rw[e1];exact Fr.put_nt _ _ _,by rw[e2];rfl,by rw[e2];rfl,fun x=> ?_⟩
    rw[e2,gput _ _ c3]
    by_cases hx:x=o.blk
    ·exact .inr (.inr (.inl hx))
    ·rw[if_neg hx,Heap.get_put]
     by_cases hx2:x=b
     ·right;left;rw[if_pos hx2];split<;>rfl
     ·left;rw[if_neg hx2]
   ·cases e
  ·cases e
 ·cases e
theorem c09{b:Nat}{y:AV}(hb: ∀x,x≠b→β' x=β x): ∀{cs:List AV} {vs:List Value} {i:Nat},VRs β ω cs vs→bk0 b (cs.set i .nils)=true→(∀x u,cs[i]? =some x→VR β ω x u→VR β' ω y u)→VRs β' ω (cs.set i y) vs
 | [],_,_,r,_,_=>r
 |a::cs,vs,0,⟨v,vr,e,p,q⟩,hn,hy=>by
  simp only[List.set_cons_zero,bk0,d6]at hn
  exact⟨v,vr,e,hy a v rfl p,az9 hb _ _ hn.2 q⟩
 |a::cs,vs,i+1,⟨v,vr,e,p,q⟩,hn,hy=>by
  simp only[List.set_cons_succ,bk0,d6]at hn
  exact⟨v,vr,e,bo0 hb _ _ hn.1 p,c09 hb q hn.2 (fun x u hx hu=>hy x u (by simpa using hx) hu)⟩
theorem bz1{b c:Nat}{cs:List AV}{h0:Heap}: ∀{n:Nat},cd5 b c cs h0 n=true→bk0 b cs=true∧ ∀s,s<n→s≠c→bR4 b (h0.get s)=true
 |0,h=>⟨h,fun s hs=>by omega⟩
 |n+1,h=>by
  simp only[cd5,d6,j8,D0]at h
  obtain⟨h1,h2⟩:=bz1 h.2
  refine⟨h1,fun s hs hc=> ?_⟩
  by_cases e:s=n
  ·subst e
   exact h.1.resolve_left hc
  ·exact h2 s (by omega) hc
theorem c10{o:OwnP}{a:Fr}{act:Act}{l:SX}{L:Option Loc}{c i e fz:Nat}{cs:List AV}(hds:a.ds=[])(f:FrR β ω a act)(r:HR β ω K w0 h w)(hblk:o.blk<h.next)(h65:o.blk<65536)(hnone:h.get o.blk=none)(hc:c≠o.blk)
 (hg:h.get c=some (.cells e fz cs)) (hfr: ∀s,s<a.nt→noB o.blk (a.slot s)=true) (hhp: ∀z y,z≠c→h.get z=some y→bR4 o.blk (some y)=true) (hcs:bk0 o.blk (cs.set i .nils)=true) (hlt: ∀M,L=some M→M.blk<w.heap.size) (hsep: ∀M x y M',L=some M→h.get x=some y→β x=some M'→M.blk≠M'.blk) (hfree: ∀M,L=some M→ ¬K M.blk)
 (hbr: ∀M,L=some M→BR β ω M w.heap[M.blk]? (.arr o.elem o.sig l)) (hv: ∀x u,cs[i]? =some x→VR β ω x u→VR (β.at_ o.blk L) ω (.ous o.blk (.op .llen [l]) o.sig.length) u):
 FrR (β.at_ o.blk L) ω a act∧HR (β.at_ o.blk L) ω K w0 (am1 o c i e fz cs h l) w:=by
 have hb: ∀x,x≠o.blk→(β.at_ o.blk L) x=β x:=fun x hx=>by simp only[Bij.at_];rw[if_neg hx]
 have hb0:(β.at_ o.blk L) o.blk=L:=by simp[Bij.at_]
 have h65c:=Heap.get_lim h c _ hg
 have hcn:c<h.next:=by
  rcases d8 c h.next with hh|hh
  ·exact hh
  ·rw[r.fget c hh]at hg;cases hg
 have a35: ∀z,(am1 o c i e fz cs h l).get z=if z=o.blk then some (.arr o.elem o.sig l)else if z=c then some (.cells e fz (cs.set i (.ous o.blk (.op .llen [l]) o.sig.length)))else h.get z:=fun z=>by
  unfold am1
  rw[Heap.get_put,if_pos h65,Heap.get_put,if_pos h65c]
 constructor
 ·refine⟨f.size,f.lim,fun t _=> ?_,by have:=f.defers;rw[hds]at this⊢;exact this,f.pcs⟩
  by_cases hn:t<a.nt
  ·exact bo0 hb _ _ (hfr t hn) (f.slot t id)
  ·have:=f.slot t id
   rw[k7,s6 (by rw[f.size];exact A8 hn)]at this⊢
   exact a94 this
 ·have key: ∀z y,(am1 o c i e fz cs h l).get z=some y→(z=o.blk∧y= .arr o.elem o.sig l)∨(z≠o.blk∧ ∃y',h.get z=some y'∧y'.isArr=y.isArr∧ ∀M,β z=some M→BR β ω M w.heap[M.blk]? y'→BR (β.at_ o.blk L) ω M w.heap[M.blk]? y):=by
   intro z y hy
   rw[a35]at hy
   by_cases hz:z=o.blk
   ·rw[if_pos hz]at hy;simp only[a8]at hy;exact .inl ⟨hz,hy.symm⟩
   ·rw[if_neg hz]at hy
    refine .inr ⟨hz,?_⟩
    by_cases hzc:z=c
    ·subst hzc
     rw[if_pos rfl]at hy;simp only[a8]at hy;subst hy
     refine⟨_,hg,rfl,fun M hM hbr'=> ?_⟩
     obtain⟨C,lo,hi,vs,q1,q2,q3,q4,q5,q6⟩:=hbr'
     refine⟨C,lo,hi,vs,q1,q2,by rw[s9];exact q3,?_,c09 hb q5 hcs hv,by rw[s9];exact q6⟩
     rw[i6]at q4⊢
     intro x hx
     rcases K4 hx with q|rfl
     ·exact q4 x q
     ·rfl
    ·rw[if_neg hzc]at hy
     exact⟨y,hy,rfl,fun M hM hbr'=>cW2 hb (hhp z y hzc hy) hbr'⟩
  refine⟨fun z y M hy hM=> ?_,fun z z' y y' M M' hy hy' hM hM' hne hw=> ?_,fun z hz=> ?_,fun z hz=> ?_,fun z M hM=> ?_,r.kin,r.keep,fun z y M hy hw hM=> ?_,r.size,r.os,r.tape,r.out,r.dr⟩
  ·rcases key z y hy with⟨rfl,rfl⟩|⟨hz,y0,hy0,_,hk⟩
   ·rw[hb0]at hM;exact hbr M hM
   ·rw[hb z hz]at hM
    exact hk M hM (r.blk z y0 M hy0 hM)
  ·rcases key z y hy with⟨rfl,rfl⟩|⟨hz,y0,hy0,k1,_⟩
   ·rw[hb0]at hM
    rcases key z' y' hy' with⟨rfl,_⟩|⟨hz',y0',hy0',_⟩
    ·exact absurd rfl hne
    ·rw[hb z' hz']at hM';exact hsep M z' y0' M' hM hy0' hM'
   ·rw[hb z hz]at hM
    rcases key z' y' hy' with⟨rfl,rfl⟩|⟨hz',y0',hy0',k2,_⟩
    ·rw[hb0]at hM';exact(hsep M' z y0 M hM' hy0 hM).symm
    ·rw[hb z' hz']at hM';exact r.sep z z' y0 y0' M M' hy0 hy0' hM hM' hne (by rw[k1,k2];exact hw)
  ·have hz:h.next≤z:=hz
   rw[hb z (by omega)];exact r.fresh z hz
  ·have hz:h.next≤z:=hz
   rw[a35,if_neg (by omega),if_neg (by omega)];exact r.fget z hz
  ·by_cases hz:z=o.blk
   ·rw[hz,hb0]at hM;exact hlt M hM
   ·rw[hb z hz]at hM;exact r.lt z M hM
  ·rcases key z y hy with⟨rfl,rfl⟩|⟨hz,y0,hy0,_⟩
   ·rw[hb0]at hM;exact hfree M hM
   ·rw[hb z hz]at hM;exact r.free z y0 M hy0 hw hM
theorem ci7{c:Nat}{x:AV}{v:Value}(h:cx6 c x=true)(r:VR β ω x v):β c≠none:=by
 unfold cx6 at h
 split at h
 ·obtain rfl:=M8.1 h
  obtain⟨L,hL,_⟩:=r
  rw[hL];simp
 ·cases h
theorem ci8{b:Nat}{x:Option AV}(h:cx5 b x=true): ∃len sz,x=some (.ous b len sz):=by
 unfold cx5 at h
 split at h
 ·obtain rfl:=M8.1 h
  exact⟨_,_,rfl⟩
 ·cases h
theorem ci9{o:OwnP}{c i:Nat}{a a':Fr}{h':Heap}{act:Act}(e:cx7 o c i a h=some (a',h'))(f:FrR β ω a act)(r:HR β ω K w0 h w): ∃β',Conv ω K w0 w a a' h h' act β β' (· =o.blk):=by
 have bij: ∀(L:Option Loc) x,¬(x=o.blk)→(β.at_ o.blk L) x=β x:=fun L x hx=>by simp only[Bij.at_];rw[if_neg hx]
 unfold cx7 at e
 split at e
 ·rename_i e0 fz cs hg
  obtain⟨hc,e⟩:=M7 e
  obtain⟨hc,hc2⟩:=M6 hc
  obtain⟨hc,hi⟩:=M6 hc
  obtain⟨hp,hs⟩:=M6 hc
  have hβc:=ci7 hp (f.slot o.slot id)
  rw[j8]at hc2
  have same:(a',h')=(a,h)→ ∃β',Conv ω K w0 w a a' h h' act β β' (· =o.blk):=by
   intro hh
   simp only[d7]at hh
   obtain⟨rfl,rfl⟩:=hh
   exact⟨β,f,r,fun _ _=>rfl,rfl,rfl,rfl,fun _=> .inl rfl⟩
  rcases hc2 with hown|hc2
  ·obtain⟨len,sz,hx⟩:=ci8 hown
   unfold bR7 at e
   rw[hx]at e
   simp only[M8.2 (rfl:o.blk=o.blk),cond_true]at e
   split at e
   ·obtain⟨_,e⟩:=M7 e
    simp only[a8]at e
    exact same e.symm
   ·cases e
  ·obtain⟨hc2,c6⟩:=M6 hc2
   obtain⟨hc2,c5⟩:=M6 hc2
   obtain⟨hc2,c4⟩:=M6 hc2
   obtain⟨hc2,c3⟩:=M6 hc2
   obtain⟨c1,c2⟩:=M6 hc2
   rw[N9]at c1 c2
   have c3:h.get o.blk=none:=by simpa using c3
   have c4:=X7 c4
   have hfr: ∀s,s<a.nt→noB o.blk (a.slot s)=true:=fun s hs=>bo1 c5 s hs (by omega)
   obtain⟨hcs,hhp0⟩:=bz1 c6
   have hhp: ∀z y,z≠c→h.get z=some y→bR4 o.blk (some y)=true:=fun z y hz hy=>by
    have hlt:z<h.next:=by
     rcases d8 z h.next with hh|hh
     ·exact hh
     ·rw[r.fget z hh]at hy;cases hy
    have:=hhp0 z hlt hz
    rw[hy]at this;exact this
   have hds:=bo2 c5
   have drop: ∀(b:Nat) (l:SX),b≠c→h.wm≤b→(∃y,h.get b=some y)→(∀M,β b=some M→BR β ω M w.heap[M.blk]? (.arr o.elem o.sig l))→
    (∀x u,cs[i]? =some x→VR β ω x u→VR (β.at_ o.blk (β b)) ω (.ous o.blk (.op .llen [l]) o.sig.length) u)→(a',h')=(a,am1 o c i e0 fz cs (h.put b none) l)→ ∃β',Conv ω K w0 w a a' h h' act β β' (· =o.blk):=by
    intro b l hbc hwm hy0 hbr hv hh
    obtain⟨y0,hy0⟩:=hy0
    simp only[d7]at hh
    obtain⟨rfl,rfl⟩:=hh
    obtain⟨r1,_⟩:=r.drop b
    have g1: ∀z y,(h.put b none).get z=some y→z≠b∧h.get z=some y:=by
     intro z y hy
     rw[Heap.get_put]at hy
     by_cases hz:z=b
     ·rw[if_pos hz]at hy;split at hy<;>cases hy
     ·rw[if_neg hz]at hy;exact⟨hz,hy⟩
    have hbn:o.blk≠b:=fun hh=>by rw[hh]at c3;rw[c3]at hy0;cases hy0
    have m:=c10 (o:=o) (l:=l) (L:=β b) (i:=i) hds f r1 c1 c2 (by rw[Heap.get_put,if_neg hbn];exact c3) c4 (by rw[Heap.get_put,if_neg (Ne.symm hbc)];exact hg) hfr (fun z y hz hy=>hhp z y hz (g1 z y hy).2) hcs
      (fun M hM=>r.lt b M hM) (fun M x y M' hM hx hxM=>r.sep b x _ y M M' hy0 (g1 x y hx).2 hM hxM (g1 x y hx).1.symm (.inl hwm)) (fun M hM=>r.free b _ M hy0 hwm hM) hbr hv
    refine⟨_,m.1,m.2,bij _,rfl,rfl,rfl,fun x=> ?_⟩
    unfold am1
    rw[Heap.get_put,if_pos c2,Heap.get_put,Heap.get_put]
    by_cases hx:x=o.blk
    ·exact .inr (.inr (.inl hx))
    ·rw[if_neg hx]
     by_cases hx1:x=c
     ·subst hx1;exact .inr (.inr (.inr hβc))
     ·rw[if_neg hx1]
      by_cases hx2:x=b
      ·right;left;rw[if_pos hx2];split<;>rfl
      ·left;rw[if_neg hx2]
   unfold bR7 at e
   split at e
   ·rename_i b len sz hx
    cases hq:Nat.beq b o.blk with
    |true=>
     rw[hq]at e
     simp only[cond_true]at e
     split at e
     ·obtain⟨_,e⟩:=M7 e
      simp only[a8]at e
      exact same e.symm
     ·cases e
    |false=>
     rw[hq]at e
     simp only[cond_false]at e
     obtain⟨hd,e⟩:=M7 e
     obtain⟨c7,c8⟩:=M6 hd
     rw[N1]at c7
     have c8:=X7 c8
     split at e
     ·rename_i el sig l hgb
      obtain⟨hd,e⟩:=M7 e
      obtain⟨hd,d4⟩:=M6 hd
      obtain⟨hd,d3⟩:=M6 hd
      obtain⟨d1,d2⟩:=M6 hd
      rw[M8]at d1 d3
      have d2:=V6 d2
      have d4:=bz0 (ω:=ω) d4
      simp only[a8]at e
      refine drop b l c8 c7 ⟨_,hgb⟩ (fun M hM=>by rw[←d1,←d2];exact r.blk b _ M hgb hM) (fun x u hxi hu=> ?_) e.symm
      rw[hx,a8]at hxi
      subst hxi
      simp only[VR]at hu⊢
      rw[d4]at hu
      rcases hu with⟨L,cap,h1,h2,h3,h4⟩|hu
      ·exact .inl ⟨L,cap,by simp[Bij.at_,h1],by rw[←d2,←d3];exact h2,h3,h4⟩
      ·exact .inr hu
     ·cases e
   ·rename_i hx
    simp only[a8]at e
    simp only[d7]at e
    obtain⟨rfl,rfl⟩:=e
    have m:=c10 (o:=o) (l:= .op .row []) (L:=none) (i:=i) hds f r c1 c2 c3 c4 hg hfr hhp hcs (fun M hM=>by cases hM) (fun M x y M' hM=>by cases hM) (fun M hM=>by cases hM) (fun M hM=>by cases hM) (fun x u hxi hu=>by
      rw[hx,a8]at hxi
      subst hxi
      exact .inr ⟨hu,rfl⟩)
    refine⟨_,m.1,m.2,bij _,rfl,rfl,rfl,fun x=> ?_⟩
    unfold am1
    rw[Heap.get_put,if_pos c2,Heap.get_put]
    by_cases hx:x=o.blk
    ·exact .inr (.inr (.inl hx))
    ·rw[if_neg hx]
     by_cases hx1:x=c
     ·subst hx1;exact .inr (.inr (.inr hβc))
     ·rw[if_neg hx1];exact .inl rfl
   ·rename_i b n sz hx
    obtain⟨hd,e⟩:=M7 e
    obtain⟨hd,c9⟩:=M6 hd
    obtain⟨c7,c8⟩:=M6 hd
    rw[N1]at c7
    rw[N9]at c8
    have c9:=X7 c9
    split at e
    ·rename_i el ds hgb
     obtain⟨hd,e⟩:=M7 e
     obtain⟨hd,d3⟩:=M6 hd
     obtain⟨d1,d2⟩:=M6 hd
     rw[M8]at d1 d2 d3
     split at e
     ·rename_i rs hrs
      simp only[a8]at e
      have hcell: ∀M,β b=some M→ ∃C lo hi,w.heap[M.blk]? =some (.cells C el (lo,hi))∧M.off+M.ext≤C.size∧ds.length≤M.ext∧(N2 ω rs).length=n∧
       (∀i v,(N7 o.sig (N2 ω rs))[i]? =some v→C[M.off+i]? =some v)∧(∀i,i<M.ext→ ¬(lo≤M.off+i∧M.off+i<hi)):=by
       intro M hM
       obtain⟨C,lo,hi,vs,q1,q2,q3,q4,q5,q6,q7⟩:=r.cells hgb hM
       obtain⟨z1,z2⟩:=a57 hrs d3 q5
       have hvl:=q5.length
       refine⟨C,lo,hi,q1,q2,q3,z2,fun i v hi'=> ?_,fun i hi'=>q7 i (k8 _) hi'⟩
       rw[←z1]at hi'
       rw[q6 i (by
        rcases d8 i vs.length with hh|hh
        ·omega
        ·rw[j7 hh]at hi';cases hi')]
       exact hi'
      refine drop b (.op .row rs) c9 c7 ⟨_,hgb⟩ (fun M hM=> ?_) (fun x u hxi hu=> ?_) e.symm
      ·obtain⟨C,lo,hi,q1,q2,q3,q4,q5,q6⟩:=hcell M hM
       rw[←d1]
       refine⟨C,_,lo,hi,q1,.inl rfl,q2,?_,q5,q6⟩
       show(N2 ω rs).length*o.sig.length≤M.ext
       rw[q4,←d2,←d3];exact q3
      ·rw[hx,a8]at hxi
       subst hxi
       simp only[VR]at hu⊢
       obtain⟨M,cap,h1,h2,h3⟩:=hu
       obtain⟨C,lo,hi,q1,q2,q3,q4,q5,q6⟩:=hcell M h1
       have hn:(dI ω (.op .llen [.op .row rs])).toNat=n:=by
        rw[S9]
        show(((N2 ω rs).length:Nat):Int).toNat=n
        rw[q4];simp
       have hle:n≤cap:=by
        rw[d3,←show cap*sz=M.ext by omega]at q3
        exact A1 q3 c8
       exact .inl ⟨M,cap,by simp[Bij.at_,h1],by rw[←d2];omega,by rw[hn];simpa using h3,by rw[hn];exact hle⟩
     ·cases e
    ·cases e
   ·cases e
 ·cases e
theorem cj0{o:OwnP}{a a':Fr}{h':Heap}{act:Act}(e:cx8 o a h=some (a',h'))(f:FrR β ω a act)(r:HR β ω K w0 h w): ∃β',Conv ω K w0 w a a' h h' act β β' (· =o.blk):=by
 unfold cx8 at e
 split at e
 ·exact c08 e f r
 ·exact ci9 e f r
theorem b26: ∀{l:List OwnP} {a a':Fr} {h h':Heap} {act:Act} {β:Bij},bk1 l a h=some (a',h')→FrR β ω a act→HR β ω K w0 h w→ ∃β',Conv ω K w0 w a a' h h' act β β' (fun x=> ∃o∈l,x=o.blk)
 | [],a,a',h,h',act,β,e,f,r=>by
   simp only[bk1,a8,d7]at e
   obtain⟨rfl,rfl⟩:=e
   exact⟨β,f,r,fun _ _=>rfl,rfl,rfl,rfl,fun _=> .inl rfl⟩
 |o::l,a,a',h,h',act,β,e,f,r=>by
  simp only[bk1]at e
  split at e
  ·rename_i p hp
   obtain⟨β1,c1⟩:=cj0 (a':=p.1) (h':=p.2) hp f r
   obtain⟨β2,c2⟩:=b26 e c1.fr c1.hr
   refine⟨β2,c2.fr,c2.hr,fun x hx=> ?_,c2.nt.trans c1.nt,c2.next.trans c1.next,c2.wm.trans c1.wm,fun b=> ?_⟩
   ·rw[c2.bij x (fun⟨o',h1,h2⟩=>hx ⟨o',.tail _ h1,h2⟩),c1.bij x (fun h2=>hx ⟨o,.head _,h2⟩)]
   ·rcases c2.get b with q|q|⟨o',q1,q2⟩|q
    ·rcases c1.get b with z|z|z|z
     ·exact .inl (q.trans z)
     ·exact .inr (.inl (q.trans z))
     ·exact .inr (.inr (.inl ⟨o,.head _,z⟩))
     ·exact .inr (.inr (.inr z))
    ·exact .inr (.inl q)
    ·exact .inr (.inr (.inl ⟨o',.tail _ q1,q2⟩))
    ·by_cases hb:b=o.blk
     ·exact .inr (.inr (.inl ⟨o,.head _,hb⟩))
     ·exact .inr (.inr (.inr (by rw[←c1.bij b hb];exact q)))
  ·cases e
theorem FrR.layDead{a:Fr}{act:Act}(f:FrR β ω a act): ∀(l:List Nat),FrR β ω (Go.Ev.layDead a l) act:=by
 intro l
 induction l generalizing a with
 |nil=>exact f
 |cons t l ih=>
  refine ih ⟨by rw[Fr.put_nt];exact f.size,by rw[Fr.put_nt];exact f.lim,fun s _=> ?_,by rw[Fr.put_ds];exact f.defers,fun p hp=>f.pcs p (by rw[Fr.put_pc]at hp;exact hp)⟩
  rw[Fr.put_slot f.lim]
  split
  ·simp only[VR]
  ·exact f.slot s id
theorem HR.upto{w:World}{h:Heap}(r:HR β ω K w0 h w){n:Nat}(hn:h.next≤n):HR β ω K w0 (h.upto n) w:=by
 have g: ∀b,(h.upto n).get b=h.get b:=fun b=>Heap.get_upto _ _ _
 refine⟨fun z y M hy hM=>r.blk z y M (by rw[←g];exact hy) hM,fun z z' y y' M M' hy hy' hM hM' hne hw=>r.sep z z' y y' M M' (by rw[←g];exact hy) (by rw[←g];exact hy') hM hM' hne (by rw[Heap.wm_upto]at hw;exact hw),
   fun z hz=>r.fresh z (by rw[Heap.next_upto]at hz;omega),fun z hz=>by rw[g];exact r.fget z (by rw[Heap.next_upto]at hz;omega),r.lt,r.kin,r.keep,
   fun z y M hy hw hM=>r.free z y M (by rw[←g];exact hy) (by rw[←Heap.wm_upto h n];exact hw) hM,r.size,r.os,r.tape,r.out,r.dr⟩
theorem b27{sp:LSpec}{a:Fr}{act:Act}(f:FrR β ω a act)(r:HR β ω K w0 h w): ∃β',Conv ω K w0 w a (aR8 sp a h).1 h (aR8 sp a h).2 act β β' (fun x=> ∃o∈sp.owns,x=o.blk):=by
 unfold aR8
 cases hc:bk1 sp.owns (Go.Ev.layDead a sp.dead) h with
 |none=>exact⟨β,f.layDead _,r,fun _ _=>rfl,P7 _ _,rfl,rfl,fun _=> .inl rfl⟩
 |some p=>
  obtain⟨β',c⟩:=b26 (a':=p.1) (h':=p.2) hc (f.layDead _) r
  exact⟨β',c.fr,c.hr,c.bij,c.nt.trans (P7 _ _),c.next,c.wm,c.get⟩
end Go.Ev
