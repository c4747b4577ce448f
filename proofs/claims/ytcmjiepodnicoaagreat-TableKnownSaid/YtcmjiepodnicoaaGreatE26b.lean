import Derived.Test.YtcmjiepodnicoaaGreatE22
set_option linter.unusedSimpArgs false
set_option linter.unusedVariables false
namespace Go.Ev
open Go
variable{v0 n nb:Nat}{es:List SX}{p:SX}{v:Value}{q:Nat->SX}
variable{O ac:cq}{I aa:Opq}{K:Nat->Prop}{w0 w:World}{h:Heap}
structure Agr (v0:Nat) (I aa:Opq):Prop where
 w: ∀n,n<v0->aa.w n=I.w n
 f:aa.f=I.f
 v:aa.v=I.v
 fix:aa.fix=I.fix
 gh:aa.gh=I.gh
theorem EE(I:Opq)(v0:Nat)(l:List Val):Agr v0 I (I.upd v0 l):=
 ⟨λn hn=>by simp_all[Opq.upd,b9],rfl,rfl,rfl,rfl⟩
theorem vO{I:Opq}{l:List Val}{j:Nat}{x:Val}(h:l[j]? =some x):(I.upd v0 l).w (v0+j)=x:=by
 simp_all[Opq.upd,e8,j8]
mutual
theorem qy{v0:Nat}(g:Agr v0 I aa): ∀(e:SX),gb v0 e=true->bZ aa e=bZ I e
 | .ci n,_=>rfl
 | .cs l,_=>rfl
 | .cb x,_=>rfl
 | .va m,h=>by simp[gb]at h;exact g.w m (by trivial)
 | .op p l,h=>by simp[bZ];rw[RL g l h]
 | .app p l,h=>by simp[bZ];rw[RL g l h,g.f]
theorem RL{v0:Nat}(g:Agr v0 I aa): ∀(l:List SX),qD v0 l=true->ck aa l=ck I l
 | [],_=>rfl
 |a::r,h=>by
  simp[qD,j6]at h;simp only[ck];rw[qy g a h.1,RL g r h.2]
end
theorem MY(g:Agr v0 I aa){e:SX}(h:gb v0 e=true):dI aa e=dI I e:=by grind[dI,qy]
theorem du9(g:Agr v0 I aa){e:SX}(h:gb v0 e=true):dS aa e=dS I e:=by grind[dS,qy]
theorem dv0(g:Agr v0 I aa){e:SX}(h:gb v0 e=true):dB aa e=dB I e:=by grind[dB,qy]
theorem UC(I:Opq): ∀a b:List SX,ck I (a++b)=ck I a++ck I b
 | [],b=>rfl
 |x::a,b=>by simp[List.cons_append,ck,UC I a b]
theorem XN(I:Opq): ∀a:List SX,(ck I a).length=a.length
 | []=>rfl
 |x::a=>by simp[ck,List.length_cons,XN I a]
mutual
theorem Di{v0 nb:Nat}(g:Agr v0 I aa)(hb: ∀b,b<nb->ac b=O b): ∀(x:AV) (v:Value),hI v0 nb x=true->VR O I x v->VR ac aa x v
 | .bool _,v,_,r=>r
 | .int _ _,v,_,r=>r
 | .str _,v,_,r=>r
 | .nilp,v,_,r=>r
 | .ptr b _,v,h,⟨L,e,q⟩=>⟨L,(hb b (by simp_all[hI])).trans e,q⟩
 | .glob _,v,_,r=>r
 | .nils,v,_,r=>r
 | .sl b _ _ _,v,h,⟨L,e,q⟩=>⟨L,(hb b (by simp_all[hI])).trans e,q⟩
 | .us b _ _ _,v,h,⟨L,c,e,q⟩=>⟨L,c,(hb b (by trivial)).trans e,q⟩
 | .es b _ _,v,h,⟨L,a,c,e,q⟩=>⟨L,a,c,(hb b (by trivial)).trans e,q⟩
 | .es0,v,_,r=>r
 | .nilm,v,_,r=>r
 | .map b,v,h,⟨L,e,q⟩=>⟨L,(hb b (by simp_all[hI])).trans e,q⟩
 | .nilf,v,_,r=>r
 | .func fn x y,v,h,⟨n,p,q,e,r1,r2⟩=>by
   simp[hI,j6]at h;exact⟨n,p,q,e,Dy g hb x _ h.1 r1,Dy g hb y _ h.2 r2⟩
 | .yield b,v,h,⟨L,e,q⟩=>⟨L,(hb b (by trivial)).trans e,q⟩
 | .nili,v,_,r=>r
 | .iface t x,v,h,⟨y,e,q⟩=>⟨y,e,Di g hb x y (by grind[hI]) q⟩
 | .agg l,v,h,⟨xs,e,q⟩=>⟨xs,e,Dy g hb l _ (by grind[hI]) q⟩
 | .tup l,v,h,⟨xs,e,q⟩=>⟨xs,e,Dy g hb l _ (by grind[hI]) q⟩
 | .opq n,v,_,r=>by show v=aa.v n;rw[g.v];exact r
 | .oint k e,v,h,r=>by show v= .int k (dI aa e);rw[MY g (by grind[hI])];exact r
 | .ostr e,v,h,r=>by show v= .string ⟨(dS aa e).toArray⟩;rw[du9 g (by grind[hI])];exact r
 | .obool e,v,h,r=>by show v= .bool (dB aa e);rw[dv0 g (by grind[hI])];exact r
 | .osl b x y sz,v,h,r=>by
   simp[hI,j6,Nat.blt_eq]at h;grind[VR,MY]
 | .optr b x j sz,v,h,r=>by
   simp[hI,j6,Nat.blt_eq]at h;grind[VR,MY]
 | .ous b x sz,v,h,r=>by
   simp[hI,j6,Nat.blt_eq]at h;grind[VR,MY]
 | .atl _,v,_,r=>r
 | .any,_,_,_=>trivial
theorem Dy{v0 nb:Nat}(g:Agr v0 I aa)(hb: ∀b,b<nb->ac b=O b): ∀(l:List AV) (vs:List Value),pF v0 nb l=true->ct O I l vs->ct ac aa l vs
 | [],vs,_,r=>r
 |a::l,vs,h,⟨v,vr,e,p,q⟩=>by
  simp[pF,j6]at h;exact⟨v,vr,e,Di g hb a v h.1 p,Dy g hb l vr h.2 q⟩
end
theorem sT{x:SX}(g:Agr v0 I aa)(h:mM v0 n p x=some es)(hw: ∀j e,es[j]? =some e->aa.w (v0+(n+j))=bZ I e):bZ aa p=bZ I x:=by
 unfold mM at h;split at h
 .rename_i m hm;obtain⟨h1,h2⟩:=Z2 h;simp at h2;subst h2;unfold Bg at hm;split at hm
  .obtain⟨h3,h4⟩:=Z2 hm;simp at h4;rw[cW]at h3;obtain rfl:=Z4.1 h1;have:=hw 0 x rfl;simp[bZ]
   (intros;grind)
  grind
 .grind[SX.beq_eq,qy]
theorem ji(g:Agr v0 I aa)(hb: ∀b,b<nb->ac b=O b){p x:AV}(h:(bif AV.beq p x&&hI v0 nb x then some ([]:List SX)else none)=some es)(r:VR O I x v):VR ac aa p v:=by
 grind[AV.beq_eq,Di]
theorem cH8{q x y:SX}(g:Agr v0 I aa)(h:Bm v0 n p q x y=some es)(hw: ∀j e,es[j]? =some e->aa.w (v0+(n+j))=bZ I e):bZ aa p=bZ I x/\bZ aa q=bZ I y:=by
 unfold Bm at h;split at h
 .rename_i e1 h1;split at h
  .rename_i e2 h2;simp at h;subst h;refine⟨sT g h1 λj e hj=>hw j e ?_,sT g h2 λj e hj=> ?_⟩
   .grind
   .have:=hw (e1.length+j) e (by(intros;grind));grind
  .cases h
 .cases h
theorem cj6{b s:Nat}{q:SX}{x:AV}(g:Agr v0 I aa)(hb: ∀b,b<nb->ac b=O b)(h:Fk v0 nb n b p q s x=some es)(hw: ∀j e,es[j]? =some e->aa.w (v0+(n+j))=bZ I e)(r:VR O I x v):VR ac aa (.osl b p q s) v:=by
 unfold Fk at h;split at h
 .obtain⟨h1,h2⟩:=Z2 h;obtain⟨h1,h3⟩:=Z1 h1;obtain⟨h1,h4⟩:=Z1 h1;obtain rfl:=Z4.1 h1;obtain rfl:=Z4.1 h4;rw[fc]at h3;obtain⟨k1,k2⟩:=cH8 g h2 hw;have k1:dI aa p=dI I _:=congrArg Val.toI k1;have k2:dI aa q=dI I _:=congrArg Val.toI k2;grind[VR]
 .cases h
theorem cj7{b s:Nat}{x:AV}(g:Agr v0 I aa)(hb: ∀b,b<nb->ac b=O b)(h:GE v0 nb n b p s x=some es)(hw: ∀j e,es[j]? =some e->aa.w (v0+(n+j))=bZ I e)(r:VR O I x v):VR ac aa (.ous b p s) v:=by
 unfold GE at h;split at h
 .obtain⟨h1,h2⟩:=Z2 h;obtain⟨h1,h3⟩:=Z1 h1;obtain⟨h1,h4⟩:=Z1 h1;obtain rfl:=Z4.1 h1;obtain rfl:=Z4.1 h4;rw[fc]at h3;have k1:dI aa p=dI I _:=congrArg Val.toI (sT g h2 hw);grind[VR]
 .cases h
mutual
theorem cj8{v0 nb:Nat}(g:Agr v0 I aa)(hb: ∀b,b<nb->ac b=O b): ∀(n:Nat) (p x:AV) (es:List SX) (v:Value),eu v0 nb n p x=some es->(∀j e,es[j]? =some e->aa.w (v0+(n+j))=bZ I e)->VR O I x v->VR ac aa p v
 |n,.any,x,es,v,h,hw,r=>trivial
 |n,.oint k p,x,es,v,h,hw,r=>by
  simp[eu]at h;unfold KS at h;split at h
  .rename_i k' e hs;split at h
   .rename_i hk;subst hk;rw[sC hs r];show Value.int k (dI I e)= .int k (dI aa p);grind[dI,sT]
   .cases h
  .cases h
 |n,.ostr p,x,es,v,h,hw,r=>by
  simp[eu]at h;unfold ww at h;split at h
  .rename_i e hs;rw[HQ hs r];show Value.string ⟨(dS I e).toArray⟩= .string ⟨(dS aa p).toArray⟩;grind[dS,sT]
  .cases h
 |n,.obool p,x,es,v,h,hw,r=>by
  simp[eu]at h;unfold ww at h;split at h
  .rename_i e hs;rw[xS hs r];show Value.bool (dB I e)= .bool (dB aa p);grind[dB,sT]
  .cases h
 |n,.agg ps,.agg xs,es,v,h,hw,r=>by
  obtain⟨ys,e,q⟩:=r;exact⟨ys,e,Vy g hb n ps xs es _ h hw q⟩
 |n,.agg ps,.bool _,es,v,h,hw,r=>by
  trivial
 |n,.agg ps,.int _ _,es,v,h,hw,r=>by
  trivial
 |n,.agg ps,.str _,es,v,h,hw,r=>by
  trivial
 |n,.agg ps,.nilp,es,v,h,hw,r=>by
  trivial
 |n,.agg ps,.ptr _ _,es,v,h,hw,r=>by
  trivial
 |n,.agg ps,.glob _,es,v,h,hw,r=>by
  trivial
 |n,.agg ps,.nils,es,v,h,hw,r=>by
  trivial
 |n,.agg ps,.sl _ _ _ _,es,v,h,hw,r=>by
  trivial
 |n,.agg ps,.us _ _ _ _,es,v,h,hw,r=>by
  trivial
 |n,.agg ps,.es _ _ _,es,v,h,hw,r=>by
  trivial
 |n,.agg ps,.es0,es,v,h,hw,r=>by
  trivial
 |n,.agg ps,.nilm,es,v,h,hw,r=>by
  trivial
 |n,.agg ps,.map _,es,v,h,hw,r=>by
  trivial
 |n,.agg ps,.nilf,es,v,h,hw,r=>by
  trivial
 |n,.agg ps,.func _ _ _,es,v,h,hw,r=>by
  trivial
 |n,.agg ps,.yield _,es,v,h,hw,r=>by
  trivial
 |n,.agg ps,.nili,es,v,h,hw,r=>by
  trivial
 |n,.agg ps,.iface _ _,es,v,h,hw,r=>by
  trivial
 |n,.agg ps,.tup _,es,v,h,hw,r=>by
  trivial
 |n,.agg ps,.opq _,es,v,h,hw,r=>by
  trivial
 |n,.agg ps,.atl _,es,v,h,hw,r=>by
  trivial
 |n,.agg ps,.osl _ _ _ _,es,v,h,hw,r=>by
  trivial
 |n,.agg ps,.optr _ _ _ _,es,v,h,hw,r=>by
  trivial
 |n,.agg ps,.ous _ _ _,es,v,h,hw,r=>by
  trivial
 |n,.agg ps,.oint _ _,es,v,h,hw,r=>by
  trivial
 |n,.agg ps,.ostr _,es,v,h,hw,r=>by
  trivial
 |n,.agg ps,.obool _,es,v,h,hw,r=>by
  trivial
 |n,.agg ps,.any,es,v,h,hw,r=>by
  trivial
 |n,.bool _,x,es,v,h,hw,r=>by
  grind[eu,ji]
 |n,.int _ _,x,es,v,h,hw,r=>by
  grind[eu,ji]
 |n,.str _,x,es,v,h,hw,r=>by
  grind[eu,ji]
 |n,.nilp,x,es,v,h,hw,r=>by
  grind[eu,ji]
 |n,.ptr _ _,x,es,v,h,hw,r=>by
  grind[eu,ji]
 |n,.glob _,x,es,v,h,hw,r=>by
  grind[eu,ji]
 |n,.nils,x,es,v,h,hw,r=>by
  grind[eu,ji]
 |n,.sl _ _ _ _,x,es,v,h,hw,r=>by
  grind[eu,ji]
 |n,.us _ _ _ _,x,es,v,h,hw,r=>by
  grind[eu,ji]
 |n,.es _ _ _,x,es,v,h,hw,r=>by
  grind[eu,ji]
 |n,.es0,x,es,v,h,hw,r=>by
  grind[eu,ji]
 |n,.nilm,x,es,v,h,hw,r=>by
  grind[eu,ji]
 |n,.map _,x,es,v,h,hw,r=>by
  grind[eu,ji]
 |n,.nilf,x,es,v,h,hw,r=>by
  grind[eu,ji]
 |n,.func _ _ _,x,es,v,h,hw,r=>by
  grind[eu,ji]
 |n,.yield _,x,es,v,h,hw,r=>by
  trivial
 |n,.nili,x,es,v,h,hw,r=>by
  grind[eu,ji]
 |n,.iface _ _,x,es,v,h,hw,r=>by
  grind[eu,ji]
 |n,.tup _,x,es,v,h,hw,r=>by
  grind[eu,ji]
 |n,.opq _,x,es,v,h,hw,r=>by
  grind[eu,ji]
 |n,.atl _,x,es,v,h,hw,r=>by
  grind[eu,ji]
 |n,.osl _ _ _ _,x,es,v,h,hw,r=>by
  grind[eu,cj6]
 |n,.optr _ _ _ _,x,es,v,h,hw,r=>by
  grind[eu,ji]
 |n,.ous _ _ _,x,es,v,h,hw,r=>by
  grind[eu,cj7]
theorem Vy{v0 nb:Nat}(g:Agr v0 I aa)(hb: ∀b,b<nb->ac b=O b): ∀(n:Nat) (ps xs:List AV) (es:List SX) (vs:List Value),qZ v0 nb n ps xs=some es->(∀j e,es[j]? =some e->aa.w (v0+(n+j))=bZ I e)->ct O I xs vs->ct ac aa ps vs
 |n,[],[],es,vs,h,hw,r=>r
 |n,[],_::_,es,vs,h,hw,r=>by trivial
 |n,_::_,[],es,vs,h,hw,r=>by trivial
 |n,p::ps,x::xs,es,vs,h,hw,⟨v,vr,e,r1,r2⟩=>by
  simp[qZ]at h;split at h
  .rename_i e1 h1;split at h
   .rename_i e2 h2;simp at h;subst h;refine⟨v,vr,e,cj8 g hb n p x e1 v h1 (λj y hy=>hw j y ?_) r1,Vy g hb _ ps xs e2 vr h2 (λj y hy=> ?_) r2⟩
    .grind
    .have:=hw (e1.length+j) y (by(intros;grind));grind
   .cases h
  .cases h
end
theorem Agr.symm(g:Agr v0 I aa):Agr v0 aa I:=⟨λn hn=>(g.w n hn).symm,g.f.symm,g.v.symm,g.fix.symm,g.gh.symm⟩
theorem sI{x:SX}(g:Agr v0 I aa)(h:mM v0 n p x=some es)(hq: ∀j e,es[j]? =some e->bZ I (q (n+j))=aa.w (v0+(n+j))):bZ I (eN v0 q p)=bZ aa p:=by
 unfold mM at h;unfold eN;split at h
 .rename_i m hm;obtain⟨h1,h2⟩:=Z2 h;simp at h2;subst h2;unfold Bg at hm;split at hm
  .obtain⟨h3,h4⟩:=Z2 hm;simp at h4;rw[cW]at h3;obtain rfl:=Z4.1 h1;have:=hq 0 x rfl;rw[show m=m+0 from rfl,this];congr 1;omega
  grind
 .grind[SX.beq_eq,qy]
theorem Gu(g:Agr v0 I aa){p x:AV}(hp:pP v0 q p=p)(h:(bif AV.beq p x&&hI v0 nb x then some ([]:List SX)else none)=some es)(r:VR O aa p v):VR O I (pP v0 q p) v:=by
 obtain⟨h1,_⟩:=Z2 h;obtain⟨h2,h3⟩:=Z1 h1;rw[hp];rw[<-AV.beq_eq _ _ h2]at h3;exact Di (ac:=O) g.symm (λ_ _=>rfl) p v h3 r
theorem cj9{q x y:SX}{f:Nat->SX}(g:Agr v0 I aa)(h:Bm v0 n p q x y=some es)(hq: ∀j e,es[j]? =some e->bZ I (f (n+j))=aa.w (v0+(n+j))):bZ I (eN v0 f p)=bZ aa p/\bZ I (eN v0 f q)=bZ aa q:=by
 unfold Bm at h;split at h
 .rename_i e1 h1;split at h
  .rename_i e2 h2;simp at h;subst h;refine⟨sI g h1 λj e hj=>hq j e ?_,sI g h2 λj e hj=> ?_⟩
   .grind
   .have:=hq (e1.length+j) e (by(intros;grind));grind
  .cases h
 .cases h
mutual
theorem XA{v0 nb:Nat}{q:Nat->SX}(g:Agr v0 I aa): ∀(n:Nat) (p x:AV) (es:List SX) (v:Value),eu v0 nb n p x=some es->(∀j e,es[j]? =some e->bZ I (q (n+j))=aa.w (v0+(n+j)))->VR O aa p v->VR O I (pP v0 q p) v
 |n,.any,x,es,v,h,hw,r=>trivial
 |n,.oint k p,x,es,v,h,hw,r=>by
  simp[eu]at h;unfold KS at h;split at h
  .split at h
   .show v= .int k (dI I (eN v0 q p));unfold dI;rw[sI g h hw];exact r
   .cases h
  .cases h
 |n,.ostr p,x,es,v,h,hw,r=>by
  simp[eu]at h;unfold ww at h;split at h
  .show v= .string ⟨(dS I (eN v0 q p)).toArray⟩;unfold dS;rw[sI g h hw];exact r
  .cases h
 |n,.obool p,x,es,v,h,hw,r=>by
  simp[eu]at h;unfold ww at h;split at h
  .show v= .bool (dB I (eN v0 q p));unfold dB;rw[sI g h hw];exact r
  .cases h
 |n,.agg ps,.agg xs,es,v,h,hw,r=>by
  obtain⟨ys,e,r1⟩:=r;exact⟨ys,e,Tl g n ps xs es _ h hw r1⟩
 |n,.agg ps,.bool _,es,v,h,hw,r=>by
  trivial
 |n,.agg ps,.int _ _,es,v,h,hw,r=>by
  trivial
 |n,.agg ps,.str _,es,v,h,hw,r=>by
  trivial
 |n,.agg ps,.nilp,es,v,h,hw,r=>by
  trivial
 |n,.agg ps,.ptr _ _,es,v,h,hw,r=>by
  trivial
 |n,.agg ps,.glob _,es,v,h,hw,r=>by
  trivial
 |n,.agg ps,.nils,es,v,h,hw,r=>by
  trivial
 |n,.agg ps,.sl _ _ _ _,es,v,h,hw,r=>by
  trivial
 |n,.agg ps,.us _ _ _ _,es,v,h,hw,r=>by
  trivial
 |n,.agg ps,.es _ _ _,es,v,h,hw,r=>by
  trivial
 |n,.agg ps,.es0,es,v,h,hw,r=>by
  trivial
 |n,.agg ps,.nilm,es,v,h,hw,r=>by
  trivial
 |n,.agg ps,.map _,es,v,h,hw,r=>by
  trivial
 |n,.agg ps,.nilf,es,v,h,hw,r=>by
  trivial
 |n,.agg ps,.func _ _ _,es,v,h,hw,r=>by
  trivial
 |n,.agg ps,.yield _,es,v,h,hw,r=>by
  trivial
 |n,.agg ps,.nili,es,v,h,hw,r=>by
  trivial
 |n,.agg ps,.iface _ _,es,v,h,hw,r=>by
  trivial
 |n,.agg ps,.tup _,es,v,h,hw,r=>by
  trivial
 |n,.agg ps,.opq _,es,v,h,hw,r=>by
  trivial
 |n,.agg ps,.atl _,es,v,h,hw,r=>by
  trivial
 |n,.agg ps,.osl _ _ _ _,es,v,h,hw,r=>by
  trivial
 |n,.agg ps,.optr _ _ _ _,es,v,h,hw,r=>by
  trivial
 |n,.agg ps,.ous _ _ _,es,v,h,hw,r=>by
  trivial
 |n,.agg ps,.oint _ _,es,v,h,hw,r=>by
  trivial
 |n,.agg ps,.ostr _,es,v,h,hw,r=>by
  trivial
 |n,.agg ps,.obool _,es,v,h,hw,r=>by
  trivial
 |n,.agg ps,.any,es,v,h,hw,r=>by
  trivial
 |n,.bool _,x,es,v,h,hw,r=>by
  trivial
 |n,.int _ _,x,es,v,h,hw,r=>by
  trivial
 |n,.str _,x,es,v,h,hw,r=>by
  trivial
 |n,.nilp,x,es,v,h,hw,r=>by
  trivial
 |n,.ptr _ _,x,es,v,h,hw,r=>by
  trivial
 |n,.glob _,x,es,v,h,hw,r=>by
  trivial
 |n,.nils,x,es,v,h,hw,r=>by
  trivial
 |n,.sl _ _ _ _,x,es,v,h,hw,r=>by
  trivial
 |n,.us _ _ _ _,x,es,v,h,hw,r=>by
  trivial
 |n,.es _ _ _,x,es,v,h,hw,r=>by
  trivial
 |n,.es0,x,es,v,h,hw,r=>by
  trivial
 |n,.nilm,x,es,v,h,hw,r=>by
  trivial
 |n,.map _,x,es,v,h,hw,r=>by
  trivial
 |n,.nilf,x,es,v,h,hw,r=>by
  trivial
 |n,.func _ _ _,x,es,v,h,hw,r=>by
  exact Gu g rfl h r
 |n,.yield _,x,es,v,h,hw,r=>by
  trivial
 |n,.nili,x,es,v,h,hw,r=>by
  trivial
 |n,.iface _ _,x,es,v,h,hw,r=>by
  exact Gu g rfl h r
 |n,.tup _,x,es,v,h,hw,r=>by
  exact Gu g rfl h r
 |n,.opq _,x,es,v,h,hw,r=>by
  exact Gu g rfl h r
 |n,.atl _,x,es,v,h,hw,r=>by
  trivial
 |n,.osl _ _ _ _,x,es,v,h,hw,r=>by
  simp[eu]at h;unfold Fk at h;split at h
  .obtain⟨_,h2⟩:=Z2 h;obtain⟨k1,k2⟩:=cj9 g h2 hw;grind[VR,pP,dI]
  .cases h
 |n,.optr _ _ _ _,x,es,v,h,hw,r=>by
  exact Gu g rfl h r
 |n,.ous _ _ _,x,es,v,h,hw,r=>by
  simp[eu]at h;unfold GE at h;split at h
  .obtain⟨_,h2⟩:=Z2 h;have k1:=congrArg Val.toI (sI g h2 hw);grind[VR,pP,dI]
  .cases h
theorem Tl{v0 nb:Nat}{q:Nat->SX}(g:Agr v0 I aa): ∀(n:Nat) (ps xs:List AV) (es:List SX) (vs:List Value),qZ v0 nb n ps xs=some es->(∀j e,es[j]? =some e->bZ I (q (n+j))=aa.w (v0+(n+j)))->ct O aa ps vs->ct O I (CY v0 q ps) vs
 |n,[],[],es,vs,h,hw,r=>r
 |n,[],_::_,es,vs,h,hw,r=>by trivial
 |n,_::_,[],es,vs,h,hw,r=>by trivial
 |n,p::ps,x::xs,es,vs,h,hw,⟨v,vr,e,r1,r2⟩=>by
  simp[qZ]at h;split at h
  .rename_i e1 h1;split at h
   .rename_i e2 h2;simp at h;subst h;refine⟨v,vr,e,XA g n p x e1 v h1 (λj y hy=>hw j y ?_) r1,Tl g _ ps xs e2 vr h2 (λj y hy=> ?_) r2⟩
    .grind
    .have:=hw (e1.length+j) y (by(intros;grind));grind
   .cases h
  .cases h
end
theorem mL: ∀{a b:List CT},iE a b=true->a=b
 | [],[],_=>rfl
 | [],_::_,h=>by cases h
 |_::_,[],h=>by cases h
 |a::x,b::y,h=>by
  simp[iE,j6,decide_eq_true_eq]at h;rw[h.1,mL h.2]
theorem ck0{v0 nb:Nat}: ∀{a b:List Ent},JU v0 nb a b=true->a=b
 | [],[],_=>rfl
 | [],_::_,h=>by cases h
 |_::_,[],h=>by cases h
 |⟨ka,va,ba⟩::x,⟨kb,vb,bb⟩::y,h=>by
  trivial
theorem UI{v0 nb:Nat}(g:Agr v0 I aa)(hb: ∀b,b<nb->ac b=O b): ∀{es es':List Ent} {m:List MapEntry},JU v0 nb es es'=true->ERs O I es' m->ERs ac aa es m
 | [],[],m,h,r=>by cases r;exact .nil
 | [],_::_,m,h,r=>by cases h
 |_::_,[],m,h,r=>by cases h
 |a::x,b::y,m,h,r=>by
  trivial
theorem d83(g:Agr v0 I aa)(hb: ∀b,b<nb->ac b=O b){L:Loc}{o:Option Obj}: ∀{p x:Blk} {es:List SX},pj v0 nb n p x=some es->(∀j e,es[j]? =some e->aa.w (v0+(n+j))=bZ I e)->BR O I L o x->BR ac aa L o p:=by
 intro p x es h hw r;unfold pj at h;split at h
 .obtain⟨h1,h2⟩:=Z2 h;obtain⟨h1,h5⟩:=Z1 h1;obtain⟨h3,h4⟩:=Z1 h1;obtain rfl:=Z4.1 h3;obtain rfl:=Z4.1 h4;obtain⟨C,lo,hi,vs,q1,q2,q3,q4,q5,q6,q7,q8⟩:=r;have hv:=Vy g hb n _ _ es vs h2 hw q5;have hl:=hv.length;have hl2:=q5.length;exact⟨C,lo,hi,vs,q1,q2,by omega,h5,hv,λi hi'=>q6 i (by omega),q7,by rw[g.fix];exact q8⟩
 .rename_i pp _ _ xx;obtain⟨h1,h2⟩:=Z2 h;obtain⟨h3,h4⟩:=Z1 h1;obtain rfl:=Z4.1 h3;obtain rfl:=mL h4;have:=sT g h2 hw;obtain⟨C,e',lo,hi,q1,q0,q2,q3,q4,q5⟩:=r;have hd:dL aa pp=dL I xx:=by grind[dL]
  exact⟨C,e',lo,hi,q1,q0,q2,by grind,by grind,q5⟩
 .obtain⟨h1,h2⟩:=Z2 h;obtain⟨h3,h4⟩:=Z1 h1;obtain rfl:=Z4.1 h4;obtain⟨Es,q1,q2⟩:=r;exact⟨Es,q1,UI g hb h3 q2⟩
 .obtain⟨h1,h2⟩:=Z2 h;obtain⟨h5,h1⟩:=Z1 h1;obtain⟨h3,h4⟩:=Z1 h1;obtain rfl:=mL h3;obtain rfl:=mL h4;have:=sT g h2 hw;obtain⟨Es,c,q1,q2,q3⟩:=r;exact⟨Es,c,q1,by grind[dL],q3.weak h5⟩
 .rename_i pp _;obtain⟨h5,h⟩:=Z2 h;have:=sT g h hw;obtain⟨Es,q1,q2⟩:=r;refine⟨Es,_,q1,?_⟩;have hE:Es.toList=[]:=by generalize Es.toList=z at q2;cases q2;rfl
  rw[hE,show dL aa pp=[] by unfold dL;rw[this];rfl];exact⟨rfl,(gP.nil _).weak h5⟩
 .obtain⟨h1,h2⟩:=Z2 h;obtain⟨h3,h4⟩:=Z1 h1;obtain rfl:=Z4.1 h3;obtain rfl:=mL h4;have:=sT g h2 hw;obtain⟨D,q,r⟩:=r;exact⟨D,by grind[dL],r⟩
 .cases h
theorem bt3{p x:Blk}(h:pj v0 nb n p x=some es):p.isArr=x.isArr:=by
 cases p<;>cases x<;>simp only[pj]at h<;>first|rfl|cases h
theorem c46{p y:Blk}(h:zN v0 q (some p)=some y):p.isArr=y.isArr:=by
 cases p<;>simp only[zN,j0]at h<;>subst h<;>rfl
theorem cH9(g:Agr v0 I aa){L:Loc}{o:Option Obj}: ∀{p x:Blk} {es:List SX},pj v0 nb n p x=some es->(∀j e,es[j]? =some e->bZ I (q (n+j))=aa.w (v0+(n+j)))->BR O aa L o p-> ∃p',zN v0 q (some p)=some p'/\BR O I L o p':=by
 intro p x es h hw r;unfold pj at h;split at h
 .obtain⟨h1,h2⟩:=Z2 h;obtain⟨C,lo,hi,vs,q1,q2,q3,q4,q5,q6,q7,q8⟩:=r;have hv:=Tl g n _ _ es vs h2 hw q5;have hl:=hv.length;have hl2:=q5.length;refine⟨_,rfl,C,lo,hi,vs,q1,q2,by omega,?_,hv,λi hi'=>q6 i (by omega),q7,by rw[<-g.fix];exact q8⟩;have: ∀l:List AV,l.all AV.oneA=true->(CY v0 q l).all AV.oneA=true:=by
   intro l;induction l with
   |nil=>intro _;rfl
   |cons a l ih=>
    intro hh;simp only[List.all_cons,j6]at hh;simp only[CY,List.all_cons,j6];refine⟨?_,ih hh.2⟩;have:=hh.1;cases a<;>simp only[pP]<;>first|exact this|rfl
  grind
 .obtain⟨h1,h2⟩:=Z2 h;have:=sI g h2 hw;obtain⟨C,e',lo,hi,q1,q0,q2,q3,q4,q5⟩:=r;have hd: ∀e:SX,bZ I (eN v0 q e)=bZ aa e->dL I (eN v0 q e)=dL aa e:=λe he=>by grind[dL]
  exact⟨_,rfl,C,e',lo,hi,q1,q0,q2,by grind,by grind,q5⟩
 .obtain⟨h1,h2⟩:=Z2 h;obtain⟨h3,h4⟩:=Z1 h1;obtain⟨Es,q1,q2⟩:=r;obtain rfl:=ck0 h3;exact⟨_,rfl,Es,q1,UI (O:=O) (ac:=O) g.symm (λ_ _=>rfl) h3 q2⟩
 .obtain⟨h1,h2⟩:=Z2 h;have:=sI g h2 hw;obtain⟨Es,c,q1,q2⟩:=r;exact⟨_,rfl,Es,c,q1,by grind[dL,eN]⟩
 .obtain⟨h5,h⟩:=Z2 h;have:=sI g h hw;obtain⟨Es,c,q1,q2⟩:=r;exact⟨_,rfl,Es,c,q1,by grind[dL,eN]⟩
 .obtain⟨h1,h2⟩:=Z2 h;have:=sI g h2 hw;obtain⟨D,q0,r⟩:=r;exact⟨_,rfl,D,by grind[dL,eN],r⟩
 .cases h
end Go.Ev
namespace Go.Ev
open Go
variable{es:List SX}{v0:Nat}
variable{O ac:cq}{I aa:Opq}{K:Nat->Prop}{w0 w:World}{h:Heap}
theorem yC{x:AV}(r:VR O I x Go.undef):VR ac aa x Go.undef:=by
 cases x<;>simp only[VR,Go.undef]at r⊢ <;>first
  |exact r
  |(cases r;done)
  |(obtain⟨_,_,r⟩:=r;cases r;done)
  |(obtain⟨_,_,_,_,r⟩:=r;cases r;done)
  |(obtain⟨_,_,_,_,r,_⟩:=r;cases r;done)
  |(obtain⟨_,r⟩:=r;cases r;done)
  |(obtain⟨_,_,_,r,_⟩:=r;cases r;done)
  |(obtain⟨_,r,_⟩:=r;cases r;done)
  |(rcases r with⟨_,_,_,_,r,_⟩|⟨_,_,r,_⟩<;>(cases r;done))
  |(rcases r with⟨_,_,_,_,r,_⟩|⟨r,_⟩<;>cases r)
  |skip
 case opq n=>have:=I.one n;rw[<-r]at this;cases this
 case tup cs=>
  obtain⟨xs,e,q⟩:=r;simp at e;subst e;cases cs with
  |nil=>exact⟨#[],rfl,rfl⟩
  |cons c cs=>obtain⟨_,_,e,_⟩:=q;cases e
theorem HZ: ∀(l:List (Nat×AV)) (a:Fr),(fw a l).nt=a.nt
 | [],a=>rfl
 |(t,v)::r,a=>by simp[fw];rw[HZ r,Fr.put_nt]
theorem rj: ∀(l:List Nat) (a:Fr),(layDead a l).nt=a.nt
 | [],a=>rfl
 |t::r,a=>by simp[layDead];rw[rj r,Fr.put_nt]
theorem bQ7: ∀(l:List (Nat×AV)) (a:Fr),(fw a l).pc=a.pc
 | [],a=>rfl
 |(t,v)::r,a=>by simp[fw];rw[bQ7 r,Fr.put_pc]
theorem Qx: ∀(l:List Nat) (a:Fr),(layDead a l).pc=a.pc
 | [],a=>rfl
 |t::r,a=>by simp[layDead];rw[Qx r,Fr.put_pc]
theorem JF: ∀(l:List (Nat×AV)) (a:Fr),(fw a l).ds=a.ds
 | [],a=>rfl
 |(t,v)::r,a=>(JF r _).trans (Fr.put_ds _ _ _)
theorem JS: ∀(l:List Nat) (a:Fr),(layDead a l).ds=a.ds
 | [],a=>rfl
 |t::r,a=>(JS r _).trans (Fr.put_ds _ _ _)
theorem Kw: ∀(l:List (Nat×AV)) (a:Fr),(fw a l).ro=a.ro
 | [],a=>rfl
 |(t,v)::r,a=>(Kw r _).trans (Fr.put_ro _ _ _)
theorem Hq: ∀(l:List Nat) (a:Fr),(layDead a l).ro=a.ro
 | [],a=>rfl
 |t::r,a=>(Hq r _).trans (Fr.put_ro _ _ _)
theorem Dr{a:Fr}(h:sS a=true):a.ds=[]/\a.ro=none:=by
 simp_all[sS,Z1,List.isEmpty_iff]
theorem Ic: ∀(l:List (Nat×AV)) (a:Fr),a.nt<=256-> ∀s,a.nt<=s->(fw a l).slot s=a.slot s
 | [],a,_,s,_=>rfl
 |(t,v)::r,a,hl,s,hs=>by
  simp[fw];rw[Ic r _ (by grind[Fr.put_nt]) s (by grind[Fr.put_nt]),Fr.put_slot hl,b9 (by omega)]
theorem GO: ∀(l:List Nat) (a:Fr),a.nt<=256-> ∀s,a.nt<=s->(layDead a l).slot s=a.slot s
 | [],a,_,s,_=>rfl
 |t::r,a,hl,s,hs=>by
  simp[layDead];rw[GO r _ (by grind[Fr.put_nt]) s (by grind[Fr.put_nt]),Fr.put_slot hl,b9 (by omega)]
theorem bb0(f:AV->AV): ∀(l:List (Nat×AV)) (a b:Fr) (s:Nat),a.nt<=256->b.nt=a.nt->s<a.nt->(b.slot s=f (a.slot s)\/b.slot s=a.slot s)->
 ((fw b (l.map λp=>(p.1,f p.2))).slot s=f ((fw a l).slot s))\/((fw b (l.map λp=>(p.1,f p.2))).slot s=b.slot s/\(fw a l).slot s=a.slot s)
 | [],a,b,s,_,_,_,_=> .inr ⟨rfl,rfl⟩
 |(t,v)::r,a,b,s,hl,hn,hs,h=>by
  simp[l9,fw];have e1:(a.put (some t) v).slot s=if t=s then v else a.slot s:=by rw[Fr.put_slot hl];simp[hs]
  have e2:(b.put (some t) (f v)).slot s=if t=s then f v else b.slot s:=by rw[Fr.put_slot (by omega)];simp[hn,hs]
  have:=bb0 f r (a.put (some t) v) (b.put (some t) (f v)) s (by rw[Fr.put_nt];exact hl) (by rw[Fr.put_nt,Fr.put_nt,hn]) (by rw[Fr.put_nt];exact hs) (by
   rw[e1,e2];by_cases hh:t=s
   .rw[e8 hh,e8 hh];exact .inl rfl
   .rw[b9 hh,b9 hh];exact h)
  grind
@[simp]theorem Heap.get_upto(h:Heap)(n b:Nat):(h.upto n).get b=h.get b:=by rfl
@[simp]theorem Heap.next_upto(h:Heap)(n:Nat):(h.upto n).next=n:=by rfl
@[simp]theorem Heap.wm_upto(h:Heap)(n:Nat):(h.upto n).wm=h.wm:=by rfl
theorem PJ: ∀(l:List (Nat×Option Blk)) (h:Heap),(il h l).next=h.next
 | [],h=>rfl
 |(b,x)::r,h=>by simp[il];rw[PJ r];rfl
theorem BZ: ∀(l:List (Nat×Option Blk)) (h:Heap),(il h l).wm=h.wm
 | [],h=>rfl
 |(b,x)::r,h=>by simp[il];rw[BZ r];rfl
theorem OL: ∀(l:List (Nat×Option Blk)) (h:Heap) (s:Nat),(∀p∈l,p.1≠s)->(il h l).get s=h.get s
 | [],h,s,_=>rfl
 |(b,x)::r,h,s,hp=>by
  simp[il];rw[OL r _ s (λp hh=>hp p (.tail _ hh)),Heap.get_put,b9 (λe=>hp (b,x) (.head _) e.symm)]
theorem Ya(f:Option Blk->Option Blk)(hf:f none=none): ∀(l:List (Nat×Option Blk)) (a b:Heap) (s:Nat),(b.get s=f (a.get s)\/b.get s=a.get s)->
 ((il b (l.map λp=>(p.1,f p.2))).get s=f ((il a l).get s))\/((il b (l.map λp=>(p.1,f p.2))).get s=b.get s/\(il a l).get s=a.get s)
 | [],a,b,s,_=> .inr ⟨rfl,rfl⟩
 |(t,v)::r,a,b,s,h=>by
  simp[l9,il];have e1:(a.put t v).get s=if s=t then(if t<65536 then v else none)else a.get s:=Heap.get_put _ _ _ _
  have e2:(b.put t (f v)).get s=if s=t then(if t<65536 then f v else none)else b.get s:=Heap.get_put _ _ _ _
  have h2:(b.put t (f v)).get s=f ((a.put t v).get s)\/(b.put t (f v)).get s=(a.put t v).get s:=by
   rw[e1,e2];by_cases hh:s=t
   .rw[e8 hh,e8 hh];by_cases h3:t<65536
    .rw[e8 h3,e8 h3];exact .inl rfl
    .rw[b9 h3,b9 h3];exact .inr rfl
   .rw[b9 hh,b9 hh];exact h
  rcases Ya f hf r (a.put t v) (b.put t (f v)) s h2 with q|⟨q1,q2⟩
  .exact .inl q
  grind
theorem d84{n:Nat}{fs:List SX}{P:Nat->SX->Prop}(hw: ∀j e,(es++fs)[j]? =some e->P (n+j) e): ∀j e,es[j]? =some e->P (n+j) e:=by
 grind
theorem bQ8{n:Nat}{fs:List SX}{P:Nat->SX->Prop}(hw: ∀j e,(es++fs)[j]? =some e->P (n+j) e): ∀j e,fs[j]? =some e->P (n+es.length+j) e:=by
 intro j e hj;have:=hw (es.length+j) e (by rw[o7 (by omega),show es.length+j-es.length=j by omega];exact hj);grind
theorem bQ9{v0 nb:Nat}{aP a:Fr}{P:Nat->SX->Prop}: ∀{m t n:Nat} {es:List SX},JZ v0 nb aP a m t n=some es->(∀j e,es[j]? =some e->P (n+j) e)-> ∀s,t<=s->s<t+m-> ∃n' es',eu v0 nb n' (aP.slot s) (a.slot s)=some es'/\ ∀j e,es'[j]? =some e->P (n'+j) e
 |0,t,n,es,h,hw,s,h1,h2=>by omega
 |m+1,t,n,es,h,hw,s,h1,h2=>by
  simp[JZ]at h;split at h
  .split at h
   .rename_i e2 he2;simp at h;subst h;by_cases hs:s=t
    .grind
    .exact bQ9 he2 (bQ8 hw) s (by omega) (by omega)
   .cases h
  .cases h
theorem bR0{v0 nb:Nat}{hP h0:Heap}{P:Nat->SX->Prop}: ∀{m t n:Nat} {es:List SX},Mg v0 nb hP h0 m t n=some es->(∀j e,es[j]? =some e->P (n+j) e)-> ∀s,t<=s->s<t+m-> ∃n' es',sH v0 nb n' (hP.get s) (h0.get s)=some es'/\ ∀j e,es'[j]? =some e->P (n'+j) e
 |0,t,n,es,h,hw,s,h1,h2=>by omega
 |m+1,t,n,es,h,hw,s,h1,h2=>by
  simp[Mg]at h;split at h
  .split at h
   .rename_i e2 he2;simp at h;subst h;by_cases hs:s=t
    .grind
    .exact bR0 he2 (bQ8 hw) s (by omega) (by omega)
   .cases h
  .cases h
def cq.cut(O:cq)(n:Nat):cq:=λb=>if b<n then O b else none
theorem bR1{I:Opq}: ∀j e,es[j]? =some e->(I.upd v0 (ck I es)).w (v0+(0+j))=bZ I e:=by
 intro j e hj;refine vO ?_;induction es generalizing j with
 |nil=>simp at hj
 |cons a r ih=>
  grind[ck,List.getElem?_cons_succ]
structure Met (v0:Nat) (aP:Fr) (hP:Heap) (a:Fr) (h:Heap) (es:List SX):Prop where
 plP:sS aP=true
 pl:sS a=true
 nt:aP.nt=a.nt
 nx:hP.next<=h.next
 wm:hP.wm=h.wm
 sl: ∀(P:Nat->SX->Prop),(∀j e,es[j]? =some e->P (0+j) e)-> ∀s,s<a.nt-> ∃n' es',eu v0 hP.next n' (aP.slot s) (a.slot s)=some es'/\ ∀j e,es'[j]? =some e->P (n'+j) e
 hp: ∀(P:Nat->SX->Prop),(∀j e,es[j]? =some e->P (0+j) e)-> ∀s,s<hP.next-> ∃n' es',sH v0 hP.next n' (hP.get s) (h.get s)=some es'/\ ∀j e,es'[j]? =some e->P (n'+j) e
theorem FW{aP:Fr}{hP:Heap}{a:Fr}{h:Heap}(e:sN v0 aP hP a h=some es):Met v0 aP hP a h es:=by
 obtain⟨h1,e⟩:=Z2 e;obtain⟨h1,h3⟩:=Z1 h1;obtain⟨h1,h2⟩:=Z1 h1;obtain⟨h0,h1⟩:=Z1 h1;obtain⟨h0,h00⟩:=Z1 h0;rw[Z4]at h1 h3;rw[cW]at h2;split at e
 .rename_i e1 he1;split at e
  .rename_i e2 he2;simp at e;subst e;exact⟨h0,h00,h1,h2,h3,λP hw s hs=>bQ9 he1 (d84 hw) s (s7 _) (by omega),λP hw s hs=>by
    have:=bR0 (P:=P) (n:=e1.length) he2 (by grind) s (s7 _) (by omega);exact this⟩
  .cases e
 .cases e
theorem Met.fr{aP:Fr}{hP:Heap}{a:Fr}{act:Act}(m:Met v0 aP hP a h es)(hpc:aP.pc=[])(hhi: ∀s,a.nt<=s-> ∃x,aP.slot s=x/\VR O I x Go.undef)(f:dU O I a act):dU (O.cut hP.next) (I.upd v0 (ck I es)) aP act:=by
 refine⟨by rw[m.nt];exact f.size,by rw[m.nt];exact f.lim,λt _=> ?_,?_,λp hp=>by grind⟩
 rotate_left
 .have hd:=f.defers;rw[(Dr m.pl).1]at hd;rw[(Dr m.plP).1];exact hd
 by_cases ht:t<a.nt
 .obtain⟨n',es',h1,h2⟩:=m.sl (λj e=>(I.upd v0 (ck I es)).w (v0+j)=bZ I e) bR1 t ht;exact cj8 (EE I v0 _) (λb hb=>by simp[cq.cut,hb]) n' _ _ es' _ h1 h2 (f.slot t id)
 .obtain⟨x,h1,h2⟩:=hhi t (R4 ht);rw[h1,x7,E4 (by rw[f.size];omega)];exact yC h2
theorem Met.hr{aP:Fr}{hP:Heap}{a:Fr}(m:Met v0 aP hP a h es)(hfg: ∀b,hP.next<=b->hP.get b=none)(r:HR O I K w0 h w):HR (O.cut hP.next) (I.upd v0 (ck I es)) K w0 hP w:=by
 have key: ∀b x,hP.get b=some x->b<hP.next/\ ∃y,h.get b=some y/\(∀L o,BR O I L o y->BR (O.cut hP.next) (I.upd v0 (ck I es)) L o x)/\x.isArr=y.isArr:=by
  intro b x hx;have hb:b<hP.next:=by
   rcases j9 b hP.next with hh|hh
   .exact hh
   .rw[hfg b hh]at hx;cases hx
  obtain⟨n',es',h1,h2⟩:=m.hp (λj e=>(I.upd v0 (ck I es)).w (v0+j)=bZ I e) bR1 b hb;simp[sH]at h1;grind[d83,EE,cq.cut,bt3]
 have cut: ∀{b L},O.cut hP.next b=some L->O b=some L:=by
  grind[cq.cut]
 refine⟨λb x L hg hb=> ?_,λb b' x x' L L' hg hg' hb hb' hne hw=> ?_,λb hb=>by simp_all[cq.cut,b9],hfg,λb L hb=>r.lt b L (cut hb),r.kin,r.keep,λb x L hg hw hb=> ?_,r.size,r.os,r.tape,r.out,r.dr⟩
 .obtain⟨_,y,h1,h2,_⟩:=key b x hg;exact h2 L _ (r.blk b y L h1 (cut hb))
 .obtain⟨_,y,h1,_,k1⟩:=key b x hg;obtain⟨_,y',h1',_,k2⟩:=key b' x' hg';exact r.sep b b' y y' L L' h1 h1' (cut hb) (cut hb') hne (by rw[<-k1,<-k2,<-m.wm];exact hw)
 .obtain⟨_,y,h1,_⟩:=key b x hg;exact r.free b y L h1 (by rw[<-m.wm];exact hw) (cut hb)
end Go.Ev
namespace Go.Ev
open Go
variable{a a':Fr}{act:Act}{o:OwnP}{c b:Nat}{h':Heap}
variable{O ac:cq}{I:Opq}{K:Nat->Prop}{w0 w:World}{h:Heap}
def cq.at_(O:cq)(b:Nat)(L:Option Loc):cq:=λx=>if x=b then L else O x
theorem uy(h:(!(Nat.beq c b))=true):c≠b:=by
 grind[Z4]
mutual
theorem EH{b:Nat}(hb: ∀x,x≠b->ac x=O x): ∀(x:AV) (v:Value),iB b x=true->VR O I x v->VR ac I x v
 | .bool _,v,_,r=>r
 | .int _ _,v,_,r=>r
 | .str _,v,_,r=>r
 | .nilp,v,_,r=>r
 | .ptr c _,v,h,⟨L,e,q⟩=>⟨L,(hb c (uy (by grind[iB]))).trans e,q⟩
 | .glob _,v,_,r=>r
 | .nils,v,_,r=>r
 | .sl c _ _ _,v,h,⟨L,e,q⟩=>⟨L,(hb c (uy (by grind[iB]))).trans e,q⟩
 | .us c _ _ _,v,h,⟨L,cc,e,q⟩=>⟨L,cc,(hb c (uy (by grind[iB]))).trans e,q⟩
 | .es c _ _,v,h,⟨L,a,cc,e,q⟩=>⟨L,a,cc,(hb c (uy (by grind[iB]))).trans e,q⟩
 | .es0,v,_,r=>r
 | .nilm,v,_,r=>r
 | .map c,v,h,⟨L,e,q⟩=>⟨L,(hb c (uy (by grind[iB]))).trans e,q⟩
 | .nilf,v,_,r=>r
 | .func fn x y,v,h,⟨n,p,q,e,r1,r2⟩=>by
   simp[iB,j6]at h;exact⟨n,p,q,e,Dx hb x _ h.1 r1,Dx hb y _ h.2 r2⟩
 | .yield c,v,h,⟨L,e,q⟩=>⟨L,(hb c (uy (by grind[iB]))).trans e,q⟩
 | .nili,v,_,r=>r
 | .iface t x,v,h,⟨y,e,q⟩=>⟨y,e,EH hb x y (by grind[iB]) q⟩
 | .agg l,v,h,⟨xs,e,q⟩=>⟨xs,e,Dx hb l _ (by grind[iB]) q⟩
 | .tup l,v,h,⟨xs,e,q⟩=>⟨xs,e,Dx hb l _ (by grind[iB]) q⟩
 | .opq n,v,_,r=>r
 | .oint k e,v,h,r=>r
 | .ostr e,v,h,r=>r
 | .obool e,v,h,r=>r
 | .osl c x y sz,v,h,r=>by
   grind[uy,iB,VR]
 | .optr c x j sz,v,h,r=>by
   grind[uy,iB,VR]
 | .ous c x sz,v,h,r=>by
   grind[uy,iB,VR]
 | .atl _,v,_,r=>r
 | .any,_,_,_=>trivial
theorem Dx{b:Nat}(hb: ∀x,x≠b->ac x=O x): ∀(l:List AV) (vs:List Value),wP b l=true->ct O I l vs->ct ac I l vs
 | [],vs,_,r=>r
 |a::l,vs,h,⟨v,vr,e,p,q⟩=>by
  simp[wP,j6]at h;exact⟨v,vr,e,EH hb a v h.1 p,Dx hb l vr h.2 q⟩
end
theorem d85(hb: ∀x,x≠b->ac x=O x): ∀{es:List Ent} {m:List MapEntry},(es.all λe=>iB b e.key&&iB b e.val)=true->ERs O I es m->ERs ac I es m:=by
 intro es m h r;induction r with
 |nil=>exact .nil
 |cons r1 r2 r3 ih=>
  simp only[List.all_cons,j6]at h;exact .cons (EH hb _ _ h.1.1 r1) (EH hb _ _ h.1.2 r2) (ih h.2)
theorem dN4(hb: ∀x,x≠b->ac x=O x){L:Loc}{o:Option Obj}{x:Blk}(h:yR b (some x)=true)(r:BR O I L o x):BR ac I L o x:=by
 cases x with
 |cells e fz cs=>
  obtain⟨C,lo,hi,vs,q1,q2,q3,q4,q5,q6⟩:=r;exact⟨C,lo,hi,vs,q1,q2,q3,q4,Dx hb cs vs h q5,q6⟩
 |arr e sig l=>exact r
 |map es c=>
  obtain⟨Es,q1,q2⟩:=r;exact⟨Es,q1,d85 hb h q2⟩
 |marr d ks vs l=>exact r
 |bag e sig l=>exact r
 |mrg it d ks vs l=>
  obtain⟨E,c,Li,q1,q2,q3⟩:=r;have:it≠b:=by rintro rfl;simp[yR]at h
  exact⟨E,c,Li,q1,by grind,q3⟩
 |mit m=>
  obtain⟨q0,Lm,q1,q2⟩:=r;have:m≠b:=by rintro rfl;simp[yR]at h
  (constructor<;>grind)
 |vec cs=>
  trivial
 |_=>cases h
theorem ck2{b t:Nat}{a:Fr}: ∀{n:Nat},ti b t a n=true-> ∀s,s<n->s≠t->iB b (a.slot s)=true
 |0,_,s,hs,_=>by omega
 |n+1,h,s,hs,ht=>by
  simp[ti,j6,u9,Nat.beq_eq]at h;by_cases e:s=n
  .grind
  .exact ck2 h.2 s (by omega) ht
theorem Yz{b t:Nat}{a:Fr}: ∀{n:Nat},ti b t a n=true->a.ds=[]
 |0,h=>List.isEmpty_iff.1 h
 |n+1,h=>by
  simp[ti,j6]at h;exact Yz h.2
theorem ck4{b:Nat}{h0:Heap}: ∀{n:Nat},vW b h0 n=true-> ∀s,s<n->yR b (h0.get s)=true
 |0,_,s,hs=>by omega
 |n+1,h,s,hs=>by
  simp[vW,j6]at h;by_cases e:s=n
  .grind
  .exact ck4 h.2 s (by omega)
theorem Nw{l:SX}{L:Option Loc}(hds:a.ds=[])(f:dU O I a act)(r:HR O I K w0 h w)(hslot:o.slot<a.nt)(hblk:o.blk<h.next)(h65:o.blk<65536)(hnone:h.get o.blk=none)
 (hfr: ∀s,s<a.nt->s≠o.slot->iB o.blk (a.slot s)=true) (hhp: ∀z y,h.get z=some y->yR o.blk (some y)=true) (hlt: ∀M,L=some M->M.blk<w.heap.size) (hsep: ∀M x y M',L=some M->h.get x=some y->O x=some M'->M.blk≠M'.blk) (hfree: ∀M,L=some M-> ¬K M.blk)
 (hbr: ∀M,L=some M->BR O I M w.heap[M.blk]? (.arr o.elem o.sig l)) (hv: ∀u,VR O I (a.slot o.slot) u->VR (O.at_ o.blk L) I (.ous o.blk (.op .llen [l]) o.sig.length) u):
 dU (O.at_ o.blk L) I (mX o a h l).1 act/\HR (O.at_ o.blk L) I K w0 (mX o a h l).2 w:=by
 have hb: ∀x,x≠o.blk->(O.at_ o.blk L) x=O x:=λx hx=>by simp_all[cq.at_,b9]
 have hb0:(O.at_ o.blk L) o.blk=L:=by simp[cq.at_]
 have gf: ∀z,(h.put o.blk (some (.arr o.elem o.sig l))).get z=if z=o.blk then some (.arr o.elem o.sig l)else h.get z:=λz=>by rw[Heap.get_put,e8 h65]
 constructor
 .refine⟨by show act.tmps.size=(a.put _ _).nt;rw[Fr.put_nt];exact f.size,by show(a.put _ _).nt<=256;rw[Fr.put_nt];exact f.lim,λt _=> ?_,by show lg _ I (a.put _ _).ds act.defers;rw[Fr.put_ds,hds];have:=f.defers;rw[hds]at this;exact this,λp hp=>f.pcs p (by have:(a.put (some o.slot) (.ous o.blk (.op .llen [l]) o.sig.length)).pc=a.pc:=Fr.put_pc _ _ _;rw[<-this];exact hp)⟩;show VR _ I ((a.put (some o.slot) (.ous o.blk (.op .llen [l]) o.sig.length)).slot t) _;rw[Fr.put_slot f.lim];by_cases ht:t=o.slot
  .subst ht;rw[e8 ⟨rfl,hslot⟩];exact hv _ (f.slot _ id)
  .rw[b9 (λhh=>ht (by grind))];by_cases hn:t<a.nt
   .exact EH hb _ _ (hfr t hn ht) (f.slot t id)
   .have:=f.slot t id;rw[x7,E4 (by rw[f.size];omega)]at this⊢;exact yC this
 .have key: ∀z y,(h.put o.blk (some (.arr o.elem o.sig l))).get z=some y->(z=o.blk/\y= .arr o.elem o.sig l)\/(z≠o.blk/\h.get z=some y):=by
   grind
  refine⟨λz y M hy hM=> ?_,λz z' y y' M M' hy hy' hM hM' hne hw=> ?_,λz hz=> ?_,λz hz=> ?_,λz M hM=> ?_,r.kin,r.keep,λz y M hy hw hM=> ?_,r.size,r.os,r.tape,r.out,r.dr⟩
  .rcases key z y hy with⟨rfl,rfl⟩|⟨hz,hy⟩
   .rw[hb0]at hM;exact hbr M hM
   .rw[hb z hz]at hM;exact dN4 hb (hhp z y hy) (r.blk z y M hy hM)
  .rcases key z y hy with⟨rfl,rfl⟩|⟨hz,hy⟩
   .rcases key z' y' hy' with⟨rfl,_⟩|⟨hz',hy'⟩
    .trivial
    grind
   .rw[hb z hz]at hM;rcases key z' y' hy' with⟨rfl,rfl⟩|⟨hz',hy'⟩
    .grind
    .rw[hb z' hz']at hM';exact r.sep z z' y y' M M' hy hy' hM hM' hne hw
  .have hz:h.next<=z:=hz
   rw[hb z (by omega)];exact r.fresh z hz
  .have hz:h.next<=z:=hz
   show(h.put o.blk (some (.arr o.elem o.sig l))).get z=none;rw[gf,b9 (by omega)];exact r.fget z hz
  .by_cases hz:z=o.blk
   .grind
   .rw[hb z hz]at hM;exact r.lt z M hM
  .rcases key z y hy with⟨rfl,rfl⟩|⟨hz,hy⟩
   .grind
   .rw[hb z hz]at hM;exact r.free z y M hy hw hM
structure Conv (I:Opq) (K:Nat->Prop) (w0 w:World) (a a':Fr) (h h':Heap) (act:Act) (O ac:cq) (P:Nat->Prop):Prop where
 fr:dU ac I a' act
 hr:HR ac I K w0 h' w
 bij: ∀x,¬P x->ac x=O x
 nt:a'.nt=a.nt
 next:h'.next=h.next
 wm:h'.wm=h.wm
 get: ∀b,h'.get b=h.get b\/h'.get b=none\/P b\/O b≠none
theorem cI0{len l:SX}(h:Up len l=true):dI I len=dI I (.op .llen [l]):=by
 unfold Up at h;rw[u9]at h;rcases h with h|h
 .rw[SX.beq_eq _ _ h]
 .split at h
  .rfl
  .cases h
theorem ck5(e:NB o a h=some (a',h'))(f:dU O I a act)(r:HR O I K w0 h w): ∃ac,Conv I K w0 w a a' h h' act O ac (· =o.blk):=by
 have common: ∀{c:Bool},(Nat.blt o.slot a.nt&&Nat.blt o.blk h.next&&Nat.blt o.blk 65536&&(h.get o.blk).isNone&&ti o.blk o.slot a a.nt&&vW o.blk h h.next)=true->
  a.ds=[]/\o.slot<a.nt/\o.blk<h.next/\o.blk<65536/\h.get o.blk=none/\(∀s,s<a.nt->s≠o.slot->iB o.blk (a.slot s)=true)/\(∀z y,h.get z=some y->yR o.blk (some y)=true):=by
  intro c hc;obtain⟨hc,c6⟩:=Z1 hc;obtain⟨hc,c5⟩:=Z1 hc;obtain⟨hc,c4⟩:=Z1 hc;obtain⟨hc,c3⟩:=Z1 hc;obtain⟨c1,c2⟩:=Z1 hc;rw[fc]at c1 c2 c3;refine⟨Yz c5,c1,c2,c3,by simpa using c4,ck2 c5,λz y hy=> ?_⟩;have hlt:z<h.next:=by
   rcases j9 z h.next with hh|hh
   .exact hh
   .rw[r.fget z hh]at hy;cases hy
  grind[ck4]
 have gput: ∀(hh:Heap) (l:SX),o.blk<65536-> ∀b,(mX o a hh l).2.get b=if b=o.blk then some (.arr o.elem o.sig l)else hh.get b:=by
  intro hh l hl b;show(hh.put o.blk (some (.arr o.elem o.sig l))).get b=_;rw[Heap.get_put,e8 hl]
 have bij: ∀(L:Option Loc) x,¬(x=o.blk)->(O.at_ o.blk L) x=O x:=λL x hx=>by simp_all[cq.at_,b9]
 unfold NB at e;split at e
 .rename_i b len sz hsl;cases hq:Nat.beq b o.blk with
  |true=>
   rw[hq]at e;split at e
   .obtain⟨_,e⟩:=Z2 e;obtain⟨rfl,rfl⟩:=e;exact⟨O,f,r,λ_ _=>rfl,rfl,rfl,rfl,λ_=> .inl rfl⟩
   .cases e
  |false=>
   rw[hq]at e;replace e:=Z2 e;obtain⟨hc,e⟩:=e;obtain⟨hc,c7⟩:=Z1 hc;rw[cW]at c7;obtain⟨c0,c1,c2,c3,c4,c5,c6⟩:=common (c:=true) hc;split at e
   .rename_i el sig l hg;replace e:=Z2 e;obtain⟨hd,e⟩:=e;obtain⟨hd,d4⟩:=Z1 hd;obtain⟨hd,d3⟩:=Z1 hd;obtain⟨d1,d2⟩:=Z1 hd;rw[Z4]at d1 d3;have d2:=mL d2;have d4:=cI0 (I:=I) d4;simp at e;obtain⟨r1,_⟩:=r.drop b;have g1: ∀z y,(h.put b none).get z=some y->z≠b/\h.get z=some y:=by
     simp_all[Heap.get_put,e8,b9]
    have m:=Nw (o:=o) (l:=l) (L:=O b) c0 f r1 c1 c2 c3 (by simp_all[Heap.get_put,b9]) c5 (λz y hy=>c6 z y (g1 z y hy).2) (λM hM=>r.lt b M hM)
     (λM x y M' hM hx hxM=>r.sep b x _ y M M' hg (g1 x y hx).2 hM hxM (g1 x y hx).1.symm (.inl c7)) (λM hM=>r.free b _ M hg c7 hM)
     (λM hM=>by rw[<-d1,<-d2];exact r.blk b _ M hg hM) (λu hu=>by
      grind[VR,cq.at_])
    rw[e]at m;have e1:a'=(mX o a (h.put b none) l).1:=by rw[e]
    have e2:h'=(mX o a (h.put b none) l).2:=by rw[e]
    refine⟨_,m.1,m.2,bij _,by rw[e1];exact Fr.put_nt _ _ _,by rw[e2];rfl,by rw[e2];rfl,λx=> ?_⟩;rw[e2,gput _ _ c3];by_cases hx:x=o.blk
    .omega
    .rw[b9 hx,Heap.get_put];grind
   .cases e
 .rename_i hsl;obtain⟨hc,e⟩:=Z2 e;obtain⟨c0,c1,c2,c3,c4,c5,c6⟩:=common (c:=true) hc;simp at e;have m:=Nw (o:=o) (l:= .op .row []) (L:=none) c0 f r c1 c2 c3 c4 c5 c6 (λM hM=>by cases hM) (λM x y M' hM=>by cases hM) (λM hM=>by cases hM) (λM hM=>by cases hM) (λu hu=>by
   rw[hsl]at hu;exact .inr ⟨hu,rfl⟩)
  rw[e]at m;have e1:a'=(mX o a h (.op .row [])).1:=by rw[e]
  have e2:h'=(mX o a h (.op .row [])).2:=by rw[e]
  refine⟨_,m.1,m.2,bij _,by rw[e1];exact Fr.put_nt _ _ _,by rw[e2];rfl,by rw[e2];rfl,λx=> ?_⟩;grind
 .rename_i b n sz hsl;replace e:=Z2 e;obtain⟨hc,e⟩:=e;obtain⟨hc,c8⟩:=Z1 hc;obtain⟨hc,c7⟩:=Z1 hc;rw[cW]at c7;rw[fc]at c8;obtain⟨c0,c1,c2,c3,c4,c5,c6⟩:=common (c:=true) hc;split at e
  .rename_i el cs hg;replace e:=Z2 e;obtain⟨hd,e⟩:=e;obtain⟨hd,d3⟩:=Z1 hd;obtain⟨d1,d2⟩:=Z1 hd;rw[Z4]at d1 d2 d3;split at e
   .rename_i rs hrs;simp at e;obtain⟨r1,_⟩:=r.drop b;have g1: ∀z y,(h.put b none).get z=some y->z≠b/\h.get z=some y:=by
     simp_all[Heap.get_put,e8,b9]
    have hcell: ∀M,O b=some M-> ∃C lo hi,w.heap[M.blk]? =some (.cells C el (lo,hi))/\M.off+M.ext<=C.size/\cs.length<=M.ext/\(ck I rs).length=n/\
     (∀i v,(cM o.sig (ck I rs))[i]? =some v->C[M.off+i]? =some v)/\(∀i,i<M.ext-> ¬(lo<=M.off+i/\M.off+i<hi)):=by
     intro M hM;obtain⟨C,lo,hi,vs,q1,q2,q3,q4,q5,q6,q7⟩:=r.cells hg hM;obtain⟨z1,z2⟩:=wF hrs d3 q5;have hvl:=q5.length;grind
    have m:=Nw (o:=o) (l:= .op .row rs) (L:=O b) c0 f r1 c1 c2 c3 (by simp_all[Heap.get_put,b9]) c5 (λz y hy=>c6 z y (g1 z y hy).2) (λM hM=>r.lt b M hM)
     (λM x y M' hM hx hxM=>r.sep b x _ y M M' hg (g1 x y hx).2 hM hxM (g1 x y hx).1.symm (.inl c7)) (λM hM=>r.free b _ M hg c7 hM)
     (λM hM=>by
      obtain⟨C,lo,hi,q1,q2,q3,q4,q5,q6⟩:=hcell M hM;rw[<-d1];refine⟨C,_,lo,hi,q1,.inl rfl,q2,?_,q5,q6⟩;show(ck I rs).length*o.sig.length<=M.ext;grind) (λu hu=>by
      rw[hsl]at hu;simp only[VR]at hu⊢;obtain⟨M,cap,h1,h2,h3⟩:=hu;obtain⟨C,lo,hi,q1,q2,q3,q4,q5,q6⟩:=hcell M h1;have hn:(dI I (.op .llen [.op .row rs])).toNat=n:=by
       trivial
      have hle:n<=cap:=by
       rw[d3,<-show cap*sz=M.ext by omega]at q3;exact F5 q3 c8
      grind[cq.at_])
    rw[e]at m;have e1:a'=(mX o a (h.put b none) (.op .row rs)).1:=by rw[e]
    have e2:h'=(mX o a (h.put b none) (.op .row rs)).2:=by rw[e]
    refine⟨_,m.1,m.2,bij _,by rw[e1];exact Fr.put_nt _ _ _,by rw[e2];rfl,by rw[e2];rfl,λx=> ?_⟩;rw[e2,gput _ _ c3];by_cases hx:x=o.blk
    .omega
    .rw[b9 hx,Heap.get_put];grind
   .cases e
  .cases e
 .rename_i b p n c hsl;replace e:=Z2 e;obtain⟨hc,e⟩:=e;obtain⟨hc,c7⟩:=Z1 hc;rw[cW]at c7;obtain⟨c0,c1,c2,c3,c4,c5,c6⟩:=common (c:=true) hc;split at e
  .rename_i el fz cs hg;replace e:=Z2 e;obtain⟨hd,e⟩:=e;obtain⟨hd,d4⟩:=Z1 hd;obtain⟨hd,d3⟩:=Z1 hd;obtain⟨d1,d2⟩:=Z1 hd;rw[Z4]at d1;rw[cW]at d2 d3 d4;split at e
   .rename_i rs hrs;simp at e;have hvr:=f.slot o.slot id;rw[hsl]at hvr;obtain⟨L,hL,hv0⟩:=hvr;obtain⟨r1,_⟩:=r.drop b;have g1: ∀z y,(h.put b none).get z=some y->z≠b/\h.get z=some y:=by
     simp_all[Heap.get_put,e8,b9]
    obtain⟨C,lo,hi,vs,q1,q2,q3,q4,q5,q6,q7⟩:=r.cells hg hL;obtain⟨z1,z2⟩:=wF hrs (by simp;have:=A1 o.sig.length d4;omega) ((q5.drop p).take (n*o.sig.length));have hns:n*o.sig.length<=c*o.sig.length:=A1 _ d4;have m:=Nw (o:=o) (l:= .op .row rs) (L:=some ⟨L.blk,L.off+p,c*o.sig.length⟩) c0 f r1 c1 c2 c3 (by simp_all[Heap.get_put,b9]) c5 (λz y hy=>c6 z y (g1 z y hy).2) (λM hM=>by grind)
     (λM x y M' hM hx hxM=>by cases hM;exact r.sep b x _ y L M' hg (g1 x y hx).2 hL hxM (g1 x y hx).1.symm (.inl c7)) (λM hM=>by cases hM;exact r.free b _ L hg c7 hL)
     (λM hM=>by
      cases hM;rw[<-d1];refine⟨C,_,lo,hi,q1,.inl rfl,by grind,?_,λi v hi'=> ?_,λi hi'=> ?_⟩
      .show(ck I rs).length*o.sig.length<=c*o.sig.length;grind
      .have hi':(cM o.sig (ck I rs))[i]? =some v:=hi';grind
      (simp_all;grind)) (λu hu=>by
      rw[hsl]at hu;simp only[VR]at hu⊢;have hn:(dI I (.op .llen [.op .row rs])).toNat=n:=by
       trivial
      exact .inl ⟨⟨L.blk,L.off+p,c*o.sig.length⟩,c,by simp[cq.at_],rfl,by grind,by omega⟩)
    rw[e]at m;have e1:a'=(mX o a (h.put b none) (.op .row rs)).1:=by rw[e]
    have e2:h'=(mX o a (h.put b none) (.op .row rs)).2:=by rw[e]
    refine⟨_,m.1,m.2,bij _,by rw[e1];exact Fr.put_nt _ _ _,by rw[e2];rfl,by rw[e2];rfl,λx=> ?_⟩;rw[e2,gput _ _ c3];by_cases hx:x=o.blk
    .omega
    .rw[b9 hx,Heap.get_put];grind
   .cases e
  .cases e
 .cases e
theorem cI1(o:OwnP)(a:Fr)(r:HR O I K w0 h w):HR O I K w0 (yI o a h) w/\(yI o a h).next=h.next/\(yI o a h).wm=h.wm/\ ∀b,b≠o.blk->(yI o a h).get b=h.get b:=by
 unfold yI;split
 .cases (Nat.beq _ o.blk||(h.get o.blk).isNone)with
  |true=>(intros;simp_all)
  |false=>
   refine⟨(r.drop o.blk).1,rfl,rfl,λb hb=> ?_⟩;show(h.put o.blk none).get b=_;rw[Heap.get_put,b9 hb]
 grind
theorem ck6(e:NB o a (yI o a h)=some (a',h'))(f:dU O I a act)(r:HR O I K w0 h w): ∃ac,Conv I K w0 w a a' h h' act O ac (· =o.blk):=by
 obtain⟨r1,r2,r3,r4⟩:=cI1 o a r;obtain⟨ac,c⟩:=ck5 e f r1;refine⟨ac,c.fr,c.hr,c.bij,c.nt,c.next.trans r2,c.wm.trans r3,λb=> ?_⟩;by_cases hb:b=o.blk
 .omega
 .rcases c.get b with q|q|q|q
  ·(intros;simp_all)
  .exact .inr (.inl q)
  .trivial
  grind
theorem cI2(e:PS o a h=some (a',h'))(f:dU O I a act)(r:HR O I K w0 h w): ∃ac,Conv I K w0 w a a' h h' act O ac (· =o.blk):=by
 unfold PS at e;split at e
 .unfold cR9 at e;cases hz:(o.lz&&e17 (a.slot o.slot))with
  |true=>
   rw[hz]at e;obtain⟨rfl,rfl⟩:=e;exact⟨O,f,r,λ_ _=>rfl,rfl,rfl,rfl,λ_=> .inl rfl⟩
  |false=>
   rw[hz]at e;exact ck6 e f r
 trivial
theorem RO: ∀{l:List OwnP} {a a':Fr} {h h':Heap} {act:Act} {O:cq},CH l a h=some (a',h')->dU O I a act->HR O I K w0 h w-> ∃ac,Conv I K w0 w a a' h h' act O ac (λx=> ∃o∈l,x=o.blk)
 | [],a,a',h,h',act,O,e,f,r=>by
   obtain⟨rfl,rfl⟩:=e;exact⟨O,f,r,λ_ _=>rfl,rfl,rfl,rfl,λ_=> .inl rfl⟩
 |o::l,a,a',h,h',act,O,e,f,r=>by
  simp[CH]at e;split at e
  .rename_i p hp;obtain⟨ak,c1⟩:=cI2 (a':=p.1) (h':=p.2) hp f r;obtain⟨ap,c2⟩:=RO e c1.fr c1.hr;refine⟨ap,c2.fr,c2.hr,λx hx=> ?_,c2.nt.trans c1.nt,c2.next.trans c1.next,c2.wm.trans c1.wm,λb=> ?_⟩
   .rw[c2.bij x (λ⟨o',h1,h2⟩=>hx ⟨o',.tail _ h1,h2⟩),c1.bij x (λh2=>hx ⟨o,.head _,h2⟩)]
   .rcases c2.get b with q|q|⟨o',q1,q2⟩|q
    .rcases c1.get b with z|z|z|z
     ·(intros;grind)
     ·(intros;simp_all)
     ·(intros;simp_all)
     grind
    .grind
    .grind
    .by_cases hb:b=o.blk
     .grind
     .exact .inr (.inr (.inr (by rw[<-c1.bij b hb];exact q)))
  .cases e
theorem dU.layDead(f:dU O I a act): ∀(l:List Nat),dU O I (Go.Ev.layDead a l) act:=by
 intro l;induction l generalizing a with
 |nil=>exact f
 |cons t l ih=>
  refine ih ⟨by rw[Fr.put_nt];exact f.size,by rw[Fr.put_nt];exact f.lim,λs _=> ?_,by rw[Fr.put_ds];exact f.defers,λp hp=>f.pcs p (by grind[Fr.put_pc])⟩;rw[Fr.put_slot f.lim];split
  .simp[VR]
  .exact f.slot s id
theorem HR.upto{w:World}{h:Heap}(r:HR O I K w0 h w){n:Nat}(hn:h.next<=n):HR O I K w0 (h.upto n) w:=by
 have g: ∀b,(h.upto n).get b=h.get b:=λb=>Heap.get_upto _ _ _
 refine⟨λz y M hy hM=>r.blk z y M (by grind) hM,λz z' y y' M M' hy hy' hM hM' hne hw=>r.sep z z' y y' M M' (by grind) (by grind) hM hM' hne (by simp_all),
  λz hz=>r.fresh z (by grind[Heap.next_upto]),λz hz=>by exact r.fget z (by grind[Heap.next_upto]),r.lt,r.kin,r.keep,
  λz y M hy hw hM=>r.free z y M (by grind) (by simp_all) hM,r.size,r.os,r.tape,r.out,r.dr⟩
theorem KA{sp:LSpec}(f:dU O I a act)(r:HR O I K w0 h w): ∃ac,Conv I K w0 w a (iZ sp a h).1 h (iZ sp a h).2 act O ac (λx=> ∃o∈sp.owns,x=o.blk):=by
 unfold iZ;cases hc:CH sp.owns (Go.Ev.layDead a sp.dead) h with
 |none=>exact⟨O,f.layDead _,r,λ_ _=>rfl,rj _ _,rfl,rfl,λ_=> .inl rfl⟩
 |some p=>
  obtain⟨ac,c⟩:=RO (a':=p.1) (h':=p.2) hc (f.layDead _) r;exact⟨ac,c.fr,c.hr,c.bij,c.nt.trans (rj _ _),c.next,c.wm,c.get⟩
end Go.Ev
