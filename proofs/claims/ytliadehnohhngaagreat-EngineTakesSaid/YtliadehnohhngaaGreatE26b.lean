import Derived.Test.YtliadehnohhngaaGreatE22
set_option linter.all false
namespace Go.Ev
open Go
variable{v0 n nb:Nat}{es:Jn}{p:SX}{v:AS}{q:Nat->SX}
variable{O ac:cn}{I aa:Opq}{K:zI}{w0 w:yM}{h:Heap}
structure Agr (v0:Nat) (I aa:Opq):Prop where
 w: ∀n,n<v0->aa.w n=I.w n
 f:aa.f=I.f
 v:aa.v=I.v
 fix:aa.fix=I.fix
 gh:aa.gh=I.gh
theorem GK(I:Opq)(v0:Nat)(l:U0):Agr v0 I (I.U v0 l):=
 ⟨λn hn=>by simp_all[Opq.U,b9],rfl,rfl,rfl,rfl⟩
def wR{I:Opq}{l:U0}{j:Nat}{x:Val}(h:l[j]? =some x):(I.U v0 l).w (v0+j)=x:=by simp_all[Opq.U,c9,k5]
mutual
theorem sf{v0:Nat}(g:Agr v0 I aa): ∀(e:SX),fT v0 e=true->bZ aa e=bZ I e
 | .C n,_=>rfl
 | .cs l,_=>rfl
 | .cb x,_=>rfl
 | .V m,h=>by simp[fT]at h;exact g.w m (by trivial)
 | .O p l,h=>by simp[bZ];rw[YT g l h]
 | .Q p l,h=>by simp[bZ];rw[YT g l h,g.f]
theorem YT{v0:Nat}(g:Agr v0 I aa): ∀(l:Jn),tf v0 l=true->Y6 aa l=Y6 I l
 | [],_=>rfl
 |a::r,h=>by simp[tf,j8]at h;simp only[Y6];rw[sf g a h.1,YT g r h.2]
end
theorem QS(g:Agr v0 I aa){e:SX}(h:fT v0 e=true):dI aa e=dI I e:=by grind[dI,sf]
def dL7(g:Agr v0 I aa){e:SX}(h:fT v0 e=true):dS aa e=dS I e:=by grind[dS,sf]
def dL8(g:Agr v0 I aa){e:SX}(h:fT v0 e=true):dB aa e=dB I e:=by grind[dB,sf]
def Rq(I:Opq): ∀a b:Jn,Y6 I (a++b)=Y6 I a++Y6 I b
 | [],b=>rfl
 |x::a,b=>by simp[List.cons_append,Y6,Rq I a b]
def b33(I:Opq): ∀a:Jn,(Y6 I a).length=a.length
 | []=>rfl
 |x::a=>by simp[Y6,List.length_cons,b33 I a]
mutual
theorem Ei{v0 nb:Nat}(g:Agr v0 I aa)(hb: ∀b,b<nb->ac b=O b): ∀(x:AV) (v:AS),ib v0 nb x=true->VR O I x v->VR ac aa x v
 | .bool _,v,_,r=>r
 | .int _ _,v,_,r=>r
 | .str _,v,_,r=>r
 | .nilp,v,_,r=>r
 | .ptr b _,v,h,⟨L,e,q⟩=>⟨L,(hb b (by simp_all[ib])).trans e,q⟩
 | .glob _,v,_,r=>r
 | .N,v,_,r=>r
 | .sl b _ _ _,v,h,⟨L,e,q⟩=>⟨L,(hb b (by simp_all[ib])).trans e,q⟩
 | .us b _ _ _,v,h,⟨L,c,e,q⟩=>⟨L,c,(hb b (by trivial)).trans e,q⟩
 | .es b _ _,v,h,⟨L,a,c,e,q⟩=>⟨L,a,c,(hb b (by trivial)).trans e,q⟩
 | .es0,v,_,r=>r
 | .nilm,v,_,r=>r
 | .map b,v,h,⟨L,e,q⟩=>⟨L,(hb b (by simp_all[ib])).trans e,q⟩
 | .nilf,v,_,r=>r
 | .func fn x y,v,h,⟨n,p,q,e,r1,r2⟩=>by simp[ib,j8]at h;exact⟨n,p,q,e,Ez g hb x _ h.1 r1,Ez g hb y _ h.2 r2⟩
 | .yield b,v,h,⟨L,e,q⟩=>⟨L,(hb b (by trivial)).trans e,q⟩
 | .nili,v,_,r=>r
 | .iface t x,v,h,⟨y,e,q⟩=>⟨y,e,Ei g hb x y (by grind[ib]) q⟩
 | .agg l,v,h,⟨xs,e,q⟩=>⟨xs,e,Ez g hb l _ (by grind[ib]) q⟩
 | .V l,v,h,⟨xs,e,q⟩=>⟨xs,e,Ez g hb l _ (by grind[ib]) q⟩
 | .opq n,v,_,r=>by show v=aa.v n;rw[g.v];exact r
 | .Z k e,v,h,r=>by show v= .int k (dI aa e);rw[QS g (by grind[ib])];exact r
 | .K e,v,h,r=>by show v= .string ⟨(dS aa e).toArray⟩;rw[dL7 g (by grind[ib])];exact r
 | .H e,v,h,r=>by show v= .bool (dB aa e);rw[dL8 g (by grind[ib])];exact r
 | .S b x y sz,v,h,r=>by simp[ib,j8,Nat.blt_eq]at h;grind[VR,QS]
 | .optr b x j sz,v,h,r=>by simp[ib,j8,Nat.blt_eq]at h;grind[VR,QS]
 | .U b x sz,v,h,r=>by simp[ib,j8,Nat.blt_eq]at h;grind[VR,QS]
 | .atl _,v,_,r=>r
 | .any,_,_,_=>trivial
theorem Ez{v0 nb:Nat}(g:Agr v0 I aa)(hb: ∀b,b<nb->ac b=O b): ∀(l:Fz) (vs:List AS),pP v0 nb l=true->ct O I l vs->ct ac aa l vs
 | [],vs,_,r=>r
 |a::l,vs,h,⟨v,vr,e,p,q⟩=>by simp[pP,j8]at h;exact⟨v,vr,e,Ei g hb a v h.1 p,Ez g hb l vr h.2 q⟩
end
theorem tM{x:SX}(g:Agr v0 I aa)(h:og v0 n p x=some es)(hw: ∀j e,es[j]? =some e->aa.w (v0+(n+j))=bZ I e):bZ aa p=bZ I x:=by
 unfold og at h;split at h;rename_i m hm;obtain⟨h1,h2⟩:=W8 h;simp at h2;subst h2;unfold AB at hm;split at hm;obtain⟨h3,h4⟩:=W8 hm;simp at h4;rw[cV]at h3;obtain rfl:=Y0.1 h1;have:=hw 0 x rfl;simp[bZ]
 (intros;grind);grind;grind[SX.beq_eq,sf]
theorem jr(g:Agr v0 I aa)(hb: ∀b,b<nb->ac b=O b){p x:AV}(h:(bif AV.beq p x&&ib v0 nb x then some ([]:Jn)else none)=some es)(r:VR O I x v):VR ac aa p v:=by grind[AV.beq_eq,Ei]
def cV9{q x y:SX}(g:Agr v0 I aa)(h:Cd v0 n p q x y=some es)(hw: ∀j e,es[j]? =some e->aa.w (v0+(n+j))=bZ I e):bZ aa p=bZ I x/\bZ aa q=bZ I y:=by unfold Cd at h;split at h;rename_i e1 h1;split at h;rename_i e2 h2;simp at h;subst h;refine⟨tM g h1 λj e hj=>hw j e ?_,tM g h2 λj e hj=> ?_⟩;grind;have:=hw (e1.length+j) e (by(intros;grind));grind;cases h;cases h
theorem ct4{b s:Nat}{q:SX}{x:AV}(g:Agr v0 I aa)(hb: ∀b,b<nb->ac b=O b)(h:JO v0 nb n b p q s x=some es)(hw: ∀j e,es[j]? =some e->aa.w (v0+(n+j))=bZ I e)(r:VR O I x v):VR ac aa (.S b p q s) v:=by unfold JO at h;split at h;obtain⟨h1,h2⟩:=W8 h;obtain⟨h1,h3⟩:=W7 h1;obtain⟨h1,h4⟩:=W7 h1;obtain rfl:=Y0.1 h1;obtain rfl:=Y0.1 h4;rw[eH]at h3;obtain⟨k1,k2⟩:=cV9 g h2 hw;have k1:dI aa p=dI I _:=congrArg Val.I k1;have k2:dI aa q=dI I _:=congrArg Val.I k2;grind[VR];cases h
theorem ct5{b s:Nat}{x:AV}(g:Agr v0 I aa)(hb: ∀b,b<nb->ac b=O b)(h:FL v0 nb n b p s x=some es)(hw: ∀j e,es[j]? =some e->aa.w (v0+(n+j))=bZ I e)(r:VR O I x v):VR ac aa (.U b p s) v:=by unfold FL at h;split at h;obtain⟨h1,h2⟩:=W8 h;obtain⟨h1,h3⟩:=W7 h1;obtain⟨h1,h4⟩:=W7 h1;obtain rfl:=Y0.1 h1;obtain rfl:=Y0.1 h4;rw[eH]at h3;have k1:dI aa p=dI I _:=congrArg Val.I (tM g h2 hw);grind[VR];cases h
mutual
theorem ct6{v0 nb:Nat}(g:Agr v0 I aa)(hb: ∀b,b<nb->ac b=O b): ∀(n:Nat) (p x:AV) (es:Jn) (v:AS),ef v0 nb n p x=some es->(∀j e,es[j]? =some e->aa.w (v0+(n+j))=bZ I e)->VR O I x v->VR ac aa p v
 |n,.any,x,es,v,h,hw,r=>trivial
 |n,.Z k p,x,es,v,h,hw,r=>by simp[ef]at h;unfold Na at h;split at h;rename_i k' e hs;split at h;rename_i hk;subst hk;rw[uf hs r];show Value.int k (dI I e)= .int k (dI aa p);grind[dI,tM];cases h;cases h
 |n,.K p,x,es,v,h,hw,r=>by simp[ef]at h;unfold xf at h;split at h;rename_i e hs;rw[Js hs r];show Value.string ⟨(dS I e).toArray⟩= .string ⟨(dS aa p).toArray⟩;grind[dS,tM];cases h
 |n,.H p,x,es,v,h,hw,r=>by simp[ef]at h;unfold xf at h;split at h;rename_i e hs;rw[xM hs r];show Value.bool (dB I e)= .bool (dB aa p);grind[dB,tM];cases h
 |n,.agg ps,.agg xs,es,v,h,hw,r=>by obtain⟨ys,e,q⟩:=r;exact⟨ys,e,YU g hb n ps xs es _ h hw q⟩
 |n,.agg ps,.bool _,es,v,h,hw,r=>by trivial
 |n,.agg ps,.int _ _,es,v,h,hw,r=>by trivial
 |n,.agg ps,.str _,es,v,h,hw,r=>by trivial
 |n,.agg ps,.nilp,es,v,h,hw,r=>by trivial
 |n,.agg ps,.ptr _ _,es,v,h,hw,r=>by trivial
 |n,.agg ps,.glob _,es,v,h,hw,r=>by trivial
 |n,.agg ps,.N,es,v,h,hw,r=>by trivial
 |n,.agg ps,.sl _ _ _ _,es,v,h,hw,r=>by trivial
 |n,.agg ps,.us _ _ _ _,es,v,h,hw,r=>by trivial
 |n,.agg ps,.es _ _ _,es,v,h,hw,r=>by trivial
 |n,.agg ps,.es0,es,v,h,hw,r=>by trivial
 |n,.agg ps,.nilm,es,v,h,hw,r=>by trivial
 |n,.agg ps,.map _,es,v,h,hw,r=>by trivial
 |n,.agg ps,.nilf,es,v,h,hw,r=>by trivial
 |n,.agg ps,.func _ _ _,es,v,h,hw,r=>by trivial
 |n,.agg ps,.yield _,es,v,h,hw,r=>by trivial
 |n,.agg ps,.nili,es,v,h,hw,r=>by trivial
 |n,.agg ps,.iface _ _,es,v,h,hw,r=>by trivial
 |n,.agg ps,.V _,es,v,h,hw,r=>by trivial
 |n,.agg ps,.opq _,es,v,h,hw,r=>by trivial
 |n,.agg ps,.atl _,es,v,h,hw,r=>by trivial
 |n,.agg ps,.S _ _ _ _,es,v,h,hw,r=>by trivial
 |n,.agg ps,.optr _ _ _ _,es,v,h,hw,r=>by trivial
 |n,.agg ps,.U _ _ _,es,v,h,hw,r=>by trivial
 |n,.agg ps,.Z _ _,es,v,h,hw,r=>by trivial
 |n,.agg ps,.K _,es,v,h,hw,r=>by trivial
 |n,.agg ps,.H _,es,v,h,hw,r=>by trivial
 |n,.agg ps,.any,es,v,h,hw,r=>by trivial
 |n,.bool _,x,es,v,h,hw,r=>by grind[ef,jr]
 |n,.int _ _,x,es,v,h,hw,r=>by grind[ef,jr]
 |n,.str _,x,es,v,h,hw,r=>by grind[ef,jr]
 |n,.nilp,x,es,v,h,hw,r=>by grind[ef,jr]
 |n,.ptr _ _,x,es,v,h,hw,r=>by grind[ef,jr]
 |n,.glob _,x,es,v,h,hw,r=>by grind[ef,jr]
 |n,.N,x,es,v,h,hw,r=>by grind[ef,jr]
 |n,.sl _ _ _ _,x,es,v,h,hw,r=>by grind[ef,jr]
 |n,.us _ _ _ _,x,es,v,h,hw,r=>by grind[ef,jr]
 |n,.es _ _ _,x,es,v,h,hw,r=>by grind[ef,jr]
 |n,.es0,x,es,v,h,hw,r=>by grind[ef,jr]
 |n,.nilm,x,es,v,h,hw,r=>by grind[ef,jr]
 |n,.map _,x,es,v,h,hw,r=>by grind[ef,jr]
 |n,.nilf,x,es,v,h,hw,r=>by grind[ef,jr]
 |n,.func _ _ _,x,es,v,h,hw,r=>by grind[ef,jr]
 |n,.yield _,x,es,v,h,hw,r=>by trivial
 |n,.nili,x,es,v,h,hw,r=>by grind[ef,jr]
 |n,.iface _ _,x,es,v,h,hw,r=>by grind[ef,jr]
 |n,.V _,x,es,v,h,hw,r=>by grind[ef,jr]
 |n,.opq _,x,es,v,h,hw,r=>by grind[ef,jr]
 |n,.atl _,x,es,v,h,hw,r=>by grind[ef,jr]
 |n,.S _ _ _ _,x,es,v,h,hw,r=>by grind[ef,ct4]
 |n,.optr _ _ _ _,x,es,v,h,hw,r=>by grind[ef,jr]
 |n,.U _ _ _,x,es,v,h,hw,r=>by grind[ef,ct5]
theorem YU{v0 nb:Nat}(g:Agr v0 I aa)(hb: ∀b,b<nb->ac b=O b): ∀(n:Nat) (ps xs:Fz) (es:Jn) (vs:List AS),qN v0 nb n ps xs=some es->(∀j e,es[j]? =some e->aa.w (v0+(n+j))=bZ I e)->ct O I xs vs->ct ac aa ps vs
 |n,[],[],es,vs,h,hw,r=>r
 |n,[],_::_,es,vs,h,hw,r=>by trivial
 |n,_::_,[],es,vs,h,hw,r=>by trivial
 |n,p::ps,x::xs,es,vs,h,hw,⟨v,vr,e,r1,r2⟩=>by simp[qN]at h;split at h;rename_i e1 h1;split at h;rename_i e2 h2;simp at h;subst h;refine⟨v,vr,e,ct6 g hb n p x e1 v h1 (λj y hy=>hw j y ?_) r1,YU g hb _ ps xs e2 vr h2 (λj y hy=> ?_) r2⟩;grind;have:=hw (e1.length+j) y (by(intros;grind));grind;cases h;cases h
end
def Agr.symm(g:Agr v0 I aa):Agr v0 aa I:=⟨λn hn=>(g.w n hn).symm,g.f.symm,g.v.symm,g.fix.symm,g.gh.symm⟩
def ub{x:SX}(g:Agr v0 I aa)(h:og v0 n p x=some es)(hq: ∀j e,es[j]? =some e->bZ I (q (n+j))=aa.w (v0+(n+j))):bZ I (eC v0 q p)=bZ aa p:=by unfold og at h;unfold eC;split at h;rename_i m hm;obtain⟨h1,h2⟩:=W8 h;simp at h2;subst h2;unfold AB at hm;split at hm;obtain⟨h3,h4⟩:=W8 hm;simp at h4;rw[cV]at h3;obtain rfl:=Y0.1 h1;have:=hq 0 x rfl;rw[show m=m+0 from rfl,this];congr 1;omega;grind;grind[SX.beq_eq,sf]
def Ip(g:Agr v0 I aa){p x:AV}(hp:tn v0 q p=p)(h:(bif AV.beq p x&&ib v0 nb x then some ([]:Jn)else none)=some es)(r:VR O aa p v):VR O I (tn v0 q p) v:=by obtain⟨h1,_⟩:=W8 h;obtain⟨h2,h3⟩:=W7 h1;rw[hp];rw[<-AV.beq_eq _ _ h2]at h3;exact Ei (ac:=O) g.symm (λ_ _=>rfl) p v h3 r
def ct7{q x y:SX}{f:Nat->SX}(g:Agr v0 I aa)(h:Cd v0 n p q x y=some es)(hq: ∀j e,es[j]? =some e->bZ I (f (n+j))=aa.w (v0+(n+j))):bZ I (eC v0 f p)=bZ aa p/\bZ I (eC v0 f q)=bZ aa q:=by unfold Cd at h;split at h;rename_i e1 h1;split at h;rename_i e2 h2;simp at h;subst h;refine⟨ub g h1 λj e hj=>hq j e ?_,ub g h2 λj e hj=> ?_⟩;grind;have:=hq (e1.length+j) e (by(intros;grind));grind;cases h;cases h
mutual
theorem bZ7{v0 nb:Nat}{q:Nat->SX}(g:Agr v0 I aa): ∀(n:Nat) (p x:AV) (es:Jn) (v:AS),ef v0 nb n p x=some es->(∀j e,es[j]? =some e->bZ I (q (n+j))=aa.w (v0+(n+j)))->VR O aa p v->VR O I (tn v0 q p) v
 |n,.any,x,es,v,h,hw,r=>trivial
 |n,.Z k p,x,es,v,h,hw,r=>by simp[ef]at h;unfold Na at h;split at h;split at h;show v= .int k (dI I (eC v0 q p));unfold dI;rw[ub g h hw];exact r;cases h;cases h
 |n,.K p,x,es,v,h,hw,r=>by simp[ef]at h;unfold xf at h;split at h;show v= .string ⟨(dS I (eC v0 q p)).toArray⟩;unfold dS;rw[ub g h hw];exact r;cases h
 |n,.H p,x,es,v,h,hw,r=>by simp[ef]at h;unfold xf at h;split at h;show v= .bool (dB I (eC v0 q p));unfold dB;rw[ub g h hw];exact r;cases h
 |n,.agg ps,.agg xs,es,v,h,hw,r=>by obtain⟨ys,e,r1⟩:=r;exact⟨ys,e,Vr g n ps xs es _ h hw r1⟩
 |n,.agg ps,.bool _,es,v,h,hw,r=>by trivial
 |n,.agg ps,.int _ _,es,v,h,hw,r=>by trivial
 |n,.agg ps,.str _,es,v,h,hw,r=>by trivial
 |n,.agg ps,.nilp,es,v,h,hw,r=>by trivial
 |n,.agg ps,.ptr _ _,es,v,h,hw,r=>by trivial
 |n,.agg ps,.glob _,es,v,h,hw,r=>by trivial
 |n,.agg ps,.N,es,v,h,hw,r=>by trivial
 |n,.agg ps,.sl _ _ _ _,es,v,h,hw,r=>by trivial
 |n,.agg ps,.us _ _ _ _,es,v,h,hw,r=>by trivial
 |n,.agg ps,.es _ _ _,es,v,h,hw,r=>by trivial
 |n,.agg ps,.es0,es,v,h,hw,r=>by trivial
 |n,.agg ps,.nilm,es,v,h,hw,r=>by trivial
 |n,.agg ps,.map _,es,v,h,hw,r=>by trivial
 |n,.agg ps,.nilf,es,v,h,hw,r=>by trivial
 |n,.agg ps,.func _ _ _,es,v,h,hw,r=>by trivial
 |n,.agg ps,.yield _,es,v,h,hw,r=>by trivial
 |n,.agg ps,.nili,es,v,h,hw,r=>by trivial
 |n,.agg ps,.iface _ _,es,v,h,hw,r=>by trivial
 |n,.agg ps,.V _,es,v,h,hw,r=>by trivial
 |n,.agg ps,.opq _,es,v,h,hw,r=>by trivial
 |n,.agg ps,.atl _,es,v,h,hw,r=>by trivial
 |n,.agg ps,.S _ _ _ _,es,v,h,hw,r=>by trivial
 |n,.agg ps,.optr _ _ _ _,es,v,h,hw,r=>by trivial
 |n,.agg ps,.U _ _ _,es,v,h,hw,r=>by trivial
 |n,.agg ps,.Z _ _,es,v,h,hw,r=>by trivial
 |n,.agg ps,.K _,es,v,h,hw,r=>by trivial
 |n,.agg ps,.H _,es,v,h,hw,r=>by trivial
 |n,.agg ps,.any,es,v,h,hw,r=>by trivial
 |n,.bool _,x,es,v,h,hw,r=>by trivial
 |n,.int _ _,x,es,v,h,hw,r=>by trivial
 |n,.str _,x,es,v,h,hw,r=>by trivial
 |n,.nilp,x,es,v,h,hw,r=>by trivial
 |n,.ptr _ _,x,es,v,h,hw,r=>by trivial
 |n,.glob _,x,es,v,h,hw,r=>by trivial
 |n,.N,x,es,v,h,hw,r=>by trivial
 |n,.sl _ _ _ _,x,es,v,h,hw,r=>by trivial
 |n,.us _ _ _ _,x,es,v,h,hw,r=>by trivial
 |n,.es _ _ _,x,es,v,h,hw,r=>by trivial
 |n,.es0,x,es,v,h,hw,r=>by trivial
 |n,.nilm,x,es,v,h,hw,r=>by trivial
 |n,.map _,x,es,v,h,hw,r=>by trivial
 |n,.nilf,x,es,v,h,hw,r=>by trivial
 |n,.func _ _ _,x,es,v,h,hw,r=>by exact Ip g rfl h r
 |n,.yield _,x,es,v,h,hw,r=>by trivial
 |n,.nili,x,es,v,h,hw,r=>by trivial
 |n,.iface _ _,x,es,v,h,hw,r=>by exact Ip g rfl h r
 |n,.V _,x,es,v,h,hw,r=>by exact Ip g rfl h r
 |n,.opq _,x,es,v,h,hw,r=>by exact Ip g rfl h r
 |n,.atl _,x,es,v,h,hw,r=>by trivial
 |n,.S _ _ _ _,x,es,v,h,hw,r=>by simp[ef]at h;unfold JO at h;split at h;obtain⟨_,h2⟩:=W8 h;obtain⟨k1,k2⟩:=ct7 g h2 hw;grind[VR,tn,dI];cases h
 |n,.optr _ _ _ _,x,es,v,h,hw,r=>by exact Ip g rfl h r
 |n,.U _ _ _,x,es,v,h,hw,r=>by simp[ef]at h;unfold FL at h;split at h;obtain⟨_,h2⟩:=W8 h;have k1:=congrArg Val.I (ub g h2 hw);grind[VR,tn,dI];cases h
theorem Vr{v0 nb:Nat}{q:Nat->SX}(g:Agr v0 I aa): ∀(n:Nat) (ps xs:Fz) (es:Jn) (vs:List AS),qN v0 nb n ps xs=some es->(∀j e,es[j]? =some e->bZ I (q (n+j))=aa.w (v0+(n+j)))->ct O aa ps vs->ct O I (Da v0 q ps) vs
 |n,[],[],es,vs,h,hw,r=>r
 |n,[],_::_,es,vs,h,hw,r=>by trivial
 |n,_::_,[],es,vs,h,hw,r=>by trivial
 |n,p::ps,x::xs,es,vs,h,hw,⟨v,vr,e,r1,r2⟩=>by simp[qN]at h;split at h;rename_i e1 h1;split at h;rename_i e2 h2;simp at h;subst h;refine⟨v,vr,e,bZ7 g n p x e1 v h1 (λj y hy=>hw j y ?_) r1,Vr g _ ps xs e2 vr h2 (λj y hy=> ?_) r2⟩;grind;have:=hw (e1.length+j) y (by(intros;grind));grind;cases h;cases h
end
def me: ∀{a b:zd},hZ a b=true->a=b
 | [],[],_=>rfl
 | [],_::_,h=>by cases h
 |_::_,[],h=>by cases h
 |a::x,b::y,h=>by simp[hZ,j8,decide_eq_true_eq]at h;rw[h.1,me h.2]
theorem dn5(g:Agr v0 I aa)(hb: ∀b,b<nb->ac b=O b){L:Loc}{o:aaV}: ∀{p x:Blk} {es:Jn},pZ v0 nb n p x=some es->(∀j e,es[j]? =some e->aa.w (v0+(n+j))=bZ I e)->BR O I L o x->BR ac aa L o p:=by
 intro p x es h hw r;unfold pZ at h;split at h;obtain⟨h1,h2⟩:=W8 h;obtain⟨h1,h5⟩:=W7 h1;obtain⟨h3,h4⟩:=W7 h1;obtain rfl:=Y0.1 h3;obtain rfl:=Y0.1 h4;obtain⟨C,lo,hi,vs,q1,q2,q3,q4,q5,q6,q7,q8⟩:=r;have hv:=YU g hb n _ _ es vs h2 hw q5;have hl:=hv.length;have hl2:=q5.length;exact⟨C,lo,hi,vs,q1,q2,by omega,h5,hv,λi hi'=>q6 i (by omega),q7,by rw[g.fix];exact q8⟩
 rename_i pp _ _ xx;obtain⟨h1,h2⟩:=W8 h;obtain⟨h3,h4⟩:=W7 h1;obtain rfl:=Y0.1 h3;obtain rfl:=me h4;have:=tM g h2 hw;obtain⟨C,e',lo,hi,q1,q0,q2,q3,q4,q5⟩:=r;have hd:dL aa pp=dL I xx:=by grind[dL]
 exact⟨C,e',lo,hi,q1,q0,q2,by grind,by grind,q5⟩;trivial;obtain⟨h1,h2⟩:=W8 h;obtain⟨h5,h1⟩:=W7 h1;obtain⟨h3,h4⟩:=W7 h1;obtain rfl:=me h3;obtain rfl:=me h4;have:=tM g h2 hw;obtain⟨Es,c,q1,q2,q3⟩:=r;exact⟨Es,c,q1,by grind[dL],q3.weak h5⟩
 rename_i pp _;obtain⟨h5,h⟩:=W8 h;have:=tM g h hw;obtain⟨Es,q1,q2⟩:=r;refine⟨Es,_,q1,?_⟩;have hE:Es.toList=[]:=by generalize Es.toList=z at q2;cases q2;rfl
 rw[hE,show dL aa pp=[] by unfold dL;rw[this];rfl];exact⟨rfl,(gO.nil _).weak h5⟩;obtain⟨h1,h2⟩:=W8 h;obtain⟨h3,h4⟩:=W7 h1;obtain rfl:=Y0.1 h3;obtain rfl:=me h4;have:=tM g h2 hw;obtain⟨D,q,r⟩:=r;exact⟨D,by grind[dL],r⟩;cases h
theorem bA7{p x:Blk}(h:pZ v0 nb n p x=some es):p.isArr=x.isArr:=by cases p<;>cases x<;>simp only[pZ]at h<;>first|rfl|cases h
def cd4{p y:Blk}(h:BT v0 q (some p)=some y):p.isArr=y.isArr:=by cases p<;>simp only[BT,j0]at h<;>subst h<;>rfl
def cW0(g:Agr v0 I aa){L:Loc}{o:aaV}: ∀{p x:Blk} {es:Jn},pZ v0 nb n p x=some es->(∀j e,es[j]? =some e->bZ I (q (n+j))=aa.w (v0+(n+j)))->BR O aa L o p-> ∃p',BT v0 q (some p)=some p'/\BR O I L o p':=by
 intro p x es h hw r;unfold pZ at h;split at h
 obtain⟨h1,h2⟩:=W8 h;obtain⟨C,lo,hi,vs,q1,q2,q3,q4,q5,q6,q7,q8⟩:=r;have hv:=Vr g n _ _ es vs h2 hw q5;have hl:=hv.length;have hl2:=q5.length;refine⟨_,rfl,C,lo,hi,vs,q1,q2,by omega,?_,hv,λi hi'=>q6 i (by omega),q7,by rw[<-g.fix];exact q8⟩;have: ∀l:Fz,l.all AV.oneA=true->(Da v0 q l).all AV.oneA=true:=by
  intro l;induction l with
  |nil=>intro _;rfl
  |cons a l ih=>
   intro hh;simp only[List.all_cons,j8]at hh;simp only[Da,List.all_cons,j8];refine⟨?_,ih hh.2⟩;have:=hh.1;cases a<;>simp only[tn]<;>first|exact this|rfl
 grind
 obtain⟨h1,h2⟩:=W8 h;have:=ub g h2 hw;obtain⟨C,e',lo,hi,q1,q0,q2,q3,q4,q5⟩:=r;have hd: ∀e:SX,bZ I (eC v0 q e)=bZ aa e->dL I (eC v0 q e)=dL aa e:=λe he=>by grind[dL]
 exact⟨_,rfl,C,e',lo,hi,q1,q0,q2,by grind,by grind,q5⟩;trivial;obtain⟨h1,h2⟩:=W8 h;have:=ub g h2 hw;obtain⟨Es,c,q1,q2⟩:=r;exact⟨_,rfl,Es,c,q1,by grind[dL,eC]⟩;obtain⟨h5,h⟩:=W8 h;have:=ub g h hw;obtain⟨Es,c,q1,q2⟩:=r;exact⟨_,rfl,Es,c,q1,by grind[dL,eC]⟩;obtain⟨h1,h2⟩:=W8 h;have:=ub g h2 hw;obtain⟨D,q0,r⟩:=r;exact⟨_,rfl,D,by grind[dL,eC],r⟩;cases h
variable{es:Jn}{v0:Nat}
variable{O ac:cn}{I aa:Opq}{K:zI}{w0 w:yM}{h:Heap}
def ww{x:AV}(r:VR O I x Go.undef):VR ac aa x Go.undef:=by
 cases x<;>simp only[VR,Go.undef]at r⊢ <;>first
  |exact r
  |(cases r;done)
  |(obtain⟨_,_,r⟩:=r;cases r;done)
  |(obtain⟨_,_,_,_,r⟩:=r;cases r;done)
  |(obtain⟨_,_,_,_,r,_⟩:=r;cases r;done)
  |(obtain⟨_,r⟩:=r;cases r;done)
  |(obtain⟨_,_,_,r,_⟩:=r;cases r;done)
  |(obtain⟨_,r,_⟩:=r;cases r;done)
  |(rcases r with⟨_,_,_,_,r,_⟩|⟨_,_,r,_⟩<;>(cases r;done))
  |(rcases r with⟨_,_,_,_,r,_⟩|⟨r,_⟩<;>cases r)
  |skip
 case opq n=>have:=I.one n;rw[<-r]at this;cases this
 case V cs=>
  obtain⟨xs,e,q⟩:=r;simp at e;subst e;cases cs with
  |nil=>exact⟨#[],rfl,rfl⟩
  |cons c cs=>obtain⟨_,_,e,_⟩:=q;cases e
def JV: ∀(l:aav) (a:Fr),(eW a l).nt=a.nt
 | [],a=>rfl
 |(t,v)::r,a=>by simp[eW];rw[JV r,Fr.put_nt]
theorem qy: ∀(l:HQ) (a:Fr),(layDead a l).nt=a.nt
 | [],a=>rfl
 |t::r,a=>by simp[layDead];rw[qy r,Fr.put_nt]
def bZ8: ∀(l:aav) (a:Fr),(eW a l).pc=a.pc
 | [],a=>rfl
 |(t,v)::r,a=>by simp[eW];rw[bZ8 r,Fr.put_pc]
def Wp: ∀(l:HQ) (a:Fr),(layDead a l).pc=a.pc
 | [],a=>rfl
 |t::r,a=>by simp[layDead];rw[Wp r,Fr.put_pc]
theorem KP: ∀(l:aav) (a:Fr),(eW a l).ds=a.ds
 | [],a=>rfl
 |(t,v)::r,a=>(KP r _).trans (Fr.put_ds _ _ _)
theorem PX: ∀(l:HQ) (a:Fr),(layDead a l).ds=a.ds
 | [],a=>rfl
 |t::r,a=>(PX r _).trans (Fr.put_ds _ _ _)
theorem Lo: ∀(l:aav) (a:Fr),(eW a l).ro=a.ro
 | [],a=>rfl
 |(t,v)::r,a=>(Lo r _).trans (Fr.put_ro _ _ _)
theorem Ge: ∀(l:HQ) (a:Fr),(layDead a l).ro=a.ro
 | [],a=>rfl
 |t::r,a=>(Ge r _).trans (Fr.put_ro _ _ _)
def Fm{a:Fr}(h:tV a=true):a.ds=[]/\a.ro=none:=by simp_all[tV,W7,List.isEmpty_iff]
theorem HO: ∀(l:aav) (a:Fr),a.nt<=256-> ∀s,a.nt<=s->(eW a l).slot s=a.slot s
 | [],a,_,s,_=>rfl
 |(t,v)::r,a,hl,s,hs=>by simp[eW];rw[HO r _ (by grind[Fr.put_nt]) s (by grind[Fr.put_nt]),Fr.put_slot hl,b9 (by omega)]
theorem Kl: ∀(l:HQ) (a:Fr),a.nt<=256-> ∀s,a.nt<=s->(layDead a l).slot s=a.slot s
 | [],a,_,s,_=>rfl
 |t::r,a,hl,s,hs=>by simp[layDead];rw[Kl r _ (by grind[Fr.put_nt]) s (by grind[Fr.put_nt]),Fr.put_slot hl,b9 (by omega)]
def bf9(f:AV->AV): ∀(l:aav) (a b:Fr) (s:Nat),a.nt<=256->b.nt=a.nt->s<a.nt->(b.slot s=f (a.slot s)\/b.slot s=a.slot s)->
 ((eW b (l.map λp=>(p.1,f p.2))).slot s=f ((eW a l).slot s))\/((eW b (l.map λp=>(p.1,f p.2))).slot s=b.slot s/\(eW a l).slot s=a.slot s)
 | [],a,b,s,_,_,_,_=> .inr ⟨rfl,rfl⟩
 |(t,v)::r,a,b,s,hl,hn,hs,h=>by
  simp[m8,eW];have e1:(a.put (some t) v).slot s=if t=s then v else a.slot s:=by rw[Fr.put_slot hl];simp[hs]
  have e2:(b.put (some t) (f v)).slot s=if t=s then f v else b.slot s:=by rw[Fr.put_slot (by omega)];simp[hn,hs]
  have:=bf9 f r (a.put (some t) v) (b.put (some t) (f v)) s (by rw[Fr.put_nt];exact hl) (by rw[Fr.put_nt,Fr.put_nt,hn]) (by rw[Fr.put_nt];exact hs) (by
   rw[e1,e2];by_cases hh:t=s;rw[c9 hh,c9 hh];exact .inl rfl
   rw[b9 hh,b9 hh];exact h)
  grind
@[simp]def Heap.get_upto(h:Heap)(n b:Nat):(h.upto n).get b=h.get b:=by rfl
@[simp]def Heap.next_upto(h:Heap)(n:Nat):(h.upto n).next=n:=by rfl
@[simp]def Heap.wm_upto(h:Heap)(n:Nat):(h.upto n).wm=h.wm:=by rfl
def Ws: ∀(l:List (Nat×sP)) (h:Heap),(iy h l).next=h.next
 | [],h=>rfl
 |(b,x)::r,h=>by simp[iy];rw[Ws r];rfl
def Df: ∀(l:List (Nat×sP)) (h:Heap),(iy h l).wm=h.wm
 | [],h=>rfl
 |(b,x)::r,h=>by simp[iy];rw[Df r];rfl
def YF: ∀(l:List (Nat×sP)) (h:Heap) (s:Nat),(∀p∈l,p.1≠s)->(iy h l).get s=h.get s
 | [],h,s,_=>rfl
 |(b,x)::r,h,s,hp=>by simp[iy];rw[YF r _ s (λp hh=>hp p (.tail _ hh)),Heap.get_put,b9 (λe=>hp (b,x) (.head _) e.symm)]
def bg0(f:sP->sP)(hf:f none=none): ∀(l:List (Nat×sP)) (a b:Heap) (s:Nat),(b.get s=f (a.get s)\/b.get s=a.get s)->
 ((iy b (l.map λp=>(p.1,f p.2))).get s=f ((iy a l).get s))\/((iy b (l.map λp=>(p.1,f p.2))).get s=b.get s/\(iy a l).get s=a.get s)
 | [],a,b,s,_=> .inr ⟨rfl,rfl⟩
 |(t,v)::r,a,b,s,h=>by
  simp[m8,iy];have e1:(a.put t v).get s=if s=t then(if t<65536 then v else none)else a.get s:=Heap.get_put _ _ _ _
  have e2:(b.put t (f v)).get s=if s=t then(if t<65536 then f v else none)else b.get s:=Heap.get_put _ _ _ _
  have h2:(b.put t (f v)).get s=f ((a.put t v).get s)\/(b.put t (f v)).get s=(a.put t v).get s:=by rw[e1,e2];by_cases hh:s=t;rw[c9 hh,c9 hh];by_cases h3:t<65536;rw[c9 h3,c9 h3];exact .inl rfl;rw[b9 h3,b9 h3];exact .inr rfl;rw[b9 hh,b9 hh];exact h
  rcases bg0 f hf r (a.put t v) (b.put t (f v)) s h2 with q|⟨q1,q2⟩
  exact .inl q;grind
def dn6{n:Nat}{fs:Jn}{P:Nat->SX->Prop}(hw: ∀j e,(es++fs)[j]? =some e->P (n+j) e): ∀j e,es[j]? =some e->P (n+j) e:=by grind
def bZ9{n:Nat}{fs:Jn}{P:Nat->SX->Prop}(hw: ∀j e,(es++fs)[j]? =some e->P (n+j) e): ∀j e,fs[j]? =some e->P (n+es.length+j) e:=by intro j e hj;have:=hw (es.length+j) e (by rw[s6 (by omega),show es.length+j-es.length=j by omega];exact hj);grind
def c00{v0 nb:Nat}{aP a:Fr}{P:Nat->SX->Prop}: ∀{m t n:Nat} {es:Jn},QP v0 nb aP a m t n=some es->(∀j e,es[j]? =some e->P (n+j) e)-> ∀s,t<=s->s<t+m-> ∃n' es',ef v0 nb n' (aP.slot s) (a.slot s)=some es'/\ ∀j e,es'[j]? =some e->P (n'+j) e
 |0,t,n,es,h,hw,s,h1,h2=>by omega
 |m+1,t,n,es,h,hw,s,h1,h2=>by simp[QP]at h;split at h;split at h;rename_i e2 he2;simp at h;subst h;by_cases hs:s=t;grind;exact c00 he2 (bZ9 hw) s (by omega) (by omega);cases h;cases h
def c01{v0 nb:Nat}{hP h0:Heap}{P:Nat->SX->Prop}: ∀{m t n:Nat} {es:Jn},Mg v0 nb hP h0 m t n=some es->(∀j e,es[j]? =some e->P (n+j) e)-> ∀s,t<=s->s<t+m-> ∃n' es',ud v0 nb n' (hP.get s) (h0.get s)=some es'/\ ∀j e,es'[j]? =some e->P (n'+j) e
 |0,t,n,es,h,hw,s,h1,h2=>by omega
 |m+1,t,n,es,h,hw,s,h1,h2=>by simp[Mg]at h;split at h;split at h;rename_i e2 he2;simp at h;subst h;by_cases hs:s=t;grind;exact c01 he2 (bZ9 hw) s (by omega) (by omega);cases h;cases h
def cn.cut(O:cn)(n:Nat):cn:=λb=>if b<n then O b else none
def c02{I:Opq}: ∀j e,es[j]? =some e->(I.U v0 (Y6 I es)).w (v0+(0+j))=bZ I e:=by
 intro j e hj;refine wR ?_;induction es generalizing j with
 |nil=>simp at hj
 |cons a r ih=>
  grind[Y6,List.getElem?_cons_succ]
structure Met (v0:Nat) (aP:Fr) (hP:Heap) (a:Fr) (h:Heap) (es:Jn):Prop where
 plP:tV aP=true
 pl:tV a=true
 nt:aP.nt=a.nt
 nx:hP.next<=h.next
 wm:hP.wm=h.wm
 sl: ∀(P:Nat->SX->Prop),(∀j e,es[j]? =some e->P (0+j) e)-> ∀s,s<a.nt-> ∃n' es',ef v0 hP.next n' (aP.slot s) (a.slot s)=some es'/\ ∀j e,es'[j]? =some e->P (n'+j) e
 hp: ∀(P:Nat->SX->Prop),(∀j e,es[j]? =some e->P (0+j) e)-> ∀s,s<hP.next-> ∃n' es',ud v0 hP.next n' (hP.get s) (h.get s)=some es'/\ ∀j e,es'[j]? =some e->P (n'+j) e
def Kw{aP:Fr}{hP:Heap}{a:Fr}{h:Heap}(e:tQ v0 aP hP a h=some es):Met v0 aP hP a h es:=by obtain⟨h1,e⟩:=W8 e;obtain⟨h1,h3⟩:=W7 h1;obtain⟨h1,h2⟩:=W7 h1;obtain⟨h0,h1⟩:=W7 h1;obtain⟨h0,h00⟩:=W7 h0;rw[Y0]at h1 h3;rw[cV]at h2;split at e;rename_i e1 he1;split at e;rename_i e2 he2;simp at e;subst e;exact⟨h0,h00,h1,h2,h3,λP hw s hs=>c00 he1 (dn6 hw) s (p8 _) (by omega),λP hw s hs=>by have:=c01 (P:=P) (n:=e1.length) he2 (by grind) s (p8 _) (by omega);exact this⟩;cases e;cases e
def Met.fr{aP:Fr}{hP:Heap}{a:Fr}{act:Act}(m:Met v0 aP hP a h es)(hpc:aP.pc=[])(hhi: ∀s,a.nt<=s-> ∃x,aP.slot s=x/\VR O I x Go.undef)(f:dA O I a act):dA (O.cut hP.next) (I.U v0 (Y6 I es)) aP act:=by
 refine⟨by rw[m.nt];exact f.size,by rw[m.nt];exact f.lim,λt _=> ?_,?_,λp hp=>by grind⟩
 rotate_left
 have hd:=f.defers;rw[(Fm m.pl).1]at hd;rw[(Fm m.plP).1];exact hd;by_cases ht:t<a.nt;obtain⟨n',es',h1,h2⟩:=m.sl (λj e=>(I.U v0 (Y6 I es)).w (v0+j)=bZ I e) c02 t ht;exact ct6 (GK I v0 _) (λb hb=>by simp[cn.cut,hb]) n' _ _ es' _ h1 h2 (f.slot t id);obtain⟨x,h1,h2⟩:=hhi t (K1 ht);rw[h1,x8,D9 (by rw[f.size];omega)];exact ww h2
def Met.hr{aP:Fr}{hP:Heap}{a:Fr}(m:Met v0 aP hP a h es)(hfg: ∀b,hP.next<=b->hP.get b=none)(r:HR O I K w0 h w):HR (O.cut hP.next) (I.U v0 (Y6 I es)) K w0 hP w:=by
 have key: ∀b x,hP.get b=some x->b<hP.next/\ ∃y,h.get b=some y/\(∀L o,BR O I L o y->BR (O.cut hP.next) (I.U v0 (Y6 I es)) L o x)/\x.isArr=y.isArr:=by
  intro b x hx;have hb:b<hP.next:=by
   rcases k8 b hP.next with hh|hh
   exact hh;rw[hfg b hh]at hx;cases hx
  obtain⟨n',es',h1,h2⟩:=m.hp (λj e=>(I.U v0 (Y6 I es)).w (v0+j)=bZ I e) c02 b hb;simp[ud]at h1;grind[dn5,GK,cn.cut,bA7]
 have cut: ∀{b L},O.cut hP.next b=some L->O b=some L:=by grind[cn.cut]
 refine⟨λb x L hg hb=> ?_,λb b' x x' L L' hg hg' hb hb' hne hw=> ?_,λb hb=>by simp_all[cn.cut,b9],hfg,λb L hb=>r.lt b L (cut hb),r.kin,r.keep,λb x L hg hw hb=> ?_,r.size,r.os,r.tape,r.out,r.dr⟩;obtain⟨_,y,h1,h2,_⟩:=key b x hg;exact h2 L _ (r.blk b y L h1 (cut hb));obtain⟨_,y,h1,_,k1⟩:=key b x hg;obtain⟨_,y',h1',_,k2⟩:=key b' x' hg';exact r.sep b b' y y' L L' h1 h1' (cut hb) (cut hb') hne (by rw[<-k1,<-k2,<-m.wm];exact hw);obtain⟨_,y,h1,_⟩:=key b x hg;exact r.free b y L h1 (by rw[<-m.wm];exact hw) (cut hb)
variable{O ac:cn}{I:Opq}{K:zI}{w0 w:yM}{h:Heap}
def cn.at_(O:cn)(b:Nat)(L:aa8):cn:=λx=>if x=b then L else O x
def pO{c b:Nat}(h:(!(Nat.beq c b))=true):c≠b:=by intro e;rw[Y0.2 e]at h;cases h
mutual
theorem zq{b:Nat}(hb: ∀x,x≠b->ac x=O x): ∀(x:AV) (v:AS),pG b x=true->VR O I x v->VR ac I x v
 | .bool _,v,_,r=>r
 | .int _ _,v,_,r=>r
 | .str _,v,_,r=>r
 | .nilp,v,_,r=>r
 | .ptr c _,v,h,⟨L,e,q⟩=>⟨L,(hb c (pO (by trivial))).trans e,q⟩
 | .glob _,v,_,r=>r
 | .N,v,_,r=>r
 | .sl c _ _ _,v,h,⟨L,e,q⟩=>⟨L,(hb c (pO (by trivial))).trans e,q⟩
 | .us c _ _ _,v,h,⟨L,cc,e,q⟩=>⟨L,cc,(hb c (pO (by trivial))).trans e,q⟩
 | .es c _ _,v,h,⟨L,a,cc,e,q⟩=>⟨L,a,cc,(hb c (pO (by trivial))).trans e,q⟩
 | .es0,v,_,r=>r
 | .nilm,v,_,r=>r
 | .map c,v,h,⟨L,e,q⟩=>⟨L,(hb c (pO (by trivial))).trans e,q⟩
 | .nilf,v,_,r=>r
 | .func fn x y,v,h,⟨n,p,q,e,r1,r2⟩=>by simp only[pG,j8]at h;exact⟨n,p,q,e,Ak hb x _ h.1 r1,Ak hb y _ h.2 r2⟩
 | .yield c,v,h,⟨L,e,q⟩=>⟨L,(hb c (pO (by trivial))).trans e,q⟩
 | .nili,v,_,r=>r
 | .iface t x,v,h,⟨y,e,q⟩=>⟨y,e,zq hb x y (by trivial) q⟩
 | .agg l,v,h,⟨xs,e,q⟩=>⟨xs,e,Ak hb l _ (by trivial) q⟩
 | .V l,v,h,⟨xs,e,q⟩=>⟨xs,e,Ak hb l _ (by trivial) q⟩
 | .opq n,v,_,r=>r
 | .Z k e,v,h,r=>r
 | .K e,v,h,r=>r
 | .H e,v,h,r=>r
 | .S c x y sz,v,h,r=>by have:=hb c (pO (by trivial));simp only[VR]at r⊢;rw[this];exact r
 | .optr c x j sz,v,h,r=>by have:=hb c (pO (by trivial));simp only[VR]at r⊢;rw[this];exact r
 | .U c x sz,v,h,r=>by have:=hb c (pO (by trivial));simp only[VR]at r⊢;rw[this];exact r
 | .atl _,v,_,r=>r
 | .any,_,_,_=>trivial
theorem Ak{b:Nat}(hb: ∀x,x≠b->ac x=O x): ∀(l:Fz) (vs:List AS),ou b l=true->ct O I l vs->ct ac I l vs
 | [],vs,_,r=>r
 |a::l,vs,h,⟨v,vr,e,p,q⟩=>by simp only[ou,j8]at h;exact⟨v,vr,e,zq hb a v h.1 p,Ak hb l vr h.2 q⟩
end
def dn7{b:Nat}(hb: ∀x,x≠b->ac x=O x): ∀{es:aaO} {m:aaE},(es.all λe=>pG b e.key&&pG b e.val)=true->ERs O I es m->ERs ac I es m:=by
 intro es m h r;induction r with
 |nil=>exact .nil
 |cons r1 r2 r3 ih=>
  simp only[List.all_cons,j8]at h;exact .cons (zq hb _ _ h.1.1 r1) (zq hb _ _ h.1.2 r2) (ih h.2)
def Tj{b:Nat}(hb: ∀x,x≠b->ac x=O x){L:Loc}{o:aaV}{x:Blk}(h:pS b (some x)=true)(r:BR O I L o x):BR ac I L o x:=by
 cases x with
 |cells e fz cs=>
  obtain⟨C,lo,hi,vs,q1,q2,q3,q4,q5,q6⟩:=r;exact⟨C,lo,hi,vs,q1,q2,q3,q4,Ak hb cs vs h q5,q6⟩
 |A e sig l=>exact r
 |map es c=>
  obtain⟨Es,q1,q2⟩:=r;exact⟨Es,q1,dn7 hb h q2⟩
 |marr d ks vs l=>exact r
 |bag e sig l=>exact r
 |mrg it d ks vs l=>
  obtain⟨E,c,Li,q1,q2,q3⟩:=r;have:it≠b:=by rintro rfl;simp[pS]at h
  exact⟨E,c,Li,q1,by rw[hb _ this];exact q2,q3⟩
 |mit m=>
  obtain⟨q0,Lm,q1,q2⟩:=r;have:m≠b:=by rintro rfl;simp[pS]at h
  exact⟨q0,Lm,by rw[hb _ this];exact q1,q2⟩
 |vec cs=>
  trivial
 |_=>cases h
def Ua{b t:Nat}{a:Fr}: ∀{n:Nat},sM b t a n=true-> ∀s,s<n->s≠t->pG b (a.slot s)=true
 |0,_,s,hs,_=>by omega
 |n+1,h,s,hs,ht=>by
  simp only[sM,j8,s9,O7]at h;by_cases e:s=n
  subst e;rcases h.1 with h1|h1
  trivial;exact h1;exact Ua h.2 s (by omega) ht
def Su{b t:Nat}{a:Fr}: ∀{n:Nat},sM b t a n=true->a.ds=[]
 |0,h=>List.isEmpty_iff.1 h
 |n+1,h=>by simp only[sM,j8]at h;exact Su h.2
def ct8{b:Nat}{h0:Heap}: ∀{n:Nat},wU b h0 n=true-> ∀s,s<n->pS b (h0.get s)=true
 |0,_,s,hs=>by omega
 |n+1,h,s,hs=>by simp only[wU,j8]at h;by_cases e:s=n;subst e;exact h.1;exact ct8 h.2 s (by omega)
def Nf{o:OwnP}{a:Fr}{act:Act}{l:SX}{L:aa8}(hds:a.ds=[])(f:dA O I a act)(r:HR O I K w0 h w)(hslot:o.slot<a.nt)(hblk:o.blk<h.next)(h65:o.blk<65536)(hnone:h.get o.blk=none)
 (hfr: ∀s,s<a.nt->s≠o.slot->pG o.blk (a.slot s)=true) (hhp: ∀z y,h.get z=some y->pS o.blk (some y)=true) (hlt: ∀M,L=some M->M.blk<w.heap.size) (hsep: ∀M x y M',L=some M->h.get x=some y->O x=some M'->M.blk≠M'.blk) (hfree: ∀M,L=some M-> ¬K M.blk)
 (hbr: ∀M,L=some M->BR O I M w.heap[M.blk]? (.A o.elem o.sig l)) (hv: ∀u,VR O I (a.slot o.slot) u->VR (O.at_ o.blk L) I (.U o.blk (.O .Y [l]) o.sig.length) u):
 dA (O.at_ o.blk L) I (nM o a h l).1 act/\HR (O.at_ o.blk L) I K w0 (nM o a h l).2 w:=by
 have hb: ∀x,x≠o.blk->(O.at_ o.blk L) x=O x:=λx hx=>by simp only[cn.at_];rw[b9 hx]
 have hb0:(O.at_ o.blk L) o.blk=L:=by simp[cn.at_]
 have fc: ∀z,(h.put o.blk (some (.A o.elem o.sig l))).get z=if z=o.blk then some (.A o.elem o.sig l)else h.get z:=λz=>by rw[Heap.get_put,c9 h65]
 constructor;refine⟨by show act.tmps.size=(a.put _ _).nt;rw[Fr.put_nt];exact f.size,by show(a.put _ _).nt<=256;rw[Fr.put_nt];exact f.lim,λt _=> ?_,by show lE _ I (a.put _ _).ds act.defers;rw[Fr.put_ds,hds];have:=f.defers;rw[hds]at this;exact this,λp hp=>f.pcs p (by have:(a.put (some o.slot) (.U o.blk (.O .Y [l]) o.sig.length)).pc=a.pc:=Fr.put_pc _ _ _;rw[<-this];exact hp)⟩;show VR _ I ((a.put (some o.slot) (.U o.blk (.O .Y [l]) o.sig.length)).slot t) _;rw[Fr.put_slot f.lim];by_cases ht:t=o.slot;subst ht;rw[c9 ⟨rfl,hslot⟩];exact hv _ (f.slot _ id);rw[b9 (λhh=>ht (by have:=hh.1;simp only[j0]at this;exact this.symm))];by_cases hn:t<a.nt;exact zq hb _ _ (hfr t hn ht) (f.slot t id);have:=f.slot t id;rw[x8,D9 (by rw[f.size];exact K1 hn)]at this⊢;exact ww this
 .have key: ∀z y,(h.put o.blk (some (.A o.elem o.sig l))).get z=some y->(z=o.blk/\y= .A o.elem o.sig l)\/(z≠o.blk/\h.get z=some y):=by
   intro z y hy;rw[fc]at hy;by_cases hz:z=o.blk;rw[c9 hz]at hy;simp only[j0]at hy;exact .inl ⟨hz,hy.symm⟩;rw[b9 hz]at hy;exact .inr ⟨hz,hy⟩
  refine⟨λz y M hy hM=> ?_,λz z' y y' M M' hy hy' hM hM' hne hw=> ?_,λz hz=> ?_,λz hz=> ?_,λz M hM=> ?_,r.kin,r.keep,λz y M hy hw hM=> ?_,r.size,r.os,r.tape,r.out,r.dr⟩
  rcases key z y hy with⟨rfl,rfl⟩|⟨hz,hy⟩
  rw[hb0]at hM;exact hbr M hM;rw[hb z hz]at hM;exact Tj hb (hhp z y hy) (r.blk z y M hy hM)
  rcases key z y hy with⟨rfl,rfl⟩|⟨hz,hy⟩
  rw[hb0]at hM;rcases key z' y' hy' with⟨rfl,_⟩|⟨hz',hy'⟩
  trivial;rw[hb z' hz']at hM';exact hsep M z' y' M' hM hy' hM'
  rw[hb z hz]at hM;rcases key z' y' hy' with⟨rfl,rfl⟩|⟨hz',hy'⟩
  rw[hb0]at hM';exact(hsep M' z y M hM' hy hM).symm;rw[hb z' hz']at hM';exact r.sep z z' y y' M M' hy hy' hM hM' hne hw
  .have hz:h.next<=z:=hz
   rw[hb z (by omega)];exact r.fresh z hz
  .have hz:h.next<=z:=hz
   show(h.put o.blk (some (.A o.elem o.sig l))).get z=none;rw[fc,b9 (by omega)];exact r.fget z hz
  by_cases hz:z=o.blk;rw[hz,hb0]at hM;exact hlt M hM;rw[hb z hz]at hM;exact r.lt z M hM
  rcases key z y hy with⟨rfl,rfl⟩|⟨hz,hy⟩
  rw[hb0]at hM;exact hfree M hM;rw[hb z hz]at hM;exact r.free z y M hy hw hM
structure Conv (I:Opq) (K:zI) (w0 w:yM) (a a':Fr) (h h':Heap) (act:Act) (O ac:cn) (P:zI):Prop where
 fr:dA ac I a' act
 hr:HR ac I K w0 h' w
 bij: ∀x,¬P x->ac x=O x
 nt:a'.nt=a.nt
 next:h'.next=h.next
 wm:h'.wm=h.wm
 get: ∀b,h'.get b=h.get b\/h'.get b=none\/P b\/O b≠none
def c04{len l:SX}(h:NS len l=true):dI I len=dI I (.O .Y [l]):=by
 unfold NS at h;rw[s9]at h;rcases h with h|h
 rw[SX.beq_eq _ _ h];split at h;rfl;cases h
def ct9{o:OwnP}{a a':Fr}{h':Heap}{act:Act}(e:PW o a h=some (a',h'))(f:dA O I a act)(r:HR O I K w0 h w): ∃ac,Conv I K w0 w a a' h h' act O ac (· =o.blk):=by
 have common: ∀{c:Bool},(Nat.blt o.slot a.nt&&Nat.blt o.blk h.next&&Nat.blt o.blk 65536&&(h.get o.blk).isNone&&sM o.blk o.slot a a.nt&&wU o.blk h h.next)=true->
  a.ds=[]/\o.slot<a.nt/\o.blk<h.next/\o.blk<65536/\h.get o.blk=none/\(∀s,s<a.nt->s≠o.slot->pG o.blk (a.slot s)=true)/\(∀z y,h.get z=some y->pS o.blk (some y)=true):=by
  intro c hc;obtain⟨hc,c6⟩:=W7 hc;obtain⟨hc,c5⟩:=W7 hc;obtain⟨hc,c4⟩:=W7 hc;obtain⟨hc,c3⟩:=W7 hc;obtain⟨c1,c2⟩:=W7 hc;rw[eH]at c1 c2 c3;refine⟨Su c5,c1,c2,c3,by simpa using c4,Ua c5,λz y hy=> ?_⟩;have hlt:z<h.next:=by
   rcases k8 z h.next with hh|hh
   exact hh;rw[r.fget z hh]at hy;cases hy
  have:=ct8 c6 z hlt;rw[hy]at this;exact this
 have gput: ∀(hh:Heap) (l:SX),o.blk<65536-> ∀b,(nM o a hh l).2.get b=if b=o.blk then some (.A o.elem o.sig l)else hh.get b:=by intro hh l hl b;show(hh.put o.blk (some (.A o.elem o.sig l))).get b=_;rw[Heap.get_put,c9 hl]
 have bij: ∀(L:aa8) x,¬(x=o.blk)->(O.at_ o.blk L) x=O x:=λL x hx=>by simp only[cn.at_];rw[b9 hx]
 unfold PW at e;split at e
 rename_i b len sz hsl;cases hq:Nat.beq b o.blk with
 |true=>
  rw[hq]at e;simp only[cond_true]at e;split at e;obtain⟨_,e⟩:=W8 e;simp only[j0,y5]at e;obtain⟨rfl,rfl⟩:=e;exact⟨O,f,r,λ_ _=>rfl,rfl,rfl,rfl,λ_=> .inl rfl⟩;cases e
 |false=>
  rw[hq]at e;simp only[cond_false]at e;replace e:=W8 e;obtain⟨hc,e⟩:=e;obtain⟨hc,c7⟩:=W7 hc;rw[cV]at c7;obtain⟨c0,c1,c2,c3,c4,c5,c6⟩:=common (c:=true) hc;split at e
  rename_i el sig l hg;replace e:=W8 e;obtain⟨hd,e⟩:=e;obtain⟨hd,d4⟩:=W7 hd;obtain⟨hd,d3⟩:=W7 hd;obtain⟨d1,d2⟩:=W7 hd;rw[Y0]at d1 d3;have d2:=me d2;have d4:=c04 (I:=I) d4;simp only[j0]at e;obtain⟨r1,_⟩:=r.drop b;have g1: ∀z y,(h.put b none).get z=some y->z≠b/\h.get z=some y:=by intro z y hy;rw[Heap.get_put]at hy;by_cases hz:z=b;rw[c9 hz]at hy;split at hy<;>cases hy;rw[b9 hz]at hy;trivial
  have hbn:o.blk≠b:=λhh=>by rw[hh]at c4;rw[c4]at hg;cases hg
  have m:=Nf (o:=o) (l:=l) (L:=O b) c0 f r1 c1 c2 c3 (by rw[Heap.get_put,b9 hbn];exact c4) c5 (λz y hy=>c6 z y (g1 z y hy).2) (λM hM=>r.lt b M hM)
   (λM x y M' hM hx hxM=>r.sep b x _ y M M' hg (g1 x y hx).2 hM hxM (g1 x y hx).1.symm (.inl c7)) (λM hM=>r.free b _ M hg c7 hM)
   (λM hM=>by rw[<-d1,<-d2];exact r.blk b _ M hg hM) (λu hu=>by
    rw[hsl]at hu;simp only[VR]at hu⊢;rw[d4]at hu;rcases hu with⟨L,cap,h1,h2,h3,h4⟩|hu
    exact .inl ⟨L,cap,by simp[cn.at_,h1],by rw[<-d2,<-d3];exact h2,h3,h4⟩
    exact .inr hu)
  rw[e]at m;have e1:a'=(nM o a (h.put b none) l).1:=by rw[e]
  have e2:h'=(nM o a (h.put b none) l).2:=by rw[e]
  refine⟨_,m.1,m.2,bij _,by rw[e1];exact Fr.put_nt _ _ _,by rw[e2];rfl,by rw[e2];rfl,λx=> ?_⟩;rw[e2,gput _ _ c3];by_cases hx:x=o.blk;exact .inr (.inr (.inl hx));rw[b9 hx,Heap.get_put];by_cases hx2:x=b;right;left;rw[c9 hx2];split<;>rfl;left;rw[b9 hx2];cases e
 .rename_i hsl;obtain⟨hc,e⟩:=W8 e;obtain⟨c0,c1,c2,c3,c4,c5,c6⟩:=common (c:=true) hc;simp only[j0]at e;have m:=Nf (o:=o) (l:= .O .row []) (L:=none) c0 f r c1 c2 c3 c4 c5 c6 (λM hM=>by cases hM) (λM x y M' hM=>by cases hM) (λM hM=>by cases hM) (λM hM=>by cases hM) (λu hu=>by
   rw[hsl]at hu;exact .inr ⟨hu,rfl⟩)
  rw[e]at m;have e1:a'=(nM o a h (.O .row [])).1:=by rw[e]
  have e2:h'=(nM o a h (.O .row [])).2:=by rw[e]
  refine⟨_,m.1,m.2,bij _,by rw[e1];exact Fr.put_nt _ _ _,by rw[e2];rfl,by rw[e2];rfl,λx=> ?_⟩;rw[e2,gput _ _ c3];by_cases hx:x=o.blk;exact .inr (.inr (.inl hx));rw[b9 hx];exact .inl rfl
 rename_i b n sz hsl;replace e:=W8 e;obtain⟨hc,e⟩:=e;obtain⟨hc,c8⟩:=W7 hc;obtain⟨hc,c7⟩:=W7 hc;rw[cV]at c7;rw[eH]at c8;obtain⟨c0,c1,c2,c3,c4,c5,c6⟩:=common (c:=true) hc;split at e;rename_i el cs hg;replace e:=W8 e;obtain⟨hd,e⟩:=e;obtain⟨hd,d3⟩:=W7 hd;obtain⟨d1,d2⟩:=W7 hd;rw[Y0]at d1 d2 d3;split at e
 rename_i rs hrs;simp only[j0]at e;obtain⟨r1,_⟩:=r.drop b;have g1: ∀z y,(h.put b none).get z=some y->z≠b/\h.get z=some y:=by intro z y hy;rw[Heap.get_put]at hy;by_cases hz:z=b;rw[c9 hz]at hy;split at hy<;>cases hy;rw[b9 hz]at hy;trivial
 have hbn:o.blk≠b:=λhh=>by rw[hh]at c4;rw[c4]at hg;cases hg
 have hcell: ∀M,O b=some M-> ∃C lo hi,w.heap[M.blk]? =some (.cells C el (lo,hi))/\M.off+M.ext<=C.size/\cs.length<=M.ext/\(Y6 I rs).length=n/\
  (∀i v,(cN o.sig (Y6 I rs))[i]? =some v->C[M.off+i]? =some v)/\(∀i,i<M.ext-> ¬(lo<=M.off+i/\M.off+i<hi)):=by
  intro M hM;obtain⟨C,lo,hi,vs,q1,q2,q3,q4,q5,q6,q7⟩:=r.cells hg hM;obtain⟨z1,z2⟩:=BA hrs d3 q5;have hvl:=q5.length;refine⟨C,lo,hi,q1,q2,q3,z2,λi v hi'=> ?_,λi hi'=>q7 i (p8 _) hi'⟩;rw[<-z1]at hi';rw[q6 i (by
   rcases k8 i vs.length with hh|hh
   omega
   rw[x5 hh]at hi';cases hi')]
  exact hi'
 have m:=Nf (o:=o) (l:= .O .row rs) (L:=O b) c0 f r1 c1 c2 c3 (by rw[Heap.get_put,b9 hbn];exact c4) c5 (λz y hy=>c6 z y (g1 z y hy).2) (λM hM=>r.lt b M hM)
  (λM x y M' hM hx hxM=>r.sep b x _ y M M' hg (g1 x y hx).2 hM hxM (g1 x y hx).1.symm (.inl c7)) (λM hM=>r.free b _ M hg c7 hM)
  (λM hM=>by
   obtain⟨C,lo,hi,q1,q2,q3,q4,q5,q6⟩:=hcell M hM;rw[<-d1];refine⟨C,_,lo,hi,q1,.inl rfl,q2,?_,q5,q6⟩;show(Y6 I rs).length*o.sig.length<=M.ext;rw[q4,<-d2,<-d3];exact q3) (λu hu=>by
   rw[hsl]at hu;simp only[VR]at hu⊢;obtain⟨M,cap,h1,h2,h3⟩:=hu;obtain⟨C,lo,hi,q1,q2,q3,q4,q5,q6⟩:=hcell M h1;have hn:(dI I (.O .Y [.O .row rs])).toNat=n:=by trivial
   have hle:n<=cap:=by rw[d3,<-show cap*sz=M.ext by omega]at q3;exact E6 q3 c8
   exact .inl ⟨M,cap,by simp[cn.at_,h1],by rw[<-d2];omega,by rw[hn];trivial,by rw[hn];exact hle⟩)
 rw[e]at m;have e1:a'=(nM o a (h.put b none) (.O .row rs)).1:=by rw[e]
 have e2:h'=(nM o a (h.put b none) (.O .row rs)).2:=by rw[e]
 refine⟨_,m.1,m.2,bij _,by rw[e1];exact Fr.put_nt _ _ _,by rw[e2];rfl,by rw[e2];rfl,λx=> ?_⟩;rw[e2,gput _ _ c3];by_cases hx:x=o.blk;exact .inr (.inr (.inl hx));rw[b9 hx,Heap.get_put];by_cases hx2:x=b;right;left;rw[c9 hx2];split<;>rfl;left;rw[b9 hx2];cases e;cases e;rename_i b p n c hsl;replace e:=W8 e;obtain⟨hc,e⟩:=e;obtain⟨hc,c7⟩:=W7 hc;rw[cV]at c7;obtain⟨c0,c1,c2,c3,c4,c5,c6⟩:=common (c:=true) hc;split at e;rename_i el fz cs hg;replace e:=W8 e;obtain⟨hd,e⟩:=e;obtain⟨hd,d4⟩:=W7 hd;obtain⟨hd,d3⟩:=W7 hd;obtain⟨d1,d2⟩:=W7 hd;rw[Y0]at d1;rw[cV]at d2 d3 d4;split at e
 rename_i rs hrs;simp only[j0]at e;have hvr:=f.slot o.slot id;rw[hsl]at hvr;simp only[VR]at hvr;obtain⟨L,hL,hv0⟩:=hvr;obtain⟨r1,_⟩:=r.drop b;have g1: ∀z y,(h.put b none).get z=some y->z≠b/\h.get z=some y:=by intro z y hy;rw[Heap.get_put]at hy;by_cases hz:z=b;rw[c9 hz]at hy;split at hy<;>cases hy;rw[b9 hz]at hy;trivial
 have hbn:o.blk≠b:=λhh=>by rw[hh]at c4;rw[c4]at hg;cases hg
 obtain⟨C,lo,hi,vs,q1,q2,q3,q4,q5,q6,q7⟩:=r.cells hg hL;obtain⟨z1,z2⟩:=BA hrs (by simp only[l5,J8];have:=B4 o.sig.length d4;omega) ((q5.drop p).take (n*o.sig.length));have hvl:=q5.length;have hns:n*o.sig.length<=c*o.sig.length:=B4 _ d4;have m:=Nf (o:=o) (l:= .O .row rs) (L:=some ⟨L.blk,L.off+p,c*o.sig.length⟩) c0 f r1 c1 c2 c3 (by rw[Heap.get_put,b9 hbn];exact c4) c5 (λz y hy=>c6 z y (g1 z y hy).2) (λM hM=>by cases hM;exact r.lt b L hL)
  (λM x y M' hM hx hxM=>by cases hM;exact r.sep b x _ y L M' hg (g1 x y hx).2 hL hxM (g1 x y hx).1.symm (.inl c7)) (λM hM=>by cases hM;exact r.free b _ L hg c7 hL)
  (λM hM=>by
   cases hM;rw[<-d1];refine⟨C,_,lo,hi,q1,.inl rfl,by show L.off+p+c*o.sig.length<=C.size;omega,?_,λi v hi'=> ?_,λi hi'=> ?_⟩;show(Y6 I rs).length*o.sig.length<=c*o.sig.length;rw[z2];exact hns
   show C[L.off+p+i]? =some v;have hi':(cN o.sig (Y6 I rs))[i]? =some v:=hi';rw[<-z1]at hi';have hlt:i<n*o.sig.length:=by
    rcases k8 i (n*o.sig.length)with hh|hh
    exact hh;rw[x5 (by simp;omega)]at hi';cases hi'
   rw[show L.off+p+i=L.off+(p+i) by omega,q6 (p+i) (by omega)];rw[C8,c9 hlt,D7]at hi';exact hi'
   have hi':i<c*o.sig.length:=hi';have:=q7 (p+i) (by omega) (by omega);show¬(lo<=L.off+p+i/\L.off+p+i<hi);rw[show L.off+p+i=L.off+(p+i) by omega];exact this) (λu hu=>by
   rw[hsl]at hu;simp only[VR]at hu⊢;obtain⟨M,hM,h3⟩:=hu;rw[hL,j0]at hM;subst hM;have hn:(dI I (.O .Y [.O .row rs])).toNat=n:=by trivial
   exact .inl ⟨⟨L.blk,L.off+p,c*o.sig.length⟩,c,by simp[cn.at_],rfl,by rw[hn];exact h3,by rw[hn];exact d4⟩)
 rw[e]at m;have e1:a'=(nM o a (h.put b none) (.O .row rs)).1:=by rw[e]
 have e2:h'=(nM o a (h.put b none) (.O .row rs)).2:=by rw[e]
 refine⟨_,m.1,m.2,bij _,by rw[e1];exact Fr.put_nt _ _ _,by rw[e2];rfl,by rw[e2];rfl,λx=> ?_⟩;rw[e2,gput _ _ c3];by_cases hx:x=o.blk;exact .inr (.inr (.inl hx));rw[b9 hx,Heap.get_put];by_cases hx2:x=b;right;left;rw[c9 hx2];split<;>rfl;left;rw[b9 hx2];cases e;cases e;cases e
def cu0{b:Nat}{y:AV}(hb: ∀x,x≠b->ac x=O x): ∀{cs:Fz} {vs:List AS} {i:Nat},ct O I cs vs->ou b (cs.set i .N)=true->(∀x u,cs[i]? =some x->VR O I x u->VR ac I y u)->ct ac I (cs.set i y) vs
 | [],_,_,r,_,_=>r
 |a::cs,vs,0,⟨v,vr,e,p,q⟩,hn,hy=>by simp only[List.set_cons_zero,ou,j8]at hn;exact⟨v,vr,e,hy a v rfl p,Ak hb _ _ hn.2 q⟩
 |a::cs,vs,i+1,⟨v,vr,e,p,q⟩,hn,hy=>by simp only[List.set_cons_succ,ou,j8]at hn;exact⟨v,vr,e,zq hb _ _ hn.1 p,cu0 hb q hn.2 (λx u hx hu=>hy x u (by trivial) hu)⟩
def c05{b c:Nat}{cs:Fz}{h0:Heap}: ∀{n:Nat},Nx b c cs h0 n=true->ou b cs=true/\ ∀s,s<n->s≠c->pS b (h0.get s)=true
 |0,h=>⟨h,λs hs=>by omega⟩
 |n+1,h=>by simp only[Nx,j8,s9,O7]at h;obtain⟨h1,h2⟩:=c05 h.2;refine⟨h1,λs hs hc=> ?_⟩;by_cases e:s=n;subst e;exact h.1.resolve_left hc;exact h2 s (by omega) hc
noncomputable def DQ(c i e fz:Nat)(cs:Fz)(h:Heap)(y:AV)(n:Nat)(X:Blk):Heap:=(h.put c (some (.cells e fz (cs.set i y)))).put n (some X)
def cu1{o:OwnP}{a:Fr}{act:Act}{X:Blk}{cy:AV}(h1:cy.oneA=true){L:aa8}{c i e fz:Nat}{cs:Fz}(hds:a.ds=[])(f:dA O I a act)(r:HR O I K w0 h w)(hblk:o.blk<h.next)(h65:o.blk<65536)(hnone:h.get o.blk=none)(hc:c≠o.blk)
 (hg:h.get c=some (.cells e fz cs)) (hfr: ∀s,s<a.nt->pG o.blk (a.slot s)=true) (hhp: ∀z y,z≠c->h.get z=some y->pS o.blk (some y)=true) (hcs:ou o.blk (cs.set i .N)=true) (hlt: ∀M,L=some M->M.blk<w.heap.size) (hsep: ∀M x y M',L=some M->h.get x=some y->O x=some M'->M.blk≠M'.blk) (hfree: ∀M,L=some M-> ¬K M.blk)
 (hbr: ∀M,L=some M->BR (O.at_ o.blk L) I M w.heap[M.blk]? X) (hv: ∀x u,cs[i]? =some x->VR O I x u->VR (O.at_ o.blk L) I cy u):
 dA (O.at_ o.blk L) I a act/\HR (O.at_ o.blk L) I K w0 (DQ c i e fz cs h cy o.blk X) w:=by
 have hb: ∀x,x≠o.blk->(O.at_ o.blk L) x=O x:=λx hx=>by simp only[cn.at_];rw[b9 hx]
 have hb0:(O.at_ o.blk L) o.blk=L:=by simp[cn.at_]
 have h65c:=Heap.get_lim h c _ hg;have hcn:c<h.next:=by
  rcases k8 c h.next with hh|hh
  exact hh;rw[r.fget c hh]at hg;cases hg
 have fc: ∀z,(DQ c i e fz cs h cy o.blk X).get z=if z=o.blk then some X else if z=c then some (.cells e fz (cs.set i cy))else h.get z:=λz=>by unfold DQ;rw[Heap.get_put,c9 h65,Heap.get_put,c9 h65c]
 constructor;refine⟨f.size,f.lim,λt _=> ?_,by have:=f.defers;rw[hds]at this⊢;exact this,f.pcs⟩;by_cases hn:t<a.nt;exact zq hb _ _ (hfr t hn) (f.slot t id);have:=f.slot t id;rw[x8,D9 (by rw[f.size];exact K1 hn)]at this⊢;exact ww this
 .have key: ∀z y,(DQ c i e fz cs h cy o.blk X).get z=some y->(z=o.blk/\y=X)\/(z≠o.blk/\ ∃y',h.get z=some y'/\y'.isArr=y.isArr/\ ∀M,O z=some M->BR O I M w.heap[M.blk]? y'->BR (O.at_ o.blk L) I M w.heap[M.blk]? y):=by
   intro z y hy;rw[fc]at hy;by_cases hz:z=o.blk;rw[c9 hz]at hy;simp only[j0]at hy;exact .inl ⟨hz,hy.symm⟩;rw[b9 hz]at hy;refine .inr ⟨hz,?_⟩;by_cases hzc:z=c
   subst hzc;rw[c9 rfl]at hy;simp only[j0]at hy;subst hy;refine⟨_,hg,rfl,λM hM hbr'=> ?_⟩;obtain⟨C,lo,hi,vs,q1,q2,q3,q4,q5,q6⟩:=hbr';refine⟨C,lo,hi,vs,q1,q2,by rw[C1];exact q3,?_,cu0 hb q5 hcs hv,by rw[C1];exact q6⟩;rw[k9]at q4⊢;intro x hx;rcases U5 hx with q|rfl
   exact q4 x q;exact h1;rw[b9 hzc]at hy;exact⟨y,hy,rfl,λM hM hbr'=>Tj hb (hhp z y hzc hy) hbr'⟩
  refine⟨λz y M hy hM=> ?_,λz z' y y' M M' hy hy' hM hM' hne hw=> ?_,λz hz=> ?_,λz hz=> ?_,λz M hM=> ?_,r.kin,r.keep,λz y M hy hw hM=> ?_,r.size,r.os,r.tape,r.out,r.dr⟩
  rcases key z y hy with⟨rfl,rfl⟩|⟨hz,y0,hy0,_,hk⟩
  rw[hb0]at hM;exact hbr M hM;rw[hb z hz]at hM;exact hk M hM (r.blk z y0 M hy0 hM)
  rcases key z y hy with⟨rfl,rfl⟩|⟨hz,y0,hy0,k1,_⟩
  rw[hb0]at hM;rcases key z' y' hy' with⟨rfl,_⟩|⟨hz',y0',hy0',_⟩
  trivial;rw[hb z' hz']at hM';exact hsep M z' y0' M' hM hy0' hM'
  rw[hb z hz]at hM;rcases key z' y' hy' with⟨rfl,rfl⟩|⟨hz',y0',hy0',k2,_⟩
  rw[hb0]at hM';exact(hsep M' z y0 M hM' hy0 hM).symm;rw[hb z' hz']at hM';exact r.sep z z' y0 y0' M M' hy0 hy0' hM hM' hne (by rw[k1,k2];exact hw)
  .have hz:h.next<=z:=hz
   rw[hb z (by omega)];exact r.fresh z hz
  .have hz:h.next<=z:=hz
   rw[fc,b9 (by omega),b9 (by omega)];exact r.fget z hz
  by_cases hz:z=o.blk;rw[hz,hb0]at hM;exact hlt M hM;rw[hb z hz]at hM;exact r.lt z M hM
  rcases key z y hy with⟨rfl,rfl⟩|⟨hz,y0,hy0,_⟩
  rw[hb0]at hM;exact hfree M hM;rw[hb z hz]at hM;exact r.free z y0 M hy0 hw hM
def c06{c:Nat}{x:AV}{v:AS}(h:NX c x=true)(r:VR O I x v):O c≠none:=by unfold NX at h;split at h;obtain rfl:=Y0.1 h;obtain⟨L,hL,_⟩:=r;rw[hL];simp;cases h
def bA8{c:Nat}: ∀{l:Fz} {vs:List AS},Ns c l=true->ct O I l vs->O c≠none
 | [],_,h,_=>by cases h
 |x::r,vs,h,⟨v,vr,e,p,q⟩=>by
  simp only[Ns,s9]at h;rcases h with h|h
  exact c06 h p;exact bA8 h q
def cW1{c:Nat}{x:AV}{v:AS}(hr:HR O I K w0 h w)(h0:Ud c x h=true)(r:VR O I x v):O c≠none:=by
 unfold Ud at h0;rw[s9]at h0;rcases h0 with h0|h0
 exact c06 h0 r;split at h0;split at h0;rename_i hg;obtain⟨L,hL,_⟩:=r;obtain⟨C,lo,hi,vs,_,_,_,_,q5,_⟩:=hr.blk _ _ L hg hL;exact bA8 h0 q5;cases h0;cases h0
def c07{b:Nat}{x:yU}(h:IU b x=true):(∃len sz,x=some (.U b len sz))\/(∃p,x=some (.ptr b p))\/x=some (.map b):=by unfold IU at h;split at h;obtain rfl:=Y0.1 h;exact .inl ⟨_,_,rfl⟩;obtain rfl:=Y0.1 h;exact .inr (.inl ⟨_,rfl⟩);obtain rfl:=Y0.1 h;exact .inr (.inr rfl);cases h
def cW2{o:OwnP}{c i:Nat}{a a':Fr}{h':Heap}{act:Act}(e:PU o c i a h=some (a',h'))(f:dA O I a act)(r:HR O I K w0 h w): ∃ac,Conv I K w0 w a a' h h' act O ac (· =o.blk):=by
 have bij: ∀(L:aa8) x,¬(x=o.blk)->(O.at_ o.blk L) x=O x:=λL x hx=>by simp only[cn.at_];rw[b9 hx]
 unfold PU at e;split at e
 .rename_i e0 fz cs hg;obtain⟨hc,e⟩:=W8 e;obtain⟨hc,hc2⟩:=W7 hc;obtain⟨hc,hi⟩:=W7 hc;obtain⟨hp,hs⟩:=W7 hc;have aC:=cW1 r hp (f.slot o.slot id);rw[s9]at hc2;have same:(a',h')=(a,h)-> ∃ac,Conv I K w0 w a a' h h' act O ac (· =o.blk):=by
   intro hh;simp only[y5]at hh;obtain⟨rfl,rfl⟩:=hh;exact⟨O,f,r,λ_ _=>rfl,rfl,rfl,rfl,λ_=> .inl rfl⟩
  rcases hc2 with hown|hc2
  cases hsg:o.sig.isEmpty with
  |true=>
   rw[hsg]at e;simp only[cond_true]at e;unfold Vq at e;rcases c07 hown with⟨len,sz,hx⟩|⟨p,hx⟩|hx
   rw[hx]at e;cases e;rw[hx]at e;simp only[Y0.2 (rfl:o.blk=o.blk),cond_true,j0]at e;exact same e.symm;rw[hx]at e;simp only[Y0.2 (rfl:o.blk=o.blk),cond_true,j0]at e;exact same e.symm
  |false=>
   rw[hsg]at e;simp only[cond_false]at e;unfold SZ at e;rcases c07 hown with⟨len,sz,hx⟩|⟨p,hx⟩|hx
   rw[hx]at e;simp only[Y0.2 (rfl:o.blk=o.blk),cond_true]at e;split at e;obtain⟨_,e⟩:=W8 e;simp only[j0]at e;exact same e.symm;cases e;rw[hx]at e;cases e;rw[hx]at e;cases e
  .obtain⟨hc2,c6⟩:=W7 hc2;obtain⟨hc2,c5⟩:=W7 hc2;obtain⟨hc2,c4⟩:=W7 hc2;obtain⟨hc2,c3⟩:=W7 hc2;obtain⟨c1,c2⟩:=W7 hc2;rw[eH]at c1 c2;have c3:h.get o.blk=none:=by simpa using c3
   have c4:=pO c4;have hfr: ∀s,s<a.nt->pG o.blk (a.slot s)=true:=λs hs=>Ua c5 s hs (by omega)
   obtain⟨hcs,hhp0⟩:=c05 c6;have hhp: ∀z y,z≠c->h.get z=some y->pS o.blk (some y)=true:=λz y hz hy=>by
    have hlt:z<h.next:=by
     rcases k8 z h.next with hh|hh
     exact hh;rw[r.fget z hh]at hy;cases hy
    have:=hhp0 z hlt hz;rw[hy]at this;exact this
   have hds:=Su c5;have dropX: ∀(b:Nat) (X:Blk) (cy:AV),cy.oneA=true->b≠c->h.wm<=b->(∃y,h.get b=some y)->(∀M,O b=some M->BR (O.at_ o.blk (O b)) I M w.heap[M.blk]? X)->
    (∀x u,cs[i]? =some x->VR O I x u->VR (O.at_ o.blk (O b)) I cy u)->(a',h')=(a,DQ c i e0 fz cs (h.put b none) cy o.blk X)-> ∃ac,Conv I K w0 w a a' h h' act O ac (· =o.blk):=by
    intro b X cy h1y hbc hwm hy0 hbr hv hh;obtain⟨y0,hy0⟩:=hy0;simp only[y5]at hh;obtain⟨rfl,rfl⟩:=hh;obtain⟨r1,_⟩:=r.drop b;have g1: ∀z y,(h.put b none).get z=some y->z≠b/\h.get z=some y:=by intro z y hy;rw[Heap.get_put]at hy;by_cases hz:z=b;rw[c9 hz]at hy;split at hy<;>cases hy;rw[b9 hz]at hy;trivial
    have hbn:o.blk≠b:=λhh=>by rw[hh]at c3;rw[c3]at hy0;cases hy0
    have m:=cu1 (o:=o) (X:=X) h1y (L:=O b) (i:=i) hds f r1 c1 c2 (by rw[Heap.get_put,b9 hbn];exact c3) c4 (by rw[Heap.get_put,b9 (Ne.symm hbc)];exact hg) hfr (λz y hz hy=>hhp z y hz (g1 z y hy).2) hcs
     (λM hM=>r.lt b M hM) (λM x y M' hM hx hxM=>r.sep b x _ y M M' hy0 (g1 x y hx).2 hM hxM (g1 x y hx).1.symm (.inl hwm)) (λM hM=>r.free b _ M hy0 hwm hM) hbr hv
    refine⟨_,m.1,m.2,bij _,rfl,rfl,rfl,λx=> ?_⟩;unfold DQ;rw[Heap.get_put,c9 c2,Heap.get_put,Heap.get_put];by_cases hx:x=o.blk;exact .inr (.inr (.inl hx));rw[b9 hx];by_cases hx1:x=c;subst hx1;exact .inr (.inr (.inr aC));rw[b9 hx1];by_cases hx2:x=b;right;left;rw[c9 hx2];split<;>rfl;left;rw[b9 hx2]
   have drop: ∀(b:Nat) (l:SX),b≠c->h.wm<=b->(∃y,h.get b=some y)->(∀M,O b=some M->BR O I M w.heap[M.blk]? (.A o.elem o.sig l))->
    (∀x u,cs[i]? =some x->VR O I x u->VR (O.at_ o.blk (O b)) I (.U o.blk (.O .Y [l]) o.sig.length) u)->(a',h')=(a,Np o c i e0 fz cs (h.put b none) l)-> ∃ac,Conv I K w0 w a a' h h' act O ac (· =o.blk):=
    λb l h1 h2 h3 h4 h5 h6=>dropX b (.A o.elem o.sig l) _ rfl h1 h2 h3 h4 h5 h6
   cases hsg:o.sig.isEmpty with
   |true=>
    rw[hsg]at e;simp only[cond_true]at e;have mv: ∀(b:Nat) (cy:AV),cy.oneA=true->NW o c i e0 fz cs a h cy b=some (a',h')->(∀x u,cs[i]? =some x->VR O I x u->VR (O.at_ o.blk (O b)) I cy u)-> ∃ac,Conv I K w0 w a a' h h' act O ac (· =o.blk):=by intro b cy h1y hm hv;unfold NW at hm;obtain⟨hd,hm⟩:=W8 hm;obtain⟨c7,c8⟩:=W7 hd;rw[cV]at c7;split at hm;rename_i X hX;obtain⟨hno,hm⟩:=W8 hm;simp only[j0]at hm;exact dropX b X cy h1y (pO c8) c7 ⟨_,hX⟩ (λM hM=>Tj (bij _) hno (r.blk b X M hX hM)) hv hm.symm;cases hm
    unfold Vq at e;split at e
    rename_i b p hx;cases hq:Nat.beq b o.blk with
    |true=>rw[hq]at e;simp only[cond_true,j0]at e;exact same e.symm
    |false=>
     rw[hq]at e;simp only[cond_false]at e;refine mv b _ rfl e (λx u hxi hu=> ?_);rw[hx,j0]at hxi;subst hxi;obtain⟨L,hL,hu⟩:=hu;exact⟨L,by simp[cn.at_,hL],hu⟩
    .rename_i b hx;cases hq:Nat.beq b o.blk with
     |true=>rw[hq]at e;simp only[cond_true,j0]at e;exact same e.symm
     |false=>
      rw[hq]at e;simp only[cond_false]at e;refine mv b _ rfl e (λx u hxi hu=> ?_);rw[hx,j0]at hxi;subst hxi;obtain⟨L,hL,hu⟩:=hu;exact⟨L,by simp[cn.at_,hL],hu⟩
    cases e
   |false=>
   rw[hsg]at e;simp only[cond_false]at e;unfold SZ at e;split at e
   rename_i b len sz hx;cases hq:Nat.beq b o.blk with
   |true=>
    rw[hq]at e;simp only[cond_true]at e;split at e;obtain⟨_,e⟩:=W8 e;simp only[j0]at e;exact same e.symm;cases e
   |false=>
    rw[hq]at e;simp only[cond_false]at e;obtain⟨hd,e⟩:=W8 e;obtain⟨c7,c8⟩:=W7 hd;rw[cV]at c7;have c8:=pO c8;split at e
    rename_i el sig l hgb;obtain⟨hd,e⟩:=W8 e;obtain⟨hd,d4⟩:=W7 hd;obtain⟨hd,d3⟩:=W7 hd;obtain⟨d1,d2⟩:=W7 hd;rw[Y0]at d1 d3;have d2:=me d2;have d4:=c04 (I:=I) d4;simp only[j0]at e;refine drop b l c8 c7 ⟨_,hgb⟩ (λM hM=>by rw[<-d1,<-d2];exact r.blk b _ M hgb hM) (λx u hxi hu=> ?_) e.symm;rw[hx,j0]at hxi;subst hxi;simp only[VR]at hu⊢;rw[d4]at hu;rcases hu with⟨L,cap,h1,h2,h3,h4⟩|hu
    exact .inl ⟨L,cap,by simp[cn.at_,h1],by rw[<-d2,<-d3];exact h2,h3,h4⟩;exact .inr hu;cases e
   .rename_i hx;simp only[j0]at e;simp only[y5]at e;obtain⟨rfl,rfl⟩:=e;have m:=cu1 (o:=o) (X:= .A o.elem o.sig (.O .row [])) (cy:= .U o.blk (.O .Y [.O .row []]) o.sig.length) rfl (L:=none) (i:=i) hds f r c1 c2 c3 c4 hg hfr hhp hcs (λM hM=>by cases hM) (λM x y M' hM=>by cases hM) (λM hM=>by cases hM) (λM hM=>by cases hM) (λx u hxi hu=>by
     rw[hx,j0]at hxi;subst hxi;exact .inr ⟨hu,rfl⟩)
    refine⟨_,m.1,m.2,bij _,rfl,rfl,rfl,λx=> ?_⟩;unfold Np;rw[Heap.get_put,c9 c2,Heap.get_put];by_cases hx:x=o.blk;exact .inr (.inr (.inl hx));rw[b9 hx];by_cases hx1:x=c;subst hx1;exact .inr (.inr (.inr aC));rw[b9 hx1];exact .inl rfl
   trivial;cases e
 cases e
def cW3(o:OwnP)(a:Fr)(r:HR O I K w0 h w):HR O I K w0 (yK o a h) w/\(yK o a h).next=h.next/\(yK o a h).wm=h.wm/\ ∀b,b≠o.blk->(yK o a h).get b=h.get b:=by
 unfold yK;split
 cases (Nat.beq _ o.blk||(h.get o.blk).isNone)with
 |true=>exact⟨r,rfl,rfl,λ_ _=>rfl⟩
 |false=>
  refine⟨(r.drop o.blk).1,rfl,rfl,λb hb=> ?_⟩;show(h.put o.blk none).get b=_;rw[Heap.get_put,b9 hb]
 .exact⟨r,rfl,rfl,λ_ _=>rfl⟩
def cu2{o:OwnP}{a a':Fr}{h':Heap}{act:Act}(e:PW o a (yK o a h)=some (a',h'))(f:dA O I a act)(r:HR O I K w0 h w): ∃ac,Conv I K w0 w a a' h h' act O ac (· =o.blk):=by
 obtain⟨r1,r2,r3,r4⟩:=cW3 o a r;obtain⟨ac,c⟩:=ct9 e f r1;refine⟨ac,c.fr,c.hr,c.bij,c.nt,c.next.trans r2,c.wm.trans r3,λb=> ?_⟩;by_cases hb:b=o.blk;exact .inr (.inr (.inl hb))
 rcases c.get b with q|q|q|q
 exact .inl (q.trans (r4 b hb));exact .inr (.inl q);trivial;exact .inr (.inr (.inr q))
def cW4(o:OwnP)(c i:Nat)(r:HR O I K w0 h w):HR O I K w0 (CE o c i h) w/\(CE o c i h).next=h.next/\(CE o c i h).wm=h.wm/\ ∀b,b≠o.blk->(CE o c i h).get b=h.get b:=by
 unfold CE;split
 cases (IU o.blk _||(h.get o.blk).isNone||Nat.beq c o.blk)with
 |true=>exact⟨r,rfl,rfl,λ_ _=>rfl⟩
 |false=>
  refine⟨(r.drop o.blk).1,rfl,rfl,λb hb=> ?_⟩;show(h.put o.blk none).get b=_;rw[Heap.get_put,b9 hb]
 .exact⟨r,rfl,rfl,λ_ _=>rfl⟩
def cW5{o:OwnP}{c i:Nat}{a a':Fr}{h':Heap}{act:Act}(e:PU o c i a (CE o c i h)=some (a',h'))(f:dA O I a act)(r:HR O I K w0 h w): ∃ac,Conv I K w0 w a a' h h' act O ac (· =o.blk):=by
 obtain⟨r1,r2,r3,r4⟩:=cW4 o c i r;obtain⟨ac,c⟩:=cW2 e f r1;refine⟨ac,c.fr,c.hr,c.bij,c.nt,c.next.trans r2,c.wm.trans r3,λb=> ?_⟩;by_cases hb:b=o.blk;exact .inr (.inr (.inl hb))
 rcases c.get b with q|q|q|q
 exact .inl (q.trans (r4 b hb));exact .inr (.inl q);trivial;exact .inr (.inr (.inr q))
def cW6{o:OwnP}{a a':Fr}{h':Heap}{act:Act}(e:Tx o a h=some (a',h'))(f:dA O I a act)(r:HR O I K w0 h w): ∃ac,Conv I K w0 w a a' h h' act O ac (· =o.blk):=by
 unfold Tx at e;split at e
 unfold d82 at e;cases hz:(o.lz&&eg7 (a.slot o.slot))with
 |true=>
  rw[hz]at e;simp only[cond_true,j0,y5]at e;obtain⟨rfl,rfl⟩:=e;exact⟨O,f,r,λ_ _=>rfl,rfl,rfl,rfl,λ_=> .inl rfl⟩
 |false=>
  rw[hz]at e;exact cu2 e f r
 .exact cW5 e f r
def TA: ∀{l:aaM} {a a':Fr} {h h':Heap} {act:Act} {O:cn},xJ l a h=some (a',h')->dA O I a act->HR O I K w0 h w-> ∃ac,Conv I K w0 w a a' h h' act O ac (λx=> ∃o∈l,x=o.blk)
 | [],a,a',h,h',act,O,e,f,r=>by simp only[xJ,j0,y5]at e;obtain⟨rfl,rfl⟩:=e;exact⟨O,f,r,λ_ _=>rfl,rfl,rfl,rfl,λ_=> .inl rfl⟩
 |o::l,a,a',h,h',act,O,e,f,r=>by
  simp only[xJ]at e;split at e
  .rename_i p hp;obtain⟨ak,c1⟩:=cW6 (a':=p.1) (h':=p.2) hp f r;obtain⟨ap,c2⟩:=TA e c1.fr c1.hr;refine⟨ap,c2.fr,c2.hr,λx hx=> ?_,c2.nt.trans c1.nt,c2.next.trans c1.next,c2.wm.trans c1.wm,λb=> ?_⟩;rw[c2.bij x (λ⟨o',h1,h2⟩=>hx ⟨o',.tail _ h1,h2⟩),c1.bij x (λh2=>hx ⟨o,.head _,h2⟩)]
   .rcases c2.get b with q|q|⟨o',q1,q2⟩|q
    .rcases c1.get b with z|z|z|z
     .exact .inl (q.trans z)
     exact .inr (.inl (q.trans z));exact .inr (.inr (.inl ⟨o,.head _,z⟩));exact .inr (.inr (.inr z))
    exact .inr (.inl q);exact .inr (.inr (.inl ⟨o',.tail _ q1,q2⟩));by_cases hb:b=o.blk;exact .inr (.inr (.inl ⟨o,.head _,hb⟩));exact .inr (.inr (.inr (by rw[<-c1.bij b hb];exact q)))
  cases e
def dA.layDead{a:Fr}{act:Act}(f:dA O I a act): ∀(l:HQ),dA O I (Go.Ev.layDead a l) act:=by
 intro l;induction l generalizing a with
 |nil=>exact f
 |cons t l ih=>
  refine ih ⟨by rw[Fr.put_nt];exact f.size,by rw[Fr.put_nt];exact f.lim,λs _=> ?_,by rw[Fr.put_ds];exact f.defers,λp hp=>f.pcs p (by rw[Fr.put_pc]at hp;exact hp)⟩;rw[Fr.put_slot f.lim];split;trivial;exact f.slot s id
def HR.upto{w:yM}{h:Heap}(r:HR O I K w0 h w){n:Nat}(hn:h.next<=n):HR O I K w0 (h.upto n) w:=by
 have g: ∀b,(h.upto n).get b=h.get b:=λb=>Heap.get_upto _ _ _
 refine⟨λz y M hy hM=>r.blk z y M (by trivial) hM,λz z' y y' M M' hy hy' hM hM' hne hw=>r.sep z z' y y' M M' (by trivial) (by trivial) hM hM' hne (by trivial),
  λz hz=>r.fresh z (by rw[Heap.next_upto]at hz;omega),λz hz=>by rw[g];exact r.fget z (by rw[Heap.next_upto]at hz;omega),r.lt,r.kin,r.keep,
  λz y M hy hw hM=>r.free z y M (by trivial) (by trivial) hM,r.size,r.os,r.tape,r.out,r.dr⟩
def Sj{s:HQ}{n0:Nat}: ∀{k:Nat} {h:Heap},HR O I K w0 h w->HR O I K w0 (uC s n0 h k) w/\(uC s n0 h k).next=h.next/\(uC s n0 h k).wm=h.wm/\ ∀b,(uC s n0 h k).get b=h.get b\/(uC s n0 h k).get b=none
 |0,h,r=>⟨r,rfl,rfl,λ_=> .inl rfl⟩
 |k+1,h,r=>by
  simp only[uC];cases Fl (n0+k) s with
  |true=>exact Sj r
  |false=>
   obtain⟨h1,h2,h3,h4⟩:=Sj (s:=s) (n0:=n0) (k:=k) (r.drop (n0+k)).1;refine⟨h1,h2,h3,λb=> ?_⟩;rcases h4 b with q|q
   rw[Heap.get_put]at q;split at q;right;rw[show uC s n0 (bif false then h else h.put (n0+k) none) k=uC s n0 (h.put (n0+k) none) k from rfl,q];split<;>rfl;exact .inl q;exact .inr q
def cW7{sp:LSpec}{a:Fr}(r:HR O I K w0 h w):HR O I K w0 (xT sp a h) w/\(xT sp a h).next=h.next/\(xT sp a h).wm=h.wm/\ ∀b,(xT sp a h).get b=h.get b\/(xT sp a h).get b=none:=by
 unfold xT;cases sp.owns.any (λo=>o.sig.isEmpty)with
 |true=>exact Sj r
 |false=>exact⟨r,rfl,rfl,λ_=> .inl rfl⟩
def OK{sp:LSpec}{a:Fr}{act:Act}(f:dA O I a act)(r:HR O I K w0 h w): ∃ac,Conv I K w0 w a (jj sp a h).1 h (jj sp a h).2 act O ac (λx=> ∃o∈sp.owns,x=o.blk):=by
 unfold jj;obtain⟨r1,r2,r3,r4⟩:=cW7 (sp:=sp) (a:=Go.Ev.layDead a sp.dead) r;cases hc:xJ sp.owns (Go.Ev.layDead a sp.dead) (xT sp (Go.Ev.layDead a sp.dead) h)with
 |none=>exact⟨O,f.layDead _,r,λ_ _=>rfl,qy _ _,rfl,rfl,λ_=> .inl rfl⟩
 |some p=>
  obtain⟨ac,c⟩:=TA (a':=p.1) (h':=p.2) hc (f.layDead _) r1;refine⟨ac,c.fr,c.hr,c.bij,c.nt.trans (qy _ _),c.next.trans r2,c.wm.trans r3,λb=> ?_⟩;rcases c.get b with q|q|q|q
  rcases r4 b with z|z
  exact .inl (q.trans z);exact .inr (.inl (q.trans z));exact .inr (.inl q);exact .inr (.inr (.inl q));exact .inr (.inr (.inr q))
