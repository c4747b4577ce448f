import Derived.Test.YtgeohopencabkaaGreatE22
set_option linter.all false
namespace Go.Ev
open Go
variable{v0 n nb:Nat}{es:GF}{p:SX}{v:Zl}{q:Nat->SX}
variable{O ac:cj}{I aa:Opq}{K:wW}{w0 w:Ac}{h:Heap}
structure Agr (v0:Nat) (I aa:Opq):Prop where
 w: ∀n,n<v0->aa.w n=I.w n
 f:aa.f=I.f
 v:aa.v=I.v
 fix:aa.fix=I.fix
 gh:aa.gh=I.gh
theorem Hf(I:Opq)(v0:Nat)(l:U7):Agr v0 I (I.U v0 l):=
 ⟨λn hn=>by simp_all[Opq.U,b9],rfl,rfl,rfl,rfl⟩
def vM{I:Opq}{l:U7}{j:Nat}{x:Val}(h:l[j]? =some x):(I.U v0 l).w (v0+j)=x:=by simp_all[Opq.U,i6,k5]
mutual
theorem pX{v0:Nat}(g:Agr v0 I aa): ∀(e:SX),fh v0 e=true->bZ aa e=bZ I e
 | .C n,_=>rfl
 | .cs l,_=>rfl
 | .cb x,_=>rfl
 | .V m,h=>by simp[fh]at h;exact g.w m (by simpa using h)
 | .O p l,h=>by simp[bZ];rw[PD g l h]
 | .Q p l,h=>by simp[bZ];rw[PD g l h,g.f]
theorem PD{v0:Nat}(g:Agr v0 I aa): ∀(l:GF),qL v0 l=true->X4 aa l=X4 I l
 | [],_=>rfl
 |a::r,h=>by simp[qL,j8]at h;simp only[X4];rw[pX g a h.1,PD g r h.2]
end
theorem LT(g:Agr v0 I aa){e:SX}(h:fh v0 e=true):dI aa e=dI I e:=by grind[dI,pX]
def dL5(g:Agr v0 I aa){e:SX}(h:fh v0 e=true):dS aa e=dS I e:=by grind[dS,pX]
def dL6(g:Agr v0 I aa){e:SX}(h:fh v0 e=true):dB aa e=dB I e:=by grind[dB,pX]
def VN(I:Opq): ∀a b:GF,X4 I (a++b)=X4 I a++X4 I b
 | [],b=>rfl
 |x::a,b=>by simp[List.cons_append,X4,VN I a b]
def Zo(I:Opq): ∀a:GF,(X4 I a).length=a.length
 | []=>rfl
 |x::a=>by simp[X4,List.length_cons,Zo I a]
mutual
theorem vH{v0 nb:Nat}(g:Agr v0 I aa)(hb: ∀b,b<nb->ac b=O b): ∀(x:AV) (v:Zl),eZ v0 nb x=true->VR O I x v->VR ac aa x v
 | .bool _,v,_,r=>r
 | .int _ _,v,_,r=>r
 | .str _,v,_,r=>r
 | .nilp,v,_,r=>r
 | .ptr b _,v,h,⟨L,e,q⟩=>⟨L,(hb b (by simp_all[eZ])).trans e,q⟩
 | .glob _,v,_,r=>r
 | .N,v,_,r=>r
 | .sl b _ _ _,v,h,⟨L,e,q⟩=>⟨L,(hb b (by simp_all[eZ])).trans e,q⟩
 | .us b _ _ _,v,h,⟨L,c,e,q⟩=>⟨L,c,(hb b (by simp_all[eZ])).trans e,q⟩
 | .es b _ _,v,h,⟨L,a,c,e,q⟩=>⟨L,a,c,(hb b (by simp_all[eZ])).trans e,q⟩
 | .es0,v,_,r=>r
 | .nilm,v,_,r=>r
 | .map b,v,h,⟨L,e,q⟩=>⟨L,(hb b (by simp_all[eZ])).trans e,q⟩
 | .nilf,v,_,r=>r
 | .func fn x y,v,h,⟨n,p,q,e,r1,r2⟩=>by simp[eZ,j8]at h;exact⟨n,p,q,e,CQ g hb x _ h.1 r1,CQ g hb y _ h.2 r2⟩
 | .yield b,v,h,⟨L,e,q⟩=>⟨L,(hb b (by simp_all[eZ])).trans e,q⟩
 | .nili,v,_,r=>r
 | .iface t x,v,h,⟨y,e,q⟩=>⟨y,e,vH g hb x y (by grind[eZ]) q⟩
 | .agg l,v,h,⟨xs,e,q⟩=>⟨xs,e,CQ g hb l _ (by grind[eZ]) q⟩
 | .V l,v,h,⟨xs,e,q⟩=>⟨xs,e,CQ g hb l _ (by grind[eZ]) q⟩
 | .opq n,v,_,r=>by show v=aa.v n;rw[g.v];exact r
 | .Z k e,v,h,r=>by show v= .int k (dI aa e);rw[LT g (by grind[eZ])];exact r
 | .K e,v,h,r=>by show v= .string ⟨(dS aa e).toArray⟩;rw[dL5 g (by grind[eZ])];exact r
 | .H e,v,h,r=>by show v= .bool (dB aa e);rw[dL6 g (by grind[eZ])];exact r
 | .osl b x y sz,v,h,r=>by simp[eZ,j8,Nat.blt_eq]at h;grind[VR,LT]
 | .optr b x j sz,v,h,r=>by simp[eZ,j8,Nat.blt_eq]at h;grind[VR,LT]
 | .U b x sz,v,h,r=>by simp[eZ,j8,Nat.blt_eq]at h;grind[VR,LT]
 | .atl _,v,_,r=>r
 | .any,_,_,_=>trivial
theorem CQ{v0 nb:Nat}(g:Agr v0 I aa)(hb: ∀b,b<nb->ac b=O b): ∀(l:zw) (vs:List Zl),oe v0 nb l=true->co O I l vs->co ac aa l vs
 | [],vs,_,r=>r
 |a::l,vs,h,⟨v,vr,e,p,q⟩=>by simp[oe,j8]at h;exact⟨v,vr,e,vH g hb a v h.1 p,CQ g hb l vr h.2 q⟩
end
theorem sP{x:SX}(g:Agr v0 I aa)(h:lv v0 n p x=some es)(hw: ∀j e,es[j]? =some e->aa.w (v0+(n+j))=bZ I e):bZ aa p=bZ I x:=by
 unfold lv at h;split at h;rename_i m hm;obtain⟨h1,h2⟩:=W5 h;simp at h2;subst h2;unfold yl at hm;split at hm;obtain⟨h3,h4⟩:=W5 hm;simp at h4;rw[X6]at h3;obtain rfl:=X0.1 h1;have:=hw 0 x rfl;simp[bZ]
 (intros;grind);grind;grind[SX.beq_eq,pX]
theorem dE(g:Agr v0 I aa)(hb: ∀b,b<nb->ac b=O b){p x:AV}(h:(bif AV.beq p x&&eZ v0 nb x then some ([]:GF)else none)=some es)(r:VR O I x v):VR ac aa p v:=by grind[AV.beq_eq,vH]
def cW8{q x y:SX}(g:Agr v0 I aa)(h:xz v0 n p q x y=some es)(hw: ∀j e,es[j]? =some e->aa.w (v0+(n+j))=bZ I e):bZ aa p=bZ I x/\bZ aa q=bZ I y:=by unfold xz at h;split at h;rename_i e1 h1;split at h;rename_i e2 h2;simp at h;subst h;refine⟨sP g h1 λj e hj=>hw j e ?_,sP g h2 λj e hj=> ?_⟩;grind;have:=hw (e1.length+j) e (by(intros;grind));grind;cases h;cases h
theorem ct6{b s:Nat}{q:SX}{x:AV}(g:Agr v0 I aa)(hb: ∀b,b<nb->ac b=O b)(h:Hc v0 nb n b p q s x=some es)(hw: ∀j e,es[j]? =some e->aa.w (v0+(n+j))=bZ I e)(r:VR O I x v):VR ac aa (.osl b p q s) v:=by unfold Hc at h;split at h;obtain⟨h1,h2⟩:=W5 h;obtain⟨h1,h3⟩:=W4 h1;obtain⟨h1,h4⟩:=W4 h1;obtain rfl:=X0.1 h1;obtain rfl:=X0.1 h4;rw[Y8]at h3;obtain⟨k1,k2⟩:=cW8 g h2 hw;have k1:dI aa p=dI I _:=congrArg Val.I k1;have k2:dI aa q=dI I _:=congrArg Val.I k2;grind[VR];cases h
theorem ct7{b s:Nat}{x:AV}(g:Agr v0 I aa)(hb: ∀b,b<nb->ac b=O b)(h:Dv v0 nb n b p s x=some es)(hw: ∀j e,es[j]? =some e->aa.w (v0+(n+j))=bZ I e)(r:VR O I x v):VR ac aa (.U b p s) v:=by unfold Dv at h;split at h;obtain⟨h1,h2⟩:=W5 h;obtain⟨h1,h3⟩:=W4 h1;obtain⟨h1,h4⟩:=W4 h1;obtain rfl:=X0.1 h1;obtain rfl:=X0.1 h4;rw[Y8]at h3;have k1:dI aa p=dI I _:=congrArg Val.I (sP g h2 hw);grind[VR];cases h
mutual
theorem YA{v0 nb:Nat}(g:Agr v0 I aa)(hb: ∀b,b<nb->ac b=O b): ∀(n:Nat) (p x:AV) (es:GF) (v:Zl),cF v0 nb n p x=some es->(∀j e,es[j]? =some e->aa.w (v0+(n+j))=bZ I e)->VR O I x v->VR ac aa p v
 |n,.any,x,es,v,h,hw,r=>trivial
 |n,.Z k p,x,es,v,h,hw,r=>by simp[cF]at h;unfold LZ at h;split at h;rename_i k' e hs;split at h;rename_i hk;subst hk;rw[ti hs r];show Value.int k (dI I e)= .int k (dI aa p);grind[dI,sP];cases h;cases h
 |n,.K p,x,es,v,h,hw,r=>by simp[cF]at h;unfold vt at h;split at h;rename_i e hs;rw[yp hs r];show Value.string ⟨(dS I e).toArray⟩= .string ⟨(dS aa p).toArray⟩;grind[dS,sP];cases h
 |n,.H p,x,es,v,h,hw,r=>by simp[cF]at h;unfold vt at h;split at h;rename_i e hs;rw[vG hs r];show Value.bool (dB I e)= .bool (dB aa p);grind[dB,sP];cases h
 |n,.agg ps,.agg xs,es,v,h,hw,r=>by obtain⟨ys,e,q⟩:=r;exact⟨ys,e,OP g hb n ps xs es _ h hw q⟩
 |n,.agg ps,.bool _,es,v,h,hw,r=>by grind[cF,dE]
 |n,.agg ps,.int _ _,es,v,h,hw,r=>by grind[cF,dE]
 |n,.agg ps,.str _,es,v,h,hw,r=>by grind[cF,dE]
 |n,.agg ps,.nilp,es,v,h,hw,r=>by grind[cF,dE]
 |n,.agg ps,.ptr _ _,es,v,h,hw,r=>by grind[cF,dE]
 |n,.agg ps,.glob _,es,v,h,hw,r=>by grind[cF,dE]
 |n,.agg ps,.N,es,v,h,hw,r=>by grind[cF,dE]
 |n,.agg ps,.sl _ _ _ _,es,v,h,hw,r=>by grind[cF,dE]
 |n,.agg ps,.us _ _ _ _,es,v,h,hw,r=>by grind[cF,dE]
 |n,.agg ps,.es _ _ _,es,v,h,hw,r=>by grind[cF,dE]
 |n,.agg ps,.es0,es,v,h,hw,r=>by grind[cF,dE]
 |n,.agg ps,.nilm,es,v,h,hw,r=>by grind[cF,dE]
 |n,.agg ps,.map _,es,v,h,hw,r=>by grind[cF,dE]
 |n,.agg ps,.nilf,es,v,h,hw,r=>by grind[cF,dE]
 |n,.agg ps,.func _ _ _,es,v,h,hw,r=>by grind[cF,dE]
 |n,.agg ps,.yield _,es,v,h,hw,r=>by grind[cF,dE]
 |n,.agg ps,.nili,es,v,h,hw,r=>by grind[cF,dE]
 |n,.agg ps,.iface _ _,es,v,h,hw,r=>by grind[cF,dE]
 |n,.agg ps,.V _,es,v,h,hw,r=>by grind[cF,dE]
 |n,.agg ps,.opq _,es,v,h,hw,r=>by grind[cF,dE]
 |n,.agg ps,.atl _,es,v,h,hw,r=>by grind[cF,dE]
 |n,.agg ps,.osl _ _ _ _,es,v,h,hw,r=>by grind[cF,dE]
 |n,.agg ps,.optr _ _ _ _,es,v,h,hw,r=>by grind[cF,dE]
 |n,.agg ps,.U _ _ _,es,v,h,hw,r=>by grind[cF,dE]
 |n,.agg ps,.Z _ _,es,v,h,hw,r=>by grind[cF,dE]
 |n,.agg ps,.K _,es,v,h,hw,r=>by grind[cF,dE]
 |n,.agg ps,.H _,es,v,h,hw,r=>by grind[cF,dE]
 |n,.agg ps,.any,es,v,h,hw,r=>by grind[cF,dE]
 |n,.bool _,x,es,v,h,hw,r=>by grind[cF,dE]
 |n,.int _ _,x,es,v,h,hw,r=>by grind[cF,dE]
 |n,.str _,x,es,v,h,hw,r=>by grind[cF,dE]
 |n,.nilp,x,es,v,h,hw,r=>by grind[cF,dE]
 |n,.ptr _ _,x,es,v,h,hw,r=>by grind[cF,dE]
 |n,.glob _,x,es,v,h,hw,r=>by grind[cF,dE]
 |n,.N,x,es,v,h,hw,r=>by grind[cF,dE]
 |n,.sl _ _ _ _,x,es,v,h,hw,r=>by grind[cF,dE]
 |n,.us _ _ _ _,x,es,v,h,hw,r=>by grind[cF,dE]
 |n,.es _ _ _,x,es,v,h,hw,r=>by grind[cF,dE]
 |n,.es0,x,es,v,h,hw,r=>by grind[cF,dE]
 |n,.nilm,x,es,v,h,hw,r=>by grind[cF,dE]
 |n,.map _,x,es,v,h,hw,r=>by grind[cF,dE]
 |n,.nilf,x,es,v,h,hw,r=>by grind[cF,dE]
 |n,.func _ _ _,x,es,v,h,hw,r=>by grind[cF,dE]
 |n,.yield _,x,es,v,h,hw,r=>by grind[cF,dE]
 |n,.nili,x,es,v,h,hw,r=>by grind[cF,dE]
 |n,.iface _ _,x,es,v,h,hw,r=>by grind[cF,dE]
 |n,.V _,x,es,v,h,hw,r=>by grind[cF,dE]
 |n,.opq _,x,es,v,h,hw,r=>by grind[cF,dE]
 |n,.atl _,x,es,v,h,hw,r=>by grind[cF,dE]
 |n,.osl _ _ _ _,x,es,v,h,hw,r=>by grind[cF,ct6]
 |n,.optr _ _ _ _,x,es,v,h,hw,r=>by grind[cF,dE]
 |n,.U _ _ _,x,es,v,h,hw,r=>by grind[cF,ct7]
theorem OP{v0 nb:Nat}(g:Agr v0 I aa)(hb: ∀b,b<nb->ac b=O b): ∀(n:Nat) (ps xs:zw) (es:GF) (vs:List Zl),lN v0 nb n ps xs=some es->(∀j e,es[j]? =some e->aa.w (v0+(n+j))=bZ I e)->co O I xs vs->co ac aa ps vs
 |n,[],[],es,vs,h,hw,r=>r
 |n,[],_::_,es,vs,h,hw,r=>by simp[lN]at h
 |n,_::_,[],es,vs,h,hw,r=>by simp[lN]at h
 |n,p::ps,x::xs,es,vs,h,hw,⟨v,vr,e,r1,r2⟩=>by simp[lN]at h;split at h;rename_i e1 h1;split at h;rename_i e2 h2;simp at h;subst h;refine⟨v,vr,e,YA g hb n p x e1 v h1 (λj y hy=>hw j y ?_) r1,OP g hb _ ps xs e2 vr h2 (λj y hy=> ?_) r2⟩;grind;have:=hw (e1.length+j) y (by(intros;grind));grind;cases h;cases h
end
def Agr.symm(g:Agr v0 I aa):Agr v0 aa I:=⟨λn hn=>(g.w n hn).symm,g.f.symm,g.v.symm,g.fix.symm,g.gh.symm⟩
def sF{x:SX}(g:Agr v0 I aa)(h:lv v0 n p x=some es)(hq: ∀j e,es[j]? =some e->bZ I (q (n+j))=aa.w (v0+(n+j))):bZ I (dX v0 q p)=bZ aa p:=by unfold lv at h;unfold dX;split at h;rename_i m hm;obtain⟨h1,h2⟩:=W5 h;simp at h2;subst h2;unfold yl at hm;split at hm;obtain⟨h3,h4⟩:=W5 hm;simp at h4;rw[X6]at h3;obtain rfl:=X0.1 h1;have:=hq 0 x rfl;rw[show m=m+0 from rfl,this];congr 1;omega;grind;grind[SX.beq_eq,pX]
def iq(g:Agr v0 I aa){p x:AV}(hp:qb v0 q p=p)(h:(bif AV.beq p x&&eZ v0 nb x then some ([]:GF)else none)=some es)(r:VR O aa p v):VR O I (qb v0 q p) v:=by obtain⟨h1,_⟩:=W5 h;obtain⟨h2,h3⟩:=W4 h1;rw[hp];rw[<-AV.beq_eq _ _ h2]at h3;exact vH (ac:=O) g.symm (λ_ _=>rfl) p v h3 r
def ct9{q x y:SX}{f:Nat->SX}(g:Agr v0 I aa)(h:xz v0 n p q x y=some es)(hq: ∀j e,es[j]? =some e->bZ I (f (n+j))=aa.w (v0+(n+j))):bZ I (dX v0 f p)=bZ aa p/\bZ I (dX v0 f q)=bZ aa q:=by unfold xz at h;split at h;rename_i e1 h1;split at h;rename_i e2 h2;simp at h;subst h;refine⟨sF g h1 λj e hj=>hq j e ?_,sF g h2 λj e hj=> ?_⟩;grind;have:=hq (e1.length+j) e (by(intros;grind));grind;cases h;cases h
mutual
theorem WM{v0 nb:Nat}{q:Nat->SX}(g:Agr v0 I aa): ∀(n:Nat) (p x:AV) (es:GF) (v:Zl),cF v0 nb n p x=some es->(∀j e,es[j]? =some e->bZ I (q (n+j))=aa.w (v0+(n+j)))->VR O aa p v->VR O I (qb v0 q p) v
 |n,.any,x,es,v,h,hw,r=>trivial
 |n,.Z k p,x,es,v,h,hw,r=>by simp[cF]at h;unfold LZ at h;split at h;split at h;show v= .int k (dI I (dX v0 q p));unfold dI;rw[sF g h hw];exact r;cases h;cases h
 |n,.K p,x,es,v,h,hw,r=>by simp[cF]at h;unfold vt at h;split at h;show v= .string ⟨(dS I (dX v0 q p)).toArray⟩;unfold dS;rw[sF g h hw];exact r;cases h
 |n,.H p,x,es,v,h,hw,r=>by simp[cF]at h;unfold vt at h;split at h;show v= .bool (dB I (dX v0 q p));unfold dB;rw[sF g h hw];exact r;cases h
 |n,.agg ps,.agg xs,es,v,h,hw,r=>by obtain⟨ys,e,r1⟩:=r;exact⟨ys,e,VL g n ps xs es _ h hw r1⟩
 |n,.agg ps,.bool _,es,v,h,hw,r=>by simp_all[cF,AV.beq,p8,cond_false]
 |n,.agg ps,.int _ _,es,v,h,hw,r=>by simp_all[cF,AV.beq,p8,cond_false]
 |n,.agg ps,.str _,es,v,h,hw,r=>by simp_all[cF,AV.beq,p8,cond_false]
 |n,.agg ps,.nilp,es,v,h,hw,r=>by simp_all[cF,AV.beq,p8,cond_false]
 |n,.agg ps,.ptr _ _,es,v,h,hw,r=>by simp_all[cF,AV.beq,p8,cond_false]
 |n,.agg ps,.glob _,es,v,h,hw,r=>by simp_all[cF,AV.beq,p8,cond_false]
 |n,.agg ps,.N,es,v,h,hw,r=>by simp_all[cF,AV.beq,p8,cond_false]
 |n,.agg ps,.sl _ _ _ _,es,v,h,hw,r=>by simp_all[cF,AV.beq,p8,cond_false]
 |n,.agg ps,.us _ _ _ _,es,v,h,hw,r=>by simp_all[cF,AV.beq,p8,cond_false]
 |n,.agg ps,.es _ _ _,es,v,h,hw,r=>by simp_all[cF,AV.beq,p8,cond_false]
 |n,.agg ps,.es0,es,v,h,hw,r=>by simp_all[cF,AV.beq,p8,cond_false]
 |n,.agg ps,.nilm,es,v,h,hw,r=>by simp_all[cF,AV.beq,p8,cond_false]
 |n,.agg ps,.map _,es,v,h,hw,r=>by simp_all[cF,AV.beq,p8,cond_false]
 |n,.agg ps,.nilf,es,v,h,hw,r=>by simp_all[cF,AV.beq,p8,cond_false]
 |n,.agg ps,.func _ _ _,es,v,h,hw,r=>by simp_all[cF,AV.beq,p8,cond_false]
 |n,.agg ps,.yield _,es,v,h,hw,r=>by simp_all[cF,AV.beq,p8,cond_false]
 |n,.agg ps,.nili,es,v,h,hw,r=>by simp_all[cF,AV.beq,p8,cond_false]
 |n,.agg ps,.iface _ _,es,v,h,hw,r=>by simp_all[cF,AV.beq,p8,cond_false]
 |n,.agg ps,.V _,es,v,h,hw,r=>by simp_all[cF,AV.beq,p8,cond_false]
 |n,.agg ps,.opq _,es,v,h,hw,r=>by simp_all[cF,AV.beq,p8,cond_false]
 |n,.agg ps,.atl _,es,v,h,hw,r=>by simp_all[cF,AV.beq,p8,cond_false]
 |n,.agg ps,.osl _ _ _ _,es,v,h,hw,r=>by simp_all[cF,AV.beq,p8,cond_false]
 |n,.agg ps,.optr _ _ _ _,es,v,h,hw,r=>by simp_all[cF,AV.beq,p8,cond_false]
 |n,.agg ps,.U _ _ _,es,v,h,hw,r=>by simp_all[cF,AV.beq,p8,cond_false]
 |n,.agg ps,.Z _ _,es,v,h,hw,r=>by simp_all[cF,AV.beq,p8,cond_false]
 |n,.agg ps,.K _,es,v,h,hw,r=>by simp_all[cF,AV.beq,p8,cond_false]
 |n,.agg ps,.H _,es,v,h,hw,r=>by simp_all[cF,AV.beq,p8,cond_false]
 |n,.agg ps,.any,es,v,h,hw,r=>by simp_all[cF,AV.beq,p8,cond_false]
 |n,.bool _,x,es,v,h,hw,r=>by exact iq g rfl h r
 |n,.int _ _,x,es,v,h,hw,r=>by exact iq g rfl h r
 |n,.str _,x,es,v,h,hw,r=>by exact iq g rfl h r
 |n,.nilp,x,es,v,h,hw,r=>by exact iq g rfl h r
 |n,.ptr _ _,x,es,v,h,hw,r=>by exact iq g rfl h r
 |n,.glob _,x,es,v,h,hw,r=>by exact iq g rfl h r
 |n,.N,x,es,v,h,hw,r=>by exact iq g rfl h r
 |n,.sl _ _ _ _,x,es,v,h,hw,r=>by exact iq g rfl h r
 |n,.us _ _ _ _,x,es,v,h,hw,r=>by exact iq g rfl h r
 |n,.es _ _ _,x,es,v,h,hw,r=>by exact iq g rfl h r
 |n,.es0,x,es,v,h,hw,r=>by exact iq g rfl h r
 |n,.nilm,x,es,v,h,hw,r=>by exact iq g rfl h r
 |n,.map _,x,es,v,h,hw,r=>by exact iq g rfl h r
 |n,.nilf,x,es,v,h,hw,r=>by exact iq g rfl h r
 |n,.func _ _ _,x,es,v,h,hw,r=>by exact iq g rfl h r
 |n,.yield _,x,es,v,h,hw,r=>by simp[cF]at h;exact iq g rfl h r
 |n,.nili,x,es,v,h,hw,r=>by exact iq g rfl h r
 |n,.iface _ _,x,es,v,h,hw,r=>by exact iq g rfl h r
 |n,.V _,x,es,v,h,hw,r=>by exact iq g rfl h r
 |n,.opq _,x,es,v,h,hw,r=>by exact iq g rfl h r
 |n,.atl _,x,es,v,h,hw,r=>by exact iq g rfl h r
 |n,.osl _ _ _ _,x,es,v,h,hw,r=>by simp[cF]at h;unfold Hc at h;split at h;obtain⟨_,h2⟩:=W5 h;obtain⟨k1,k2⟩:=ct9 g h2 hw;grind[VR,qb,dI];cases h
 |n,.optr _ _ _ _,x,es,v,h,hw,r=>by exact iq g rfl h r
 |n,.U _ _ _,x,es,v,h,hw,r=>by simp[cF]at h;unfold Dv at h;split at h;obtain⟨_,h2⟩:=W5 h;have k1:=congrArg Val.I (sF g h2 hw);grind[VR,qb,dI];cases h
theorem VL{v0 nb:Nat}{q:Nat->SX}(g:Agr v0 I aa): ∀(n:Nat) (ps xs:zw) (es:GF) (vs:List Zl),lN v0 nb n ps xs=some es->(∀j e,es[j]? =some e->bZ I (q (n+j))=aa.w (v0+(n+j)))->co O aa ps vs->co O I (Db v0 q ps) vs
 |n,[],[],es,vs,h,hw,r=>r
 |n,[],_::_,es,vs,h,hw,r=>by simp[lN]at h
 |n,_::_,[],es,vs,h,hw,r=>by simp[lN]at h
 |n,p::ps,x::xs,es,vs,h,hw,⟨v,vr,e,r1,r2⟩=>by simp[lN]at h;split at h;rename_i e1 h1;split at h;rename_i e2 h2;simp at h;subst h;refine⟨v,vr,e,WM g n p x e1 v h1 (λj y hy=>hw j y ?_) r1,VL g _ ps xs e2 vr h2 (λj y hy=> ?_) r2⟩;grind;have:=hw (e1.length+j) y (by(intros;grind));grind;cases h;cases h
end
def kK: ∀{a b:wD},fp a b=true->a=b
 | [],[],_=>rfl
 | [],_::_,h=>by cases h
 |_::_,[],h=>by cases h
 |a::x,b::y,h=>by simp[fp,j8,decide_eq_true_eq]at h;rw[h.1,kK h.2]
def Zd{v0 nb:Nat}: ∀{a b:aaJ},yj v0 nb a b=true->a=b
 | [],[],_=>rfl
 | [],_::_,h=>by cases h
 |_::_,[],h=>by cases h
 |⟨ka,va,ba⟩::x,⟨kb,vb,bb⟩::y,h=>by simp[yj,j8,I9]at h;obtain⟨⟨⟨⟨⟨h1,h2⟩,h3⟩,h4⟩,h5⟩,h6⟩:=h;rw[AV.beq_eq _ _ h1,AV.beq_eq _ _ h2,h3,Zd h6]
def Nj{v0 nb:Nat}(g:Agr v0 I aa)(hb: ∀b,b<nb->ac b=O b): ∀{es es':aaJ} {m:aaC},yj v0 nb es es'=true->ERs O I es' m->ERs ac aa es m
 | [],[],m,h,r=>by cases r;exact .nil
 | [],_::_,m,h,r=>by cases h
 |_::_,[],m,h,r=>by cases h
 |a::x,b::y,m,h,r=>by
  simp[yj,j8,I9]at h;obtain⟨⟨⟨⟨⟨h1,h2⟩,h3⟩,h4⟩,h5⟩,h6⟩:=h;obtain⟨ka,va,ba⟩:=a;obtain rfl:=AV.beq_eq _ _ h1;obtain rfl:=AV.beq_eq _ _ h2;subst h3;cases r with
  |cons r1 r2 r3=>exact .cons (vH g hb _ _ h4 r1) (vH g hb _ _ h5 r2) (Nj g hb h6 r3)
theorem dp6(g:Agr v0 I aa)(hb: ∀b,b<nb->ac b=O b){L:Loc}{o:aaY}: ∀{p x:Blk} {es:GF},om v0 nb n p x=some es->(∀j e,es[j]? =some e->aa.w (v0+(n+j))=bZ I e)->BR O I L o x->BR ac aa L o p:=by
 intro p x es h hw r;unfold om at h;split at h;obtain⟨h1,h2⟩:=W5 h;obtain⟨h1,h5⟩:=W4 h1;obtain⟨h3,h4⟩:=W4 h1;obtain rfl:=X0.1 h3;obtain rfl:=X0.1 h4;obtain⟨C,lo,hi,vs,q1,q2,q3,q4,q5,q6,q7,q8⟩:=r;have hv:=OP g hb n _ _ es vs h2 hw q5;have hl:=hv.length;have hl2:=q5.length;exact⟨C,lo,hi,vs,q1,q2,by omega,h5,hv,λi hi'=>q6 i (by omega),q7,by rw[g.fix];exact q8⟩
 rename_i pp _ _ xx;obtain⟨h1,h2⟩:=W5 h;obtain⟨h3,h4⟩:=W4 h1;obtain rfl:=X0.1 h3;obtain rfl:=kK h4;have:=sP g h2 hw;obtain⟨C,e',lo,hi,q1,q0,q2,q3,q4,q5⟩:=r;have hd:dL aa pp=dL I xx:=by grind[dL]
 exact⟨C,e',lo,hi,q1,q0,q2,by grind,by grind,q5⟩;obtain⟨h1,h2⟩:=W5 h;obtain⟨h3,h4⟩:=W4 h1;obtain rfl:=X0.1 h4;obtain⟨Es,q1,q2⟩:=r;exact⟨Es,q1,Nj g hb h3 q2⟩;obtain⟨h1,h2⟩:=W5 h;obtain⟨h5,h1⟩:=W4 h1;obtain⟨h3,h4⟩:=W4 h1;obtain rfl:=kK h3;obtain rfl:=kK h4;have:=sP g h2 hw;obtain⟨Es,c,q1,q2,q3⟩:=r;exact⟨Es,c,q1,by grind[dL],q3.weak h5⟩
 rename_i pp _;obtain⟨h5,h⟩:=W5 h;have:=sP g h hw;obtain⟨Es,q1,q2⟩:=r;refine⟨Es,_,q1,?_⟩;have hE:Es.toList=[]:=by generalize Es.toList=z at q2;cases q2;rfl
 rw[hE,show dL aa pp=[] by unfold dL;rw[this];rfl];exact⟨rfl,(fx.nil _).weak h5⟩;obtain⟨h1,h2⟩:=W5 h;obtain⟨h3,h4⟩:=W4 h1;obtain rfl:=X0.1 h3;obtain rfl:=kK h4;have:=sP g h2 hw;obtain⟨D,q,r⟩:=r;exact⟨D,by grind[dL],r⟩;cases h
theorem bw1{p x:Blk}(h:om v0 nb n p x=some es):p.isArr=x.isArr:=by cases p<;>cases x<;>simp only[om]at h<;>first|rfl|cases h
def cb0{p y:Blk}(h:Ao v0 q (some p)=some y):p.isArr=y.isArr:=by cases p<;>simp only[Ao,j5]at h<;>subst h<;>rfl
def cW9(g:Agr v0 I aa){L:Loc}{o:aaY}: ∀{p x:Blk} {es:GF},om v0 nb n p x=some es->(∀j e,es[j]? =some e->bZ I (q (n+j))=aa.w (v0+(n+j)))->BR O aa L o p-> ∃p',Ao v0 q (some p)=some p'/\BR O I L o p':=by
 intro p x es h hw r;unfold om at h;split at h
 obtain⟨h1,h2⟩:=W5 h;obtain⟨C,lo,hi,vs,q1,q2,q3,q4,q5,q6,q7,q8⟩:=r;have hv:=VL g n _ _ es vs h2 hw q5;have hl:=hv.length;have hl2:=q5.length;refine⟨_,rfl,C,lo,hi,vs,q1,q2,by omega,?_,hv,λi hi'=>q6 i (by omega),q7,by rw[<-g.fix];exact q8⟩;have: ∀l:zw,l.all AV.oneA=true->(Db v0 q l).all AV.oneA=true:=by
  intro l;induction l with
  |nil=>intro _;rfl
  |cons a l ih=>
   intro hh;simp only[List.all_cons,j8]at hh;simp only[Db,List.all_cons,j8];refine⟨?_,ih hh.2⟩;have:=hh.1;cases a<;>simp only[qb]<;>first|exact this|rfl
 grind
 obtain⟨h1,h2⟩:=W5 h;have:=sF g h2 hw;obtain⟨C,e',lo,hi,q1,q0,q2,q3,q4,q5⟩:=r;have hd: ∀e:SX,bZ I (dX v0 q e)=bZ aa e->dL I (dX v0 q e)=dL aa e:=λe he=>by grind[dL]
 exact⟨_,rfl,C,e',lo,hi,q1,q0,q2,by grind,by grind,q5⟩;obtain⟨h1,h2⟩:=W5 h;obtain⟨h3,h4⟩:=W4 h1;obtain⟨Es,q1,q2⟩:=r;obtain rfl:=Zd h3;exact⟨_,rfl,Es,q1,Nj (O:=O) (ac:=O) g.symm (λ_ _=>rfl) h3 q2⟩;obtain⟨h1,h2⟩:=W5 h;have:=sF g h2 hw;obtain⟨Es,c,q1,q2⟩:=r;exact⟨_,rfl,Es,c,q1,by grind[dL,dX]⟩;obtain⟨h5,h⟩:=W5 h;have:=sF g h hw;obtain⟨Es,c,q1,q2⟩:=r;exact⟨_,rfl,Es,c,q1,by grind[dL,dX]⟩;obtain⟨h1,h2⟩:=W5 h;have:=sF g h2 hw;obtain⟨D,q0,r⟩:=r;exact⟨_,rfl,D,by grind[dL,dX],r⟩;cases h
variable{es:GF}{v0:Nat}
variable{O ac:cj}{I aa:Opq}{K:wW}{w0 w:Ac}{h:Heap}
def vV{x:AV}(r:VR O I x Go.undef):VR ac aa x Go.undef:=by
 cases x<;>simp only[VR,Go.undef]at r⊢ <;>first
  |exact r
  |(cases r;done)
  |(obtain⟨_,_,r⟩:=r;cases r;done)
  |(obtain⟨_,_,_,_,r⟩:=r;cases r;done)
  |(obtain⟨_,_,_,_,r,_⟩:=r;cases r;done)
  |(obtain⟨_,r⟩:=r;cases r;done)
  |(obtain⟨_,_,_,r,_⟩:=r;cases r;done)
  |(obtain⟨_,r,_⟩:=r;cases r;done)
  |(rcases r with⟨_,_,_,_,r,_⟩|⟨_,_,r,_⟩<;>(cases r;done))
  |(rcases r with⟨_,_,_,_,r,_⟩|⟨r,_⟩<;>cases r)
  |skip
 case opq n=>have:=I.one n;rw[<-r]at this;cases this
 case V cs=>
  obtain⟨xs,e,q⟩:=r;simp at e;subst e;cases cs with
  |nil=>exact⟨#[],rfl,rfl⟩
  |cons c cs=>obtain⟨_,_,e,_⟩:=q;cases e
def Ib: ∀(l:aav) (a:Fr),(eH a l).nt=a.nt
 | [],a=>rfl
 |(t,v)::r,a=>by simp[eH];rw[Ib r,Fr.put_nt]
theorem rJ: ∀(l:uq) (a:Fr),(layDead a l).nt=a.nt
 | [],a=>rfl
 |t::r,a=>by simp[layDead];rw[rJ r,Fr.put_nt]
def bW7: ∀(l:aav) (a:Fr),(eH a l).pc=a.pc
 | [],a=>rfl
 |(t,v)::r,a=>by simp[eH];rw[bW7 r,Fr.put_pc]
def RS: ∀(l:uq) (a:Fr),(layDead a l).pc=a.pc
 | [],a=>rfl
 |t::r,a=>by simp[layDead];rw[RS r,Fr.put_pc]
theorem IH: ∀(l:aav) (a:Fr),(eH a l).ds=a.ds
 | [],a=>rfl
 |(t,v)::r,a=>(IH r _).trans (Fr.put_ds _ _ _)
theorem NC: ∀(l:uq) (a:Fr),(layDead a l).ds=a.ds
 | [],a=>rfl
 |t::r,a=>(NC r _).trans (Fr.put_ds _ _ _)
theorem LC: ∀(l:aav) (a:Fr),(eH a l).ro=a.ro
 | [],a=>rfl
 |(t,v)::r,a=>(LC r _).trans (Fr.put_ro _ _ _)
theorem Ge: ∀(l:uq) (a:Fr),(layDead a l).ro=a.ro
 | [],a=>rfl
 |t::r,a=>(Ge r _).trans (Fr.put_ro _ _ _)
def CA{a:Fr}(h:tC a=true):a.ds=[]/\a.ro=none:=by simp_all[tC,W4,List.isEmpty_iff]
theorem Ff: ∀(l:aav) (a:Fr),a.nt<=256-> ∀s,a.nt<=s->(eH a l).slot s=a.slot s
 | [],a,_,s,_=>rfl
 |(t,v)::r,a,hl,s,hs=>by simp[eH];rw[Ff r _ (by grind[Fr.put_nt]) s (by grind[Fr.put_nt]),Fr.put_slot hl,b9 (by omega)]
theorem DW: ∀(l:uq) (a:Fr),a.nt<=256-> ∀s,a.nt<=s->(layDead a l).slot s=a.slot s
 | [],a,_,s,_=>rfl
 |t::r,a,hl,s,hs=>by simp[layDead];rw[DW r _ (by grind[Fr.put_nt]) s (by grind[Fr.put_nt]),Fr.put_slot hl,b9 (by omega)]
def bc2(f:AV->AV): ∀(l:aav) (a b:Fr) (s:Nat),a.nt<=256->b.nt=a.nt->s<a.nt->(b.slot s=f (a.slot s)\/b.slot s=a.slot s)->
 ((eH b (l.map λp=>(p.1,f p.2))).slot s=f ((eH a l).slot s))\/((eH b (l.map λp=>(p.1,f p.2))).slot s=b.slot s/\(eH a l).slot s=a.slot s)
 | [],a,b,s,_,_,_,_=> .inr ⟨rfl,rfl⟩
 |(t,v)::r,a,b,s,hl,hn,hs,h=>by
  simp[m8,eH];have e1:(a.put (some t) v).slot s=if t=s then v else a.slot s:=by rw[Fr.put_slot hl];simp[hs]
  have e2:(b.put (some t) (f v)).slot s=if t=s then f v else b.slot s:=by rw[Fr.put_slot (by omega)];simp[hn,hs]
  have:=bc2 f r (a.put (some t) v) (b.put (some t) (f v)) s (by rw[Fr.put_nt];exact hl) (by rw[Fr.put_nt,Fr.put_nt,hn]) (by rw[Fr.put_nt];exact hs) (by
   rw[e1,e2];by_cases hh:t=s;rw[i6 hh,i6 hh];exact .inl rfl
   rw[b9 hh,b9 hh];exact h)
  grind
@[simp]def Heap.get_upto(h:Heap)(n b:Nat):(h.upto n).get b=h.get b:=by rfl
@[simp]def Heap.next_upto(h:Heap)(n:Nat):(h.upto n).next=n:=by rfl
@[simp]def Heap.wm_upto(h:Heap)(n:Nat):(h.upto n).wm=h.wm:=by rfl
def Uk: ∀(l:List (Nat×lW)) (h:Heap),(gI h l).next=h.next
 | [],h=>rfl
 |(b,x)::r,h=>by simp[gI];rw[Uk r];rfl
def Cq: ∀(l:List (Nat×lW)) (h:Heap),(gI h l).wm=h.wm
 | [],h=>rfl
 |(b,x)::r,h=>by simp[gI];rw[Cq r];rfl
def Us: ∀(l:List (Nat×lW)) (h:Heap) (s:Nat),(∀p∈l,p.1≠s)->(gI h l).get s=h.get s
 | [],h,s,_=>rfl
 |(b,x)::r,h,s,hp=>by simp[gI];rw[Us r _ s (λp hh=>hp p (.tail _ hh)),Heap.get_put,b9 (λe=>hp (b,x) (.head _) e.symm)]
def WT(f:lW->lW)(hf:f none=none): ∀(l:List (Nat×lW)) (a b:Heap) (s:Nat),(b.get s=f (a.get s)\/b.get s=a.get s)->
 ((gI b (l.map λp=>(p.1,f p.2))).get s=f ((gI a l).get s))\/((gI b (l.map λp=>(p.1,f p.2))).get s=b.get s/\(gI a l).get s=a.get s)
 | [],a,b,s,_=> .inr ⟨rfl,rfl⟩
 |(t,v)::r,a,b,s,h=>by
  simp[m8,gI];have e1:(a.put t v).get s=if s=t then(if t<65536 then v else none)else a.get s:=Heap.get_put _ _ _ _
  have e2:(b.put t (f v)).get s=if s=t then(if t<65536 then f v else none)else b.get s:=Heap.get_put _ _ _ _
  have h2:(b.put t (f v)).get s=f ((a.put t v).get s)\/(b.put t (f v)).get s=(a.put t v).get s:=by rw[e1,e2];by_cases hh:s=t;rw[i6 hh,i6 hh];by_cases h3:t<65536;rw[i6 h3,i6 h3];exact .inl rfl;rw[b9 h3,b9 h3];exact .inr rfl;rw[b9 hh,b9 hh];exact h
  rcases WT f hf r (a.put t v) (b.put t (f v)) s h2 with q|⟨q1,q2⟩
  exact .inl q;grind
def dp7{n:Nat}{fs:GF}{P:Nat->SX->Prop}(hw: ∀j e,(es++fs)[j]? =some e->P (n+j) e): ∀j e,es[j]? =some e->P (n+j) e:=by grind
def bW8{n:Nat}{fs:GF}{P:Nat->SX->Prop}(hw: ∀j e,(es++fs)[j]? =some e->P (n+j) e): ∀j e,fs[j]? =some e->P (n+es.length+j) e:=by intro j e hj;have:=hw (es.length+j) e (by rw[s9 (by omega),show es.length+j-es.length=j by omega];exact hj);grind
def bW9{v0 nb:Nat}{aP a:Fr}{P:Nat->SX->Prop}: ∀{m t n:Nat} {es:GF},Ln v0 nb aP a m t n=some es->(∀j e,es[j]? =some e->P (n+j) e)-> ∀s,t<=s->s<t+m-> ∃n' es',cF v0 nb n' (aP.slot s) (a.slot s)=some es'/\ ∀j e,es'[j]? =some e->P (n'+j) e
 |0,t,n,es,h,hw,s,h1,h2=>by omega
 |m+1,t,n,es,h,hw,s,h1,h2=>by simp[Ln]at h;split at h;split at h;rename_i e2 he2;simp at h;subst h;by_cases hs:s=t;grind;exact bW9 he2 (bW8 hw) s (by omega) (by omega);cases h;cases h
def Wv{v0 nb:Nat}{hP h0:Heap}{P:Nat->SX->Prop}: ∀{m t n:Nat} {es:GF},Ll v0 nb hP h0 m t n=some es->(∀j e,es[j]? =some e->P (n+j) e)-> ∀s,t<=s->s<t+m-> ∃n' es',sU v0 nb n' (hP.get s) (h0.get s)=some es'/\ ∀j e,es'[j]? =some e->P (n'+j) e
 |0,t,n,es,h,hw,s,h1,h2=>by omega
 |m+1,t,n,es,h,hw,s,h1,h2=>by simp[Ll]at h;split at h;split at h;rename_i e2 he2;simp at h;subst h;by_cases hs:s=t;grind;exact Wv he2 (bW8 hw) s (by omega) (by omega);cases h;cases h
def cj.cut(O:cj)(n:Nat):cj:=λb=>if b<n then O b else none
def bX1{I:Opq}: ∀j e,es[j]? =some e->(I.U v0 (X4 I es)).w (v0+(0+j))=bZ I e:=by
 intro j e hj;refine vM ?_;induction es generalizing j with
 |nil=>simp at hj
 |cons a r ih=>
  grind[X4,List.getElem?_cons_succ]
structure Met (v0:Nat) (aP:Fr) (hP:Heap) (a:Fr) (h:Heap) (es:GF):Prop where
 plP:tC aP=true
 pl:tC a=true
 nt:aP.nt=a.nt
 nx:hP.next<=h.next
 wm:hP.wm=h.wm
 sl: ∀(P:Nat->SX->Prop),(∀j e,es[j]? =some e->P (0+j) e)-> ∀s,s<a.nt-> ∃n' es',cF v0 hP.next n' (aP.slot s) (a.slot s)=some es'/\ ∀j e,es'[j]? =some e->P (n'+j) e
 hp: ∀(P:Nat->SX->Prop),(∀j e,es[j]? =some e->P (0+j) e)-> ∀s,s<hP.next-> ∃n' es',sU v0 hP.next n' (hP.get s) (h.get s)=some es'/\ ∀j e,es'[j]? =some e->P (n'+j) e
def Hz{aP:Fr}{hP:Heap}{a:Fr}{h:Heap}(e:sk v0 aP hP a h=some es):Met v0 aP hP a h es:=by obtain⟨h1,e⟩:=W5 e;obtain⟨h1,h3⟩:=W4 h1;obtain⟨h1,h2⟩:=W4 h1;obtain⟨h0,h1⟩:=W4 h1;obtain⟨h0,h00⟩:=W4 h0;rw[X0]at h1 h3;rw[X6]at h2;split at e;rename_i e1 he1;split at e;rename_i e2 he2;simp at e;subst e;exact⟨h0,h00,h1,h2,h3,λP hw s hs=>bW9 he1 (dp7 hw) s (s8 _) (by omega),λP hw s hs=>by have:=Wv (P:=P) (n:=e1.length) he2 (by grind) s (s8 _) (by omega);exact this⟩;cases e;cases e
def Met.fr{aP:Fr}{hP:Heap}{a:Fr}{act:Act}(m:Met v0 aP hP a h es)(hpc:aP.pc=[])(hhi: ∀s,a.nt<=s-> ∃x,aP.slot s=x/\VR O I x Go.undef)(f:cS O I a act):cS (O.cut hP.next) (I.U v0 (X4 I es)) aP act:=by
 refine⟨by rw[m.nt];exact f.size,by rw[m.nt];exact f.lim,λt _=> ?_,?_,λp hp=>by grind⟩
 rotate_left
 have hd:=f.defers;rw[(CA m.pl).1]at hd;rw[(CA m.plP).1];exact hd;by_cases ht:t<a.nt;obtain⟨n',es',h1,h2⟩:=m.sl (λj e=>(I.U v0 (X4 I es)).w (v0+j)=bZ I e) bX1 t ht;exact YA (Hf I v0 _) (λb hb=>by simp[cj.cut,hb]) n' _ _ es' _ h1 h2 (f.slot t id);obtain⟨x,h1,h2⟩:=hhi t (M3 ht);rw[h1,x6,D7 (by rw[f.size];omega)];exact vV h2
def Met.hr{aP:Fr}{hP:Heap}{a:Fr}(m:Met v0 aP hP a h es)(hfg: ∀b,hP.next<=b->hP.get b=none)(r:HR O I K w0 h w):HR (O.cut hP.next) (I.U v0 (X4 I es)) K w0 hP w:=by
 have key: ∀b x,hP.get b=some x->b<hP.next/\ ∃y,h.get b=some y/\(∀L o,BR O I L o y->BR (O.cut hP.next) (I.U v0 (X4 I es)) L o x)/\x.isArr=y.isArr:=by
  intro b x hx;have hb:b<hP.next:=by
   rcases k8 b hP.next with hh|hh
   exact hh;rw[hfg b hh]at hx;cases hx
  obtain⟨n',es',h1,h2⟩:=m.hp (λj e=>(I.U v0 (X4 I es)).w (v0+j)=bZ I e) bX1 b hb;simp[sU]at h1;grind[dp6,Hf,cj.cut,bw1]
 have cut: ∀{b L},O.cut hP.next b=some L->O b=some L:=by grind[cj.cut]
 refine⟨λb x L hg hb=> ?_,λb b' x x' L L' hg hg' hb hb' hne hw=> ?_,λb hb=>by simp_all[cj.cut,b9],hfg,λb L hb=>r.lt b L (cut hb),r.kin,r.keep,λb x L hg hw hb=> ?_,r.size,r.os,r.tape,r.out,r.dr⟩;obtain⟨_,y,h1,h2,_⟩:=key b x hg;exact h2 L _ (r.blk b y L h1 (cut hb));obtain⟨_,y,h1,_,k1⟩:=key b x hg;obtain⟨_,y',h1',_,k2⟩:=key b' x' hg';exact r.sep b b' y y' L L' h1 h1' (cut hb) (cut hb') hne (by rw[<-k1,<-k2,<-m.wm];exact hw);obtain⟨_,y,h1,_⟩:=key b x hg;exact r.free b y L h1 (by rw[<-m.wm];exact hw) (cut hb)
variable{O ac:cj}{I:Opq}{K:wW}{w0 w:Ac}{h:Heap}
def cj.at_(O:cj)(b:Nat)(L:aa7):cj:=λx=>if x=b then L else O x
def nJ{c b:Nat}(h:(!(Nat.beq c b))=true):c≠b:=by intro e;rw[X0.2 e]at h;cases h
mutual
theorem Ad{b:Nat}(hb: ∀x,x≠b->ac x=O x): ∀(x:AV) (v:Zl),fR b x=true->VR O I x v->VR ac I x v
 | .bool _,v,_,r=>r
 | .int _ _,v,_,r=>r
 | .str _,v,_,r=>r
 | .nilp,v,_,r=>r
 | .ptr c _,v,h,⟨L,e,q⟩=>⟨L,(hb c (nJ (by simpa only[fR]using h))).trans e,q⟩
 | .glob _,v,_,r=>r
 | .N,v,_,r=>r
 | .sl c _ _ _,v,h,⟨L,e,q⟩=>⟨L,(hb c (nJ (by simpa only[fR]using h))).trans e,q⟩
 | .us c _ _ _,v,h,⟨L,cc,e,q⟩=>⟨L,cc,(hb c (nJ (by simpa only[fR]using h))).trans e,q⟩
 | .es c _ _,v,h,⟨L,a,cc,e,q⟩=>⟨L,a,cc,(hb c (nJ (by simpa only[fR]using h))).trans e,q⟩
 | .es0,v,_,r=>r
 | .nilm,v,_,r=>r
 | .map c,v,h,⟨L,e,q⟩=>⟨L,(hb c (nJ (by simpa only[fR]using h))).trans e,q⟩
 | .nilf,v,_,r=>r
 | .func fn x y,v,h,⟨n,p,q,e,r1,r2⟩=>by simp only[fR,j8]at h;exact⟨n,p,q,e,wq hb x _ h.1 r1,wq hb y _ h.2 r2⟩
 | .yield c,v,h,⟨L,e,q⟩=>⟨L,(hb c (nJ (by simpa only[fR]using h))).trans e,q⟩
 | .nili,v,_,r=>r
 | .iface t x,v,h,⟨y,e,q⟩=>⟨y,e,Ad hb x y (by simpa[fR]using h) q⟩
 | .agg l,v,h,⟨xs,e,q⟩=>⟨xs,e,wq hb l _ (by simpa[fR]using h) q⟩
 | .V l,v,h,⟨xs,e,q⟩=>⟨xs,e,wq hb l _ (by simpa[fR]using h) q⟩
 | .opq n,v,_,r=>r
 | .Z k e,v,h,r=>r
 | .K e,v,h,r=>r
 | .H e,v,h,r=>r
 | .osl c x y sz,v,h,r=>by have:=hb c (nJ (by simpa only[fR]using h));simp only[VR]at r⊢;rw[this];exact r
 | .optr c x j sz,v,h,r=>by have:=hb c (nJ (by simpa only[fR]using h));simp only[VR]at r⊢;rw[this];exact r
 | .U c x sz,v,h,r=>by have:=hb c (nJ (by simpa only[fR]using h));simp only[VR]at r⊢;rw[this];exact r
 | .atl _,v,_,r=>r
 | .any,_,_,_=>trivial
theorem wq{b:Nat}(hb: ∀x,x≠b->ac x=O x): ∀(l:zw) (vs:List Zl),lc b l=true->co O I l vs->co ac I l vs
 | [],vs,_,r=>r
 |a::l,vs,h,⟨v,vr,e,p,q⟩=>by simp only[lc,j8]at h;exact⟨v,vr,e,Ad hb a v h.1 p,wq hb l vr h.2 q⟩
end
def dp8{b:Nat}(hb: ∀x,x≠b->ac x=O x): ∀{es:aaJ} {m:aaC},(es.all λe=>fR b e.key&&fR b e.val)=true->ERs O I es m->ERs ac I es m:=by
 intro es m h r;induction r with
 |nil=>exact .nil
 |cons r1 r2 r3 ih=>
  simp only[List.all_cons,j8]at h;exact .cons (Ad hb _ _ h.1.1 r1) (Ad hb _ _ h.1.2 r2) (ih h.2)
def NW{b:Nat}(hb: ∀x,x≠b->ac x=O x){L:Loc}{o:aaY}{x:Blk}(h:oT b (some x)=true)(r:BR O I L o x):BR ac I L o x:=by
 cases x with
 |cells e fz cs=>
  obtain⟨C,lo,hi,vs,q1,q2,q3,q4,q5,q6⟩:=r;exact⟨C,lo,hi,vs,q1,q2,q3,q4,wq hb cs vs h q5,q6⟩
 |A e sig l=>exact r
 |map es c=>
  obtain⟨Es,q1,q2⟩:=r;exact⟨Es,q1,dp8 hb h q2⟩
 |marr d ks vs l=>exact r
 |bag e sig l=>exact r
 |mrg it d ks vs l=>
  obtain⟨E,c,Li,q1,q2,q3⟩:=r;have:it≠b:=by rintro rfl;simp[oT]at h
  exact⟨E,c,Li,q1,by rw[hb _ this];exact q2,q3⟩
 |mit m=>
  obtain⟨q0,Lm,q1,q2⟩:=r;have:m≠b:=by rintro rfl;simp[oT]at h
  exact⟨q0,Lm,by rw[hb _ this];exact q1,q2⟩
 |vec cs=>
  obtain⟨C,e,lo,hi,vs,q1,q2,q3⟩:=r;exact⟨C,e,lo,hi,vs,q1,wq hb cs vs h q2,q3⟩
 |_=>cases h
def Wh{b t:Nat}{a:Fr}: ∀{n:Nat},qn b t a n=true-> ∀s,s<n->s≠t->fR b (a.slot s)=true
 |0,_,s,hs,_=>by omega
 |n+1,h,s,hs,ht=>by
  simp only[qn,j8,t7,I9]at h;by_cases e:s=n
  subst e;rcases h.1 with h1|h1
  exact absurd h1 ht;exact h1;exact Wh h.2 s (by omega) ht
def VF{b t:Nat}{a:Fr}: ∀{n:Nat},qn b t a n=true->a.ds=[]
 |0,h=>List.isEmpty_iff.1 h
 |n+1,h=>by simp only[qn,j8]at h;exact VF h.2
def cu0{b:Nat}{h0:Heap}: ∀{n:Nat},vK b h0 n=true-> ∀s,s<n->oT b (h0.get s)=true
 |0,_,s,hs=>by omega
 |n+1,h,s,hs=>by simp only[vK,j8]at h;by_cases e:s=n;subst e;exact h.1;exact cu0 h.2 s (by omega)
def KP{o:OwnP}{a:Fr}{act:Act}{l:SX}{L:aa7}(hds:a.ds=[])(f:cS O I a act)(r:HR O I K w0 h w)(hslot:o.slot<a.nt)(hblk:o.blk<h.next)(h65:o.blk<65536)(hnone:h.get o.blk=none)
 (hfr: ∀s,s<a.nt->s≠o.slot->fR o.blk (a.slot s)=true) (hhp: ∀z y,h.get z=some y->oT o.blk (some y)=true) (hlt: ∀M,L=some M->M.blk<w.heap.size) (hsep: ∀M x y M',L=some M->h.get x=some y->O x=some M'->M.blk≠M'.blk) (hfree: ∀M,L=some M-> ¬K M.blk)
 (hbr: ∀M,L=some M->BR O I M w.heap[M.blk]? (.A o.elem o.sig l)) (hv: ∀u,VR O I (a.slot o.slot) u->VR (O.at_ o.blk L) I (.U o.blk (.O .Y [l]) o.sig.length) u):
 cS (O.at_ o.blk L) I (lh o a h l).1 act/\HR (O.at_ o.blk L) I K w0 (lh o a h l).2 w:=by
 have hb: ∀x,x≠o.blk->(O.at_ o.blk L) x=O x:=λx hx=>by simp only[cj.at_];rw[b9 hx]
 have hb0:(O.at_ o.blk L) o.blk=L:=by simp[cj.at_]
 have eK: ∀z,(h.put o.blk (some (.A o.elem o.sig l))).get z=if z=o.blk then some (.A o.elem o.sig l)else h.get z:=λz=>by rw[Heap.get_put,i6 h65]
 constructor;refine⟨by show act.tmps.size=(a.put _ _).nt;rw[Fr.put_nt];exact f.size,by show(a.put _ _).nt<=256;rw[Fr.put_nt];exact f.lim,λt _=> ?_,by show jf _ I (a.put _ _).ds act.defers;rw[Fr.put_ds,hds];have:=f.defers;rw[hds]at this;exact this,λp hp=>f.pcs p (by have:(a.put (some o.slot) (.U o.blk (.O .Y [l]) o.sig.length)).pc=a.pc:=Fr.put_pc _ _ _;rw[<-this];exact hp)⟩;show VR _ I ((a.put (some o.slot) (.U o.blk (.O .Y [l]) o.sig.length)).slot t) _;rw[Fr.put_slot f.lim];by_cases ht:t=o.slot;subst ht;rw[i6 ⟨rfl,hslot⟩];exact hv _ (f.slot _ id);rw[b9 (λhh=>ht (by have:=hh.1;simp only[j5]at this;exact this.symm))];by_cases hn:t<a.nt;exact Ad hb _ _ (hfr t hn ht) (f.slot t id);have:=f.slot t id;rw[x6,D7 (by rw[f.size];exact M3 hn)]at this⊢;exact vV this
 .have key: ∀z y,(h.put o.blk (some (.A o.elem o.sig l))).get z=some y->(z=o.blk/\y= .A o.elem o.sig l)\/(z≠o.blk/\h.get z=some y):=by
   intro z y hy;rw[eK]at hy;by_cases hz:z=o.blk;rw[i6 hz]at hy;simp only[j5]at hy;exact .inl ⟨hz,hy.symm⟩;rw[b9 hz]at hy;exact .inr ⟨hz,hy⟩
  refine⟨λz y M hy hM=> ?_,λz z' y y' M M' hy hy' hM hM' hne hw=> ?_,λz hz=> ?_,λz hz=> ?_,λz M hM=> ?_,r.kin,r.keep,λz y M hy hw hM=> ?_,r.size,r.os,r.tape,r.out,r.dr⟩
  rcases key z y hy with⟨rfl,rfl⟩|⟨hz,hy⟩
  rw[hb0]at hM;exact hbr M hM;rw[hb z hz]at hM;exact NW hb (hhp z y hy) (r.blk z y M hy hM)
  rcases key z y hy with⟨rfl,rfl⟩|⟨hz,hy⟩
  rw[hb0]at hM;rcases key z' y' hy' with⟨rfl,_⟩|⟨hz',hy'⟩
  exact absurd rfl hne;rw[hb z' hz']at hM';exact hsep M z' y' M' hM hy' hM'
  rw[hb z hz]at hM;rcases key z' y' hy' with⟨rfl,rfl⟩|⟨hz',hy'⟩
  rw[hb0]at hM';exact(hsep M' z y M hM' hy hM).symm;rw[hb z' hz']at hM';exact r.sep z z' y y' M M' hy hy' hM hM' hne hw
  .have hz:h.next<=z:=hz
   rw[hb z (by omega)];exact r.fresh z hz
  .have hz:h.next<=z:=hz
   show(h.put o.blk (some (.A o.elem o.sig l))).get z=none;rw[eK,b9 (by omega)];exact r.fget z hz
  by_cases hz:z=o.blk;rw[hz,hb0]at hM;exact hlt M hM;rw[hb z hz]at hM;exact r.lt z M hM
  rcases key z y hy with⟨rfl,rfl⟩|⟨hz,hy⟩
  rw[hb0]at hM;exact hfree M hM;rw[hb z hz]at hM;exact r.free z y M hy hw hM
structure Conv (I:Opq) (K:wW) (w0 w:Ac) (a a':Fr) (h h':Heap) (act:Act) (O ac:cj) (P:wW):Prop where
 fr:cS ac I a' act
 hr:HR ac I K w0 h' w
 bij: ∀x,¬P x->ac x=O x
 nt:a'.nt=a.nt
 next:h'.next=h.next
 wm:h'.wm=h.wm
 get: ∀b,h'.get b=h.get b\/h'.get b=none\/P b\/O b≠none
def bX3{len l:SX}(h:LH len l=true):dI I len=dI I (.O .Y [l]):=by
 unfold LH at h;rw[t7]at h;rcases h with h|h
 rw[SX.beq_eq _ _ h];split at h;rfl;cases h
def cu1{o:OwnP}{a a':Fr}{h':Heap}{act:Act}(e:Jt o a h=some (a',h'))(f:cS O I a act)(r:HR O I K w0 h w): ∃ac,Conv I K w0 w a a' h h' act O ac (· =o.blk):=by
 have common: ∀{c:Bool},(Nat.blt o.slot a.nt&&Nat.blt o.blk h.next&&Nat.blt o.blk 65536&&(h.get o.blk).isNone&&qn o.blk o.slot a a.nt&&vK o.blk h h.next)=true->
  a.ds=[]/\o.slot<a.nt/\o.blk<h.next/\o.blk<65536/\h.get o.blk=none/\(∀s,s<a.nt->s≠o.slot->fR o.blk (a.slot s)=true)/\(∀z y,h.get z=some y->oT o.blk (some y)=true):=by
  intro c hc;obtain⟨hc,c6⟩:=W4 hc;obtain⟨hc,c5⟩:=W4 hc;obtain⟨hc,c4⟩:=W4 hc;obtain⟨hc,c3⟩:=W4 hc;obtain⟨c1,c2⟩:=W4 hc;rw[Y8]at c1 c2 c3;refine⟨VF c5,c1,c2,c3,by simpa using c4,Wh c5,λz y hy=> ?_⟩;have hlt:z<h.next:=by
   rcases k8 z h.next with hh|hh
   exact hh;rw[r.fget z hh]at hy;cases hy
  have:=cu0 c6 z hlt;rw[hy]at this;exact this
 have gput: ∀(hh:Heap) (l:SX),o.blk<65536-> ∀b,(lh o a hh l).2.get b=if b=o.blk then some (.A o.elem o.sig l)else hh.get b:=by intro hh l hl b;show(hh.put o.blk (some (.A o.elem o.sig l))).get b=_;rw[Heap.get_put,i6 hl]
 have bij: ∀(L:aa7) x,¬(x=o.blk)->(O.at_ o.blk L) x=O x:=λL x hx=>by simp only[cj.at_];rw[b9 hx]
 unfold Jt at e;split at e
 rename_i b len sz hsl;cases hq:Nat.beq b o.blk with
 |true=>
  rw[hq]at e;simp only[cond_true]at e;split at e;obtain⟨_,e⟩:=W5 e;simp only[j5,y6]at e;obtain⟨rfl,rfl⟩:=e;exact⟨O,f,r,λ_ _=>rfl,rfl,rfl,rfl,λ_=> .inl rfl⟩;cases e
 |false=>
  rw[hq]at e;simp only[cond_false]at e;replace e:=W5 e;obtain⟨hc,e⟩:=e;obtain⟨hc,c7⟩:=W4 hc;rw[X6]at c7;obtain⟨c0,c1,c2,c3,c4,c5,c6⟩:=common (c:=true) hc;split at e
  rename_i el sig l hg;replace e:=W5 e;obtain⟨hd,e⟩:=e;obtain⟨hd,d4⟩:=W4 hd;obtain⟨hd,d3⟩:=W4 hd;obtain⟨d1,d2⟩:=W4 hd;rw[X0]at d1 d3;have d2:=kK d2;have d4:=bX3 (I:=I) d4;simp only[j5]at e;obtain⟨r1,_⟩:=r.drop b;have g1: ∀z y,(h.put b none).get z=some y->z≠b/\h.get z=some y:=by intro z y hy;rw[Heap.get_put]at hy;by_cases hz:z=b;rw[i6 hz]at hy;split at hy<;>cases hy;rw[b9 hz]at hy;exact⟨hz,hy⟩
  have hbn:o.blk≠b:=λhh=>by rw[hh]at c4;rw[c4]at hg;cases hg
  have m:=KP (o:=o) (l:=l) (L:=O b) c0 f r1 c1 c2 c3 (by rw[Heap.get_put,b9 hbn];exact c4) c5 (λz y hy=>c6 z y (g1 z y hy).2) (λM hM=>r.lt b M hM)
   (λM x y M' hM hx hxM=>r.sep b x _ y M M' hg (g1 x y hx).2 hM hxM (g1 x y hx).1.symm (.inl c7)) (λM hM=>r.free b _ M hg c7 hM)
   (λM hM=>by rw[<-d1,<-d2];exact r.blk b _ M hg hM) (λu hu=>by
    rw[hsl]at hu;simp only[VR]at hu⊢;rw[d4]at hu;rcases hu with⟨L,cap,h1,h2,h3,h4⟩|hu
    exact .inl ⟨L,cap,by simp[cj.at_,h1],by rw[<-d2,<-d3];exact h2,h3,h4⟩
    exact .inr hu)
  rw[e]at m;have e1:a'=(lh o a (h.put b none) l).1:=by rw[e]
  have e2:h'=(lh o a (h.put b none) l).2:=by rw[e]
  refine⟨_,m.1,m.2,bij _,by rw[e1];exact Fr.put_nt _ _ _,by rw[e2];rfl,by rw[e2];rfl,λx=> ?_⟩;rw[e2,gput _ _ c3];by_cases hx:x=o.blk;exact .inr (.inr (.inl hx));rw[b9 hx,Heap.get_put];by_cases hx2:x=b;right;left;rw[i6 hx2];split<;>rfl;left;rw[b9 hx2];cases e
 .rename_i hsl;obtain⟨hc,e⟩:=W5 e;obtain⟨c0,c1,c2,c3,c4,c5,c6⟩:=common (c:=true) hc;simp only[j5]at e;have m:=KP (o:=o) (l:= .O .row []) (L:=none) c0 f r c1 c2 c3 c4 c5 c6 (λM hM=>by cases hM) (λM x y M' hM=>by cases hM) (λM hM=>by cases hM) (λM hM=>by cases hM) (λu hu=>by
   rw[hsl]at hu;exact .inr ⟨hu,rfl⟩)
  rw[e]at m;have e1:a'=(lh o a h (.O .row [])).1:=by rw[e]
  have e2:h'=(lh o a h (.O .row [])).2:=by rw[e]
  refine⟨_,m.1,m.2,bij _,by rw[e1];exact Fr.put_nt _ _ _,by rw[e2];rfl,by rw[e2];rfl,λx=> ?_⟩;rw[e2,gput _ _ c3];by_cases hx:x=o.blk;exact .inr (.inr (.inl hx));rw[b9 hx];exact .inl rfl
 rename_i b n sz hsl;replace e:=W5 e;obtain⟨hc,e⟩:=e;obtain⟨hc,c8⟩:=W4 hc;obtain⟨hc,c7⟩:=W4 hc;rw[X6]at c7;rw[Y8]at c8;obtain⟨c0,c1,c2,c3,c4,c5,c6⟩:=common (c:=true) hc;split at e;rename_i el cs hg;replace e:=W5 e;obtain⟨hd,e⟩:=e;obtain⟨hd,d3⟩:=W4 hd;obtain⟨d1,d2⟩:=W4 hd;rw[X0]at d1 d2 d3;split at e
 rename_i rs hrs;simp only[j5]at e;obtain⟨r1,_⟩:=r.drop b;have g1: ∀z y,(h.put b none).get z=some y->z≠b/\h.get z=some y:=by intro z y hy;rw[Heap.get_put]at hy;by_cases hz:z=b;rw[i6 hz]at hy;split at hy<;>cases hy;rw[b9 hz]at hy;exact⟨hz,hy⟩
 have hbn:o.blk≠b:=λhh=>by rw[hh]at c4;rw[c4]at hg;cases hg
 have hcell: ∀M,O b=some M-> ∃C lo hi,w.heap[M.blk]? =some (.cells C el (lo,hi))/\M.off+M.ext<=C.size/\cs.length<=M.ext/\(X4 I rs).length=n/\
  (∀i v,(Y2 o.sig (X4 I rs))[i]? =some v->C[M.off+i]? =some v)/\(∀i,i<M.ext-> ¬(lo<=M.off+i/\M.off+i<hi)):=by
  intro M hM;obtain⟨C,lo,hi,vs,q1,q2,q3,q4,q5,q6,q7⟩:=r.cells hg hM;obtain⟨z1,z2⟩:=uG hrs d3 q5;have hvl:=q5.length;refine⟨C,lo,hi,q1,q2,q3,z2,λi v hi'=> ?_,λi hi'=>q7 i (s8 _) hi'⟩;rw[<-z1]at hi';rw[q6 i (by
   rcases k8 i vs.length with hh|hh
   omega
   rw[v8 hh]at hi';cases hi')]
  exact hi'
 have m:=KP (o:=o) (l:= .O .row rs) (L:=O b) c0 f r1 c1 c2 c3 (by rw[Heap.get_put,b9 hbn];exact c4) c5 (λz y hy=>c6 z y (g1 z y hy).2) (λM hM=>r.lt b M hM)
  (λM x y M' hM hx hxM=>r.sep b x _ y M M' hg (g1 x y hx).2 hM hxM (g1 x y hx).1.symm (.inl c7)) (λM hM=>r.free b _ M hg c7 hM)
  (λM hM=>by
   obtain⟨C,lo,hi,q1,q2,q3,q4,q5,q6⟩:=hcell M hM;rw[<-d1];refine⟨C,_,lo,hi,q1,.inl rfl,q2,?_,q5,q6⟩;show(X4 I rs).length*o.sig.length<=M.ext;rw[q4,<-d2,<-d3];exact q3) (λu hu=>by
   rw[hsl]at hu;simp only[VR]at hu⊢;obtain⟨M,cap,h1,h2,h3⟩:=hu;obtain⟨C,lo,hi,q1,q2,q3,q4,q5,q6⟩:=hcell M h1;have hn:(dI I (.O .Y [.O .row rs])).toNat=n:=by rw[kc];show(((X4 I rs).length:Nat):Int).toNat=n;rw[q4];simp
   have hle:n<=cap:=by rw[d3,<-show cap*sz=M.ext by omega]at q3;exact E3 q3 c8
   exact .inl ⟨M,cap,by simp[cj.at_,h1],by rw[<-d2];omega,by rw[hn];simpa using h3,by rw[hn];exact hle⟩)
 rw[e]at m;have e1:a'=(lh o a (h.put b none) (.O .row rs)).1:=by rw[e]
 have e2:h'=(lh o a (h.put b none) (.O .row rs)).2:=by rw[e]
 refine⟨_,m.1,m.2,bij _,by rw[e1];exact Fr.put_nt _ _ _,by rw[e2];rfl,by rw[e2];rfl,λx=> ?_⟩;rw[e2,gput _ _ c3];by_cases hx:x=o.blk;exact .inr (.inr (.inl hx));rw[b9 hx,Heap.get_put];by_cases hx2:x=b;right;left;rw[i6 hx2];split<;>rfl;left;rw[b9 hx2];cases e;cases e;rename_i b p n c hsl;replace e:=W5 e;obtain⟨hc,e⟩:=e;obtain⟨hc,c7⟩:=W4 hc;rw[X6]at c7;obtain⟨c0,c1,c2,c3,c4,c5,c6⟩:=common (c:=true) hc;split at e;rename_i el fz cs hg;replace e:=W5 e;obtain⟨hd,e⟩:=e;obtain⟨hd,d4⟩:=W4 hd;obtain⟨hd,d3⟩:=W4 hd;obtain⟨d1,d2⟩:=W4 hd;rw[X0]at d1;rw[X6]at d2 d3 d4;split at e
 rename_i rs hrs;simp only[j5]at e;have hvr:=f.slot o.slot id;rw[hsl]at hvr;simp only[VR]at hvr;obtain⟨L,hL,hv0⟩:=hvr;obtain⟨r1,_⟩:=r.drop b;have g1: ∀z y,(h.put b none).get z=some y->z≠b/\h.get z=some y:=by intro z y hy;rw[Heap.get_put]at hy;by_cases hz:z=b;rw[i6 hz]at hy;split at hy<;>cases hy;rw[b9 hz]at hy;exact⟨hz,hy⟩
 have hbn:o.blk≠b:=λhh=>by rw[hh]at c4;rw[c4]at hg;cases hg
 obtain⟨C,lo,hi,vs,q1,q2,q3,q4,q5,q6,q7⟩:=r.cells hg hL;obtain⟨z1,z2⟩:=uG hrs (by simp only[n8,K5];have:=B2 o.sig.length d4;omega) ((q5.drop p).take (n*o.sig.length));have hvl:=q5.length;have hns:n*o.sig.length<=c*o.sig.length:=B2 _ d4;have m:=KP (o:=o) (l:= .O .row rs) (L:=some ⟨L.blk,L.off+p,c*o.sig.length⟩) c0 f r1 c1 c2 c3 (by rw[Heap.get_put,b9 hbn];exact c4) c5 (λz y hy=>c6 z y (g1 z y hy).2) (λM hM=>by cases hM;exact r.lt b L hL)
  (λM x y M' hM hx hxM=>by cases hM;exact r.sep b x _ y L M' hg (g1 x y hx).2 hL hxM (g1 x y hx).1.symm (.inl c7)) (λM hM=>by cases hM;exact r.free b _ L hg c7 hL)
  (λM hM=>by
   cases hM;rw[<-d1];refine⟨C,_,lo,hi,q1,.inl rfl,by show L.off+p+c*o.sig.length<=C.size;omega,?_,λi v hi'=> ?_,λi hi'=> ?_⟩;show(X4 I rs).length*o.sig.length<=c*o.sig.length;rw[z2];exact hns
   show C[L.off+p+i]? =some v;have hi':(Y2 o.sig (X4 I rs))[i]? =some v:=hi';rw[<-z1]at hi';have hlt:i<n*o.sig.length:=by
    rcases k8 i (n*o.sig.length)with hh|hh
    exact hh;rw[v8 (by simp;omega)]at hi';cases hi'
   rw[show L.off+p+i=L.off+(p+i) by omega,q6 (p+i) (by omega)];rw[C5,i6 hlt,D6]at hi';exact hi'
   have hi':i<c*o.sig.length:=hi';have:=q7 (p+i) (by omega) (by omega);show¬(lo<=L.off+p+i/\L.off+p+i<hi);rw[show L.off+p+i=L.off+(p+i) by omega];exact this) (λu hu=>by
   rw[hsl]at hu;simp only[VR]at hu⊢;obtain⟨M,hM,h3⟩:=hu;rw[hL,j5]at hM;subst hM;have hn:(dI I (.O .Y [.O .row rs])).toNat=n:=by rw[kc];show(((X4 I rs).length:Nat):Int).toNat=n;rw[z2];simp
   exact .inl ⟨⟨L.blk,L.off+p,c*o.sig.length⟩,c,by simp[cj.at_],rfl,by rw[hn];exact h3,by rw[hn];exact d4⟩)
 rw[e]at m;have e1:a'=(lh o a (h.put b none) (.O .row rs)).1:=by rw[e]
 have e2:h'=(lh o a (h.put b none) (.O .row rs)).2:=by rw[e]
 refine⟨_,m.1,m.2,bij _,by rw[e1];exact Fr.put_nt _ _ _,by rw[e2];rfl,by rw[e2];rfl,λx=> ?_⟩;rw[e2,gput _ _ c3];by_cases hx:x=o.blk;exact .inr (.inr (.inl hx));rw[b9 hx,Heap.get_put];by_cases hx2:x=b;right;left;rw[i6 hx2];split<;>rfl;left;rw[b9 hx2];cases e;cases e;cases e
def Zp{b:Nat}{y:AV}(hb: ∀x,x≠b->ac x=O x): ∀{cs:zw} {vs:List Zl} {i:Nat},co O I cs vs->lc b (cs.set i .N)=true->(∀x u,cs[i]? =some x->VR O I x u->VR ac I y u)->co ac I (cs.set i y) vs
 | [],_,_,r,_,_=>r
 |a::cs,vs,0,⟨v,vr,e,p,q⟩,hn,hy=>by simp only[List.set_cons_zero,lc,j8]at hn;exact⟨v,vr,e,hy a v rfl p,wq hb _ _ hn.2 q⟩
 |a::cs,vs,i+1,⟨v,vr,e,p,q⟩,hn,hy=>by simp only[List.set_cons_succ,lc,j8]at hn;exact⟨v,vr,e,Ad hb _ _ hn.1 p,Zp hb q hn.2 (λx u hx hu=>hy x u (by simpa using hx) hu)⟩
def bX4{b c:Nat}{cs:zw}{h0:Heap}: ∀{n:Nat},Ly b c cs h0 n=true->lc b cs=true/\ ∀s,s<n->s≠c->oT b (h0.get s)=true
 |0,h=>⟨h,λs hs=>by omega⟩
 |n+1,h=>by simp only[Ly,j8,t7,I9]at h;obtain⟨h1,h2⟩:=bX4 h.2;refine⟨h1,λs hs hc=> ?_⟩;by_cases e:s=n;subst e;exact h.1.resolve_left hc;exact h2 s (by omega) hc
noncomputable def AW(c i e fz:Nat)(cs:zw)(h:Heap)(y:AV)(n:Nat)(X:Blk):Heap:=(h.put c (some (.cells e fz (cs.set i y)))).put n (some X)
def cu3{o:OwnP}{a:Fr}{act:Act}{X:Blk}{cy:AV}(h1:cy.oneA=true){L:aa7}{c i e fz:Nat}{cs:zw}(hds:a.ds=[])(f:cS O I a act)(r:HR O I K w0 h w)(hblk:o.blk<h.next)(h65:o.blk<65536)(hnone:h.get o.blk=none)(hc:c≠o.blk)
 (hg:h.get c=some (.cells e fz cs)) (hfr: ∀s,s<a.nt->fR o.blk (a.slot s)=true) (hhp: ∀z y,z≠c->h.get z=some y->oT o.blk (some y)=true) (hcs:lc o.blk (cs.set i .N)=true) (hlt: ∀M,L=some M->M.blk<w.heap.size) (hsep: ∀M x y M',L=some M->h.get x=some y->O x=some M'->M.blk≠M'.blk) (hfree: ∀M,L=some M-> ¬K M.blk)
 (hbr: ∀M,L=some M->BR (O.at_ o.blk L) I M w.heap[M.blk]? X) (hv: ∀x u,cs[i]? =some x->VR O I x u->VR (O.at_ o.blk L) I cy u):
 cS (O.at_ o.blk L) I a act/\HR (O.at_ o.blk L) I K w0 (AW c i e fz cs h cy o.blk X) w:=by
 have hb: ∀x,x≠o.blk->(O.at_ o.blk L) x=O x:=λx hx=>by simp only[cj.at_];rw[b9 hx]
 have hb0:(O.at_ o.blk L) o.blk=L:=by simp[cj.at_]
 have h65c:=Heap.get_lim h c _ hg;have hcn:c<h.next:=by
  rcases k8 c h.next with hh|hh
  exact hh;rw[r.fget c hh]at hg;cases hg
 have eK: ∀z,(AW c i e fz cs h cy o.blk X).get z=if z=o.blk then some X else if z=c then some (.cells e fz (cs.set i cy))else h.get z:=λz=>by unfold AW;rw[Heap.get_put,i6 h65,Heap.get_put,i6 h65c]
 constructor;refine⟨f.size,f.lim,λt _=> ?_,by have:=f.defers;rw[hds]at this⊢;exact this,f.pcs⟩;by_cases hn:t<a.nt;exact Ad hb _ _ (hfr t hn) (f.slot t id);have:=f.slot t id;rw[x6,D7 (by rw[f.size];exact M3 hn)]at this⊢;exact vV this
 .have key: ∀z y,(AW c i e fz cs h cy o.blk X).get z=some y->(z=o.blk/\y=X)\/(z≠o.blk/\ ∃y',h.get z=some y'/\y'.isArr=y.isArr/\ ∀M,O z=some M->BR O I M w.heap[M.blk]? y'->BR (O.at_ o.blk L) I M w.heap[M.blk]? y):=by
   intro z y hy;rw[eK]at hy;by_cases hz:z=o.blk;rw[i6 hz]at hy;simp only[j5]at hy;exact .inl ⟨hz,hy.symm⟩;rw[b9 hz]at hy;refine .inr ⟨hz,?_⟩;by_cases hzc:z=c
   subst hzc;rw[i6 rfl]at hy;simp only[j5]at hy;subst hy;refine⟨_,hg,rfl,λM hM hbr'=> ?_⟩;obtain⟨C,lo,hi,vs,q1,q2,q3,q4,q5,q6⟩:=hbr';refine⟨C,lo,hi,vs,q1,q2,by rw[C6];exact q3,?_,Zp hb q5 hcs hv,by rw[C6];exact q6⟩;rw[l5]at q4⊢;intro x hx;rcases V3 hx with q|rfl
   exact q4 x q;exact h1;rw[b9 hzc]at hy;exact⟨y,hy,rfl,λM hM hbr'=>NW hb (hhp z y hzc hy) hbr'⟩
  refine⟨λz y M hy hM=> ?_,λz z' y y' M M' hy hy' hM hM' hne hw=> ?_,λz hz=> ?_,λz hz=> ?_,λz M hM=> ?_,r.kin,r.keep,λz y M hy hw hM=> ?_,r.size,r.os,r.tape,r.out,r.dr⟩
  rcases key z y hy with⟨rfl,rfl⟩|⟨hz,y0,hy0,_,hk⟩
  rw[hb0]at hM;exact hbr M hM;rw[hb z hz]at hM;exact hk M hM (r.blk z y0 M hy0 hM)
  rcases key z y hy with⟨rfl,rfl⟩|⟨hz,y0,hy0,k1,_⟩
  rw[hb0]at hM;rcases key z' y' hy' with⟨rfl,_⟩|⟨hz',y0',hy0',_⟩
  exact absurd rfl hne;rw[hb z' hz']at hM';exact hsep M z' y0' M' hM hy0' hM'
  rw[hb z hz]at hM;rcases key z' y' hy' with⟨rfl,rfl⟩|⟨hz',y0',hy0',k2,_⟩
  rw[hb0]at hM';exact(hsep M' z y0 M hM' hy0 hM).symm;rw[hb z' hz']at hM';exact r.sep z z' y0 y0' M M' hy0 hy0' hM hM' hne (by rw[k1,k2];exact hw)
  .have hz:h.next<=z:=hz
   rw[hb z (by omega)];exact r.fresh z hz
  .have hz:h.next<=z:=hz
   rw[eK,b9 (by omega),b9 (by omega)];exact r.fget z hz
  by_cases hz:z=o.blk;rw[hz,hb0]at hM;exact hlt M hM;rw[hb z hz]at hM;exact r.lt z M hM
  rcases key z y hy with⟨rfl,rfl⟩|⟨hz,y0,hy0,_⟩
  rw[hb0]at hM;exact hfree M hM;rw[hb z hz]at hM;exact r.free z y0 M hy0 hw hM
def bX5{c:Nat}{x:AV}{v:Zl}(h:Jj c x=true)(r:VR O I x v):O c≠none:=by unfold Jj at h;split at h;obtain rfl:=X0.1 h;obtain⟨L,hL,_⟩:=r;rw[hL];simp;cases h
def bw2{c:Nat}: ∀{l:zw} {vs:List Zl},JE c l=true->co O I l vs->O c≠none
 | [],_,h,_=>by cases h
 |x::r,vs,h,⟨v,vr,e,p,q⟩=>by
  simp only[JE,t7]at h;rcases h with h|h
  exact bX5 h p;exact bw2 h q
def cX0{c:Nat}{x:AV}{v:Zl}(hr:HR O I K w0 h w)(h0:Vl c x h=true)(r:VR O I x v):O c≠none:=by
 unfold Vl at h0;rw[t7]at h0;rcases h0 with h0|h0
 exact bX5 h0 r;split at h0;split at h0;rename_i hg;obtain⟨L,hL,_⟩:=r;obtain⟨C,lo,hi,vs,_,_,_,_,q5,_⟩:=hr.blk _ _ L hg hL;exact bw2 h0 q5;cases h0;cases h0
def bX6{b:Nat}{x:EX}(h:Ig b x=true):(∃len sz,x=some (.U b len sz))\/(∃p,x=some (.ptr b p))\/x=some (.map b):=by unfold Ig at h;split at h;obtain rfl:=X0.1 h;exact .inl ⟨_,_,rfl⟩;obtain rfl:=X0.1 h;exact .inr (.inl ⟨_,rfl⟩);obtain rfl:=X0.1 h;exact .inr (.inr rfl);cases h
def cX1{o:OwnP}{c i:Nat}{a a':Fr}{h':Heap}{act:Act}(e:LX o c i a h=some (a',h'))(f:cS O I a act)(r:HR O I K w0 h w): ∃ac,Conv I K w0 w a a' h h' act O ac (· =o.blk):=by
 have bij: ∀(L:aa7) x,¬(x=o.blk)->(O.at_ o.blk L) x=O x:=λL x hx=>by simp only[cj.at_];rw[b9 hx]
 unfold LX at e;split at e
 .rename_i e0 fz cs hg;obtain⟨hc,e⟩:=W5 e;obtain⟨hc,hc2⟩:=W4 hc;obtain⟨hc,hi⟩:=W4 hc;obtain⟨hp,hs⟩:=W4 hc;have aC:=cX0 r hp (f.slot o.slot id);rw[t7]at hc2;have same:(a',h')=(a,h)-> ∃ac,Conv I K w0 w a a' h h' act O ac (· =o.blk):=by
   intro hh;simp only[y6]at hh;obtain⟨rfl,rfl⟩:=hh;exact⟨O,f,r,λ_ _=>rfl,rfl,rfl,rfl,λ_=> .inl rfl⟩
  rcases hc2 with hown|hc2
  cases hsg:o.sig.isEmpty with
  |true=>
   rw[hsg]at e;simp only[cond_true]at e;unfold Ph at e;rcases bX6 hown with⟨len,sz,hx⟩|⟨p,hx⟩|hx
   rw[hx]at e;cases e;rw[hx]at e;simp only[X0.2 (rfl:o.blk=o.blk),cond_true,j5]at e;exact same e.symm;rw[hx]at e;simp only[X0.2 (rfl:o.blk=o.blk),cond_true,j5]at e;exact same e.symm
  |false=>
   rw[hsg]at e;simp only[cond_false]at e;unfold Pl at e;rcases bX6 hown with⟨len,sz,hx⟩|⟨p,hx⟩|hx
   rw[hx]at e;simp only[X0.2 (rfl:o.blk=o.blk),cond_true]at e;split at e;obtain⟨_,e⟩:=W5 e;simp only[j5]at e;exact same e.symm;cases e;rw[hx]at e;cases e;rw[hx]at e;cases e
  .obtain⟨hc2,c6⟩:=W4 hc2;obtain⟨hc2,c5⟩:=W4 hc2;obtain⟨hc2,c4⟩:=W4 hc2;obtain⟨hc2,c3⟩:=W4 hc2;obtain⟨c1,c2⟩:=W4 hc2;rw[Y8]at c1 c2;have c3:h.get o.blk=none:=by simpa using c3
   have c4:=nJ c4;have hfr: ∀s,s<a.nt->fR o.blk (a.slot s)=true:=λs hs=>Wh c5 s hs (by omega)
   obtain⟨hcs,hhp0⟩:=bX4 c6;have hhp: ∀z y,z≠c->h.get z=some y->oT o.blk (some y)=true:=λz y hz hy=>by
    have hlt:z<h.next:=by
     rcases k8 z h.next with hh|hh
     exact hh;rw[r.fget z hh]at hy;cases hy
    have:=hhp0 z hlt hz;rw[hy]at this;exact this
   have hds:=VF c5;have dropX: ∀(b:Nat) (X:Blk) (cy:AV),cy.oneA=true->b≠c->h.wm<=b->(∃y,h.get b=some y)->(∀M,O b=some M->BR (O.at_ o.blk (O b)) I M w.heap[M.blk]? X)->
    (∀x u,cs[i]? =some x->VR O I x u->VR (O.at_ o.blk (O b)) I cy u)->(a',h')=(a,AW c i e0 fz cs (h.put b none) cy o.blk X)-> ∃ac,Conv I K w0 w a a' h h' act O ac (· =o.blk):=by
    intro b X cy h1y hbc hwm hy0 hbr hv hh;obtain⟨y0,hy0⟩:=hy0;simp only[y6]at hh;obtain⟨rfl,rfl⟩:=hh;obtain⟨r1,_⟩:=r.drop b;have g1: ∀z y,(h.put b none).get z=some y->z≠b/\h.get z=some y:=by intro z y hy;rw[Heap.get_put]at hy;by_cases hz:z=b;rw[i6 hz]at hy;split at hy<;>cases hy;rw[b9 hz]at hy;exact⟨hz,hy⟩
    have hbn:o.blk≠b:=λhh=>by rw[hh]at c3;rw[c3]at hy0;cases hy0
    have m:=cu3 (o:=o) (X:=X) h1y (L:=O b) (i:=i) hds f r1 c1 c2 (by rw[Heap.get_put,b9 hbn];exact c3) c4 (by rw[Heap.get_put,b9 (Ne.symm hbc)];exact hg) hfr (λz y hz hy=>hhp z y hz (g1 z y hy).2) hcs
     (λM hM=>r.lt b M hM) (λM x y M' hM hx hxM=>r.sep b x _ y M M' hy0 (g1 x y hx).2 hM hxM (g1 x y hx).1.symm (.inl hwm)) (λM hM=>r.free b _ M hy0 hwm hM) hbr hv
    refine⟨_,m.1,m.2,bij _,rfl,rfl,rfl,λx=> ?_⟩;unfold AW;rw[Heap.get_put,i6 c2,Heap.get_put,Heap.get_put];by_cases hx:x=o.blk;exact .inr (.inr (.inl hx));rw[b9 hx];by_cases hx1:x=c;subst hx1;exact .inr (.inr (.inr aC));rw[b9 hx1];by_cases hx2:x=b;right;left;rw[i6 hx2];split<;>rfl;left;rw[b9 hx2]
   have drop: ∀(b:Nat) (l:SX),b≠c->h.wm<=b->(∃y,h.get b=some y)->(∀M,O b=some M->BR O I M w.heap[M.blk]? (.A o.elem o.sig l))->
    (∀x u,cs[i]? =some x->VR O I x u->VR (O.at_ o.blk (O b)) I (.U o.blk (.O .Y [l]) o.sig.length) u)->(a',h')=(a,HW o c i e0 fz cs (h.put b none) l)-> ∃ac,Conv I K w0 w a a' h h' act O ac (· =o.blk):=
    λb l h1 h2 h3 h4 h5 h6=>dropX b (.A o.elem o.sig l) _ rfl h1 h2 h3 h4 h5 h6
   cases hsg:o.sig.isEmpty with
   |true=>
    rw[hsg]at e;simp only[cond_true]at e;have mv: ∀(b:Nat) (cy:AV),cy.oneA=true->Mv o c i e0 fz cs a h cy b=some (a',h')->(∀x u,cs[i]? =some x->VR O I x u->VR (O.at_ o.blk (O b)) I cy u)-> ∃ac,Conv I K w0 w a a' h h' act O ac (· =o.blk):=by intro b cy h1y hm hv;unfold Mv at hm;obtain⟨hd,hm⟩:=W5 hm;obtain⟨c7,c8⟩:=W4 hd;rw[X6]at c7;split at hm;rename_i X hX;obtain⟨hno,hm⟩:=W5 hm;simp only[j5]at hm;exact dropX b X cy h1y (nJ c8) c7 ⟨_,hX⟩ (λM hM=>NW (bij _) hno (r.blk b X M hX hM)) hv hm.symm;cases hm
    unfold Ph at e;split at e
    rename_i b p hx;cases hq:Nat.beq b o.blk with
    |true=>rw[hq]at e;simp only[cond_true,j5]at e;exact same e.symm
    |false=>
     rw[hq]at e;simp only[cond_false]at e;refine mv b _ rfl e (λx u hxi hu=> ?_);rw[hx,j5]at hxi;subst hxi;obtain⟨L,hL,hu⟩:=hu;exact⟨L,by simp[cj.at_,hL],hu⟩
    .rename_i b hx;cases hq:Nat.beq b o.blk with
     |true=>rw[hq]at e;simp only[cond_true,j5]at e;exact same e.symm
     |false=>
      rw[hq]at e;simp only[cond_false]at e;refine mv b _ rfl e (λx u hxi hu=> ?_);rw[hx,j5]at hxi;subst hxi;obtain⟨L,hL,hu⟩:=hu;exact⟨L,by simp[cj.at_,hL],hu⟩
    cases e
   |false=>
   rw[hsg]at e;simp only[cond_false]at e;unfold Pl at e;split at e
   rename_i b len sz hx;cases hq:Nat.beq b o.blk with
   |true=>
    rw[hq]at e;simp only[cond_true]at e;split at e;obtain⟨_,e⟩:=W5 e;simp only[j5]at e;exact same e.symm;cases e
   |false=>
    rw[hq]at e;simp only[cond_false]at e;obtain⟨hd,e⟩:=W5 e;obtain⟨c7,c8⟩:=W4 hd;rw[X6]at c7;have c8:=nJ c8;split at e
    rename_i el sig l hgb;obtain⟨hd,e⟩:=W5 e;obtain⟨hd,d4⟩:=W4 hd;obtain⟨hd,d3⟩:=W4 hd;obtain⟨d1,d2⟩:=W4 hd;rw[X0]at d1 d3;have d2:=kK d2;have d4:=bX3 (I:=I) d4;simp only[j5]at e;refine drop b l c8 c7 ⟨_,hgb⟩ (λM hM=>by rw[<-d1,<-d2];exact r.blk b _ M hgb hM) (λx u hxi hu=> ?_) e.symm;rw[hx,j5]at hxi;subst hxi;simp only[VR]at hu⊢;rw[d4]at hu;rcases hu with⟨L,cap,h1,h2,h3,h4⟩|hu
    exact .inl ⟨L,cap,by simp[cj.at_,h1],by rw[<-d2,<-d3];exact h2,h3,h4⟩;exact .inr hu;cases e
   .rename_i hx;simp only[j5]at e;simp only[y6]at e;obtain⟨rfl,rfl⟩:=e;have m:=cu3 (o:=o) (X:= .A o.elem o.sig (.O .row [])) (cy:= .U o.blk (.O .Y [.O .row []]) o.sig.length) rfl (L:=none) (i:=i) hds f r c1 c2 c3 c4 hg hfr hhp hcs (λM hM=>by cases hM) (λM x y M' hM=>by cases hM) (λM hM=>by cases hM) (λM hM=>by cases hM) (λx u hxi hu=>by
     rw[hx,j5]at hxi;subst hxi;exact .inr ⟨hu,rfl⟩)
    refine⟨_,m.1,m.2,bij _,rfl,rfl,rfl,λx=> ?_⟩;unfold HW;rw[Heap.get_put,i6 c2,Heap.get_put];by_cases hx:x=o.blk;exact .inr (.inr (.inl hx));rw[b9 hx];by_cases hx1:x=c;subst hx1;exact .inr (.inr (.inr aC));rw[b9 hx1];exact .inl rfl
   rename_i b n sz hx;obtain⟨hd,e⟩:=W5 e;obtain⟨hd,c9⟩:=W4 hd;obtain⟨c7,c8⟩:=W4 hd;rw[X6]at c7;rw[Y8]at c8;have c9:=nJ c9;split at e;rename_i el ds hgb;obtain⟨hd,e⟩:=W5 e;obtain⟨hd,d3⟩:=W4 hd;obtain⟨d1,d2⟩:=W4 hd;rw[X0]at d1 d2 d3;split at e
   rename_i rs hrs;simp only[j5]at e;have hcell: ∀M,O b=some M-> ∃C lo hi,w.heap[M.blk]? =some (.cells C el (lo,hi))/\M.off+M.ext<=C.size/\ds.length<=M.ext/\(X4 I rs).length=n/\
    (∀i v,(Y2 o.sig (X4 I rs))[i]? =some v->C[M.off+i]? =some v)/\(∀i,i<M.ext-> ¬(lo<=M.off+i/\M.off+i<hi)):=by
    intro M hM;obtain⟨C,lo,hi,vs,q1,q2,q3,q4,q5,q6,q7⟩:=r.cells hgb hM;obtain⟨z1,z2⟩:=uG hrs d3 q5;have hvl:=q5.length;refine⟨C,lo,hi,q1,q2,q3,z2,λi v hi'=> ?_,λi hi'=>q7 i (s8 _) hi'⟩;rw[<-z1]at hi';rw[q6 i (by
     rcases k8 i vs.length with hh|hh
     omega
     rw[v8 hh]at hi';cases hi')]
    exact hi'
   refine drop b (.O .row rs) c9 c7 ⟨_,hgb⟩ (λM hM=> ?_) (λx u hxi hu=> ?_) e.symm;obtain⟨C,lo,hi,q1,q2,q3,q4,q5,q6⟩:=hcell M hM;rw[<-d1];refine⟨C,_,lo,hi,q1,.inl rfl,q2,?_,q5,q6⟩;show(X4 I rs).length*o.sig.length<=M.ext;rw[q4,<-d2,<-d3];exact q3
   rw[hx,j5]at hxi;subst hxi;simp only[VR]at hu⊢;obtain⟨M,cap,h1,h2,h3⟩:=hu;obtain⟨C,lo,hi,q1,q2,q3,q4,q5,q6⟩:=hcell M h1;have hn:(dI I (.O .Y [.O .row rs])).toNat=n:=by rw[kc];show(((X4 I rs).length:Nat):Int).toNat=n;rw[q4];simp
   have hle:n<=cap:=by rw[d3,<-show cap*sz=M.ext by omega]at q3;exact E3 q3 c8
   exact .inl ⟨M,cap,by simp[cj.at_,h1],by rw[<-d2];omega,by rw[hn];simpa using h3,by rw[hn];exact hle⟩;cases e;cases e;cases e
 cases e
def cX2(o:OwnP)(a:Fr)(r:HR O I K w0 h w):HR O I K w0 (yI o a h) w/\(yI o a h).next=h.next/\(yI o a h).wm=h.wm/\ ∀b,b≠o.blk->(yI o a h).get b=h.get b:=by
 unfold yI;split
 cases (Nat.beq _ o.blk||(h.get o.blk).isNone)with
 |true=>exact⟨r,rfl,rfl,λ_ _=>rfl⟩
 |false=>
  refine⟨(r.drop o.blk).1,rfl,rfl,λb hb=> ?_⟩;show(h.put o.blk none).get b=_;rw[Heap.get_put,b9 hb]
 .exact⟨r,rfl,rfl,λ_ _=>rfl⟩
def cu4{o:OwnP}{a a':Fr}{h':Heap}{act:Act}(e:Jt o a (yI o a h)=some (a',h'))(f:cS O I a act)(r:HR O I K w0 h w): ∃ac,Conv I K w0 w a a' h h' act O ac (· =o.blk):=by
 obtain⟨r1,r2,r3,r4⟩:=cX2 o a r;obtain⟨ac,c⟩:=cu1 e f r1;refine⟨ac,c.fr,c.hr,c.bij,c.nt,c.next.trans r2,c.wm.trans r3,λb=> ?_⟩;by_cases hb:b=o.blk;exact .inr (.inr (.inl hb))
 rcases c.get b with q|q|q|q
 exact .inl (q.trans (r4 b hb));exact .inr (.inl q);exact .inr (.inr (.inl q));exact .inr (.inr (.inr q))
def cX3(o:OwnP)(c i:Nat)(r:HR O I K w0 h w):HR O I K w0 (zQ o c i h) w/\(zQ o c i h).next=h.next/\(zQ o c i h).wm=h.wm/\ ∀b,b≠o.blk->(zQ o c i h).get b=h.get b:=by
 unfold zQ;split
 cases (Ig o.blk _||(h.get o.blk).isNone||Nat.beq c o.blk)with
 |true=>exact⟨r,rfl,rfl,λ_ _=>rfl⟩
 |false=>
  refine⟨(r.drop o.blk).1,rfl,rfl,λb hb=> ?_⟩;show(h.put o.blk none).get b=_;rw[Heap.get_put,b9 hb]
 .exact⟨r,rfl,rfl,λ_ _=>rfl⟩
def cX4{o:OwnP}{c i:Nat}{a a':Fr}{h':Heap}{act:Act}(e:LX o c i a (zQ o c i h)=some (a',h'))(f:cS O I a act)(r:HR O I K w0 h w): ∃ac,Conv I K w0 w a a' h h' act O ac (· =o.blk):=by
 obtain⟨r1,r2,r3,r4⟩:=cX3 o c i r;obtain⟨ac,c⟩:=cX1 e f r1;refine⟨ac,c.fr,c.hr,c.bij,c.nt,c.next.trans r2,c.wm.trans r3,λb=> ?_⟩;by_cases hb:b=o.blk;exact .inr (.inr (.inl hb))
 rcases c.get b with q|q|q|q
 exact .inl (q.trans (r4 b hb));exact .inr (.inl q);exact .inr (.inr (.inl q));exact .inr (.inr (.inr q))
def cX5{o:OwnP}{a a':Fr}{h':Heap}{act:Act}(e:Ow o a h=some (a',h'))(f:cS O I a act)(r:HR O I K w0 h w): ∃ac,Conv I K w0 w a a' h h' act O ac (· =o.blk):=by
 unfold Ow at e;split at e
 unfold Ws at e;cases hz:(o.lz&&Xb (a.slot o.slot))with
 |true=>
  rw[hz]at e;simp only[cond_true,j5,y6]at e;obtain⟨rfl,rfl⟩:=e;exact⟨O,f,r,λ_ _=>rfl,rfl,rfl,rfl,λ_=> .inl rfl⟩
 |false=>
  rw[hz]at e;exact cu4 e f r
 .exact cX4 e f r
def Ry: ∀{l:aaO} {a a':Fr} {h h':Heap} {act:Act} {O:cj},wt l a h=some (a',h')->cS O I a act->HR O I K w0 h w-> ∃ac,Conv I K w0 w a a' h h' act O ac (λx=> ∃o∈l,x=o.blk)
 | [],a,a',h,h',act,O,e,f,r=>by simp only[wt,j5,y6]at e;obtain⟨rfl,rfl⟩:=e;exact⟨O,f,r,λ_ _=>rfl,rfl,rfl,rfl,λ_=> .inl rfl⟩
 |o::l,a,a',h,h',act,O,e,f,r=>by
  simp only[wt]at e;split at e
  .rename_i p hp;obtain⟨aj,c1⟩:=cX5 (a':=p.1) (h':=p.2) hp f r;obtain⟨an,c2⟩:=Ry e c1.fr c1.hr;refine⟨an,c2.fr,c2.hr,λx hx=> ?_,c2.nt.trans c1.nt,c2.next.trans c1.next,c2.wm.trans c1.wm,λb=> ?_⟩;rw[c2.bij x (λ⟨o',h1,h2⟩=>hx ⟨o',.tail _ h1,h2⟩),c1.bij x (λh2=>hx ⟨o,.head _,h2⟩)]
   .rcases c2.get b with q|q|⟨o',q1,q2⟩|q
    .rcases c1.get b with z|z|z|z
     .exact .inl (q.trans z)
     exact .inr (.inl (q.trans z));exact .inr (.inr (.inl ⟨o,.head _,z⟩));exact .inr (.inr (.inr z))
    exact .inr (.inl q);exact .inr (.inr (.inl ⟨o',.tail _ q1,q2⟩));by_cases hb:b=o.blk;exact .inr (.inr (.inl ⟨o,.head _,hb⟩));exact .inr (.inr (.inr (by rw[<-c1.bij b hb];exact q)))
  cases e
def cS.layDead{a:Fr}{act:Act}(f:cS O I a act): ∀(l:uq),cS O I (Go.Ev.layDead a l) act:=by
 intro l;induction l generalizing a with
 |nil=>exact f
 |cons t l ih=>
  refine ih ⟨by rw[Fr.put_nt];exact f.size,by rw[Fr.put_nt];exact f.lim,λs _=> ?_,by rw[Fr.put_ds];exact f.defers,λp hp=>f.pcs p (by rw[Fr.put_pc]at hp;exact hp)⟩;rw[Fr.put_slot f.lim];split;simp only[VR];exact f.slot s id
def HR.upto{w:Ac}{h:Heap}(r:HR O I K w0 h w){n:Nat}(hn:h.next<=n):HR O I K w0 (h.upto n) w:=by
 have g: ∀b,(h.upto n).get b=h.get b:=λb=>Heap.get_upto _ _ _
 refine⟨λz y M hy hM=>r.blk z y M (by rw[<-g];exact hy) hM,λz z' y y' M M' hy hy' hM hM' hne hw=>r.sep z z' y y' M M' (by rw[<-g];exact hy) (by rw[<-g];exact hy') hM hM' hne (by rw[Heap.wm_upto]at hw;exact hw),
  λz hz=>r.fresh z (by rw[Heap.next_upto]at hz;omega),λz hz=>by rw[g];exact r.fget z (by rw[Heap.next_upto]at hz;omega),r.lt,r.kin,r.keep,
  λz y M hy hw hM=>r.free z y M (by rw[<-g];exact hy) (by rw[<-Heap.wm_upto h n];exact hw) hM,r.size,r.os,r.tape,r.out,r.dr⟩
def Un{s:uq}{n0:Nat}: ∀{k:Nat} {h:Heap},HR O I K w0 h w->HR O I K w0 (tf s n0 h k) w/\(tf s n0 h k).next=h.next/\(tf s n0 h k).wm=h.wm/\ ∀b,(tf s n0 h k).get b=h.get b\/(tf s n0 h k).get b=none
 |0,h,r=>⟨r,rfl,rfl,λ_=> .inl rfl⟩
 |k+1,h,r=>by
  simp only[tf];cases Bh (n0+k) s with
  |true=>exact Un r
  |false=>
   obtain⟨h1,h2,h3,h4⟩:=Un (s:=s) (n0:=n0) (k:=k) (r.drop (n0+k)).1;refine⟨h1,h2,h3,λb=> ?_⟩;rcases h4 b with q|q
   rw[Heap.get_put]at q;split at q;right;rw[show tf s n0 (bif false then h else h.put (n0+k) none) k=tf s n0 (h.put (n0+k) none) k from rfl,q];split<;>rfl;exact .inl q;exact .inr q
def cX6{sp:LSpec}{a:Fr}(r:HR O I K w0 h w):HR O I K w0 (vd sp a h) w/\(vd sp a h).next=h.next/\(vd sp a h).wm=h.wm/\ ∀b,(vd sp a h).get b=h.get b\/(vd sp a h).get b=none:=by
 unfold vd;cases sp.owns.any (λo=>o.sig.isEmpty)with
 |true=>exact Un r
 |false=>exact⟨r,rfl,rfl,λ_=> .inl rfl⟩
def Jm{sp:LSpec}{a:Fr}{act:Act}(f:cS O I a act)(r:HR O I K w0 h w): ∃ac,Conv I K w0 w a (ix sp a h).1 h (ix sp a h).2 act O ac (λx=> ∃o∈sp.owns,x=o.blk):=by
 unfold ix;obtain⟨r1,r2,r3,r4⟩:=cX6 (sp:=sp) (a:=Go.Ev.layDead a sp.dead) r;cases hc:wt sp.owns (Go.Ev.layDead a sp.dead) (vd sp (Go.Ev.layDead a sp.dead) h)with
 |none=>exact⟨O,f.layDead _,r,λ_ _=>rfl,rJ _ _,rfl,rfl,λ_=> .inl rfl⟩
 |some p=>
  obtain⟨ac,c⟩:=Ry (a':=p.1) (h':=p.2) hc (f.layDead _) r1;refine⟨ac,c.fr,c.hr,c.bij,c.nt.trans (rJ _ _),c.next.trans r2,c.wm.trans r3,λb=> ?_⟩;rcases c.get b with q|q|q|q
  rcases r4 b with z|z
  exact .inl (q.trans z);exact .inr (.inl (q.trans z));exact .inr (.inl q);exact .inr (.inr (.inl q));exact .inr (.inr (.inr q))
