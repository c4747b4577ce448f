import Derived.Test.YtipefnncbnbliaaGreatE22
set_option linter.unusedSimpArgs false
set_option linter.unusedVariables false
namespace Go.Ev
open Go
variable{v0 n nb:Nat}{es:List SX}{p:SX}{v:Value}{q:Nat->SX}
variable{O ac:bY}{I aa:Opq}{K:Nat->Prop}{w0 w:World}{h:Heap}
structure Agr (v0:Nat) (I aa:Opq):Prop where
 w: ∀n,n<v0->aa.w n=I.w n
 f:aa.f=I.f
 v:aa.v=I.v
 fix:aa.fix=I.fix
 gh:aa.gh=I.gh
theorem Ea(I:Opq)(v0:Nat)(l:List Val):Agr v0 I (I.upd v0 l):=
 ⟨λn hn=>by simp_all[Opq.upd,b9],rfl,rfl,rfl,rfl⟩
theorem uV{I:Opq}{l:List Val}{j:Nat}{x:Val}(h:l[j]? =some x):(I.upd v0 l).w (v0+j)=x:=by
 simp_all[Opq.upd,e8,j9]
mutual
theorem qw{v0:Nat}(g:Agr v0 I aa): ∀(e:SX),fA v0 e=true->bU aa e=bU I e
 | .ci n,_=>rfl
 | .cs l,_=>rfl
 | .cb x,_=>rfl
 | .va m,h=>by simp[fA]at h;exact g.w m (by simpa using h)
 | .op p l,h=>by simp[bU];rw[Vb g l h]
 | .app p l,h=>by simp[bU];rw[Vb g l h,g.f]
theorem Vb{v0:Nat}(g:Agr v0 I aa): ∀(l:List SX),qp v0 l=true->Z6 aa l=Z6 I l
 | [],_=>rfl
 |a::r,h=>by
  simp[qp,j7]at h;simp only[Z6];rw[qw g a h.1,Vb g r h.2]
end
theorem LV(g:Agr v0 I aa){e:SX}(h:fA v0 e=true):dI aa e=dI I e:=by grind[dI,qw]
theorem dz2(g:Agr v0 I aa){e:SX}(h:fA v0 e=true):dS aa e=dS I e:=by grind[dS,qw]
theorem dz3(g:Agr v0 I aa){e:SX}(h:fA v0 e=true):dB aa e=dB I e:=by grind[dB,qw]
theorem NN(I:Opq): ∀a b:List SX,Z6 I (a++b)=Z6 I a++Z6 I b
 | [],b=>rfl
 |x::a,b=>by simp[List.cons_append,Z6,NN I a b]
theorem WS(I:Opq): ∀a:List SX,(Z6 I a).length=a.length
 | []=>rfl
 |x::a=>by simp[Z6,List.length_cons,WS I a]
mutual
theorem uK{v0 nb:Nat}(g:Agr v0 I aa)(hb: ∀b,b<nb->ac b=O b): ∀(x:AV) (v:Value),fj v0 nb x=true->VR O I x v->VR ac aa x v
 | .bool _,v,_,r=>r
 | .int _ _,v,_,r=>r
 | .str _,v,_,r=>r
 | .nilp,v,_,r=>r
 | .ptr b _,v,h,⟨L,e,q⟩=>⟨L,(hb b (by simp_all[fj])).trans e,q⟩
 | .glob _,v,_,r=>r
 | .nils,v,_,r=>r
 | .sl b _ _ _,v,h,⟨L,e,q⟩=>⟨L,(hb b (by simp_all[fj])).trans e,q⟩
 | .us b _ _ _,v,h,⟨L,c,e,q⟩=>⟨L,c,(hb b (by simp_all[fj])).trans e,q⟩
 | .es b _ _,v,h,⟨L,a,c,e,q⟩=>⟨L,a,c,(hb b (by simp_all[fj])).trans e,q⟩
 | .es0,v,_,r=>r
 | .nilm,v,_,r=>r
 | .map b,v,h,⟨L,e,q⟩=>⟨L,(hb b (by simp_all[fj])).trans e,q⟩
 | .nilf,v,_,r=>r
 | .func fn x y,v,h,⟨n,p,q,e,r1,r2⟩=>by
   simp[fj,j7]at h;exact⟨n,p,q,e,Bc g hb x _ h.1 r1,Bc g hb y _ h.2 r2⟩
 | .yield b,v,h,⟨L,e,q⟩=>⟨L,(hb b (by simp_all[fj])).trans e,q⟩
 | .nili,v,_,r=>r
 | .iface t x,v,h,⟨y,e,q⟩=>⟨y,e,uK g hb x y (by grind[fj]) q⟩
 | .agg l,v,h,⟨xs,e,q⟩=>⟨xs,e,Bc g hb l _ (by grind[fj]) q⟩
 | .tup l,v,h,⟨xs,e,q⟩=>⟨xs,e,Bc g hb l _ (by grind[fj]) q⟩
 | .opq n,v,_,r=>by show v=aa.v n;rw[g.v];exact r
 | .oint k e,v,h,r=>by show v= .int k (dI aa e);rw[LV g (by grind[fj])];exact r
 | .ostr e,v,h,r=>by show v= .string ⟨(dS aa e).toArray⟩;rw[dz2 g (by grind[fj])];exact r
 | .obool e,v,h,r=>by show v= .bool (dB aa e);rw[dz3 g (by grind[fj])];exact r
 | .osl b x y sz,v,h,r=>by
   simp[fj,j7,Nat.blt_eq]at h;grind[VR,LV]
 | .optr b x j sz,v,h,r=>by
   simp[fj,j7,Nat.blt_eq]at h;grind[VR,LV]
 | .ous b x sz,v,h,r=>by
   simp[fj,j7,Nat.blt_eq]at h;grind[VR,LV]
 | .atl _,v,_,r=>r
 | .any,_,_,_=>trivial
theorem Bc{v0 nb:Nat}(g:Agr v0 I aa)(hb: ∀b,b<nb->ac b=O b): ∀(l:List AV) (vs:List Value),oj v0 nb l=true->cj O I l vs->cj ac aa l vs
 | [],vs,_,r=>r
 |a::l,vs,h,⟨v,vr,e,p,q⟩=>by
  simp[oj,j7]at h;exact⟨v,vr,e,uK g hb a v h.1 p,Bc g hb l vr h.2 q⟩
end
theorem qY{x:SX}(g:Agr v0 I aa)(h:mM v0 n p x=some es)(hw: ∀j e,es[j]? =some e->aa.w (v0+(n+j))=bU I e):bU aa p=bU I x:=by
 unfold mM at h;split at h
 .rename_i m hm;obtain⟨h1,h2⟩:=W6 h;simp at h2;subst h2;unfold wk at hm;split at hm
  .obtain⟨h3,h4⟩:=W6 hm;simp at h4;rw[Z5]at h3;obtain rfl:=Z1.1 h1;have:=hw 0 x rfl;simp[bU];rw[<-this];congr 1;omega
  grind
 .grind[SX.beq_eq,qw]
theorem dM(g:Agr v0 I aa)(hb: ∀b,b<nb->ac b=O b){p x:AV}(h:(bif AV.beq p x&&fj v0 nb x then some ([]:List SX)else none)=some es)(r:VR O I x v):VR ac aa p v:=by
 grind[AV.beq_eq,uK]
theorem cM7{q x y:SX}(g:Agr v0 I aa)(h:xM v0 n p q x y=some es)(hw: ∀j e,es[j]? =some e->aa.w (v0+(n+j))=bU I e):bU aa p=bU I x/\bU aa q=bU I y:=by
 unfold xM at h;split at h
 .rename_i e1 h1;split at h
  .rename_i e2 h2;simp at h;subst h;refine⟨qY g h1 λj e hj=>hw j e ?_,qY g h2 λj e hj=> ?_⟩
   .grind
   .have:=hw (e1.length+j) e (by rw[m9 (B5 _ _),C3];exact hj);grind
  .cases h
 .cases h
theorem co9{b s:Nat}{q:SX}{x:AV}(g:Agr v0 I aa)(hb: ∀b,b<nb->ac b=O b)(h:EK v0 nb n b p q s x=some es)(hw: ∀j e,es[j]? =some e->aa.w (v0+(n+j))=bU I e)(r:VR O I x v):VR ac aa (.osl b p q s) v:=by
 unfold EK at h;split at h
 .obtain⟨h1,h2⟩:=W6 h;obtain⟨h1,h3⟩:=W5 h1;obtain⟨h1,h4⟩:=W5 h1;obtain rfl:=Z1.1 h1;obtain rfl:=Z1.1 h4;rw[dQ]at h3;obtain⟨k1,k2⟩:=cM7 g h2 hw;have k1:dI aa p=dI I _:=congrArg Val.toI k1;have k2:dI aa q=dI I _:=congrArg Val.toI k2;grind[VR]
 .cases h
theorem cp0{b s:Nat}{x:AV}(g:Agr v0 I aa)(hb: ∀b,b<nb->ac b=O b)(h:Fa v0 nb n b p s x=some es)(hw: ∀j e,es[j]? =some e->aa.w (v0+(n+j))=bU I e)(r:VR O I x v):VR ac aa (.ous b p s) v:=by
 unfold Fa at h;split at h
 .obtain⟨h1,h2⟩:=W6 h;obtain⟨h1,h3⟩:=W5 h1;obtain⟨h1,h4⟩:=W5 h1;obtain rfl:=Z1.1 h1;obtain rfl:=Z1.1 h4;rw[dQ]at h3;have k1:dI aa p=dI I _:=congrArg Val.toI (qY g h2 hw);grind[VR]
 .cases h
mutual
theorem Vn{v0 nb:Nat}(g:Agr v0 I aa)(hb: ∀b,b<nb->ac b=O b): ∀(n:Nat) (p x:AV) (es:List SX) (v:Value),cF v0 nb n p x=some es->(∀j e,es[j]? =some e->aa.w (v0+(n+j))=bU I e)->VR O I x v->VR ac aa p v
 |n,.any,x,es,v,h,hw,r=>trivial
 |n,.oint k p,x,es,v,h,hw,r=>by
  simp[cF]at h;unfold La at h;split at h
  .rename_i k' e hs;split at h
   .rename_i hk;subst hk;rw[rW hs r];show Value.int k (dI I e)= .int k (dI aa p);grind[dI,qY]
   .cases h
  .cases h
 |n,.ostr p,x,es,v,h,hw,r=>by
  simp[cF]at h;unfold uz at h;split at h
  .rename_i e hs;rw[yv hs r];show Value.string ⟨(dS I e).toArray⟩= .string ⟨(dS aa p).toArray⟩;grind[dS,qY]
  .cases h
 |n,.obool p,x,es,v,h,hw,r=>by
  simp[cF]at h;unfold uz at h;split at h
  .rename_i e hs;rw[vn hs r];show Value.bool (dB I e)= .bool (dB aa p);grind[dB,qY]
  .cases h
 |n,.agg ps,.agg xs,es,v,h,hw,r=>by
  obtain⟨ys,e,q⟩:=r;exact⟨ys,e,Rd g hb n ps xs es _ h hw q⟩
 |n,.agg ps,.bool _,es,v,h,hw,r=>by
  grind[cF,dM]
 |n,.agg ps,.int _ _,es,v,h,hw,r=>by
  grind[cF,dM]
 |n,.agg ps,.str _,es,v,h,hw,r=>by
  grind[cF,dM]
 |n,.agg ps,.nilp,es,v,h,hw,r=>by
  grind[cF,dM]
 |n,.agg ps,.ptr _ _,es,v,h,hw,r=>by
  grind[cF,dM]
 |n,.agg ps,.glob _,es,v,h,hw,r=>by
  grind[cF,dM]
 |n,.agg ps,.nils,es,v,h,hw,r=>by
  grind[cF,dM]
 |n,.agg ps,.sl _ _ _ _,es,v,h,hw,r=>by
  grind[cF,dM]
 |n,.agg ps,.us _ _ _ _,es,v,h,hw,r=>by
  grind[cF,dM]
 |n,.agg ps,.es _ _ _,es,v,h,hw,r=>by
  grind[cF,dM]
 |n,.agg ps,.es0,es,v,h,hw,r=>by
  grind[cF,dM]
 |n,.agg ps,.nilm,es,v,h,hw,r=>by
  grind[cF,dM]
 |n,.agg ps,.map _,es,v,h,hw,r=>by
  grind[cF,dM]
 |n,.agg ps,.nilf,es,v,h,hw,r=>by
  grind[cF,dM]
 |n,.agg ps,.func _ _ _,es,v,h,hw,r=>by
  grind[cF,dM]
 |n,.agg ps,.yield _,es,v,h,hw,r=>by
  grind[cF,dM]
 |n,.agg ps,.nili,es,v,h,hw,r=>by
  grind[cF,dM]
 |n,.agg ps,.iface _ _,es,v,h,hw,r=>by
  grind[cF,dM]
 |n,.agg ps,.tup _,es,v,h,hw,r=>by
  grind[cF,dM]
 |n,.agg ps,.opq _,es,v,h,hw,r=>by
  grind[cF,dM]
 |n,.agg ps,.atl _,es,v,h,hw,r=>by
  grind[cF,dM]
 |n,.agg ps,.osl _ _ _ _,es,v,h,hw,r=>by
  grind[cF,dM]
 |n,.agg ps,.optr _ _ _ _,es,v,h,hw,r=>by
  grind[cF,dM]
 |n,.agg ps,.ous _ _ _,es,v,h,hw,r=>by
  grind[cF,dM]
 |n,.agg ps,.oint _ _,es,v,h,hw,r=>by
  grind[cF,dM]
 |n,.agg ps,.ostr _,es,v,h,hw,r=>by
  grind[cF,dM]
 |n,.agg ps,.obool _,es,v,h,hw,r=>by
  grind[cF,dM]
 |n,.agg ps,.any,es,v,h,hw,r=>by
  grind[cF,dM]
 |n,.bool _,x,es,v,h,hw,r=>by
  grind[cF,dM]
 |n,.int _ _,x,es,v,h,hw,r=>by
  grind[cF,dM]
 |n,.str _,x,es,v,h,hw,r=>by
  grind[cF,dM]
 |n,.nilp,x,es,v,h,hw,r=>by
  grind[cF,dM]
 |n,.ptr _ _,x,es,v,h,hw,r=>by
  grind[cF,dM]
 |n,.glob _,x,es,v,h,hw,r=>by
  grind[cF,dM]
 |n,.nils,x,es,v,h,hw,r=>by
  grind[cF,dM]
 |n,.sl _ _ _ _,x,es,v,h,hw,r=>by
  grind[cF,dM]
 |n,.us _ _ _ _,x,es,v,h,hw,r=>by
  grind[cF,dM]
 |n,.es _ _ _,x,es,v,h,hw,r=>by
  grind[cF,dM]
 |n,.es0,x,es,v,h,hw,r=>by
  grind[cF,dM]
 |n,.nilm,x,es,v,h,hw,r=>by
  grind[cF,dM]
 |n,.map _,x,es,v,h,hw,r=>by
  grind[cF,dM]
 |n,.nilf,x,es,v,h,hw,r=>by
  grind[cF,dM]
 |n,.func _ _ _,x,es,v,h,hw,r=>by
  grind[cF,dM]
 |n,.yield _,x,es,v,h,hw,r=>by
  grind[cF,dM]
 |n,.nili,x,es,v,h,hw,r=>by
  grind[cF,dM]
 |n,.iface _ _,x,es,v,h,hw,r=>by
  grind[cF,dM]
 |n,.tup _,x,es,v,h,hw,r=>by
  grind[cF,dM]
 |n,.opq _,x,es,v,h,hw,r=>by
  grind[cF,dM]
 |n,.atl _,x,es,v,h,hw,r=>by
  grind[cF,dM]
 |n,.osl _ _ _ _,x,es,v,h,hw,r=>by
  grind[cF,co9]
 |n,.optr _ _ _ _,x,es,v,h,hw,r=>by
  grind[cF,dM]
 |n,.ous _ _ _,x,es,v,h,hw,r=>by
  grind[cF,cp0]
theorem Rd{v0 nb:Nat}(g:Agr v0 I aa)(hb: ∀b,b<nb->ac b=O b): ∀(n:Nat) (ps xs:List AV) (es:List SX) (vs:List Value),mj v0 nb n ps xs=some es->(∀j e,es[j]? =some e->aa.w (v0+(n+j))=bU I e)->cj O I xs vs->cj ac aa ps vs
 |n,[],[],es,vs,h,hw,r=>r
 |n,[],_::_,es,vs,h,hw,r=>by simp[mj]at h
 |n,_::_,[],es,vs,h,hw,r=>by simp[mj]at h
 |n,p::ps,x::xs,es,vs,h,hw,⟨v,vr,e,r1,r2⟩=>by
  simp[mj]at h;split at h
  .rename_i e1 h1;split at h
   .rename_i e2 h2;simp at h;subst h;refine⟨v,vr,e,Vn g hb n p x e1 v h1 (λj y hy=>hw j y ?_) r1,Rd g hb _ ps xs e2 vr h2 (λj y hy=> ?_) r2⟩
    .grind
    .have:=hw (e1.length+j) y (by rw[m9 (by omega)];rw[show e1.length+j-e1.length=j by omega];exact hy);grind
   .cases h
  .cases h
end
theorem Agr.symm(g:Agr v0 I aa):Agr v0 aa I:=⟨λn hn=>(g.w n hn).symm,g.f.symm,g.v.symm,g.fix.symm,g.gh.symm⟩
theorem rT{x:SX}(g:Agr v0 I aa)(h:mM v0 n p x=some es)(hq: ∀j e,es[j]? =some e->bU I (q (n+j))=aa.w (v0+(n+j))):bU I (ed v0 q p)=bU aa p:=by
 unfold mM at h;unfold ed;split at h
 .rename_i m hm;obtain⟨h1,h2⟩:=W6 h;simp at h2;subst h2;unfold wk at hm;split at hm
  .obtain⟨h3,h4⟩:=W6 hm;simp at h4;rw[Z5]at h3;obtain rfl:=Z1.1 h1;have:=hq 0 x rfl;rw[show m=m+0 from rfl,this];congr 1;omega
  grind
 .grind[SX.beq_eq,qw]
theorem iy(g:Agr v0 I aa){p x:AV}(hp:pj v0 q p=p)(h:(bif AV.beq p x&&fj v0 nb x then some ([]:List SX)else none)=some es)(r:VR O aa p v):VR O I (pj v0 q p) v:=by
 obtain⟨h1,_⟩:=W6 h;obtain⟨h2,h3⟩:=W5 h1;rw[hp];rw[<-AV.beq_eq _ _ h2]at h3;exact uK (ac:=O) g.symm (λ_ _=>rfl) p v h3 r
theorem cp2{q x y:SX}{f:Nat->SX}(g:Agr v0 I aa)(h:xM v0 n p q x y=some es)(hq: ∀j e,es[j]? =some e->bU I (f (n+j))=aa.w (v0+(n+j))):bU I (ed v0 f p)=bU aa p/\bU I (ed v0 f q)=bU aa q:=by
 unfold xM at h;split at h
 .rename_i e1 h1;split at h
  .rename_i e2 h2;simp at h;subst h;refine⟨rT g h1 λj e hj=>hq j e ?_,rT g h2 λj e hj=> ?_⟩
   .grind
   .have:=hq (e1.length+j) e (by rw[m9 (B5 _ _),C3];exact hj);grind
  .cases h
 .cases h
mutual
theorem bU1{v0 nb:Nat}{q:Nat->SX}(g:Agr v0 I aa): ∀(n:Nat) (p x:AV) (es:List SX) (v:Value),cF v0 nb n p x=some es->(∀j e,es[j]? =some e->bU I (q (n+j))=aa.w (v0+(n+j)))->VR O aa p v->VR O I (pj v0 q p) v
 |n,.any,x,es,v,h,hw,r=>trivial
 |n,.oint k p,x,es,v,h,hw,r=>by
  simp[cF]at h;unfold La at h;split at h
  .split at h
   .show v= .int k (dI I (ed v0 q p));unfold dI;rw[rT g h hw];exact r
   .cases h
  .cases h
 |n,.ostr p,x,es,v,h,hw,r=>by
  simp[cF]at h;unfold uz at h;split at h
  .show v= .string ⟨(dS I (ed v0 q p)).toArray⟩;unfold dS;rw[rT g h hw];exact r
  .cases h
 |n,.obool p,x,es,v,h,hw,r=>by
  simp[cF]at h;unfold uz at h;split at h
  .show v= .bool (dB I (ed v0 q p));unfold dB;rw[rT g h hw];exact r
  .cases h
 |n,.agg ps,.agg xs,es,v,h,hw,r=>by
  obtain⟨ys,e,r1⟩:=r;exact⟨ys,e,Qt g n ps xs es _ h hw r1⟩
 |n,.agg ps,.bool _,es,v,h,hw,r=>by
  simp_all[cF,AV.beq,l6,cond_false]
 |n,.agg ps,.int _ _,es,v,h,hw,r=>by
  simp_all[cF,AV.beq,l6,cond_false]
 |n,.agg ps,.str _,es,v,h,hw,r=>by
  simp_all[cF,AV.beq,l6,cond_false]
 |n,.agg ps,.nilp,es,v,h,hw,r=>by
  simp_all[cF,AV.beq,l6,cond_false]
 |n,.agg ps,.ptr _ _,es,v,h,hw,r=>by
  simp_all[cF,AV.beq,l6,cond_false]
 |n,.agg ps,.glob _,es,v,h,hw,r=>by
  simp_all[cF,AV.beq,l6,cond_false]
 |n,.agg ps,.nils,es,v,h,hw,r=>by
  simp_all[cF,AV.beq,l6,cond_false]
 |n,.agg ps,.sl _ _ _ _,es,v,h,hw,r=>by
  simp_all[cF,AV.beq,l6,cond_false]
 |n,.agg ps,.us _ _ _ _,es,v,h,hw,r=>by
  simp_all[cF,AV.beq,l6,cond_false]
 |n,.agg ps,.es _ _ _,es,v,h,hw,r=>by
  simp_all[cF,AV.beq,l6,cond_false]
 |n,.agg ps,.es0,es,v,h,hw,r=>by
  simp_all[cF,AV.beq,l6,cond_false]
 |n,.agg ps,.nilm,es,v,h,hw,r=>by
  simp_all[cF,AV.beq,l6,cond_false]
 |n,.agg ps,.map _,es,v,h,hw,r=>by
  simp_all[cF,AV.beq,l6,cond_false]
 |n,.agg ps,.nilf,es,v,h,hw,r=>by
  simp_all[cF,AV.beq,l6,cond_false]
 |n,.agg ps,.func _ _ _,es,v,h,hw,r=>by
  simp_all[cF,AV.beq,l6,cond_false]
 |n,.agg ps,.yield _,es,v,h,hw,r=>by
  simp_all[cF,AV.beq,l6,cond_false]
 |n,.agg ps,.nili,es,v,h,hw,r=>by
  simp_all[cF,AV.beq,l6,cond_false]
 |n,.agg ps,.iface _ _,es,v,h,hw,r=>by
  simp_all[cF,AV.beq,l6,cond_false]
 |n,.agg ps,.tup _,es,v,h,hw,r=>by
  simp_all[cF,AV.beq,l6,cond_false]
 |n,.agg ps,.opq _,es,v,h,hw,r=>by
  simp_all[cF,AV.beq,l6,cond_false]
 |n,.agg ps,.atl _,es,v,h,hw,r=>by
  simp_all[cF,AV.beq,l6,cond_false]
 |n,.agg ps,.osl _ _ _ _,es,v,h,hw,r=>by
  simp_all[cF,AV.beq,l6,cond_false]
 |n,.agg ps,.optr _ _ _ _,es,v,h,hw,r=>by
  simp_all[cF,AV.beq,l6,cond_false]
 |n,.agg ps,.ous _ _ _,es,v,h,hw,r=>by
  simp_all[cF,AV.beq,l6,cond_false]
 |n,.agg ps,.oint _ _,es,v,h,hw,r=>by
  simp_all[cF,AV.beq,l6,cond_false]
 |n,.agg ps,.ostr _,es,v,h,hw,r=>by
  simp_all[cF,AV.beq,l6,cond_false]
 |n,.agg ps,.obool _,es,v,h,hw,r=>by
  simp_all[cF,AV.beq,l6,cond_false]
 |n,.agg ps,.any,es,v,h,hw,r=>by
  simp_all[cF,AV.beq,l6,cond_false]
 |n,.bool _,x,es,v,h,hw,r=>by
  exact iy g rfl h r
 |n,.int _ _,x,es,v,h,hw,r=>by
  exact iy g rfl h r
 |n,.str _,x,es,v,h,hw,r=>by
  exact iy g rfl h r
 |n,.nilp,x,es,v,h,hw,r=>by
  exact iy g rfl h r
 |n,.ptr _ _,x,es,v,h,hw,r=>by
  exact iy g rfl h r
 |n,.glob _,x,es,v,h,hw,r=>by
  exact iy g rfl h r
 |n,.nils,x,es,v,h,hw,r=>by
  exact iy g rfl h r
 |n,.sl _ _ _ _,x,es,v,h,hw,r=>by
  exact iy g rfl h r
 |n,.us _ _ _ _,x,es,v,h,hw,r=>by
  exact iy g rfl h r
 |n,.es _ _ _,x,es,v,h,hw,r=>by
  exact iy g rfl h r
 |n,.es0,x,es,v,h,hw,r=>by
  exact iy g rfl h r
 |n,.nilm,x,es,v,h,hw,r=>by
  exact iy g rfl h r
 |n,.map _,x,es,v,h,hw,r=>by
  exact iy g rfl h r
 |n,.nilf,x,es,v,h,hw,r=>by
  exact iy g rfl h r
 |n,.func _ _ _,x,es,v,h,hw,r=>by
  exact iy g rfl h r
 |n,.yield _,x,es,v,h,hw,r=>by
  simp[cF]at h;exact iy g rfl h r
 |n,.nili,x,es,v,h,hw,r=>by
  exact iy g rfl h r
 |n,.iface _ _,x,es,v,h,hw,r=>by
  exact iy g rfl h r
 |n,.tup _,x,es,v,h,hw,r=>by
  exact iy g rfl h r
 |n,.opq _,x,es,v,h,hw,r=>by
  exact iy g rfl h r
 |n,.atl _,x,es,v,h,hw,r=>by
  exact iy g rfl h r
 |n,.osl _ _ _ _,x,es,v,h,hw,r=>by
  simp[cF]at h;unfold EK at h;split at h
  .obtain⟨_,h2⟩:=W6 h;obtain⟨k1,k2⟩:=cp2 g h2 hw;grind[VR,pj,dI]
  .cases h
 |n,.optr _ _ _ _,x,es,v,h,hw,r=>by
  exact iy g rfl h r
 |n,.ous _ _ _,x,es,v,h,hw,r=>by
  simp[cF]at h;unfold Fa at h;split at h
  .obtain⟨_,h2⟩:=W6 h;have k1:=congrArg Val.toI (rT g h2 hw);grind[VR,pj,dI]
  .cases h
theorem Qt{v0 nb:Nat}{q:Nat->SX}(g:Agr v0 I aa): ∀(n:Nat) (ps xs:List AV) (es:List SX) (vs:List Value),mj v0 nb n ps xs=some es->(∀j e,es[j]? =some e->bU I (q (n+j))=aa.w (v0+(n+j)))->cj O aa ps vs->cj O I (Ce v0 q ps) vs
 |n,[],[],es,vs,h,hw,r=>r
 |n,[],_::_,es,vs,h,hw,r=>by simp[mj]at h
 |n,_::_,[],es,vs,h,hw,r=>by simp[mj]at h
 |n,p::ps,x::xs,es,vs,h,hw,⟨v,vr,e,r1,r2⟩=>by
  simp[mj]at h;split at h
  .rename_i e1 h1;split at h
   .rename_i e2 h2;simp at h;subst h;refine⟨v,vr,e,bU1 g n p x e1 v h1 (λj y hy=>hw j y ?_) r1,Qt g _ ps xs e2 vr h2 (λj y hy=> ?_) r2⟩
    .grind
    .have:=hw (e1.length+j) y (by rw[m9 (by omega)];rw[show e1.length+j-e1.length=j by omega];exact hy);grind
   .cases h
  .cases h
end
theorem kO: ∀{a b:List CT},gj a b=true->a=b
 | [],[],_=>rfl
 | [],_::_,h=>by cases h
 |_::_,[],h=>by cases h
 |a::x,b::y,h=>by
  simp[gj,j7,decide_eq_true_eq]at h;rw[h.1,kO h.2]
theorem Wa{v0 nb:Nat}: ∀{a b:List Ent},yY v0 nb a b=true->a=b
 | [],[],_=>rfl
 | [],_::_,h=>by cases h
 |_::_,[],h=>by cases h
 |⟨ka,va,ba⟩::x,⟨kb,vb,bb⟩::y,h=>by
  simp[yY,j7,I2]at h;obtain⟨⟨⟨⟨⟨h1,h2⟩,h3⟩,h4⟩,h5⟩,h6⟩:=h;rw[AV.beq_eq _ _ h1,AV.beq_eq _ _ h2,h3,Wa h6]
theorem LY{v0 nb:Nat}(g:Agr v0 I aa)(hb: ∀b,b<nb->ac b=O b): ∀{es es':List Ent} {m:List MapEntry},yY v0 nb es es'=true->ERs O I es' m->ERs ac aa es m
 | [],[],m,h,r=>by cases r;exact .nil
 | [],_::_,m,h,r=>by cases h
 |_::_,[],m,h,r=>by cases h
 |a::x,b::y,m,h,r=>by
  simp[yY,j7,I2]at h;obtain⟨⟨⟨⟨⟨h1,h2⟩,h3⟩,h4⟩,h5⟩,h6⟩:=h;obtain⟨ka,va,ba⟩:=a;obtain rfl:=AV.beq_eq _ _ h1;obtain rfl:=AV.beq_eq _ _ h2;subst h3;cases r with
  |cons r1 r2 r3=>exact .cons (uK g hb _ _ h4 r1) (uK g hb _ _ h5 r2) (LY g hb h6 r3)
theorem dd2(g:Agr v0 I aa)(hb: ∀b,b<nb->ac b=O b){L:Loc}{o:Option Obj}: ∀{p x:Blk} {es:List SX},oX v0 nb n p x=some es->(∀j e,es[j]? =some e->aa.w (v0+(n+j))=bU I e)->BR O I L o x->BR ac aa L o p:=by
 intro p x es h hw r;unfold oX at h;split at h
 .obtain⟨h1,h2⟩:=W6 h;obtain⟨h1,h5⟩:=W5 h1;obtain⟨h3,h4⟩:=W5 h1;obtain rfl:=Z1.1 h3;obtain rfl:=Z1.1 h4;obtain⟨C,lo,hi,vs,q1,q2,q3,q4,q5,q6,q7,q8⟩:=r;have hv:=Rd g hb n _ _ es vs h2 hw q5;have hl:=hv.length;have hl2:=q5.length;exact⟨C,lo,hi,vs,q1,q2,by omega,h5,hv,λi hi'=>q6 i (by omega),q7,by rw[g.fix];exact q8⟩
 .rename_i pp _ _ xx;obtain⟨h1,h2⟩:=W6 h;obtain⟨h3,h4⟩:=W5 h1;obtain rfl:=Z1.1 h3;obtain rfl:=kO h4;have:=qY g h2 hw;obtain⟨C,e',lo,hi,q1,q0,q2,q3,q4,q5⟩:=r;have hd:dL aa pp=dL I xx:=by grind[dL]
  exact⟨C,e',lo,hi,q1,q0,q2,by grind,by grind,q5⟩
 .obtain⟨h1,h2⟩:=W6 h;obtain⟨h3,h4⟩:=W5 h1;obtain rfl:=Z1.1 h4;obtain⟨Es,q1,q2⟩:=r;exact⟨Es,q1,LY g hb h3 q2⟩
 .obtain⟨h1,h2⟩:=W6 h;obtain⟨h5,h1⟩:=W5 h1;obtain⟨h3,h4⟩:=W5 h1;obtain rfl:=kO h3;obtain rfl:=kO h4;have:=qY g h2 hw;obtain⟨Es,c,q1,q2,q3⟩:=r;exact⟨Es,c,q1,by grind[dL],q3.weak h5⟩
 .rename_i pp _;obtain⟨h5,h⟩:=W6 h;have:=qY g h hw;obtain⟨Es,q1,q2⟩:=r;refine⟨Es,_,q1,?_⟩;have hE:Es.toList=[]:=by generalize Es.toList=z at q2;cases q2;rfl
  rw[hE,show dL aa pp=[] by unfold dL;rw[this];rfl];exact⟨rfl,(gH.nil _).weak h5⟩
 .obtain⟨h1,h2⟩:=W6 h;obtain⟨h3,h4⟩:=W5 h1;obtain rfl:=Z1.1 h3;obtain rfl:=kO h4;have:=qY g h2 hw;obtain⟨D,q,r⟩:=r;exact⟨D,by grind[dL],r⟩
 .cases h
theorem bu7{p x:Blk}(h:oX v0 nb n p x=some es):p.isArr=x.isArr:=by
 cases p<;>cases x<;>simp only[oX]at h<;>first|rfl|cases h
theorem c76{p y:Blk}(h:xY v0 q (some p)=some y):p.isArr=y.isArr:=by
 cases p<;>simp only[xY,j0]at h<;>subst h<;>rfl
theorem cM8(g:Agr v0 I aa){L:Loc}{o:Option Obj}: ∀{p x:Blk} {es:List SX},oX v0 nb n p x=some es->(∀j e,es[j]? =some e->bU I (q (n+j))=aa.w (v0+(n+j)))->BR O aa L o p-> ∃p',xY v0 q (some p)=some p'/\BR O I L o p':=by
 intro p x es h hw r;unfold oX at h;split at h
 .obtain⟨h1,h2⟩:=W6 h;obtain⟨C,lo,hi,vs,q1,q2,q3,q4,q5,q6,q7,q8⟩:=r;have hv:=Qt g n _ _ es vs h2 hw q5;have hl:=hv.length;have hl2:=q5.length;refine⟨_,rfl,C,lo,hi,vs,q1,q2,by omega,?_,hv,λi hi'=>q6 i (by omega),q7,by rw[<-g.fix];exact q8⟩;have: ∀l:List AV,l.all AV.oneA=true->(Ce v0 q l).all AV.oneA=true:=by
   intro l;induction l with
   |nil=>intro _;rfl
   |cons a l ih=>
    intro hh;simp only[List.all_cons,j7]at hh;simp only[Ce,List.all_cons,j7];refine⟨?_,ih hh.2⟩;have:=hh.1;cases a<;>simp only[pj]<;>first|exact this|rfl
  grind
 .obtain⟨h1,h2⟩:=W6 h;have:=rT g h2 hw;obtain⟨C,e',lo,hi,q1,q0,q2,q3,q4,q5⟩:=r;have hd: ∀e:SX,bU I (ed v0 q e)=bU aa e->dL I (ed v0 q e)=dL aa e:=λe he=>by grind[dL]
  exact⟨_,rfl,C,e',lo,hi,q1,q0,q2,by grind,by grind,q5⟩
 .obtain⟨h1,h2⟩:=W6 h;obtain⟨h3,h4⟩:=W5 h1;obtain⟨Es,q1,q2⟩:=r;obtain rfl:=Wa h3;exact⟨_,rfl,Es,q1,LY (O:=O) (ac:=O) g.symm (λ_ _=>rfl) h3 q2⟩
 .obtain⟨h1,h2⟩:=W6 h;have:=rT g h2 hw;obtain⟨Es,c,q1,q2⟩:=r;exact⟨_,rfl,Es,c,q1,by grind[dL,ed]⟩
 .obtain⟨h5,h⟩:=W6 h;have:=rT g h hw;obtain⟨Es,c,q1,q2⟩:=r;exact⟨_,rfl,Es,c,q1,by grind[dL,ed]⟩
 .obtain⟨h1,h2⟩:=W6 h;have:=rT g h2 hw;obtain⟨D,q0,r⟩:=r;exact⟨_,rfl,D,by grind[dL,ed],r⟩
 .cases h
end Go.Ev
namespace Go.Ev
open Go
variable{es:List SX}{v0:Nat}
variable{O ac:bY}{I aa:Opq}{K:Nat->Prop}{w0 w:World}{h:Heap}
theorem uT{x:AV}(r:VR O I x Go.undef):VR ac aa x Go.undef:=by
 cases x<;>simp only[VR,Go.undef]at r⊢ <;>first
  |exact r
  |(cases r;done)
  |(obtain⟨_,_,r⟩:=r;cases r;done)
  |(obtain⟨_,_,_,_,r⟩:=r;cases r;done)
  |(obtain⟨_,_,_,_,r,_⟩:=r;cases r;done)
  |(obtain⟨_,r⟩:=r;cases r;done)
  |(obtain⟨_,_,_,r,_⟩:=r;cases r;done)
  |(obtain⟨_,r,_⟩:=r;cases r;done)
  |(rcases r with⟨_,_,_,_,r,_⟩|⟨_,_,r,_⟩<;>(cases r;done))
  |(rcases r with⟨_,_,_,_,r,_⟩|⟨r,_⟩<;>cases r)
  |skip
 case opq n=>have:=I.one n;rw[<-r]at this;cases this
 case tup cs=>
  obtain⟨xs,e,q⟩:=r;simp at e;subst e;cases cs with
  |nil=>exact⟨#[],rfl,rfl⟩
  |cons c cs=>obtain⟨_,_,e,_⟩:=q;cases e
theorem CX: ∀(l:List (Nat×AV)) (a:Fr),(eM a l).nt=a.nt
 | [],a=>rfl
 |(t,v)::r,a=>by simp[eM];rw[CX r,Fr.put_nt]
theorem pI: ∀(l:List Nat) (a:Fr),(layDead a l).nt=a.nt
 | [],a=>rfl
 |t::r,a=>by simp[layDead];rw[pI r,Fr.put_nt]
theorem bU2: ∀(l:List (Nat×AV)) (a:Fr),(eM a l).pc=a.pc
 | [],a=>rfl
 |(t,v)::r,a=>by simp[eM];rw[bU2 r,Fr.put_pc]
theorem PP: ∀(l:List Nat) (a:Fr),(layDead a l).pc=a.pc
 | [],a=>rfl
 |t::r,a=>by simp[layDead];rw[PP r,Fr.put_pc]
theorem JH: ∀(l:List (Nat×AV)) (a:Fr),(eM a l).ds=a.ds
 | [],a=>rfl
 |(t,v)::r,a=>(JH r _).trans (Fr.put_ds _ _ _)
theorem Nf: ∀(l:List Nat) (a:Fr),(layDead a l).ds=a.ds
 | [],a=>rfl
 |t::r,a=>(Nf r _).trans (Fr.put_ds _ _ _)
theorem KG: ∀(l:List (Nat×AV)) (a:Fr),(eM a l).ro=a.ro
 | [],a=>rfl
 |(t,v)::r,a=>(KG r _).trans (Fr.put_ro _ _ _)
theorem Hv: ∀(l:List Nat) (a:Fr),(layDead a l).ro=a.ro
 | [],a=>rfl
 |t::r,a=>(Hv r _).trans (Fr.put_ro _ _ _)
theorem Cq{a:Fr}(h:sA a=true):a.ds=[]/\a.ro=none:=by
 simp_all[sA,W5,List.isEmpty_iff]
theorem Hp: ∀(l:List (Nat×AV)) (a:Fr),a.nt<=256-> ∀s,a.nt<=s->(eM a l).slot s=a.slot s
 | [],a,_,s,_=>rfl
 |(t,v)::r,a,hl,s,hs=>by
  simp[eM];rw[Hp r _ (by grind[Fr.put_nt]) s (by grind[Fr.put_nt]),Fr.put_slot hl,b9 (by omega)]
theorem Ha: ∀(l:List Nat) (a:Fr),a.nt<=256-> ∀s,a.nt<=s->(layDead a l).slot s=a.slot s
 | [],a,_,s,_=>rfl
 |t::r,a,hl,s,hs=>by
  simp[layDead];rw[Ha r _ (by grind[Fr.put_nt]) s (by grind[Fr.put_nt]),Fr.put_slot hl,b9 (by omega)]
theorem Yy(f:AV->AV): ∀(l:List (Nat×AV)) (a b:Fr) (s:Nat),a.nt<=256->b.nt=a.nt->s<a.nt->(b.slot s=f (a.slot s)\/b.slot s=a.slot s)->
 ((eM b (l.map λp=>(p.1,f p.2))).slot s=f ((eM a l).slot s))\/((eM b (l.map λp=>(p.1,f p.2))).slot s=b.slot s/\(eM a l).slot s=a.slot s)
 | [],a,b,s,_,_,_,_=> .inr ⟨rfl,rfl⟩
 |(t,v)::r,a,b,s,hl,hn,hs,h=>by
  simp[m8,eM];have e1:(a.put (some t) v).slot s=if t=s then v else a.slot s:=by rw[Fr.put_slot hl];simp[hs]
  have e2:(b.put (some t) (f v)).slot s=if t=s then f v else b.slot s:=by rw[Fr.put_slot (by omega)];simp[hn,hs]
  have:=Yy f r (a.put (some t) v) (b.put (some t) (f v)) s (by rw[Fr.put_nt];exact hl) (by rw[Fr.put_nt,Fr.put_nt,hn]) (by rw[Fr.put_nt];exact hs) (by
   rw[e1,e2];by_cases hh:t=s
   .rw[e8 hh,e8 hh];exact .inl rfl
   .rw[b9 hh,b9 hh];exact h)
  grind
@[simp]theorem Heap.get_upto(h:Heap)(n b:Nat):(h.upto n).get b=h.get b:=by rfl
@[simp]theorem Heap.next_upto(h:Heap)(n:Nat):(h.upto n).next=n:=by rfl
@[simp]theorem Heap.wm_upto(h:Heap)(n:Nat):(h.upto n).wm=h.wm:=by rfl
theorem SG: ∀(l:List (Nat×Option Blk)) (h:Heap),(gJ h l).next=h.next
 | [],h=>rfl
 |(b,x)::r,h=>by simp[gJ];rw[SG r];rfl
theorem Bf: ∀(l:List (Nat×Option Blk)) (h:Heap),(gJ h l).wm=h.wm
 | [],h=>rfl
 |(b,x)::r,h=>by simp[gJ];rw[Bf r];rfl
theorem PU: ∀(l:List (Nat×Option Blk)) (h:Heap) (s:Nat),(∀p∈l,p.1≠s)->(gJ h l).get s=h.get s
 | [],h,s,_=>rfl
 |(b,x)::r,h,s,hp=>by
  simp[gJ];rw[PU r _ s (λp hh=>hp p (.tail _ hh)),Heap.get_put,b9 (λe=>hp (b,x) (.head _) e.symm)]
theorem bb5(f:Option Blk->Option Blk)(hf:f none=none): ∀(l:List (Nat×Option Blk)) (a b:Heap) (s:Nat),(b.get s=f (a.get s)\/b.get s=a.get s)->
 ((gJ b (l.map λp=>(p.1,f p.2))).get s=f ((gJ a l).get s))\/((gJ b (l.map λp=>(p.1,f p.2))).get s=b.get s/\(gJ a l).get s=a.get s)
 | [],a,b,s,_=> .inr ⟨rfl,rfl⟩
 |(t,v)::r,a,b,s,h=>by
  simp[m8,gJ];have e1:(a.put t v).get s=if s=t then(if t<65536 then v else none)else a.get s:=Heap.get_put _ _ _ _
  have e2:(b.put t (f v)).get s=if s=t then(if t<65536 then f v else none)else b.get s:=Heap.get_put _ _ _ _
  have h2:(b.put t (f v)).get s=f ((a.put t v).get s)\/(b.put t (f v)).get s=(a.put t v).get s:=by
   rw[e1,e2];by_cases hh:s=t
   .rw[e8 hh,e8 hh];by_cases h3:t<65536
    .rw[e8 h3,e8 h3];exact .inl rfl
    .rw[b9 h3,b9 h3];exact .inr rfl
   .rw[b9 hh,b9 hh];exact h
  rcases bb5 f hf r (a.put t v) (b.put t (f v)) s h2 with q|⟨q1,q2⟩
  .exact .inl q
  grind
theorem dd3{n:Nat}{fs:List SX}{P:Nat->SX->Prop}(hw: ∀j e,(es++fs)[j]? =some e->P (n+j) e): ∀j e,es[j]? =some e->P (n+j) e:=by
 grind
theorem bU3{n:Nat}{fs:List SX}{P:Nat->SX->Prop}(hw: ∀j e,(es++fs)[j]? =some e->P (n+j) e): ∀j e,fs[j]? =some e->P (n+es.length+j) e:=by
 intro j e hj;have:=hw (es.length+j) e (by rw[m9 (by omega),show es.length+j-es.length=j by omega];exact hj);grind
theorem bU4{v0 nb:Nat}{aP a:Fr}{P:Nat->SX->Prop}: ∀{m t n:Nat} {es:List SX},Jn v0 nb aP a m t n=some es->(∀j e,es[j]? =some e->P (n+j) e)-> ∀s,t<=s->s<t+m-> ∃n' es',cF v0 nb n' (aP.slot s) (a.slot s)=some es'/\ ∀j e,es'[j]? =some e->P (n'+j) e
 |0,t,n,es,h,hw,s,h1,h2=>by omega
 |m+1,t,n,es,h,hw,s,h1,h2=>by
  simp[Jn]at h;split at h
  .split at h
   .rename_i e2 he2;simp at h;subst h;by_cases hs:s=t
    .grind
    .exact bU4 he2 (bU3 hw) s (by omega) (by omega)
   .cases h
  .cases h
theorem Xr{v0 nb:Nat}{hP h0:Heap}{P:Nat->SX->Prop}: ∀{m t n:Nat} {es:List SX},LH v0 nb hP h0 m t n=some es->(∀j e,es[j]? =some e->P (n+j) e)-> ∀s,t<=s->s<t+m-> ∃n' es',sh v0 nb n' (hP.get s) (h0.get s)=some es'/\ ∀j e,es'[j]? =some e->P (n'+j) e
 |0,t,n,es,h,hw,s,h1,h2=>by omega
 |m+1,t,n,es,h,hw,s,h1,h2=>by
  simp[LH]at h;split at h
  .split at h
   .rename_i e2 he2;simp at h;subst h;by_cases hs:s=t
    .grind
    .exact Xr he2 (bU3 hw) s (by omega) (by omega)
   .cases h
  .cases h
def bY.cut(O:bY)(n:Nat):bY:=λb=>if b<n then O b else none
theorem bU6{I:Opq}: ∀j e,es[j]? =some e->(I.upd v0 (Z6 I es)).w (v0+(0+j))=bU I e:=by
 intro j e hj;refine uV ?_;induction es generalizing j with
 |nil=>simp at hj
 |cons a r ih=>
  grind[Z6,List.getElem?_cons_succ]
structure Met (v0:Nat) (aP:Fr) (hP:Heap) (a:Fr) (h:Heap) (es:List SX):Prop where
 plP:sA aP=true
 pl:sA a=true
 nt:aP.nt=a.nt
 nx:hP.next<=h.next
 wm:hP.wm=h.wm
 sl: ∀(P:Nat->SX->Prop),(∀j e,es[j]? =some e->P (0+j) e)-> ∀s,s<a.nt-> ∃n' es',cF v0 hP.next n' (aP.slot s) (a.slot s)=some es'/\ ∀j e,es'[j]? =some e->P (n'+j) e
 hp: ∀(P:Nat->SX->Prop),(∀j e,es[j]? =some e->P (0+j) e)-> ∀s,s<hP.next-> ∃n' es',sh v0 hP.next n' (hP.get s) (h.get s)=some es'/\ ∀j e,es'[j]? =some e->P (n'+j) e
theorem Hx{aP:Fr}{hP:Heap}{a:Fr}{h:Heap}(e:sG v0 aP hP a h=some es):Met v0 aP hP a h es:=by
 obtain⟨h1,e⟩:=W6 e;obtain⟨h1,h3⟩:=W5 h1;obtain⟨h1,h2⟩:=W5 h1;obtain⟨h0,h1⟩:=W5 h1;obtain⟨h0,h00⟩:=W5 h0;rw[Z1]at h1 h3;rw[Z5]at h2;split at e
 .rename_i e1 he1;split at e
  .rename_i e2 he2;simp at e;subst e;exact⟨h0,h00,h1,h2,h3,λP hw s hs=>bU4 he1 (dd3 hw) s (r9 _) (by omega),λP hw s hs=>by
    have:=Xr (P:=P) (n:=e1.length) he2 (by grind) s (r9 _) (by omega);exact this⟩
  .cases e
 .cases e
theorem Met.fr{aP:Fr}{hP:Heap}{a:Fr}{act:Act}(m:Met v0 aP hP a h es)(hpc:aP.pc=[])(hhi: ∀s,a.nt<=s-> ∃x,aP.slot s=x/\VR O I x Go.undef)(f:du O I a act):du (O.cut hP.next) (I.upd v0 (Z6 I es)) aP act:=by
 refine⟨by rw[m.nt];exact f.size,by rw[m.nt];exact f.lim,λt _=> ?_,?_,λp hp=>by grind⟩
 rotate_left
 .have hd:=f.defers;rw[(Cq m.pl).1]at hd;rw[(Cq m.plP).1];exact hd
 by_cases ht:t<a.nt
 .obtain⟨n',es',h1,h2⟩:=m.sl (λj e=>(I.upd v0 (Z6 I es)).w (v0+j)=bU I e) bU6 t ht;exact Vn (Ea I v0 _) (λb hb=>by simp[bY.cut,hb]) n' _ _ es' _ h1 h2 (f.slot t id)
 .obtain⟨x,h1,h2⟩:=hhi t (N9 ht);rw[h1,s9,C5 (by rw[f.size];omega)];exact uT h2
theorem Met.hr{aP:Fr}{hP:Heap}{a:Fr}(m:Met v0 aP hP a h es)(hfg: ∀b,hP.next<=b->hP.get b=none)(r:HR O I K w0 h w):HR (O.cut hP.next) (I.upd v0 (Z6 I es)) K w0 hP w:=by
 have key: ∀b x,hP.get b=some x->b<hP.next/\ ∃y,h.get b=some y/\(∀L o,BR O I L o y->BR (O.cut hP.next) (I.upd v0 (Z6 I es)) L o x)/\x.isArr=y.isArr:=by
  intro b x hx;have hb:b<hP.next:=by
   rcases k5 b hP.next with hh|hh
   .exact hh
   .rw[hfg b hh]at hx;cases hx
  obtain⟨n',es',h1,h2⟩:=m.hp (λj e=>(I.upd v0 (Z6 I es)).w (v0+j)=bU I e) bU6 b hb;simp[sh]at h1;grind[dd2,Ea,bY.cut,bu7]
 have cut: ∀{b L},O.cut hP.next b=some L->O b=some L:=by
  grind[bY.cut]
 refine⟨λb x L hg hb=> ?_,λb b' x x' L L' hg hg' hb hb' hne hw=> ?_,λb hb=>by simp_all[bY.cut,b9],hfg,λb L hb=>r.lt b L (cut hb),r.kin,r.keep,λb x L hg hw hb=> ?_,r.size,r.os,r.tape,r.out,r.dr⟩
 .obtain⟨_,y,h1,h2,_⟩:=key b x hg;exact h2 L _ (r.blk b y L h1 (cut hb))
 .obtain⟨_,y,h1,_,k1⟩:=key b x hg;obtain⟨_,y',h1',_,k2⟩:=key b' x' hg';exact r.sep b b' y y' L L' h1 h1' (cut hb) (cut hb') hne (by rw[<-k1,<-k2,<-m.wm];exact hw)
 .obtain⟨_,y,h1,_⟩:=key b x hg;exact r.free b y L h1 (by rw[<-m.wm];exact hw) (cut hb)
end Go.Ev
namespace Go.Ev
open Go
variable{a a':Fr}{act:Act}{o:OwnP}{c b:Nat}{h':Heap}
variable{O ac:bY}{I:Opq}{K:Nat->Prop}{w0 w:World}{h:Heap}
def bY.at_(O:bY)(b:Nat)(L:Option Loc):bY:=λx=>if x=b then L else O x
theorem oP(h:(!(Nat.beq c b))=true):c≠b:=by
 grind[Z1]
mutual
theorem wQ{b:Nat}(hb: ∀x,x≠b->ac x=O x): ∀(x:AV) (v:Value),gk b x=true->VR O I x v->VR ac I x v
 | .bool _,v,_,r=>r
 | .int _ _,v,_,r=>r
 | .str _,v,_,r=>r
 | .nilp,v,_,r=>r
 | .ptr c _,v,h,⟨L,e,q⟩=>⟨L,(hb c (oP (by grind[gk]))).trans e,q⟩
 | .glob _,v,_,r=>r
 | .nils,v,_,r=>r
 | .sl c _ _ _,v,h,⟨L,e,q⟩=>⟨L,(hb c (oP (by grind[gk]))).trans e,q⟩
 | .us c _ _ _,v,h,⟨L,cc,e,q⟩=>⟨L,cc,(hb c (oP (by grind[gk]))).trans e,q⟩
 | .es c _ _,v,h,⟨L,a,cc,e,q⟩=>⟨L,a,cc,(hb c (oP (by grind[gk]))).trans e,q⟩
 | .es0,v,_,r=>r
 | .nilm,v,_,r=>r
 | .map c,v,h,⟨L,e,q⟩=>⟨L,(hb c (oP (by grind[gk]))).trans e,q⟩
 | .nilf,v,_,r=>r
 | .func fn x y,v,h,⟨n,p,q,e,r1,r2⟩=>by
   simp[gk,j7]at h;exact⟨n,p,q,e,vt hb x _ h.1 r1,vt hb y _ h.2 r2⟩
 | .yield c,v,h,⟨L,e,q⟩=>⟨L,(hb c (oP (by grind[gk]))).trans e,q⟩
 | .nili,v,_,r=>r
 | .iface t x,v,h,⟨y,e,q⟩=>⟨y,e,wQ hb x y (by grind[gk]) q⟩
 | .agg l,v,h,⟨xs,e,q⟩=>⟨xs,e,vt hb l _ (by grind[gk]) q⟩
 | .tup l,v,h,⟨xs,e,q⟩=>⟨xs,e,vt hb l _ (by grind[gk]) q⟩
 | .opq n,v,_,r=>r
 | .oint k e,v,h,r=>r
 | .ostr e,v,h,r=>r
 | .obool e,v,h,r=>r
 | .osl c x y sz,v,h,r=>by
   grind[oP,gk,VR]
 | .optr c x j sz,v,h,r=>by
   grind[oP,gk,VR]
 | .ous c x sz,v,h,r=>by
   grind[oP,gk,VR]
 | .atl _,v,_,r=>r
 | .any,_,_,_=>trivial
theorem vt{b:Nat}(hb: ∀x,x≠b->ac x=O x): ∀(l:List AV) (vs:List Value),lS b l=true->cj O I l vs->cj ac I l vs
 | [],vs,_,r=>r
 |a::l,vs,h,⟨v,vr,e,p,q⟩=>by
  simp[lS,j7]at h;exact⟨v,vr,e,wQ hb a v h.1 p,vt hb l vr h.2 q⟩
end
theorem dd4(hb: ∀x,x≠b->ac x=O x): ∀{es:List Ent} {m:List MapEntry},(es.all λe=>gk b e.key&&gk b e.val)=true->ERs O I es m->ERs ac I es m:=by
 intro es m h r;induction r with
 |nil=>exact .nil
 |cons r1 r2 r3 ih=>
  simp only[List.all_cons,j7]at h;exact .cons (wQ hb _ _ h.1.1 r1) (wQ hb _ _ h.1.2 r2) (ih h.2)
theorem dz4(hb: ∀x,x≠b->ac x=O x){L:Loc}{o:Option Obj}{x:Blk}(h:pf b (some x)=true)(r:BR O I L o x):BR ac I L o x:=by
 cases x with
 |cells e fz cs=>
  obtain⟨C,lo,hi,vs,q1,q2,q3,q4,q5,q6⟩:=r;exact⟨C,lo,hi,vs,q1,q2,q3,q4,vt hb cs vs h q5,q6⟩
 |arr e sig l=>exact r
 |map es c=>
  obtain⟨Es,q1,q2⟩:=r;exact⟨Es,q1,dd4 hb h q2⟩
 |marr d ks vs l=>exact r
 |bag e sig l=>exact r
 |mrg it d ks vs l=>
  obtain⟨E,c,Li,q1,q2,q3⟩:=r;have:it≠b:=by rintro rfl;simp[pf]at h
  exact⟨E,c,Li,q1,by grind,q3⟩
 |mit m=>
  obtain⟨q0,Lm,q1,q2⟩:=r;have:m≠b:=by rintro rfl;simp[pf]at h
  exact⟨q0,Lm,by grind,q2⟩
 |vec cs=>
  obtain⟨C,e,lo,hi,vs,q1,q2,q3⟩:=r;exact⟨C,e,lo,hi,vs,q1,vt hb cs vs h q2,q3⟩
 |_=>cases h
theorem PD{b t:Nat}{a:Fr}: ∀{n:Nat},qM b t a n=true-> ∀s,s<n->s≠t->gk b (a.slot s)=true
 |0,_,s,hs,_=>by omega
 |n+1,h,s,hs,ht=>by
  simp[qM,j7,s7,I2]at h;by_cases e:s=n
  .grind
  .exact PD h.2 s (by omega) ht
theorem Sv{b t:Nat}{a:Fr}: ∀{n:Nat},qM b t a n=true->a.ds=[]
 |0,h=>List.isEmpty_iff.1 h
 |n+1,h=>by
  simp[qM,j7]at h;exact Sv h.2
theorem XO{b:Nat}{h0:Heap}: ∀{n:Nat},uM b h0 n=true-> ∀s,s<n->pf b (h0.get s)=true
 |0,_,s,hs=>by omega
 |n+1,h,s,hs=>by
  simp[uM,j7]at h;by_cases e:s=n
  .grind
  .exact XO h.2 s (by omega)
theorem JV{l:SX}{L:Option Loc}(hds:a.ds=[])(f:du O I a act)(r:HR O I K w0 h w)(hslot:o.slot<a.nt)(hblk:o.blk<h.next)(h65:o.blk<65536)(hnone:h.get o.blk=none)
 (hfr: ∀s,s<a.nt->s≠o.slot->gk o.blk (a.slot s)=true) (hhp: ∀z y,h.get z=some y->pf o.blk (some y)=true) (hlt: ∀M,L=some M->M.blk<w.heap.size) (hsep: ∀M x y M',L=some M->h.get x=some y->O x=some M'->M.blk≠M'.blk) (hfree: ∀M,L=some M-> ¬K M.blk)
 (hbr: ∀M,L=some M->BR O I M w.heap[M.blk]? (.arr o.elem o.sig l)) (hv: ∀u,VR O I (a.slot o.slot) u->VR (O.at_ o.blk L) I (.ous o.blk (.op .llen [l]) o.sig.length) u):
 du (O.at_ o.blk L) I (me o a h l).1 act/\HR (O.at_ o.blk L) I K w0 (me o a h l).2 w:=by
 have hb: ∀x,x≠o.blk->(O.at_ o.blk L) x=O x:=λx hx=>by simp_all[bY.at_,b9]
 have hb0:(O.at_ o.blk L) o.blk=L:=by simp[bY.at_]
 have eD: ∀z,(h.put o.blk (some (.arr o.elem o.sig l))).get z=if z=o.blk then some (.arr o.elem o.sig l)else h.get z:=λz=>by rw[Heap.get_put,e8 h65]
 constructor
 .refine⟨by show act.tmps.size=(a.put _ _).nt;rw[Fr.put_nt];exact f.size,by show(a.put _ _).nt<=256;rw[Fr.put_nt];exact f.lim,λt _=> ?_,by show jw _ I (a.put _ _).ds act.defers;rw[Fr.put_ds,hds];have:=f.defers;rw[hds]at this;exact this,λp hp=>f.pcs p (by have:(a.put (some o.slot) (.ous o.blk (.op .llen [l]) o.sig.length)).pc=a.pc:=Fr.put_pc _ _ _;rw[<-this];exact hp)⟩;show VR _ I ((a.put (some o.slot) (.ous o.blk (.op .llen [l]) o.sig.length)).slot t) _;rw[Fr.put_slot f.lim];by_cases ht:t=o.slot
  .subst ht;rw[e8 ⟨rfl,hslot⟩];exact hv _ (f.slot _ id)
  .rw[b9 (λhh=>ht (by grind))];by_cases hn:t<a.nt
   .exact wQ hb _ _ (hfr t hn ht) (f.slot t id)
   .have:=f.slot t id;rw[s9,C5 (by rw[f.size];omega)]at this⊢;exact uT this
 .have key: ∀z y,(h.put o.blk (some (.arr o.elem o.sig l))).get z=some y->(z=o.blk/\y= .arr o.elem o.sig l)\/(z≠o.blk/\h.get z=some y):=by
   grind
  refine⟨λz y M hy hM=> ?_,λz z' y y' M M' hy hy' hM hM' hne hw=> ?_,λz hz=> ?_,λz hz=> ?_,λz M hM=> ?_,r.kin,r.keep,λz y M hy hw hM=> ?_,r.size,r.os,r.tape,r.out,r.dr⟩
  .rcases key z y hy with⟨rfl,rfl⟩|⟨hz,hy⟩
   .rw[hb0]at hM;exact hbr M hM
   .rw[hb z hz]at hM;exact dz4 hb (hhp z y hy) (r.blk z y M hy hM)
  .rcases key z y hy with⟨rfl,rfl⟩|⟨hz,hy⟩
   .rcases key z' y' hy' with⟨rfl,_⟩|⟨hz',hy'⟩
    .exact absurd rfl hne
    grind
   .rw[hb z hz]at hM;rcases key z' y' hy' with⟨rfl,rfl⟩|⟨hz',hy'⟩
    .grind
    .rw[hb z' hz']at hM';exact r.sep z z' y y' M M' hy hy' hM hM' hne hw
  .have hz:h.next<=z:=hz
   rw[hb z (by omega)];exact r.fresh z hz
  .have hz:h.next<=z:=hz
   show(h.put o.blk (some (.arr o.elem o.sig l))).get z=none;rw[eD,b9 (by omega)];exact r.fget z hz
  .by_cases hz:z=o.blk
   .grind
   .rw[hb z hz]at hM;exact r.lt z M hM
  .rcases key z y hy with⟨rfl,rfl⟩|⟨hz,hy⟩
   .grind
   .rw[hb z hz]at hM;exact r.free z y M hy hw hM
structure Conv (I:Opq) (K:Nat->Prop) (w0 w:World) (a a':Fr) (h h':Heap) (act:Act) (O ac:bY) (P:Nat->Prop):Prop where
 fr:du ac I a' act
 hr:HR ac I K w0 h' w
 bij: ∀x,¬P x->ac x=O x
 nt:a'.nt=a.nt
 next:h'.next=h.next
 wm:h'.wm=h.wm
 get: ∀b,h'.get b=h.get b\/h'.get b=none\/P b\/O b≠none
theorem bU8{len l:SX}(h:ID len l=true):dI I len=dI I (.op .llen [l]):=by
 unfold ID at h;rw[s7]at h;rcases h with h|h
 .rw[SX.beq_eq _ _ h]
 .split at h
  .rfl
  .cases h
theorem cp4(e:Ko o a h=some (a',h'))(f:du O I a act)(r:HR O I K w0 h w): ∃ac,Conv I K w0 w a a' h h' act O ac (· =o.blk):=by
 have common: ∀{c:Bool},(Nat.blt o.slot a.nt&&Nat.blt o.blk h.next&&Nat.blt o.blk 65536&&(h.get o.blk).isNone&&qM o.blk o.slot a a.nt&&uM o.blk h h.next)=true->
  a.ds=[]/\o.slot<a.nt/\o.blk<h.next/\o.blk<65536/\h.get o.blk=none/\(∀s,s<a.nt->s≠o.slot->gk o.blk (a.slot s)=true)/\(∀z y,h.get z=some y->pf o.blk (some y)=true):=by
  intro c hc;obtain⟨hc,c6⟩:=W5 hc;obtain⟨hc,c5⟩:=W5 hc;obtain⟨hc,c4⟩:=W5 hc;obtain⟨hc,c3⟩:=W5 hc;obtain⟨c1,c2⟩:=W5 hc;rw[dQ]at c1 c2 c3;refine⟨Sv c5,c1,c2,c3,by simpa using c4,PD c5,λz y hy=> ?_⟩;have hlt:z<h.next:=by
   rcases k5 z h.next with hh|hh
   .exact hh
   .rw[r.fget z hh]at hy;cases hy
  grind[XO]
 have gput: ∀(hh:Heap) (l:SX),o.blk<65536-> ∀b,(me o a hh l).2.get b=if b=o.blk then some (.arr o.elem o.sig l)else hh.get b:=by
  intro hh l hl b;show(hh.put o.blk (some (.arr o.elem o.sig l))).get b=_;rw[Heap.get_put,e8 hl]
 have bij: ∀(L:Option Loc) x,¬(x=o.blk)->(O.at_ o.blk L) x=O x:=λL x hx=>by simp_all[bY.at_,b9]
 unfold Ko at e;split at e
 .rename_i b len sz hsl;cases hq:Nat.beq b o.blk with
  |true=>
   rw[hq]at e;split at e
   .obtain⟨_,e⟩:=W6 e;obtain⟨rfl,rfl⟩:=e;exact⟨O,f,r,λ_ _=>rfl,rfl,rfl,rfl,λ_=> .inl rfl⟩
   .cases e
  |false=>
   rw[hq]at e;replace e:=W6 e;obtain⟨hc,e⟩:=e;obtain⟨hc,c7⟩:=W5 hc;rw[Z5]at c7;obtain⟨c0,c1,c2,c3,c4,c5,c6⟩:=common (c:=true) hc;split at e
   .rename_i el sig l hg;replace e:=W6 e;obtain⟨hd,e⟩:=e;obtain⟨hd,d4⟩:=W5 hd;obtain⟨hd,d3⟩:=W5 hd;obtain⟨d1,d2⟩:=W5 hd;rw[Z1]at d1 d3;have d2:=kO d2;have d4:=bU8 (I:=I) d4;simp at e;obtain⟨r1,_⟩:=r.drop b;have g1: ∀z y,(h.put b none).get z=some y->z≠b/\h.get z=some y:=by
     simp_all[Heap.get_put,e8,b9]
    have m:=JV (o:=o) (l:=l) (L:=O b) c0 f r1 c1 c2 c3 (by simp_all[Heap.get_put,b9]) c5 (λz y hy=>c6 z y (g1 z y hy).2) (λM hM=>r.lt b M hM)
     (λM x y M' hM hx hxM=>r.sep b x _ y M M' hg (g1 x y hx).2 hM hxM (g1 x y hx).1.symm (.inl c7)) (λM hM=>r.free b _ M hg c7 hM)
     (λM hM=>by rw[<-d1,<-d2];exact r.blk b _ M hg hM) (λu hu=>by
      grind[VR,bY.at_])
    rw[e]at m;have e1:a'=(me o a (h.put b none) l).1:=by rw[e]
    have e2:h'=(me o a (h.put b none) l).2:=by rw[e]
    refine⟨_,m.1,m.2,bij _,by rw[e1];exact Fr.put_nt _ _ _,by rw[e2];rfl,by rw[e2];rfl,λx=> ?_⟩;rw[e2,gput _ _ c3];by_cases hx:x=o.blk
    .omega
    .rw[b9 hx,Heap.get_put];grind
   .cases e
 .rename_i hsl;obtain⟨hc,e⟩:=W6 e;obtain⟨c0,c1,c2,c3,c4,c5,c6⟩:=common (c:=true) hc;simp at e;have m:=JV (o:=o) (l:= .op .row []) (L:=none) c0 f r c1 c2 c3 c4 c5 c6 (λM hM=>by cases hM) (λM x y M' hM=>by cases hM) (λM hM=>by cases hM) (λM hM=>by cases hM) (λu hu=>by
   rw[hsl]at hu;exact .inr ⟨hu,rfl⟩)
  rw[e]at m;have e1:a'=(me o a h (.op .row [])).1:=by rw[e]
  have e2:h'=(me o a h (.op .row [])).2:=by rw[e]
  refine⟨_,m.1,m.2,bij _,by rw[e1];exact Fr.put_nt _ _ _,by rw[e2];rfl,by rw[e2];rfl,λx=> ?_⟩;grind
 .rename_i b n sz hsl;replace e:=W6 e;obtain⟨hc,e⟩:=e;obtain⟨hc,c8⟩:=W5 hc;obtain⟨hc,c7⟩:=W5 hc;rw[Z5]at c7;rw[dQ]at c8;obtain⟨c0,c1,c2,c3,c4,c5,c6⟩:=common (c:=true) hc;split at e
  .rename_i el cs hg;replace e:=W6 e;obtain⟨hd,e⟩:=e;obtain⟨hd,d3⟩:=W5 hd;obtain⟨d1,d2⟩:=W5 hd;rw[Z1]at d1 d2 d3;split at e
   .rename_i rs hrs;simp at e;obtain⟨r1,_⟩:=r.drop b;have g1: ∀z y,(h.put b none).get z=some y->z≠b/\h.get z=some y:=by
     simp_all[Heap.get_put,e8,b9]
    have hcell: ∀M,O b=some M-> ∃C lo hi,w.heap[M.blk]? =some (.cells C el (lo,hi))/\M.off+M.ext<=C.size/\cs.length<=M.ext/\(Z6 I rs).length=n/\
     (∀i v,(cE o.sig (Z6 I rs))[i]? =some v->C[M.off+i]? =some v)/\(∀i,i<M.ext-> ¬(lo<=M.off+i/\M.off+i<hi)):=by
     intro M hM;obtain⟨C,lo,hi,vs,q1,q2,q3,q4,q5,q6,q7⟩:=r.cells hg hM;obtain⟨z1,z2⟩:=vg hrs d3 q5;have hvl:=q5.length;grind
    have m:=JV (o:=o) (l:= .op .row rs) (L:=O b) c0 f r1 c1 c2 c3 (by simp_all[Heap.get_put,b9]) c5 (λz y hy=>c6 z y (g1 z y hy).2) (λM hM=>r.lt b M hM)
     (λM x y M' hM hx hxM=>r.sep b x _ y M M' hg (g1 x y hx).2 hM hxM (g1 x y hx).1.symm (.inl c7)) (λM hM=>r.free b _ M hg c7 hM)
     (λM hM=>by
      obtain⟨C,lo,hi,q1,q2,q3,q4,q5,q6⟩:=hcell M hM;rw[<-d1];refine⟨C,_,lo,hi,q1,.inl rfl,q2,?_,q5,q6⟩;show(Z6 I rs).length*o.sig.length<=M.ext;grind) (λu hu=>by
      rw[hsl]at hu;simp only[VR]at hu⊢;obtain⟨M,cap,h1,h2,h3⟩:=hu;obtain⟨C,lo,hi,q1,q2,q3,q4,q5,q6⟩:=hcell M h1;have hn:(dI I (.op .llen [.op .row rs])).toNat=n:=by
       show(((Z6 I rs).length:Nat):Int).toNat=n;rw[q4];simp
      have hle:n<=cap:=by
       rw[d3,<-show cap*sz=M.ext by omega]at q3;exact D6 q3 c8
      grind[bY.at_])
    rw[e]at m;have e1:a'=(me o a (h.put b none) (.op .row rs)).1:=by rw[e]
    have e2:h'=(me o a (h.put b none) (.op .row rs)).2:=by rw[e]
    refine⟨_,m.1,m.2,bij _,by rw[e1];exact Fr.put_nt _ _ _,by rw[e2];rfl,by rw[e2];rfl,λx=> ?_⟩;rw[e2,gput _ _ c3];by_cases hx:x=o.blk
    .omega
    .rw[b9 hx,Heap.get_put];grind
   .cases e
  .cases e
 .rename_i b p n c hsl;replace e:=W6 e;obtain⟨hc,e⟩:=e;obtain⟨hc,c7⟩:=W5 hc;rw[Z5]at c7;obtain⟨c0,c1,c2,c3,c4,c5,c6⟩:=common (c:=true) hc;split at e
  .rename_i el fz cs hg;replace e:=W6 e;obtain⟨hd,e⟩:=e;obtain⟨hd,d4⟩:=W5 hd;obtain⟨hd,d3⟩:=W5 hd;obtain⟨d1,d2⟩:=W5 hd;rw[Z1]at d1;rw[Z5]at d2 d3 d4;split at e
   .rename_i rs hrs;simp at e;have hvr:=f.slot o.slot id;rw[hsl]at hvr;obtain⟨L,hL,hv0⟩:=hvr;obtain⟨r1,_⟩:=r.drop b;have g1: ∀z y,(h.put b none).get z=some y->z≠b/\h.get z=some y:=by
     simp_all[Heap.get_put,e8,b9]
    obtain⟨C,lo,hi,vs,q1,q2,q3,q4,q5,q6,q7⟩:=r.cells hg hL;obtain⟨z1,z2⟩:=vg hrs (by simp;have:=A2 o.sig.length d4;omega) ((q5.drop p).take (n*o.sig.length));have hns:n*o.sig.length<=c*o.sig.length:=A2 _ d4;have m:=JV (o:=o) (l:= .op .row rs) (L:=some ⟨L.blk,L.off+p,c*o.sig.length⟩) c0 f r1 c1 c2 c3 (by simp_all[Heap.get_put,b9]) c5 (λz y hy=>c6 z y (g1 z y hy).2) (λM hM=>by grind)
     (λM x y M' hM hx hxM=>by cases hM;exact r.sep b x _ y L M' hg (g1 x y hx).2 hL hxM (g1 x y hx).1.symm (.inl c7)) (λM hM=>by cases hM;exact r.free b _ L hg c7 hL)
     (λM hM=>by
      cases hM;rw[<-d1];refine⟨C,_,lo,hi,q1,.inl rfl,by grind,?_,λi v hi'=> ?_,λi hi'=> ?_⟩
      .show(Z6 I rs).length*o.sig.length<=c*o.sig.length;grind
      .have hi':(cE o.sig (Z6 I rs))[i]? =some v:=hi';grind
      .have hi':i<c*o.sig.length:=hi';have:=q7 (p+i) (by omega) (by omega);grind) (λu hu=>by
      rw[hsl]at hu;simp only[VR]at hu⊢;have hn:(dI I (.op .llen [.op .row rs])).toNat=n:=by
       show(((Z6 I rs).length:Nat):Int).toNat=n;omega
      exact .inl ⟨⟨L.blk,L.off+p,c*o.sig.length⟩,c,by simp[bY.at_],rfl,by grind,by omega⟩)
    rw[e]at m;have e1:a'=(me o a (h.put b none) (.op .row rs)).1:=by rw[e]
    have e2:h'=(me o a (h.put b none) (.op .row rs)).2:=by rw[e]
    refine⟨_,m.1,m.2,bij _,by rw[e1];exact Fr.put_nt _ _ _,by rw[e2];rfl,by rw[e2];rfl,λx=> ?_⟩;rw[e2,gput _ _ c3];by_cases hx:x=o.blk
    .omega
    .rw[b9 hx,Heap.get_put];grind
   .cases e
  .cases e
 .cases e
theorem VW{b:Nat}{y:AV}(hb: ∀x,x≠b->ac x=O x): ∀{cs:List AV} {vs:List Value} {i:Nat},cj O I cs vs->lS b (cs.set i .nils)=true->(∀x u,cs[i]? =some x->VR O I x u->VR ac I y u)->cj ac I (cs.set i y) vs
 | [],_,_,r,_,_=>r
 |a::cs,vs,0,⟨v,vr,e,p,q⟩,hn,hy=>by
  simp[List.set_cons_zero,lS,j7]at hn;exact⟨v,vr,e,hy a v rfl p,vt hb _ _ hn.2 q⟩
 |a::cs,vs,i+1,⟨v,vr,e,p,q⟩,hn,hy=>by
  simp[List.set_cons_succ,lS,j7]at hn;exact⟨v,vr,e,wQ hb _ _ hn.1 p,VW hb q hn.2 (λx u hx hu=>hy x u (by grind) hu)⟩
theorem WP{b c:Nat}{cs:List AV}{h0:Heap}: ∀{n:Nat},Mv b c cs h0 n=true->lS b cs=true/\ ∀s,s<n->s≠c->pf b (h0.get s)=true
 |0,h=>⟨h,λs hs=>by omega⟩
 |n+1,h=>by
  simp[Mv,j7,s7,I2]at h;obtain⟨h1,h2⟩:=WP h.2;grind
theorem Yj{l:SX}{L:Option Loc}{i e fz:Nat}{cs:List AV}(hds:a.ds=[])(f:du O I a act)(r:HR O I K w0 h w)(hblk:o.blk<h.next)(h65:o.blk<65536)(hnone:h.get o.blk=none)(hc:c≠o.blk)
 (hg:h.get c=some (.cells e fz cs)) (hfr: ∀s,s<a.nt->gk o.blk (a.slot s)=true) (hhp: ∀z y,z≠c->h.get z=some y->pf o.blk (some y)=true) (hcs:lS o.blk (cs.set i .nils)=true) (hlt: ∀M,L=some M->M.blk<w.heap.size) (hsep: ∀M x y M',L=some M->h.get x=some y->O x=some M'->M.blk≠M'.blk) (hfree: ∀M,L=some M-> ¬K M.blk)
 (hbr: ∀M,L=some M->BR O I M w.heap[M.blk]? (.arr o.elem o.sig l)) (hv: ∀x u,cs[i]? =some x->VR O I x u->VR (O.at_ o.blk L) I (.ous o.blk (.op .llen [l]) o.sig.length) u):
 du (O.at_ o.blk L) I a act/\HR (O.at_ o.blk L) I K w0 (sv o c i e fz cs h l) w:=by
 have hb: ∀x,x≠o.blk->(O.at_ o.blk L) x=O x:=λx hx=>by simp_all[bY.at_,b9]
 have hb0:(O.at_ o.blk L) o.blk=L:=by simp[bY.at_]
 have h65c:=Heap.get_lim h c _ hg;have hcn:c<h.next:=by
  rcases k5 c h.next with hh|hh
  .exact hh
  .rw[r.fget c hh]at hg;cases hg
 have eD: ∀z,(sv o c i e fz cs h l).get z=if z=o.blk then some (.arr o.elem o.sig l)else if z=c then some (.cells e fz (cs.set i (.ous o.blk (.op .llen [l]) o.sig.length)))else h.get z:=λz=>by
  simp_all[sv,Heap.get_put,e8]
 constructor
 .refine⟨f.size,f.lim,λt _=> ?_,by have:=f.defers;rw[hds]at this⊢;exact this,f.pcs⟩;by_cases hn:t<a.nt
  .exact wQ hb _ _ (hfr t hn) (f.slot t id)
  .have:=f.slot t id;rw[s9,C5 (by rw[f.size];omega)]at this⊢;exact uT this
 .have key: ∀z y,(sv o c i e fz cs h l).get z=some y->(z=o.blk/\y= .arr o.elem o.sig l)\/(z≠o.blk/\ ∃y',h.get z=some y'/\y'.isArr=y.isArr/\ ∀M,O z=some M->BR O I M w.heap[M.blk]? y'->BR (O.at_ o.blk L) I M w.heap[M.blk]? y):=by
   intro z y hy;rw[eD]at hy;by_cases hz:z=o.blk
   .grind
   .rw[b9 hz]at hy;refine .inr ⟨hz,?_⟩;by_cases hzc:z=c
    .subst hzc;simp at hy;subst hy;refine⟨_,hg,rfl,λM hM hbr'=> ?_⟩;obtain⟨C,lo,hi,vs,q1,q2,q3,q4,q5,q6⟩:=hbr';refine⟨C,lo,hi,vs,q1,q2,by grind,?_,VW hb q5 hcs hv,by grind⟩;rw[k6]at q4⊢;intro x hx;rcases U7 hx with q|rfl
     .grind
     .rfl
    .grind[dz4]
  refine⟨λz y M hy hM=> ?_,λz z' y y' M M' hy hy' hM hM' hne hw=> ?_,λz hz=> ?_,λz hz=> ?_,λz M hM=> ?_,r.kin,r.keep,λz y M hy hw hM=> ?_,r.size,r.os,r.tape,r.out,r.dr⟩
  .rcases key z y hy with⟨rfl,rfl⟩|⟨hz,y0,hy0,_,hk⟩
   .rw[hb0]at hM;exact hbr M hM
   .rw[hb z hz]at hM;exact hk M hM (r.blk z y0 M hy0 hM)
  .rcases key z y hy with⟨rfl,rfl⟩|⟨hz,y0,hy0,k1,_⟩
   .grind
   .rw[hb z hz]at hM;rcases key z' y' hy' with⟨rfl,rfl⟩|⟨hz',y0',hy0',k2,_⟩
    .grind
    .rw[hb z' hz']at hM';exact r.sep z z' y0 y0' M M' hy0 hy0' hM hM' hne (by rw[k1,k2];exact hw)
  .have hz:h.next<=z:=hz
   rw[hb z (by omega)];exact r.fresh z hz
  .have hz:h.next<=z:=hz
   rw[eD,b9 (by omega),b9 (by omega)];exact r.fget z hz
  .by_cases hz:z=o.blk
   .grind
   .rw[hb z hz]at hM;exact r.lt z M hM
  .rcases key z y hy with⟨rfl,rfl⟩|⟨hz,y0,hy0,_⟩
   .grind
   .rw[hb z hz]at hM;exact r.free z y0 M hy0 hw hM
theorem cM9{x:AV}{v:Value}(h:Nl c x=true)(r:VR O I x v):O c≠none:=by
 unfold Nl at h;split at h
 .obtain rfl:=Z1.1 h;obtain⟨L,hL,_⟩:=r;grind
 .cases h
theorem cN0{x:Option AV}(h:Oc b x=true): ∃len sz,x=some (.ous b len sz):=by
 unfold Oc at h;grind[Z1]
theorem cN1{i:Nat}(e:OY o c i a h=some (a',h'))(f:du O I a act)(r:HR O I K w0 h w): ∃ac,Conv I K w0 w a a' h h' act O ac (· =o.blk):=by
 have bij: ∀(L:Option Loc) x,¬(x=o.blk)->(O.at_ o.blk L) x=O x:=λL x hx=>by simp_all[bY.at_,b9]
 unfold OY at e;split at e
 .rename_i e0 fz cs hg;obtain⟨hc,e⟩:=W6 e;obtain⟨hc,hc2⟩:=W5 hc;obtain⟨hc,hi⟩:=W5 hc;obtain⟨hp,hs⟩:=W5 hc;have aF:=cM9 hp (f.slot o.slot id);rw[s7]at hc2;have same:(a',h')=(a,h)-> ∃ac,Conv I K w0 w a a' h h' act O ac (· =o.blk):=by
   intro hh;obtain⟨rfl,rfl⟩:=hh;exact⟨O,f,r,λ_ _=>rfl,rfl,rfl,rfl,λ_=> .inl rfl⟩
  rcases hc2 with hown|hc2
  .obtain⟨len,sz,hx⟩:=cN0 hown;unfold NV at e;rw[hx]at e;simp at e;grind
  .obtain⟨hc2,c6⟩:=W5 hc2;obtain⟨hc2,c5⟩:=W5 hc2;obtain⟨hc2,c4⟩:=W5 hc2;obtain⟨hc2,c3⟩:=W5 hc2;obtain⟨c1,c2⟩:=W5 hc2;rw[dQ]at c1 c2;have c3:h.get o.blk=none:=by simp_all
   have c4:=oP c4;have hfr: ∀s,s<a.nt->gk o.blk (a.slot s)=true:=λs hs=>PD c5 s hs (by omega)
   obtain⟨hcs,hhp0⟩:=WP c6;have hhp: ∀z y,z≠c->h.get z=some y->pf o.blk (some y)=true:=λz y hz hy=>by
    have hlt:z<h.next:=by
     rcases k5 z h.next with hh|hh
     .exact hh
     .rw[r.fget z hh]at hy;cases hy
    grind
   have hds:=Sv c5;have drop: ∀(b:Nat) (l:SX),b≠c->h.wm<=b->(∃y,h.get b=some y)->(∀M,O b=some M->BR O I M w.heap[M.blk]? (.arr o.elem o.sig l))->
    (∀x u,cs[i]? =some x->VR O I x u->VR (O.at_ o.blk (O b)) I (.ous o.blk (.op .llen [l]) o.sig.length) u)->(a',h')=(a,sv o c i e0 fz cs (h.put b none) l)-> ∃ac,Conv I K w0 w a a' h h' act O ac (· =o.blk):=by
    intro b l hbc hwm hy0 hbr hv hh;obtain⟨y0,hy0⟩:=hy0;obtain⟨rfl,rfl⟩:=hh;obtain⟨r1,_⟩:=r.drop b;have g1: ∀z y,(h.put b none).get z=some y->z≠b/\h.get z=some y:=by
     intro z y hy;rw[Heap.get_put]at hy;by_cases hz:z=b
     .rw[e8 hz]at hy;split at hy<;>cases hy
     .rw[b9 hz]at hy;exact⟨hz,hy⟩
    have hbn:o.blk≠b:=λhh=>by rw[hh]at c3;rw[c3]at hy0;cases hy0
    have m:=Yj (o:=o) (l:=l) (L:=O b) (i:=i) hds f r1 c1 c2 (by rw[Heap.get_put,b9 hbn];exact c3) c4 (by rw[Heap.get_put,b9 (Ne.symm hbc)];exact hg) hfr (λz y hz hy=>hhp z y hz (g1 z y hy).2) hcs
     (λM hM=>r.lt b M hM) (λM x y M' hM hx hxM=>r.sep b x _ y M M' hy0 (g1 x y hx).2 hM hxM (g1 x y hx).1.symm (.inl hwm)) (λM hM=>r.free b _ M hy0 hwm hM) hbr hv
    refine⟨_,m.1,m.2,bij _,rfl,rfl,rfl,λx=> ?_⟩;unfold sv;rw[Heap.get_put,e8 c2,Heap.get_put,Heap.get_put];grind
   unfold NV at e;split at e
   .rename_i b len sz hx;cases hq:Nat.beq b o.blk with
    |true=>
     grind
    |false=>
     rw[hq]at e;obtain⟨hd,e⟩:=W6 e;obtain⟨c7,c8⟩:=W5 hd;rw[Z5]at c7;have c8:=oP c8;split at e
     .rename_i el sig l hgb;obtain⟨hd,e⟩:=W6 e;obtain⟨hd,d4⟩:=W5 hd;obtain⟨hd,d3⟩:=W5 hd;obtain⟨d1,d2⟩:=W5 hd;rw[Z1]at d1 d3;have d2:=kO d2;have d4:=bU8 (I:=I) d4;simp only[j0]at e;refine drop b l c8 c7 ⟨_,hgb⟩ (λM hM=>by rw[<-d1,<-d2];exact r.blk b _ M hgb hM) (λx u hxi hu=> ?_) e.symm;grind[Option.some.injEq,VR,bY.at_]
     .cases e
   .rename_i hx;obtain⟨rfl,rfl⟩:=e;have m:=Yj (o:=o) (l:= .op .row []) (L:=none) (i:=i) hds f r c1 c2 c3 c4 hg hfr hhp hcs (λM hM=>by cases hM) (λM x y M' hM=>by cases hM) (λM hM=>by cases hM) (λM hM=>by cases hM) (λx u hxi hu=>by
     rw[hx,j0]at hxi;subst hxi;exact .inr ⟨hu,rfl⟩)
    refine⟨_,m.1,m.2,bij _,rfl,rfl,rfl,λx=> ?_⟩;unfold sv;rw[Heap.get_put,e8 c2,Heap.get_put];grind
   .rename_i b n sz hx;obtain⟨hd,e⟩:=W6 e;obtain⟨hd,c9⟩:=W5 hd;obtain⟨c7,c8⟩:=W5 hd;rw[Z5]at c7;rw[dQ]at c8;have c9:=oP c9;split at e
    .rename_i el ds hgb;obtain⟨hd,e⟩:=W6 e;obtain⟨hd,d3⟩:=W5 hd;obtain⟨d1,d2⟩:=W5 hd;rw[Z1]at d1 d2 d3;split at e
     .rename_i rs hrs;simp only[j0]at e;have hcell: ∀M,O b=some M-> ∃C lo hi,w.heap[M.blk]? =some (.cells C el (lo,hi))/\M.off+M.ext<=C.size/\ds.length<=M.ext/\(Z6 I rs).length=n/\
       (∀i v,(cE o.sig (Z6 I rs))[i]? =some v->C[M.off+i]? =some v)/\(∀i,i<M.ext-> ¬(lo<=M.off+i/\M.off+i<hi)):=by
       intro M hM;obtain⟨C,lo,hi,vs,q1,q2,q3,q4,q5,q6,q7⟩:=r.cells hgb hM;obtain⟨z1,z2⟩:=vg hrs d3 q5;have hvl:=q5.length;grind
      refine drop b (.op .row rs) c9 c7 ⟨_,hgb⟩ (λM hM=> ?_) (λx u hxi hu=> ?_) e.symm
      .obtain⟨C,lo,hi,q1,q2,q3,q4,q5,q6⟩:=hcell M hM;rw[<-d1];refine⟨C,_,lo,hi,q1,.inl rfl,q2,?_,q5,q6⟩;show(Z6 I rs).length*o.sig.length<=M.ext;grind
      .rw[hx,j0]at hxi;subst hxi;simp only[VR]at hu⊢;obtain⟨M,cap,h1,h2,h3⟩:=hu;obtain⟨C,lo,hi,q1,q2,q3,q4,q5,q6⟩:=hcell M h1;have hn:(dI I (.op .llen [.op .row rs])).toNat=n:=by
        show(((Z6 I rs).length:Nat):Int).toNat=n;rw[q4];simp
       have hle:n<=cap:=by
        rw[d3,<-show cap*sz=M.ext by omega]at q3;exact D6 q3 c8
       grind[bY.at_]
     .cases e
    .cases e
   .cases e
 .cases e
theorem cN2(o:OwnP)(a:Fr)(r:HR O I K w0 h w):HR O I K w0 (yg o a h) w/\(yg o a h).next=h.next/\(yg o a h).wm=h.wm/\ ∀b,b≠o.blk->(yg o a h).get b=h.get b:=by
 unfold yg;split
 .cases (Nat.beq _ o.blk||(h.get o.blk).isNone)with
  |true=>exact⟨r,rfl,rfl,λ_ _=>rfl⟩
  |false=>
   refine⟨(r.drop o.blk).1,rfl,rfl,λb hb=> ?_⟩;show(h.put o.blk none).get b=_;rw[Heap.get_put,b9 hb]
 grind
theorem cp7(e:Ko o a (yg o a h)=some (a',h'))(f:du O I a act)(r:HR O I K w0 h w): ∃ac,Conv I K w0 w a a' h h' act O ac (· =o.blk):=by
 obtain⟨r1,r2,r3,r4⟩:=cN2 o a r;obtain⟨ac,c⟩:=cp4 e f r1;refine⟨ac,c.fr,c.hr,c.bij,c.nt,c.next.trans r2,c.wm.trans r3,λb=> ?_⟩;by_cases hb:b=o.blk
 .omega
 .rcases c.get b with q|q|q|q
  .exact .inl (q.trans (r4 b hb))
  .exact .inr (.inl q)
  .exact .inr (.inr (.inl q))
  grind
theorem cN3(e:Pn o a h=some (a',h'))(f:du O I a act)(r:HR O I K w0 h w): ∃ac,Conv I K w0 w a a' h h' act O ac (· =o.blk):=by
 unfold Pn at e;split at e
 .unfold Wb at e;cases hz:(o.lz&&Yb (a.slot o.slot))with
  |true=>
   rw[hz]at e;obtain⟨rfl,rfl⟩:=e;exact⟨O,f,r,λ_ _=>rfl,rfl,rfl,rfl,λ_=> .inl rfl⟩
  |false=>
   rw[hz]at e;exact cp7 e f r
 grind[cN1]
theorem QE: ∀{l:List OwnP} {a a':Fr} {h h':Heap} {act:Act} {O:bY},AK l a h=some (a',h')->du O I a act->HR O I K w0 h w-> ∃ac,Conv I K w0 w a a' h h' act O ac (λx=> ∃o∈l,x=o.blk)
 | [],a,a',h,h',act,O,e,f,r=>by
   obtain⟨rfl,rfl⟩:=e;exact⟨O,f,r,λ_ _=>rfl,rfl,rfl,rfl,λ_=> .inl rfl⟩
 |o::l,a,a',h,h',act,O,e,f,r=>by
  simp[AK]at e;split at e
  .rename_i p hp;obtain⟨aj,c1⟩:=cN3 (a':=p.1) (h':=p.2) hp f r;obtain⟨an,c2⟩:=QE e c1.fr c1.hr;refine⟨an,c2.fr,c2.hr,λx hx=> ?_,c2.nt.trans c1.nt,c2.next.trans c1.next,c2.wm.trans c1.wm,λb=> ?_⟩
   .rw[c2.bij x (λ⟨o',h1,h2⟩=>hx ⟨o',.tail _ h1,h2⟩),c1.bij x (λh2=>hx ⟨o,.head _,h2⟩)]
   .rcases c2.get b with q|q|⟨o',q1,q2⟩|q
    .rcases c1.get b with z|z|z|z
     .exact .inl (q.trans z)
     .exact .inr (.inl (q.trans z))
     .exact .inr (.inr (.inl ⟨o,.head _,z⟩))
     grind
    .grind
    .grind
    .by_cases hb:b=o.blk
     .grind
     .exact .inr (.inr (.inr (by rw[<-c1.bij b hb];exact q)))
  .cases e
theorem du.layDead(f:du O I a act): ∀(l:List Nat),du O I (Go.Ev.layDead a l) act:=by
 intro l;induction l generalizing a with
 |nil=>exact f
 |cons t l ih=>
  refine ih ⟨by rw[Fr.put_nt];exact f.size,by rw[Fr.put_nt];exact f.lim,λs _=> ?_,by rw[Fr.put_ds];exact f.defers,λp hp=>f.pcs p (by grind[Fr.put_pc])⟩;rw[Fr.put_slot f.lim];split
  .simp[VR]
  .exact f.slot s id
theorem HR.upto{w:World}{h:Heap}(r:HR O I K w0 h w){n:Nat}(hn:h.next<=n):HR O I K w0 (h.upto n) w:=by
 have g: ∀b,(h.upto n).get b=h.get b:=λb=>Heap.get_upto _ _ _
 refine⟨λz y M hy hM=>r.blk z y M (by grind) hM,λz z' y y' M M' hy hy' hM hM' hne hw=>r.sep z z' y y' M M' (by grind) (by grind) hM hM' hne (by simp_all),
  λz hz=>r.fresh z (by grind[Heap.next_upto]),λz hz=>by exact r.fget z (by grind[Heap.next_upto]),r.lt,r.kin,r.keep,
  λz y M hy hw hM=>r.free z y M (by grind) (by simp_all) hM,r.size,r.os,r.tape,r.out,r.dr⟩
theorem Lp{sp:LSpec}(f:du O I a act)(r:HR O I K w0 h w): ∃ac,Conv I K w0 w a (iH sp a h).1 h (iH sp a h).2 act O ac (λx=> ∃o∈sp.owns,x=o.blk):=by
 unfold iH;cases hc:AK sp.owns (Go.Ev.layDead a sp.dead) h with
 |none=>exact⟨O,f.layDead _,r,λ_ _=>rfl,pI _ _,rfl,rfl,λ_=> .inl rfl⟩
 |some p=>
  obtain⟨ac,c⟩:=QE (a':=p.1) (h':=p.2) hc (f.layDead _) r;exact⟨ac,c.fr,c.hr,c.bij,c.nt.trans (pI _ _),c.next,c.wm,c.get⟩
end Go.Ev
