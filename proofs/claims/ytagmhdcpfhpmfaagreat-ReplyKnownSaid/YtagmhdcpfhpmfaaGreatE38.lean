import Derived.Test.YtagmhdcpfhpmfaaGreatE37
set_option linter.unusedVariables false
set_option linter.unusedSimpArgs false
namespace Go.Ev
open Go
variable{ω ω':Opq}{β β' βF:Bij}{K:Nat→Prop}{w0 w w':World}{h h':Heap}
def U6:AV→Bool
 | .agg _=>false
 | .tup _=>false
 |_=>true
theorem M0{v:AV}(h:U6 v=true):a46 v=[v]:=by cases v<;>first|rfl|cases h
theorem d09{out v:AV}(h:U6 v=true)(hs:X0 out v=true):U6 out=true:=by
 cases out<;>first
  |rfl
  |(simp only[X0]at hs;split at hs<;>first|cases h|cases hs)
theorem a08{v:AV}{u:Value}(h:U6 v=true)(r:VR β ω v u): ∃us,VRs β ω (a46 v) us∧ ∀(β':Bij) (ω':Opq) (out:AV),X0 out v=true→VRs β' ω' (a46 out) us→VR β' ω' out u:=by
 refine⟨[u],by rw[M0 h];exact .one r,fun β' ω' out hs ho=> ?_⟩
 rw[M0 (d09 h hs)]at ho
 obtain⟨x,xr,e,p,q⟩:=ho
 simp only[s7]at e
 rw[e.1];exact p
theorem bG5: ∀{a b:List AV} {x y:List Value},a.length=x.length→VRs β ω (a++b) (x++y)→VRs β ω a x∧VRs β ω b y
 | [],b,[],y,_,r=>⟨rfl,r⟩
 | [],b,_::_,y,h,r=>by cases h
 |_::_,b,[],y,h,r=>by cases h
 |p::a,b,v::x,y,h,⟨v',vr,e,q,s⟩=>by
  simp only[List.cons_append,s7]at e
  obtain⟨rfl,rfl⟩:=e
  obtain⟨h1,h2⟩:=bG5 (by simpa using h) s
  exact⟨⟨v,x,rfl,q,h1⟩,h2⟩
theorem a09{o v:AV}(ho:U6 o=true)(h:X0 o v=true):(a46 o).length=(a46 v).length:=by
 have hv:U6 v=true:=by
  cases o<;>first
   |(exfalso;simp[U6]at ho;done)
   |(simp only[X0]at h;cases v<;>first|rfl|((cases h;done)))
 rw[M0 ho,M0 hv];rfl
mutual
theorem br4: ∀{o v:AV},X0 o v=true→(a46 o).length=(a46 v).length
 | .agg a,v,h=>by
   simp only[X0]at h
   split at h
   ·exact I6.1 h
   ·cases h
 | .tup a,v,h=>by
   simp only[X0]at h
   split at h
   ·exact bG6 h
   ·cases h
 | .bool _,v,h=>a09 rfl h
 | .int _ _,v,h=>a09 rfl h
 | .str _,v,h=>a09 rfl h
 | .nilp,v,h=>a09 rfl h
 | .ptr _ _,v,h=>a09 rfl h
 | .glob _,v,h=>a09 rfl h
 | .nils,v,h=>a09 rfl h
 | .sl _ _ _ _,v,h=>a09 rfl h
 | .us _ _ _ _,v,h=>a09 rfl h
 | .es _ _ _,v,h=>a09 rfl h
 | .es0,v,h=>a09 rfl h
 | .nilm,v,h=>a09 rfl h
 | .map _,v,h=>a09 rfl h
 | .nilf,v,h=>a09 rfl h
 | .func _ _ _,v,h=>a09 rfl h
 | .yield _,v,h=>a09 rfl h
 | .nili,v,h=>a09 rfl h
 | .iface _ _,v,h=>a09 rfl h
 | .opq _,v,h=>a09 rfl h
 | .oint _ _,v,h=>a09 rfl h
 | .ostr _,v,h=>a09 rfl h
 | .obool _,v,h=>a09 rfl h
 | .osl _ _ _ _,v,h=>a09 rfl h
 | .optr _ _ _ _,v,h=>a09 rfl h
 | .ous _ _ _,v,h=>a09 rfl h
 | .atl _,v,h=>a09 rfl h
 | .any,v,h=>a09 rfl h
theorem bG6: ∀{o v:List AV},a35 o v=true→(aw8 o).length=(aw8 v).length
 | [],v,h=>by
   simp only[a35]at h
   split at h
   ·rfl
   ·cases h
 |a::r,v,h=>by
  simp only[a35]at h
  split at h
  ·rw[d6]at h
   simp only[aw8,d7,br4 h.1,bG6 h.2]
  ·cases h
end
mutual
theorem co9: ∀(v:AV) (u:Value),VR β ω v u→ ∃us,VRs β ω (a46 v) us∧ ∀(β':Bij) (ω':Opq) (out:AV),X0 out v=true→VRs β' ω' (a46 out) us→VR β' ω' out u
 | .agg cs,u,r=>by
   obtain⟨xs,rfl,q⟩:=r
   refine⟨xs.toList,q,fun β' ω' out hs ho=> ?_⟩
   cases out<;>simp only[X0,e9]at hs
   exact⟨xs,rfl,ho⟩
 | .tup vs,u,r=>by
   obtain⟨xs,rfl,q⟩:=r
   obtain⟨us,h1,h2⟩:=c15 vs xs.toList q
   refine⟨us,h1,fun β' ω' out hs ho=> ?_⟩
   cases out<;>simp only[X0,e9]at hs
   exact⟨xs,rfl,h2 β' ω' _ hs ho⟩
 | .bool b,u,r=>a08 rfl r
 | .int a b,u,r=>a08 rfl r
 | .str b,u,r=>a08 rfl r
 | .nilp,u,r=>a08 rfl r
 | .ptr a b,u,r=>a08 rfl r
 | .glob b,u,r=>a08 rfl r
 | .nils,u,r=>a08 rfl r
 | .sl a b c d,u,r=>a08 rfl r
 | .us a b c d,u,r=>a08 rfl r
 | .es a b c,u,r=>a08 rfl r
 | .es0,u,r=>a08 rfl r
 | .nilm,u,r=>a08 rfl r
 | .map b,u,r=>a08 rfl r
 | .nilf,u,r=>a08 rfl r
 | .func a b c,u,r=>a08 rfl r
 | .yield b,u,r=>a08 rfl r
 | .nili,u,r=>a08 rfl r
 | .iface a b,u,r=>a08 rfl r
 | .opq b,u,r=>a08 rfl r
 | .oint a b,u,r=>a08 rfl r
 | .ostr b,u,r=>a08 rfl r
 | .obool b,u,r=>a08 rfl r
 | .osl a b c d,u,r=>a08 rfl r
 | .optr a b c d,u,r=>a08 rfl r
 | .ous a b c,u,r=>a08 rfl r
 | .atl b,u,r=>a08 rfl r
 | .any,u,r=>a08 rfl r
theorem c15: ∀(vs:List AV) (us0:List Value),VRs β ω vs us0→ ∃us,VRs β ω (aw8 vs) us∧ ∀(β':Bij) (ω':Opq) (outs:List AV),a35 outs vs=true→VRs β' ω' (aw8 outs) us→VRs β' ω' outs us0
 | [],us0,r=>by
   refine⟨[],rfl,fun β' ω' outs hs ho=> ?_⟩
   cases outs with
   |nil=>exact r
   |cons a b=>simp only[a35]at hs;cases hs
 |v::vs,us0,⟨u,ur,e,p,q⟩=>by
  obtain⟨us1,a1,a2⟩:=co9 v u p
  obtain⟨us2,b1,b2⟩:=c15 vs ur q
  refine⟨us1++us2,a1.append b1,fun β' ω' outs hs ho=> ?_⟩
  cases outs with
  |nil=>simp only[a35]at hs;cases hs
  |cons o os=>
   simp only[a35,d6]at hs
   have hl:(a46 o).length=us1.length:=by rw[br4 hs.1];exact a1.length.symm
   obtain⟨c1,c2⟩:=bG5 hl ho
   exact⟨u,ur,e,a2 β' ω' o hs.1 c1,b2 β' ω' os hs.2 c2⟩
end
section
variable{Q:Nat→SX}{n:Nat}
theorem a24(g:Agr 0 ω ω'){p x:SX}{es:List SX}(h:bW9 1000 n p x=some es)(hp:ca9 p=true)(hq: ∀j e,es[j]? =some e→den ω (Q (n+j))=den ω' e):den ω (T0 1000 Q p)=den ω' x:=by
 unfold bW9 at h
 unfold T0
 unfold ca9 at hp
 split at h
 ·rename_i m hm
  obtain⟨h1,h2⟩:=G8 h
  simp only[d5]at h2;subst h2
  obtain rfl:=I6.1 h1
  exact hq 0 x rfl
 ·rename_i hm
  obtain⟨h1,_⟩:=G8 h
  obtain⟨h1,_⟩:=I4 h1
  rw[hm]at hp
  have hp:R7 0 p=true:=hp
  rw[←SX.beq_eq _ _ h1]
  exact(ad8 g p hp).symm
theorem c95(g:Agr 0 ω ω'){p q x y:SX}{es:List SX}(h:bJ9 1000 n p q x y=some es)(hp:ca9 p=true)(hpq:ca9 q=true)(hq: ∀j e,es[j]? =some e→den ω (Q (n+j))=den ω' e):den ω (T0 1000 Q p)=den ω' x∧den ω (T0 1000 Q q)=den ω' y:=by
 unfold bJ9 at h
 split at h
 ·rename_i e1 h1
  split at h
  ·rename_i e2 h2
   simp only[d5]at h;subst h
   refine⟨a24 g h1 hp fun j e hj=>hq j e ?_,a24 g h2 hpq fun j e hj=> ?_⟩
   ·have hlt:=(n9.1 hj).1
    rw[k8 hlt];exact hj
   ·have:=hq (e1.length+j) e (by rw[k9 (v4 _ _),A9];exact hj)
    rw[show n+e1.length+j=n+(e1.length+j) by omega];exact this
  ·cases h
 ·cases h
theorem cp0{src:List BSrc}{i:Nat}(e:isW src i=true): ∃b,src[i]? =some (.whole b):=by
 unfold isW at e
 split at e
 ·rename_i b hb;exact⟨b,hb⟩
 ·cases e
theorem b51{src:List BSrc}{m i b:Nat}(e:src[i]? =some (.whole b)):az0 src m i=b:=by unfold az0;rw[e]
theorem b52(ρ:Nat→Nat)(k:IntKind)(e:SX):bg2 ρ (ca7 k e)=ca7 k e:=by
 unfold ca7
 split<;>rfl
theorem cp1(k:IntKind)(e:SX):(ca7 k e).oneA=true:=by
 unfold ca7
 split<;>rfl
theorem c96{ρ:Nat→Nat}{p:AV}(h:aR9 p=true):bg2 ρ (aa2 Q p)=p:=by
 cases p<;>simp only[aR9,e9]at h<;>simp only[aa2,bg2]
variable{src:List BSrc}{mt base N:Nat}{post:List (Option Blk)}
theorem br5(g:Agr 0 ω ω'){p x:AV}{u:Value}{es:List SX}(hcl:clA src mt post p=true)(hnn:bl7 src.length p=true)(ha:P0 1000 base n p x=some es)(hq: ∀j e,es[j]? =some e→den ω (Q (n+j))=den ω' e)
 (r:VR β ω' x u) (hβ: ∀i b,src[i]? =some (.whole b)→βF b=β i):VR βF ω (bg2 (az0 src N) (aa2 Q p)) u:=by
 have plain:aR9 p=true→(bif AV.beq p x&&okA 1000 base x then some ([]:List SX)else none)=some es→VR βF ω (bg2 (az0 src N) (aa2 Q p)) u:=by
  intro hp h
  obtain⟨h1,_⟩:=G8 h
  obtain⟨h1,_⟩:=I4 h1
  rw[c96 hp]
  rw[←AV.beq_eq _ _ h1]at r
  exact O8 hp r
 cases p with
 |oint k e=>
  simp only[clA]at hcl
  simp only[P0]at ha
  unfold dm8 at ha
  split at ha
  ·rename_i k' x' hx
   split at ha
   ·rename_i hk;subst hk
    rw[show bg2 (az0 src N) (aa2 Q (.oint k e))=ca7 k (T0 1000 Q e)from b52 _ _ _]
    refine bM2.2 ?_
    show u= .int k (dI ω (T0 1000 Q e))
    rw[a06 hx r]
    exact congrArg (fun z:Val=>Value.int k z.toI) (a24 g ha hcl hq).symm
   ·cases ha
  ·cases ha
 |ostr e=>
  simp only[clA]at hcl
  simp only[P0]at ha
  unfold cO0 at ha
  split at ha
  ·rename_i x' hx
   show u= .string ⟨(dS ω (T0 1000 Q e)).toArray⟩
   rw[ad6 hx r]
   exact congrArg (fun z:Val=>Value.string ⟨z.toS.toArray⟩) (a24 g ha hcl hq).symm
  ·cases ha
 |obool e=>
  simp only[clA]at hcl
  simp only[P0]at ha
  unfold cO0 at ha
  split at ha
  ·rename_i x' hx
   show u= .bool (dB ω (T0 1000 Q e))
   rw[al7 hx r]
   exact congrArg (fun z:Val=>Value.bool z.toB) (a24 g ha hcl hq).symm
  ·cases ha
 |osl i y z s=>
  simp only[clA,d6]at hcl
  simp only[P0]at ha
  unfold bB2 at ha
  split at ha
  ·rename_i b' y' z' s'
   obtain⟨h1,h2⟩:=G8 ha
   obtain⟨h1,_⟩:=I4 h1
   obtain⟨h1,h3⟩:=I4 h1
   obtain rfl:=I6.1 h1
   obtain rfl:=I6.1 h3
   obtain⟨b,hb⟩:=cp0 hcl.1.1
   obtain⟨k1,k2⟩:=c95 g h2 hcl.1.2 hcl.2 hq
   have k1:dI ω (T0 1000 Q y)=dI ω' y':=congrArg Val.toI k1
   have k2:dI ω (T0 1000 Q z)=dI ω' z':=congrArg Val.toI k2
   simp only[aa2,bg2,b51 hb,VR]at r⊢
   rw[k1,k2,hβ i b hb];exact r
  ·cases ha
 |ous i q s=>
  simp only[bl7,L9]at hnn
  simp only[clA]at hcl
  rw[show Nat.ble src.length i=false by
   cases hh:Nat.ble src.length i with
   |false=>rfl
   |true=>rw[J4]at hh;omega]at hcl
  simp only[cond_false,d6]at hcl
  simp only[P0]at ha
  unfold bB3 at ha
  split at ha
  ·rename_i b' q' s'
   obtain⟨h1,h2⟩:=G8 ha
   obtain⟨h1,_⟩:=I4 h1
   obtain⟨h1,h3⟩:=I4 h1
   obtain rfl:=I6.1 h1
   obtain rfl:=I6.1 h3
   obtain⟨b,hb⟩:=cp0 hcl.1
   have k1:dI ω (T0 1000 Q q)=dI ω' q':=congrArg Val.toI (a24 g h2 (by unfold ca9;rw[hcl.2];rfl) hq)
   have hy:cH2 Q q=T0 1000 Q q:=by
    have:=hcl.2
    unfold bJ8 at this
    split at this
    ·rfl
    ·cases this
   simp only[aa2,bg2,b51 hb,VR]at r⊢
   rw[hy,k1,hβ i b hb];exact r
  ·cases ha
 |ptr i o=>
  simp only[clA]at hcl
  simp only[P0]at ha
  obtain⟨h1,_⟩:=G8 ha
  obtain⟨h1,_⟩:=I4 h1
  rw[←AV.beq_eq _ _ h1]at r
  obtain⟨b,hb⟩:=cp0 hcl
  simp only[aa2,bg2,b51 hb,VR]at r⊢
  rw[hβ i b hb];exact r
 |bool _=>simp only[P0]at ha;exact plain hcl ha
 |int _ _=>simp only[P0]at ha;exact plain hcl ha
 |str _=>simp only[P0]at ha;exact plain hcl ha
 |nilp=>simp only[P0]at ha;exact plain hcl ha
 |glob _=>simp only[P0]at ha;exact plain hcl ha
 |nils=>simp only[P0]at ha;exact plain hcl ha
 |nilm=>simp only[P0]at ha;exact plain hcl ha
 |nilf=>simp only[P0]at ha;exact plain hcl ha
 |nili=>simp only[P0]at ha;exact plain hcl ha
 |_=>simp only[clA,aR9,e9]at hcl
theorem bG7(g:Agr 0 ω ω'): ∀{ps xs:List AV} {us:List Value} {n:Nat} {es:List SX},(ps.all fun p=>clA src mt post p&&bl7 src.length p&&p.oneA)=true→ax7 1000 base n ps xs=some es→(∀j e,es[j]? =some e→den ω (Q (n+j))=den ω' e)→
 VRs β ω' xs us→(∀i b,src[i]? =some (.whole b)→βF b=β i)→VRs βF ω (aT0 (az0 src N) (aw9 Q ps)) us
 | [],xs,us,n,es,hcl,ha,hq,r,hβ=>by
   cases xs with
   |nil=>exact r
   |cons a b=>simp only[ax7]at ha;cases ha
 |p::ps,xs,us,n,es,hcl,ha,hq,r,hβ=>by
  cases xs with
  |nil=>simp only[ax7]at ha;cases ha
  |cons x xs=>
   simp only[List.all_cons,d6]at hcl
   simp only[ax7]at ha
   split at ha
   ·rename_i e1 h1
    split at ha
    ·rename_i e2 h2
     simp only[d5]at ha;subst ha
     obtain⟨v,vr,rfl,r1,r2⟩:=r
     refine⟨v,vr,rfl,br5 g hcl.1.1.1 hcl.1.1.2 h1 (fun j e hj=>hq j e ?_) r1 hβ,bG7 g (by simpa using hcl.2) h2 (fun j e hj=> ?_) r2 hβ⟩
     ·have hlt:=(n9.1 hj).1
      rw[k8 hlt];exact hj
     ·have:=hq (e1.length+j) e (by rw[k9 (v4 _ _),A9];exact hj)
      rw[show n+e1.length+j=n+(e1.length+j) by omega];exact this
    ·cases ha
   ·cases ha
theorem cp2(ρ:Nat→Nat): ∀l:List AV,(l.all fun p=>clA src mt post p&&bl7 src.length p&&p.oneA)=true→(aT0 ρ (aw9 Q l)).all AV.oneA=true
 | [],_=>rfl
 |a::r,h=>by
  simp only[List.all_cons,d6]at h
  simp only[aw9,aT0,List.all_cons,d6]
  refine⟨?_,cp2 ρ r (by simpa using h.2)⟩
  have:=h.1.2
  cases a<;>simp only[aa2,bg2]<;>first|exact this|rfl|(rw[b52];exact cp1 _ _)
theorem cp3(g:Agr 0 ω ω'){L:Loc}{o:Option Obj}{p z x:Blk}{es:List SX}(hcl:clB src mt post (some p)=true)(ha:ce2 1000 base n p z=some es)(hq: ∀j e,es[j]? =some e→den ω (Q (n+j))=den ω' e)
 (r:BR β ω' L o z) (hβ: ∀i b,src[i]? =some (.whole b)→βF b=β i) (hx:aT1 (az0 src N) (ak2 Q (some p))=some x):BR βF ω L o x:=by
 cases p with
 |cells e fz ps=>
  cases z<;>simp only[ce2,reduceCtorEq]at ha
  obtain⟨h1,h2⟩:=G8 ha
  obtain⟨h1,h4⟩:=I4 h1
  obtain⟨h1,h3⟩:=I4 h1
  obtain rfl:=I6.1 h1
  obtain rfl:=I6.1 h3
  simp only[ak2,aT1,d5]at hx
  subst hx
  simp only[clB]at hcl
  obtain⟨C,lo,hi,vs,q1,q2,q3,q4,q5,q6,q7,q8⟩:=r
  have hv:=bG7 (N:=N) g hcl h2 hq q5 hβ
  have hl:(aT0 (az0 src N) (aw9 Q ps)).length=vs.length:=hv.length.symm
  have hl2:=q5.length
  refine⟨C,lo,hi,vs,q1,q2,by rw[hl,hl2];exact q3,cp2 _ _ hcl,hv,by rw[hl,hl2];exact q6,q7,fun hh=>q8 (by rw[←hh];exact g.fix▸rfl)⟩
 |arr e sig l=>
  cases z<;>simp only[ce2,reduceCtorEq]at ha
  obtain⟨h1,h2⟩:=G8 ha
  obtain⟨h1,h3⟩:=I4 h1
  obtain rfl:=I6.1 h1
  obtain rfl:=X3 h3
  simp only[ak2,aT1,d5]at hx
  subst hx
  simp only[clB]at hcl
  have k:dL ω (T0 1000 Q l)=dL ω' _:=congrArg Val.toL (a24 g h2 hcl hq)
  simp only[BR]at r⊢
  rw[k];exact r
 |_=>simp only[clB,e9]at hcl
end
end Go.Ev
