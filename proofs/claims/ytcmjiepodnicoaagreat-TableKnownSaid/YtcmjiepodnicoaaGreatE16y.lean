import Derived.Test.YtcmjiepodnicoaaGreatE13
set_option linter.unusedSimpArgs false
set_option linter.unusedVariables false
namespace Go.Ev
open Go
variable{t yt:TypeId}{op:BinOp}{x a y:AV}{v vy vx va vc zv:Value}{e b nd ly:SX}{sig:List CT}{k:IntKind}{M:Sem Value}{n s:Nat}{i:TypeInfo}
variable{E:Env}{O:cq}{I:Opq}{K:Nat->Prop}{w0 w:World}{h h':Heap}{af:Operand->Option AV}{ρ:Operand->Value}
abbrev ax:Opq:=⟨λ_=> .nilIface,λ_=> .vb false,λ_ _=> .vb false,λ_=>rfl,λ_=>false,λ_=>none⟩
theorem sC(h:kz x=some (k,e))(r:VR O I x v):v= .int k (dI I e):=by
 unfold kz at h;split at h<;>simp only[j0,A3,reduceCtorEq]at h
 .obtain⟨rfl,rfl⟩:=h;exact r
 .obtain⟨rfl,rfl⟩:=h;exact r
theorem HQ(h:oN x=some e)(r:VR O I x v):v= .string ⟨(dS I e).toArray⟩:=by
 unfold oN at h;split at h<;>simp only[j0,reduceCtorEq]at h
 .subst h;exact r
 .subst h;exact r
theorem xS(h:ut x=some e)(r:VR O I x v):v= .bool (dB I e):=by
 unfold ut at h;split at h<;>simp only[j0,reduceCtorEq]at h
 .subst h;exact r
 .subst h;exact r
theorem dM.pureV{m:Sem Next}{v:AV}{u:Value}(r:HR O I K w0 h w)(hv:VR O I v u)(hr:m.run E.P w= .ok (.value u) w):dM E O I K w0 w h m v h:=
 ⟨O,u,w,.inl hr,hv,r,.refl _ _⟩
theorem Ml(op:BinOp)(k:IntKind)(a b:SX):dI I (.op (.ar op k) [a,b])=cn op k (dI I a) (dI I b):=rfl
theorem Kh(op:BinOp)(a b:SX):dB I (.op (.cmp op) [a,b])=jt op (dI I a) (dI I b):=rfl
theorem d54(op:BinOp)(a b:SX):dB I (.op (.scmp op) [a,b])=qE op (dS I a) (dS I b):=rfl
theorem tN(n:Int):dI I (.ci n)=n:=rfl
theorem nV(a:SX):dI I (.op .llen [a])=((dL I a).length:Int):=rfl
theorem uO(a b:SX):dB I (.op .and [a,b])=(dB I a&&dB I b):=rfl
theorem Dt{i l:SX}(h:dB I (vA i l)=true):0<=dI I i/\dI I i<dI I l:=by
 simp[vA,uO,Kh,jt,j6,decide_eq_true_eq]at h;exact h
theorem cg2{x y n:Int}(he:uj op k x y=some (.int k n))(hop:op≠ .shl/\op≠ .shr)(w:World):
 (binOp op t (.int k x) (.int k y)).run E.P w= .ok (.int k n) w:=by
 obtain⟨v,r1,r2⟩:=LL (P:=E.P) (O:=λ_=>none) (I:=ax) t he hop;rw[r2,show v=_ from r1]
theorem d55{x y:Int}{n:Bool}(he:uj op k x y=some (.bool n))(hop:op≠ .shl/\op≠ .shr)(w:World):
 (binOp op t (.int k x) (.int k y)).run E.P w= .ok (.bool n) w:=by
 obtain⟨v,r1,r2⟩:=LL (P:=E.P) (O:=λ_=>none) (I:=ax) t he hop;rw[r2,show v=_ from r1]
theorem d56{x y:List UInt8}{n:Bool}(he:Od op x y=some (.bool n))(w:World):
 (binOp op t (.string ⟨x.toArray⟩) (.string ⟨y.toArray⟩)).run E.P w= .ok (.bool n) w:=by
 obtain⟨v,r1,r2⟩:=VU (P:=E.P) (O:=λ_=>none) (I:=ax) t he;rw[r2,show v=_ from r1]
theorem d57{k':IntKind}{a:SX}(r:HR O I K w0 h w)
 (hM: ∀u,(binOp op t (.int k (dI I a)) (.int k' (dI I b))).run E.P w= .ok u w->M.run E.P w= .ok u w):
 dA E O I K w0 w h (do pure (.value (<-M))) (NH op k k' a b h):=by
 have fin: ∀{v:AV} {u:Value},(binOp op t (.int k (dI I a)) (.int k' (dI I b))).run E.P w= .ok u w->VR O I v u->dM E O I K w0 w h (do pure (.value (<-M))) v h:=by
  grind[dM.pureV,Sem.run_bind,Result.andThen_ok,Sem.run_pure]
 have nn:dB I (.op (.cmp .leq) [.ci 0,b])=true-> ∃n:Nat,dI I b=n:=by
  intro hd;simp[Kh,jt,decide_eq_true_eq]at hd;have hd:0<=dI I b:=hd;exact⟨(dI I b).toNat,by omega⟩
 have nz:dB I (.op (.cmp .neq) [b,.ci 0])=true->oc (dI I b) 0=false:=by
  intro hd;simp[Kh,jt,y6,decide_eq_false_iff_not]at hd;have hd: ¬dI I b=0:=hd;grind[ui]
 unfold NH;cases op<;>simp only[];case shl=>
  intro hd;obtain⟨n,hn⟩:=nn hd;exact fin (by rw[hn];rfl) (by grind[VR,Ml,cn,Int.toNat_natCast])
 case shr=>
  intro hd;obtain⟨n,hn⟩:=nn hd;exact fin (by rw[hn];rfl) (by grind[VR,Ml,cn,Int.toNat_natCast])
 all_goals
  split
  .rename_i hk;subst hk;first
    |(intro hd
      have hz:=nz hd;refine fin (cg2 (by simp[uj,hz,cond_false]<;>rfl) ⟨by simp,by simp⟩ w) ?_;grind[VR,Ml,cn,wu])
    |(refine fin (cg2 rfl ⟨by simp,by simp⟩ w) ?_
      grind[VR,Ml,cn,wu])
    |(refine fin (d55 rfl ⟨by simp,by simp⟩ w) ?_
      simp[VR,Kh,jt,ui,vR];first|done|rfl|(congr 1;grind)|(congr 1;rw[C0];simp;omega))
  .trivial
theorem ea0{a:SX}(hd:jt .lss (dI I (js (.op .slen [a]) (.op .slen [b]))) (dI I (.ci Xs))=true):jt .lss (dI I (js (.op .slen [a]) (.op .slen [b]))) Xs=true:=by
 grind[tN]
theorem d58{a:SX}(r:HR O I K w0 h w)
 (hM: ∀u,(binOp op t (.string ⟨(dS I a).toArray⟩) (.string ⟨(dS I b).toArray⟩)).run E.P w= .ok u w->M.run E.P w= .ok u w):
 dA E O I K w0 w h (do pure (.value (<-M))) (MQ op a b h):=by
 have fin: ∀{v:AV} {u:Value},(binOp op t (.string ⟨(dS I a).toArray⟩) (.string ⟨(dS I b).toArray⟩)).run E.P w= .ok u w->VR O I v u->dM E O I K w0 w h (do pure (.value (<-M))) v h:=by
  grind[dM.pureV,Sem.run_bind,Result.andThen_ok,Sem.run_pure]
 unfold MQ;cases op<;>simp only[];case add=>trivial
 all_goals first
  |trivial
  |(refine fin (d56 rfl w) ?_
    simp[VR,d54,qE,uQ,kO];first|done|rfl|grind)
mutual
noncomputable def eA(I:Opq):AV->AV
 | .oint k e=> .int k (dI I e)
 | .ostr e=> .str (dS I e)
 | .obool e=> .bool (dB I e)
 | .agg cs=> .agg (rL I cs)
 |x=>x
noncomputable def rL(I:Opq):List AV->List AV
 | []=>[]
 |x::r=>eA I x::rL I r
end
theorem Ks: ∀l:List AV,rL I l=l.map (eA I)
 | []=>rfl
 |x::r=>by simp[rL,l9,Ks r]
mutual
theorem Kb: ∀(x:AV) (v:Value),VR O I x v->VR O I (eA I x) v
 | .oint k e,v,h=>by exact h
 | .ostr e,v,h=>by exact h
 | .obool e,v,h=>by exact h
 | .agg cs,v,h=>by
   obtain⟨xs,rfl,q⟩:=h;exact⟨xs,rfl,XE cs _ q⟩
 | .bool _,v,h=>by grind[eA]
 | .int _ _,v,h=>by grind[eA]
 | .str _,v,h=>by grind[eA]
 | .nilp,v,h=>by grind[eA]
 | .ptr _ _,v,h=>by grind[eA]
 | .glob _,v,h=>by grind[eA]
 | .nils,v,h=>by grind[eA]
 | .sl _ _ _ _,v,h=>by grind[eA]
 | .us _ _ _ _,v,h=>by grind[eA]
 | .es _ _ _,v,h=>by grind[eA]
 | .es0,v,h=>by grind[eA]
 | .nilm,v,h=>by grind[eA]
 | .map _,v,h=>by grind[eA]
 | .nilf,v,h=>by grind[eA]
 | .func _ _ _,v,h=>by grind[eA]
 | .yield _,v,h=>by grind[eA]
 | .nili,v,h=>by grind[eA]
 | .iface _ _,v,h=>by grind[eA]
 | .tup _,v,h=>by grind[eA]
 | .opq _,v,h=>by grind[eA]
 | .osl _ _ _ _,v,h=>by grind[eA]
 | .optr _ _ _ _,v,h=>by grind[eA]
 | .ous _ _ _,v,h=>by grind[eA]
 | .atl _,v,h=>by grind[eA]
 | .any,v,h=>by grind[eA]
theorem XE: ∀(xs:List AV) (vs:List Value),ct O I xs vs->ct O I (rL I xs) vs
 | [],vs,h=>h
 |x::r,vs,h=>by
  obtain⟨v,vr,rfl,p,q⟩:=h;exact⟨v,vr,rfl,Kb x v p,XE r vr q⟩
end
theorem br0(h:kz x=some (k,e)):eA I x= .int k (dI I e):=by
 unfold kz at h;split at h<;>simp only[j0,A3,reduceCtorEq]at h
 .obtain⟨rfl,rfl⟩:=h;rfl
 .obtain⟨rfl,rfl⟩:=h;rfl
theorem br1(h:oN x=some e):eA I x= .str (dS I e):=by
 unfold oN at h;split at h<;>simp only[j0,reduceCtorEq]at h<;>subst h<;>rfl
variable{P:Program}
theorem Rw{cs:List AV}{o:Nat}(h:kQ P t cs o=some a):kQ P t (rL I cs) o=some (eA I a):=by
 unfold kQ at h⊢;split at h
 .obtain⟨hc,h⟩:=Z2 h;simp at h;subst h;rw[Ks,k6,hc];simp[cond_true,eA,Ks,Q7,Q8]
 .rw[Ks,B0,h];rfl
 .cases h
theorem Th(a b:SX):dB I (jf a b)=(dB I a&&dB I b):=by
 have h0:dB I (.cb true)=true:=rfl;unfold jf;split
 .rfl
 .split
  .grind
  .rfl
theorem Sy{ihS:TypeId->AV->AV->Option SX}{ih:TypeId->AV->AV->Option Bool}(hih: ∀t a b e,ihS t a b=some e->ih t (eA I a) (eA I b)=some (dB I e)){xs ys:List AV}:
 ∀{fs:List Field} {e:SX},Dp P ihS xs ys fs=some e->ws P ih (rL I xs) (rL I ys) fs=some (dB I e)
 | [],e,h=>by simp[Dp,j0]at h;subst h;rfl
 |f::r,e,h=>by
  simp[Dp]at h;simp[ws];cases hb:(f.name== "_")with
  |true=>rw[hb]at h;exact Sy hih h
  |false=>
   rw[hb]at h;simp at h⊢;split at h
   .rename_i a b h1 h2;split at h
    .rename_i e1 h3;split at h
     .rename_i e2 h4;simp at h;subst h;rw[Rw h1,Rw h2];simp[hih _ _ _ _ h3,Th];cases dB I e1 with
      |true=>exact Sy hih h4
      |false=>rfl
     .cases h
    .cases h
   .cases h
theorem c34{ihS:TypeId->AV->AV->Option SX}{ih:TypeId->AV->AV->Option Bool}(hih: ∀t a b e,ihS t a b=some e->ih t (eA I a) (eA I b)=some (dB I e))(h:Sk P ihS t x y=some e):
 my P ih t (eA I x) (eA I y)=some (dB I e):=by
 unfold Sk at h;split at h
 .trivial
 .rename_i k0 ht;split at h
  .rename_i k a k' b h1 h2;unfold cR1 at h;split at h
   .rename_i hk;subst hk;simp at h;subst h;rw[br0 h1,br0 h2];unfold my;simp[ht,if_true,ui];rfl
   .cases h
  .cases h
 .rename_i ht;split at h
  .rename_i a b h1 h2;simp at h;subst h;rw[br1 h1,br1 h2];unfold my;simp[ht,uQ];congr 1;show _=decide (dS I a=dS I b);grind
  .cases h
 .rename_i fields ht;split at h
  .cases hs:P.stoodInHeld t with
   |true=>grind
   |false=>
    unfold my;simp_all;exact Sy hih h
  .cases h
 .cases h
theorem Rs: ∀(n:Nat) {t:TypeId} {x y:AV} {e:SX},Fj P n t x y=some e->kG P n t (eA I x) (eA I y)=some (dB I e)
 |0,t,x,y,e,h=>by cases h
 |n+1,t,x,y,e,h=>c34 (ihS:=Fj P n) (ih:=kG P n) (λt a b e h=>Rs n h) h
theorem nk(sig:List CT)(r:Val):(ej sig r).length=sig.length:=by simp[ej]
theorem jK(sig:List CT): ∀l:List Val,(cM sig l).length=l.length*sig.length
 | []=>by simp[cM]
 |r::l=>by
  have:=jK sig l;simp[cM]at this⊢;simp_all[B7,k5,nk,List.length_cons,x8,G1,E8]
theorem Cs{r:Val}{j:Nat}(hj:j<sig.length):(ej sig r)[j]? =some (gX (sig.getD j .bool) (r.toL.getD j default)):=by
 simp[ej,hj]
theorem GW{sig:List CT}{j:Nat}(hj:j<sig.length): ∀{l:List Val} {i:Nat},i<l.length->(cM sig l)[i*sig.length+j]? =some (gX (sig.getD j .bool) ((l.getD i (.vl [])).toL.getD j default))
 | [],i,h=>by simp at h
 |r::l,0,h=>by
  simp[cM,B7,Q9,m9];grind[List.getElem?_append_left,nk,Cs]
 |r::l,i+1,h=>by
  simp[cM,B7];rw[o7 (by rw[nk,x8];omega),nk];have:=GW hj (l:=l) (i:=i) (by simpa using h);grind[cM]
theorem CU(c:CT)(e:SX):VR O I (wc c e) (gX c (bZ I e)):=by cases c<;>rfl
theorem IK(sig:List CT)(l idx:SX): ∀(n j:Nat),ct O I (Ek sig l idx j n) ((List.range' j n).map λt=>gX (sig.getD t .bool) (co (dL I l) (dI I idx) t))
 |0,j=>rfl
 |n+1,j=>by
  exact⟨_,_,rfl,CU _ _,IK sig l idx n (j+1)⟩
theorem HR.arr{b:Nat}{e:Nat}{l:SX}{L:Loc}(r:HR O I K w0 h w)(hg:h.get b=some (.arr e sig l))(hb:O b=some L):
 ∃C e' lo hi,w.heap[L.blk]? =some (.cells C e' (lo,hi))/\(e'=e\/e=jM)/\L.off+L.ext<=C.size/\(dL I l).length*sig.length<=L.ext/\
  (∀i v,(cM sig (dL I l))[i]? =some v->C[L.off+i]? =some v)/\(∀i,i<L.ext-> ¬(lo<=L.off+i/\L.off+i<hi)):=r.blk b _ L hg hb
theorem bO6{a b:Bool}(hn:0<n)(ht:P.underlying t=some .bool):kG P n t (.bool a) (.bool b)=some (a==b):=by
 cases n with
 |zero=>omega
 |succ n=>
  have h1:kG P (n+1) t (.bool a) (.bool b)=my P (kG P n) t (.bool a) (.bool b):=rfl;rw[h1];unfold my;grind
theorem br2{P:Program}(h:DP P t=true): ∃e,P.underlying t=some (.slice e):=by
 grind[DP]
theorem cF2{P:Program}{b o m c:Nat}(hn:0<n)(ht:DP P t=true):kG P n t (.sl b o m c) .nils=some false:=by
 obtain⟨e,ht⟩:=br2 ht;cases n with
 |zero=>omega
 |succ n=>
  have h1:kG P (n+1) t (.sl b o m c) .nils=my P (kG P n) t (.sl b o m c) .nils:=rfl;rw[h1];unfold my;grind[FV]
theorem d59(l y:SX):dL I (rD l y)=dL I l++dL I y:=by
 unfold rD;split
 .rfl
 .rfl
theorem du1(hs:DP E.P t=true)(x:Option Addr)(n c:Nat)(w:World):(binOp .eql t (.slice x n c) (.slice none 0 0)).run E.P w= .ok (.bool x.isNone) w/\(binOp .neq t (.slice x n c) (.slice none 0 0)).run E.P w= .ok (.bool !x.isNone) w:=by
 obtain⟨e,ht⟩:=br2 hs;have gen: ∀d,(Op.equalIn (d+1) t (.slice x n c) (.slice none 0 0)).run E.P w= .ok x.isNone w:=λd=>by
  cases x<;>simp[Op.equalIn,Z3 ht]
 have key:(Op.equal t (.slice x n c) (.slice none 0 0)).run E.P w= .ok x.isNone w:=by
  have:=gen 9999;exact this
 rw[TQ _ _ _ rfl,OP _ _ _ rfl];simp_all
theorem d60{len:SX}{b:AV}(r:HR O I K w0 h w)(rx0: ∃x n c,vx= .slice x n c)(rx:0<dI I len-> ∃b o n c,VR O I (.sl b o n c) vx)(ry:VR O I b vy)(hM: ∀u,(binOp op t vx vy).run E.P w= .ok u w->M.run E.P w= .ok u w):
 dA E O I K w0 w h (do pure (.value (<-M))) (LI E.P op t len b h):=by
 unfold LI;split
 .cases hs:DP E.P t with
  |false=>trivial
  |true=>
   have key: ∀v:AV,0<dI I len->(∀b o n c,vT E.P op t (.sl b o n c) .nils=some v)->dM E O I K w0 w h (do pure (.value (<-M))) v h:=by
    intro v h0 hv;obtain⟨b',o,n,c,rx⟩:=rx h0;obtain⟨u,u1,u2⟩:=Uk (hv b' o n c) rx ry (by(intros;grind)) (by(intros;grind));exact dM.pureV r u1 (by simp_all)
   obtain⟨x,n,c,rfl⟩:=rx0;subst ry;have two: ∀q:Bool,(binOp op t (.slice x n c) (.slice none 0 0)).run E.P w= .ok (.bool q) w-> ∃v∈[AV.bool true,AV.bool false],dM E O I K w0 w h (do pure (.value (<-M))) v h:=by
    intro q hq;refine⟨.bool q,by cases q<;>simp,dM.pureV r (u:= .bool q) rfl (by simp_all)⟩
   split
   .refine⟨λhd=>key _ (j5 hd) λb o n c=>by simp[vT,cF2 (by omega:0<10000) hs,Option.map_some],λ_=>two _ (du1 hs x n c w).1⟩
   .trivial
   .trivial
 .trivial
theorem d61{b:AV}(r:HR O I K w0 h w)(rx:VR O I a vx)(ry:VR O I b vy)(hM: ∀u,(binOp op t vx vy).run E.P w= .ok u w->M.run E.P w= .ok u w):
 dA E O I K w0 w h (do pure (.value (<-M))) (Ku E.P op t a b h):=by
 unfold Ku;cases a<;>try trivial
 case agg cs=>
  simp;cases he:Fj E.P 10000 t (.agg cs) b with
  |none=>trivial
  |some e=>
   have h5:=Rs (I:=I) 10000 he;have rx':=Kb (I:=I) _ _ rx;have ry':=Kb (I:=I) _ _ ry;have key: ∀(op':BinOp) (v:AV),op=op'->vT E.P op' t (eA I (.agg cs)) (eA I b)=some v-> ∃u,VR O I v u/\(do pure (.value (<-M)):Sem Next).run E.P w= .ok (.value u) w:=by
    rintro op' v rfl hv;obtain⟨u,u1,u2⟩:=Uk hv rx' ry' (by intro k n hh;trivial) (by intro l hh;trivial)
    (intros;simp_all)
   simp;split
   .obtain⟨u,u1,u2⟩:=key .eql (.bool (dB I e)) rfl (by simp[vT,h5,Option.map_some]);exact dM.pureV r (v:= .obool e) (u:=u) u1 u2
   .obtain⟨u,u1,u2⟩:=key .neq (.bool (!dB I e)) rfl (by simp[vT,h5,Option.map_some]);exact dM.pureV r (v:= .obool (.op .not [e])) (u:=u) u1 u2
   .trivial
 case osl b' off len sz=>
  refine d60 r (by
   rcases rx with⟨L,cap,a,hL,rfl,_,ha⟩|⟨_,_,rfl,_,h1⟩<;>exact⟨_,_,_,rfl⟩) (λh0=> ?_) ry hM
  rcases rx with⟨L,cap,a,hL,rfl,_,ha⟩|⟨_,_,_,_,h1⟩
  .exact⟨b',(dI I off).toNat*sz,_,cap,L,hL,by rw[ha h0]⟩
  .omega
theorem cF3(r:HR O I K w0 h w)(o:eY O I af ρ)(op:BinOp)(t:TypeId)(x y:Operand):
 dA E O I K w0 w h (do pure (.value (<-(do eqGuard op t x y (ρ x) (ρ y);binOp op t (ρ x) (ρ y):Sem Value)))) (JV E.P op t x y h (af x) (af y)):=by
 cases hx:af x with
 |none=>trivial
 |some a=>
  cases hy:af y with
  |none=>trivial
  |some b=>
   simp only[JV];cases hg:xW E.P op t x y a b with
   |false=>trivial
   |true=>
    have hgr:=b98 hg (o x a hx) (o y b hy);have rx:=o x a hx;have ry:=o y b hy;have hM: ∀u,(binOp op t (ρ x) (ρ y)).run E.P w= .ok u w->(do eqGuard op t x y (ρ x) (ρ y);binOp op t (ρ x) (ρ y):Sem Value).run E.P w= .ok u w:=by
     simp_all
    unfold VF;split
    .refine d57 (t:=t) r λu hu=>hM u ?_
     grind[sC]
    .split
     .refine d58 (t:=t) r λu hu=>hM u ?_
      grind[HQ]
     .split
      .rename_i ea eb h1 h2;have e1:=xS h1 rx;have e2:=xS h2 ry;unfold Qv;split
       .cases hb:DG E.P t with
        |false=>trivial
        |true=>
         have ht:E.P.underlying t=some .bool:=by
          unfold DG at hb;(intros;grind)
         refine dM.pureV r (u:= .bool (dB I ea==dB I eb)) rfl ?_;have hrun:=xK (P:=E.P) (O:=O) (I:=I) 10000 (t:=t) (a:= .bool (dB I ea)) (b:= .bool (dB I eb)) (r:=dB I ea==dB I eb) (bO6 (by omega) ht) e1 e2 w;have h3:=hM (.bool (dB I ea==dB I eb)) (by
          rw[e1,e2,TQ _ _ _ rfl];rw[e1,e2]at hrun;simp[Op.equal,Op.maxDepth,Sem.run_bind,hrun,Result.andThen_ok,Sem.run_pure])
         simp_all
       .cases hb:DG E.P t with
        |false=>trivial
        |true=>
         have ht:E.P.underlying t=some .bool:=by
          unfold DG at hb;(intros;grind)
         refine dM.pureV r (u:= .bool (!(dB I ea==dB I eb))) rfl ?_;have hrun:=xK (P:=E.P) (O:=O) (I:=I) 10000 (t:=t) (a:= .bool (dB I ea)) (b:= .bool (dB I eb)) (r:=dB I ea==dB I eb) (bO6 (by omega) ht) e1 e2 w;have h3:=hM (.bool (!(dB I ea==dB I eb))) (by
          rw[e1,e2,OP _ _ _ rfl];rw[e1,e2]at hrun;simp[Op.equal,Op.maxDepth,Sem.run_bind,hrun,Result.andThen_ok,Sem.run_pure])
         simp_all
       .trivial
      grind[d61]
theorem du2(r:HR O I K w0 h w)(o:eY O I af ρ)(op:UnOp)(x:Operand):dA E O I K w0 w h (do pure (.value (<-Op.unary op (ρ x)))) (Lg op h (af x)):=by
 have key: ∀{a v:AV} {s:AV},VR O I a (ρ x)->Ln op (eA I a)=some v->(∀u,VR O I v u->VR O I s u)->dM E O I K w0 w h (do pure (.value (<-Op.unary op (ρ x)))) s h:=by
  intro a v s ra hv hs;obtain⟨u,u1,u2⟩:=cS8 (P:=E.P) hv (Kb _ _ ra);exact dM.pureV r (hs u u1) (by simp_all)
 unfold Lg;split
 .rename_i e he;split
  .exact key (o x _ he) rfl λu hu=>hu
  .trivial
 .trivial
 .trivial
theorem d62(I:Opq)(e x y:SX):dB I (LA e x y)=bif dB I e then dB I x else dB I y:=by
 have gen:dB I (.op .ite [e,x,y])=bif dB I e then dB I x else dB I y:=by
  show Val.toB (bif (bZ I e).toB then bZ I x else bZ I y)=_;unfold dB
  (intros;grind)
 unfold LA;split
 .cases dB I e<;>rfl
 .trivial
 omega
theorem cF4(r:HR O I K w0 h w)(o:eY O I af ρ)(c a b:Operand):dA E O I K w0 w h (do pure (.value (if<-asBool (ρ c)then ρ a else ρ b))) (NV h (af c) (af a) (af b)):=by
 unfold NV;split
 .rename_i e he;have hc:=o c _ he;unfold Rd;split
  .rename_i y hx hy;intro hn;have hn:(!(dB I e))=true:=hn;have hf:dB I e=false:=by grind
   refine dM.pureV r (u:=ρ b) (o b _ hy) ?_;rw[hc,hf];rfl
  .intro hn;refine dM.pureV r (u:=ρ a) (o a _ ‹_›) ?_;rw[hc,hn];rfl
  .unfold Oz;split
   .rename_i x y hx hy;obtain⟨a1,h1,h2⟩:=o8.1 hx;obtain⟨b1,h3,h4⟩:=o8.1 hy;have ha:=xS h2 (o a _ h1);have hb:=xS h4 (o b _ h3);refine dM.pureV r (u:= .bool (bif dB I e then dB I x else dB I y)) ?_ ?_
    .show _=Value.bool (dB I (LA e x y));rw[d62]
    .rw[hc,ha,hb];cases dB I e<;>rfl
   .trivial
 .trivial
theorem be6(r:HR O I K w0 h w)(o:eY O I af ρ)(s:TypeId)(f:Nat)(x:Operand):dA E O I K w0 w h (do pure (.value (<-Instr.fieldAt s (ρ x) f))) (Jv E.P s f h (af x)):=by
 unfold Jv;split
 .rename_i fields b idx j sz ht hx;have hv:=o x _ hx;obtain⟨L,hL,hv⟩:=hv;split
  .rename_i fd hf;split
   .rename_i n hs;refine dM.pureV r ⟨L,hL,rfl⟩ ?_;simp[hv,Instr.fieldAt,Sem.run_bind,Z3 ht,Result.andThen_ok,hf,Instr.sureAddr,Sem.run_pure,fieldPlace,fB hs];simp[jb,y5]
   .trivial
  .trivial
 .trivial
theorem d63(a b:SX):dI I (QS a b)=dI I a+dI I b:=by
 unfold QS;split
 .rw[tN];omega
 .rfl
theorem cF5{a:SX}(h:dB I (Sb a b)=true):dB I a=true/\dB I b=true:=by
 unfold Sb at h;split at h
 .trivial
 simp_all[uO,Z1]
theorem be7(r:HR O I K w0 h w)(o:eY O I af ρ)(t:TypeId)(x i:Operand):dA E O I K w0 w h (do pure (.value (<-Instr.indexAt t (ρ x) (ρ i)))) (NR E.P t h (af x) (af i)):=by
 have run: ∀{elem s:Nat} {k:IntKind} {n:Int} {a:Addr} {len:Int} {cap:Nat},E.P.underlying t=some (.slice elem)->fe E.P elem=some s->ρ i= .int k n->ρ x= .slice (some a) len.toNat cap->0<=n->n<len->
  (do pure (.value (<-Instr.indexAt t (ρ x) (ρ i))):Sem Next).run E.P w= .ok (.value (.pointer (some (a.add (n.toNat*s))))) w:=by
  intro elem s k n a len cap ht hs hi hx h1 h2;have hc:(0:Int)<=n/\n<(len.toNat:Int):=by omega
  rw[hi,hx];simp only[Instr.indexAt,Sem.run_bind,asIntOf,Sem.run_pure,Z3 ht,Result.andThen_ok,Instr.sureAddr,e8 hc,fB hs]
 unfold NR;split
 .rename_i elem ht;split
  .rename_i s hs;split
   .rename_i k i' hi;obtain⟨ai,g1,g2⟩:=o8.1 hi;have hvi:=sC g2 (o i _ g1);split
    .rename_i b off len sz hx;have hv:=o x _ hx;cases hc:Nat.beq s sz with
     |false=>trivial
     |true=>
      intro hd;obtain⟨d1,d2⟩:=cF5 hd;obtain⟨e1,e2⟩:=Dt d2;have d1:0<=dI I off:=j5 d1;rcases hv with⟨L,cap,a,hL,hv,hcap,ha⟩|⟨_,_,hv,_,h0⟩
      .have ha:=ha (by omega);refine dM.pureV r ⟨L,hL,?_⟩ (run ht hs hvi hv e1 e2);simp_all[jb,d63,Int.toNat_add,x8,y5]
      .omega
    .rename_i b len sz hx;have hv:=o x _ hx;cases hc:Nat.beq s sz with
     |false=>trivial
     |true=>
      obtain rfl:=Z4.1 hc;intro hd;obtain⟨e1,e2⟩:=Dt hd;rcases hv with⟨L,cap,hL,hcap,hv,_⟩|⟨hv,h0⟩
      .refine dM.pureV r ⟨L,hL,?_⟩ (run ht hs hvi hv e1 e2);rw[jb];simp
      .omega
    .rename_i b n cap hx;obtain⟨L,hL,hv⟩:=o x _ hx;intro hd;obtain⟨e1,e2⟩:=Dt hd;refine dM.pureV r ⟨L,hL,?_⟩ (run (len:=(n:Int)) ht hs hvi (by trivial) e1 (by trivial));rw[jb];simp
    .trivial
   .trivial
  .trivial
 .trivial
theorem Oj{ts:Array TypeId}{ty:TypeId}{cs:Array Bool}{t:TypeDesc}(ht:(ts[0]?).bind E.P.underlying=some t)(hk:(t= .string/\ ∃s,v= .string s/\s.size=n)\/ ∃e a c,t= .slice e/\v= .slice a n c):
 (builtin .len ts ty cs #[v]).run E.P w= .ok (.value (.int .i64 n)) w:=by
 simp[o8]at ht;obtain⟨t0,h0,ht⟩:=ht;show(do pure (.value (<-Builtin.len_ ts ty #[v])):Sem Next).run E.P w=_;rcases hk with⟨rfl,s,rfl,rfl⟩|⟨e,a,c,rfl,rfl⟩
 .simp[Builtin.len_,h0,Z3 ht];rfl
 .simp[Builtin.len_,h0,Z3 ht];rfl
theorem Uj:VR O I (pa k e) v↔v= .int k (dI I e):=by
 unfold pa;split
 .trivial
 rfl
theorem d64(r:HR O I K w0 h w)(rv:VR O I a v)(ts:Array TypeId)(ty:TypeId)(cs:Array Bool):
 dA E O I K w0 w h (builtin .len ts ty cs #[v]) (MR E.P ((ts[0]?).bind E.P.underlying) h a):=by
 unfold MR;split
 .rename_i ht;split
  .rename_i e;subst rv;exact dM.pureV r (u:= .int .i64 ((dS I e).length:Nat)) rfl (Oj ht (.inl ⟨rfl,_,rfl,by rfl⟩))
  .trivial
 .rename_i el ht;split
  .rename_i b off len sz;intro hd;have hd:0<=dI I len:=j5 hd;refine dM.pureV r (u:= .int .i64 ((dI I len).toNat:Nat)) ?_ (Oj ht (.inr ?_))
   .grind[Uj]
   .rcases rv with⟨L,cap,a,_,rfl,_⟩|⟨_,_,rfl,_,h0⟩
    ·(intros;simp_all)
    simp_all
  .rename_i b len sz;intro hd;have hd:0<=dI I len:=j5 hd;refine dM.pureV r (u:= .int .i64 ((dI I len).toNat:Nat)) ?_ (Oj ht (.inr ?_))
   .grind[Uj]
   .rcases rv with⟨L,cap,_,_,rfl,_⟩|⟨rfl,h0⟩
    ·(intros;simp_all)
    simp_all
  .trivial
 .trivial
theorem du3(hfx: ∀t,I.fix t=gv E.P t)(r:HR O I K w0 h w){c:AV}(ra:VR O I a va)(rc:VR O I c vc)(b:Builtin)(ts:Array TypeId)(ty:TypeId)(cs:Array Bool):
 dA E O I K w0 w h (builtin b ts ty cs #[va,vc]) (Kj b a c h):=by
 unfold Kj;split
 .rename_i k ea k' ec h1 h2;have e1:=sC h1 ra;have e2:=sC h2 rc;split
  .obtain⟨ac,u,w',q1,q2,q3,q4⟩:=Ur (P:=E.P) (b:= .max) (ts:=ts) (ty:=ty) (cs:=cs) (args:=[.int k (dI I ea),.int k' (dI I ec)]) (us:= #[va,vc]) (a:= .int k (bif lO (dI I ea) (dI I ec)then dI I ec else dI I ea)) (h':=h) hfx r rfl ⟨va,[vc],rfl,e1,vc,[],rfl,e2,rfl⟩;obtain⟨_,_,_,p1,p2,_⟩: ∃(a b c:Unit),(builtin .max ts ty cs #[va,vc]).run E.P w= .ok (.value u) w'/\u= .int k (bif lO (dI I ea) (dI I ec)then dI I ec else dI I ea)/\True:=⟨(),(),(),q1,q2,trivial⟩;refine⟨ac,u,w',.inl q1,?_,q3,q4⟩;show _=Value.int k (max (dI I ea) (dI I ec));grind[vR,dI]
  .obtain⟨ac,u,w',q1,q2,q3,q4⟩:=Ur (P:=E.P) (b:= .min) (ts:=ts) (ty:=ty) (cs:=cs) (args:=[.int k (dI I ea),.int k' (dI I ec)]) (us:= #[va,vc]) (a:= .int k (bif lO (dI I ec) (dI I ea)then dI I ec else dI I ea)) (h':=h) hfx r rfl ⟨va,[vc],rfl,e1,vc,[],rfl,e2,rfl⟩;refine⟨ac,u,w',.inl q1,?_,q3,q4⟩;rw[show u=_ from q2];show _=Value.int k (min (dI I ea) (dI I ec));grind[vR,dI]
  .trivial
 .trivial
theorem cg5{c:CT}{v:AV}{u:Value}(h:EJ c v=some e)(r:VR O I v u):u=gX c (bZ I e):=by
 unfold EJ at h;split at h
 .split at h
  .rename_i k k' e' hs;split at h
   .rename_i hk;subst hk;simp at h;subst h;exact sC hs r
   .cases h
  .cases h
 .exact HQ h r
 trivial
theorem rR: ∀{sig:List CT} {vs:List AV} {es:List SX} {us:List Value},jZ sig vs=some es->ct O I vs us->us=ej sig (.vl (ck I es))
 | [],[],es,us,h,r=>by
   trivial
 |c::sig,v::vs,es,us,h,⟨u,ur,e,r1,r2⟩=>by
  simp[jZ]at h;split at h
  .rename_i e1 e2 h1 h2;simp at h;subst h;rw[e,cg5 h1 r1,rR h2 r2];simp_all[ej,Val.toL,List.length_cons,J6,l9,n7,ck]
  .cases h
 | [],_::_,es,us,h,r=>by trivial
 |_::_,[],es,us,h,r=>by trivial
theorem wF{sig:List CT}{sz:Nat}: ∀{n:Nat} {cs:List AV} {rs:List SX} {us:List Value},nT sig sz n cs=some rs->cs.length=n*sz->ct O I cs us->us=cM sig (ck I rs)/\(ck I rs).length=n
 |0,cs,rs,us,h,hl,r=>by
  simp[nT,j0]at h;subst h;have:us=[]:=by have:=r.length;grind
  trivial
 |n+1,cs,rs,us,h,hl,r=>by
  simp[nT]at h;split at h
  .rename_i e rs' h1 h2;simp at h;subst h;have g1:=rR h1 (r.take sz);have g2:=wF h2 (by(intros;grind)) (r.drop sz);refine⟨?_,by simp[ck,List.length_cons,g2.2]⟩;rw[<-t8 sz us,g1,g2.1];rfl
  .cases h
theorem HR.arrCells{b e sz:Nat}{l:SX}{L:Loc}(r:HR O I K w0 h w)(hg:h.get b=some (.arr e sig l))(hb:O b=some L)(hsz:sig.length=sz)(o n:Nat)(hn:o+n<=(dL I l).length):
 ∀j v,(cM sig (((dL I l).drop o).take n))[j]? =some v->w.cell? ⟨L.blk,L.off+o*sz+j,none⟩=some v:=by
 intro j v hj;obtain⟨C,e',lo,hi,q1,q0,q2,q3,q4,q5⟩:=r.arr hg hb;rw[uF q1,show L.off+o*sz+j=L.off+(o*sz+j) by omega];apply q4;have e1:dL I l=(dL I l).take o++(((dL I l).drop o).take n++((dL I l).drop o).drop n):=by
  rw[t8,t8]
 have e2: ∀a b:List Val,cM sig (a++b)=cM sig a++cM sig b:=λa b=>by simp[cM,N5]
 rw[e1,e2,e2];have hl:(cM sig ((dL I l).take o)).length=o*sz:=by rw[jK,l5,hsz];congr 1;omega
 rw[o7 (by omega),hl,show o*sz+j-o*sz=j by omega];grind
theorem cF6(r:HR O I K w0 h w)(o:eY O I af ρ)(s d:TypeId)(x:Operand):dA E O I K w0 w h (do pure (.value (<-convert s d (ρ x)))) (NY E.P s d h (af x)):=by
 unfold NY;split
 .rename_i sd k hs hd;split
  .rename_i k' e he;have hv:=o x _ he;simp[VR]at hv;refine dM.pureV r (u:= .int k (k.wrap (dI I e))) rfl ?_;simp[hv,convert,Sem.run_bind,Z3 hs,Z3 hd,Result.andThen_ok];rfl
  .trivial
 .trivial
 .trivial
 .trivial
 .trivial
theorem Vd(sig:List CT)(l:List Val): ∀u∈cM sig l,u.oneCell'=true:=by
 intro u hu;simp[cM,D7,ej,j7]at hu;obtain⟨r,_,j,_,rfl⟩:=hu;unfold gX;split<;>rfl
theorem DS{a:SX}(h:dB I (jf a b)=true):dB I a=true/\dB I b=true:=by
 simp_all[Th,j6]
theorem Wu{a:SX}(h:dB I (Mp a b)=true):dI I a=dI I b:=by
 unfold Mp at h;cases hc:SX.beq a b with
 |true=>rw[SX.beq_eq _ _ hc]
 |false=>rw[hc]at h;exact j5 h
theorem cF7{P:Program}{e':TypeId}(r:HR O I K w0 h w)(hyt:P.underlying yt=some (.slice e'))(hs:sig.length=s)(e:OS s y h=some (sig,nd,ly))(hd:dB I nd=true)(ry:VR O I y vy):
 Src P s yt vy (dL I ly).length (cM sig (dL I ly)) w:=by
 have mk: ∀(a:Addr) (n c:Nat),vy= .slice (some a) n c->n=(dL I ly).length->(∀j v,(cM sig (dL I ly))[j]? =some v->w.cell? (a.add j)=some v)->Src P s yt vy (dL I ly).length (cM sig (dL I ly)) w:=by
  intro a n c hv hn hc;refine⟨.inl ⟨_,hyt⟩,λw'=>by rw[hv,<-hn];rfl,?_,?_,by rw[jK,hs],Vd _ _⟩
  .grind[run_firstCells_some,jK]
  .rw[hv,<-hn];exact run_firstCells_some w.drew s n a n c _ (by grind[jK]) hc
 have mk0:vy= .slice none 0 0->(dL I ly).length=0->Src P s yt vy (dL I ly).length (cM sig (dL I ly)) w:=by
  intro hv hn;have:dL I ly=[]:=C1 hn;rw[this];refine⟨.inl ⟨_,hyt⟩,λw'=>by rw[hv];rfl,?_,?_,by simp[cM],by simp[cM]⟩
  .rw[hv];rfl
  .rw[hv];rfl
 unfold OS at e;split at e
 .rename_i b len s';split at e
  .rename_i el sig' l hg;replace e:=Z2 e;obtain⟨hc,e⟩:=e;obtain⟨c1,c2⟩:=Z1 hc;rw[Z4]at c2;cases happ:e16 len with
   |true=>
    rw[happ]at e;obtain⟨rfl,rfl,rfl⟩:=e;obtain⟨d1,d2⟩:=Z1 hd;have d2:dI I len<=((dL I l).length:Int):=j5 d2;have hll:dL I (.op .lsub [l,.ci 0,len])=((dL I l).drop 0).take (dI I len).toNat:=by
     show((dL I l).drop (0:Int).toNat).take (dI I len-0).toNat=_
     (intros;grind)
    have hln:(dL I (.op .lsub [l,.ci 0,len])).length=(dI I len).toNat:=by
     (intros;simp_all)
    rcases ry with⟨L,cap,hL,hcap,hv,_⟩|⟨hv,h0⟩
    .refine mk _ _ cap hv hln.symm λj v hj=> ?_
     rw[hll]at hj;have:=r.arrCells hg hL c2 0 (dI I len).toNat (by omega) j v hj;rw[jb];simpa using this
    grind
   |false=>
   rw[happ]at e;simp at e;obtain⟨rfl,rfl,rfl⟩:=e;have hlen:dI I len=((dL I l).length:Int):=by
    have:=Wu hd;exact this
   rcases ry with⟨L,cap,hL,hcap,hv,_⟩|⟨hv,h0⟩
   .refine mk _ _ cap hv (by omega) λj v hj=> ?_
    have:=r.arrCells hg hL c2 0 (dL I l).length (by omega) j v (by simpa using hj);rw[jb];simpa using this
   grind
  .cases e
 .rename_i b off len s';split at e
  .rename_i el sig' l hg;replace e:=Z2 e;obtain⟨hc,e⟩:=e;obtain⟨c1,c2⟩:=Z1 hc;obtain rfl:=Z4.1 c1;rw[Z4]at c2;have xe:0<=dI I off/\0<=dI I len/\dI I off+dI I len<=((dL I l).length:Int)/\dL I ly=((dL I l).drop (dI I off).toNat).take (dI I len).toNat/\sig'=sig:=by
    cases hq:(SX.beq off (.ci 0)&&SX.beq len (.op .llen [l]))with
    |true=>
     obtain⟨k1,k2⟩:=Z1 hq;have k1:dI I off=0:=by rw[SX.beq_eq _ _ k1,tN]
     have k2:dI I len=((dL I l).length:Int):=by rw[SX.beq_eq _ _ k2,nV]
     simp_all
    |false=>
     rw[hq]at e;obtain⟨rfl,rfl,rfl⟩:=e;obtain⟨d1,d2⟩:=Z1 hd;obtain⟨d2,d3⟩:=Z1 d2;have d1:0<=dI I off:=j5 d1;have d2:0<=dI I len:=j5 d2;have d3:dI I off+dI I len<=((dL I l).length:Int):=j5 d3;refine⟨d1,d2,d3,?_,rfl⟩;show((dL I l).drop (dI I off).toNat).take (dI I off+dI I len-dI I off).toNat=_;grind
   obtain⟨d1,d2,d3,hll,rfl⟩:=xe;have hln:(dL I ly).length=(dI I len).toNat:=by
    grind
   rcases ry with⟨L,cap,a,hL,hv,hcap,ha⟩|⟨a,c,hv,hnc,h0⟩
   .by_cases hz:dI I len=0
    .grind[dL,List.eq_nil_of_length_eq_zero,cM]
    .refine mk a _ cap hv hln.symm λj v hj=> ?_
     rw[hll]at hj;have:=r.arrCells hg hL c2 (dI I off).toNat (dI I len).toNat (by omega) j v hj;grind[jb]
   .cases a with
    |none=>
     grind
    |some a=>
     grind[dL,List.eq_nil_of_length_eq_zero,cM]
  .cases e
 .rename_i b o n c;split at e
  .rename_i el fz cs hg;replace e:=Z2 e;obtain⟨hc,e⟩:=e;obtain⟨c1,c2⟩:=Z1 hc;rw[cW]at c1;split at e
   .split at e
    .rename_i rs hrs;obtain⟨rfl,rfl,rfl⟩:=e;obtain⟨L,hL,hv⟩:=ry;obtain⟨us,u1,u2,u3⟩:=Hd r hg hL c1;obtain⟨g1,g2⟩:=wF hrs (by grind) u1;refine mk _ n c hv g2.symm λj v hj=> ?_
     rw[jb];exact u3 j v (by rw[g1];exact hj)
    .cases e
   .cases e
  .cases e
 .rename_i b o n s';split at e
  .rename_i el fz cs hg;replace e:=Z2 e;obtain⟨hc,e⟩:=e;obtain⟨hc,c3⟩:=Z1 hc;obtain⟨c1,c2⟩:=Z1 hc;rw[cW]at c1;split at e
   .split at e
    .rename_i rs hrs;obtain⟨rfl,rfl,rfl⟩:=e;obtain⟨L,c,hL,hcp,hv⟩:=ry;obtain⟨us,u1,u2,u3⟩:=Hd r hg hL c1;obtain⟨g1,g2⟩:=wF hrs (by grind) u1;refine mk _ n c hv g2.symm λj v hj=> ?_
     rw[jb];exact u3 j v (by rw[g1];exact hj)
    .cases e
   .cases e
  .cases e
 .cases e
theorem b81(zs:Array Value)(hp:0<zs.size)(n:Nat):(Builtin.zeroCells zs (n+1)).toList=zs.toList++(Builtin.zeroCells zs n).toList:=by
 show((Array.range ((n+1)*zs.size)).map (λi=>zs[i % zs.size]!)).toList=zs.toList++((Array.range (n*zs.size)).map (λi=>zs[i % zs.size]!)).toList;simp;rw[x8,G1,E8,List.range_add,n8,n7];congr 1
 .apply J5 (by simp);intro i h1 h2;simp at h1;simp[Nat.mod_eq_of_lt h1,h1]
 simp_all
theorem aG2{zs:Array Value}{sig:List CT}{r:Val}(hp:0<zs.size)(hz:zs.toList=ej sig r): ∀n,(Builtin.zeroCells zs n).toList=cM sig (List.replicate n r)
 |0=>by simp[Builtin.zeroCells,cM]
 |n+1=>by
  rw[b81 zs hp n,aG2 hp hz n,List.replicate_succ,hz];rfl
theorem d65{P:Program}{z:List AV}(r:HR O I K w0 h w)(hs:sig.length=i.size)(hb:i.bytes<=1000)(hz:ct O I z zv.cells.toList)(hzs:zv.cells.size=i.size)(hp:0<i.size)(e:TI P yt i.size z y h=some (sig,nd,ly))(hd:dB I nd=true)(ry:VR O I y vy):
 SrcZ P i zv yt vy (dL I ly).length (cM sig (dL I ly)) w:=by
 unfold TI at e;split at e
 .rename_i e' hyt;exact .inl (cF7 r hyt hs e hd ry)
 .trivial
 .rename_i kn hyt;unfold cR4 at e;split at e
  .rename_i k ex sg hk hc;split at e
   .rename_i es hes;obtain⟨rfl,rfl,rfl⟩:=e;obtain⟨d1,d2⟩:=Z1 hd;have d1:0<=dI I ex:=j5 d1;have d2:dI I ex<=pN:=j5 d2;have hroom:pN=(room:Int):=by trivial
    have hv:=sC hk ry;have hl:dL I (.op .lrep [ex,.op .row es])=List.replicate (dI I ex).toNat (.vl (ck I es)):=rfl;have hlen:(dL I (.op .lrep [ex,.op .row es])).length=(dI I ex).toNat:=by(intros;simp_all)
    have hrow:=rR hes hz;refine .inr ⟨k,kn,hyt,?_,?_,hb,?_,by rw[jK,hs],Vd _ _⟩
    ·(intros;grind)
    .omega
    grind[aG2]
   .cases e
  .cases e
 .cases e
theorem SrcZ.nil_{P:Program}{x:Value}{news:List Value}(h:SrcZ P i zv yt x 0 news w):news=[]:=by
 rcases h with h|⟨_,_,_,_,_,_,_,h,_⟩
 .exact C1 (by simpa using h.newsLen)
 grind
theorem Src.nil_{P:Program}{x:Value}{news:List Value}(h:Src P s yt x 0 news w):news=[]:=C1 (by simpa using h.newsLen)
theorem LT: ∀{a b:List CT},iE a b=true->a=b
 | [],[],_=>rfl
 | [],_::_,h=>by cases h
 |_::_,[],h=>by cases h
 |a::x,b::y,h=>by
  simp[iE,j6,decide_eq_true_eq]at h;rw[h.1,LT h.2]
theorem HR.lay(r:HR O I K w0 h w)(x:Blk):HR O I K w0 (h.new x) w:=by
 have hn: ∀b y,(h.new x).get b=some y->O b≠none->h.get b=some y:=by
  intro b y hg hb;rw[Heap.get_new]at hg;by_cases e:b=h.next
  .subst e;exact absurd (r.fresh _ (e9 _)) hb
  grind
 refine⟨λb y L hg hb=>r.blk b y L (hn b y hg (by grind)) hb,λb b' y y' L L' g g' m m' hne hw=>r.sep b b' y y' L L' (hn b y g (by grind)) (hn b' y' g' (by grind)) m m' hne hw,
  λb hb=>r.fresh b (by grind[Heap.next_new]),λb hb=> ?_,r.lt,r.kin,r.keep,λb y L hg hw hb=>r.free b y L (hn b y hg (by grind)) hw hb,r.size,r.os,r.tape,r.out,r.dr⟩
 simp at hb;rw[Heap.get_new,b9 (by omega)];exact r.fget b (by omega)
theorem KR(I:Opq)(sig:List CT)(l:List Val): ∃cs:List AV,(∀O:cq,ct O I cs (cM sig l))/\cs.all AV.one=true/\cs.length=(cM sig l).length/\ ∀(O:cq) vs,ct O I cs vs->vs=cM sig l:=by
 have: ∀us:List Value,(∀u∈us,∃a:AV,(∀O:cq,VR O I a u)/\a.one=true/\ ∀(O:cq) v,VR O I a v->v=u)-> ∃cs:List AV,(∀O:cq,ct O I cs us)/\cs.all AV.one=true/\cs.length=us.length/\ ∀(O:cq) vs,ct O I cs vs->vs=us:=by
  intro us;induction us with
  |nil=>intro _;exact⟨[],λ_=>rfl,rfl,rfl,λ_ vs h=>h⟩
  |cons u us ih=>
   intro hh;obtain⟨a,a1,a2,a3⟩:=hh u (by simp);obtain⟨cs,c1,c2,c3,c4⟩:=ih λx hx=>hh x (by simp[hx])
   refine⟨a::cs,λO=>⟨u,us,rfl,a1 O,c1 O⟩,by simp[a2,c2],by simp[c3],λO vs ⟨v,vr,e,p,q⟩=> ?_⟩;grind
 refine this _ λu hu=> ?_
 simp[cM,D7,ej,j7]at hu;obtain⟨x,_,j,_,rfl⟩:=hu;unfold gX;split
 .exact⟨.int _ _,λ_=>rfl,rfl,λ_ v h=>h⟩
 .exact⟨.str _,λ_=>rfl,rfl,λ_ v h=>h⟩
 .exact⟨.bool _,λ_=>rfl,rfl,λ_ v h=>h⟩
theorem Dk(sig:List CT)(a b:List Val):cM sig (a++b)=cM sig a++cM sig b:=by simp[cM,N5]
theorem Tk{P:Program}{m:Sem Value}{sz elem:Nat}{l:SX}{cs:List AV}{h1 h2:Heap}(hsz:0<sz)(hs:sig.length=sz)(hn:(dL I l).length=n)(k:Ok P O I K w0 w h m (.us h1.next 0 n sz) (h1.new (.cells elem 0 cs)))
 (hlim:h1.next<65536) (hcs:cs.length=n*sz) (hdet: ∀(O:cq) vs,ct O I cs vs->vs=cM sig (dL I l)) (h2n:h2.next=h1.next) (h2w:h2.wm=h1.wm) (h2g: ∀z,h2.get z=h1.get z):
 Ok P O I K w0 w h m (.ous h1.next (.op .llen [l]) sz) (h2.new (.arr elem sig l)):=by
 obtain⟨ac,v,w',e1,e2,e3,e4⟩:=k;obtain⟨L,cap,hL,hcap,hv⟩:=e2;have hg:(h1.new (.cells elem 0 cs)).get h1.next=some (.cells elem 0 cs):=by rw[Heap.get_new,e8 rfl,e8 hlim]
 have hbr:=e3.blk _ _ L hg hL;have hle:n<=cap:=by
  obtain⟨C,lo,hi,vs,q1,q2,q3,_⟩:=hbr;rw[hcs,<-show cap*sz=L.ext by omega]at q3;exact F5 q3 hsz
 refine⟨ac,v,w',e1,.inl ⟨L,cap,hL,by omega,?_,?_⟩,?_,?_⟩
 .rw[nV,hn];trivial
 .rw[nV,hn];trivial
 .refine HR.retell (y:= .arr elem sig l) e3 hg (.inr rfl) ?_ (by simp[h2n]) (by simp[h2w]) (λz=> ?_)
  .intro L' hL' hb;obtain⟨C,lo,hi,vs,q1,q2,q3,q4,q5,q6,q7,q8⟩:=hb;have:=hdet _ _ q5;subst this;refine⟨C,_,lo,hi,q1,.inl rfl,q2,by rw[hn,hs,<-hcs];exact q3,λi v hi'=> ?_,λi hi'=>q7 i (s7 _) hi'⟩;have hlt:i<cs.length:=by
    have:=q5.length;rw[<-this];rcases j9 i (cM sig (dL I l)).length with hh|hh
    .exact hh
    .rw[t7 hh]at hi';cases hi'
   (intros;simp_all)
  .rw[Heap.get_new,Heap.get_new,h2n,h2g]
   (split<;>simp_all)
 .refine⟨?_,e4.ext,λb hb hbn=> ?_,?_⟩
  .have:=e4.le;(intros;simp_all)
  .have hu:=e4.unm b hb hbn;have he:(h2.new (.arr elem sig l)).get b=(h1.new (.cells elem 0 cs)).get b:=by
    rw[Heap.get_new,Heap.get_new,h2n,h2g];by_cases hz:b=h1.next
    .have:=e4.ext b hb;rw[hz,hL]at this;rw[hz,<-this]at hbn;cases hbn
    (split<;>simp_all)
   rw[he];exact hu
  .have:=e4.wm;(intros;simp_all)
def Cx(P:Program)(O:cq)(I:Opq)(K:Nat->Prop)(w0 w:World)(h:Heap)(m:Sem Value)(r:Res):Prop:=match r with
 | .need e v h'=>dB I e=true->Ok P O I K w0 w h m v h'
 | .bad=>True
 |_=>False
theorem cg6{P:Program}(r:HR O I K w0 h w)(ra:VR O I a va){ty elem:TypeId}(ht:P.underlying t=some (.slice elem))(hi:P.info? elem=some i)(hzi:i.zero=some zv)
 (hzs':zv.cells.size=i.size) (c1:0<i.size) (c3:i.bytes<=1000) (c5:sig.length=i.size) (hnf:I.fix elem=false) (hs0:dB I nd=true->SrcZ P i zv yt vc (dL I ly).length (cM sig (dL I ly)) w):
 Cx P O I K w0 w h (Builtin.append_ #[t,yt] ty #[va,vc]) (Hu elem i.size sig nd ly a h):=by
 unfold Hu;obtain⟨ncs,n1,n2,n3,n4⟩:=KR I sig (dL I ly);have n3':ncs.length=(dL I ly).length*i.size:=by grind[jK]
 split
 .cases hc6:Nat.blt h.next 65536 with
  |false=>trivial
  |true=>
  have c6:=fc.1 hc6;intro hd;obtain⟨d1,d2⟩:=DS hd;have d2:dI I (.op .llen [ly])<=dI I (.ci pN):=j5 d2;rw[nV,tN]at d2;have hroom:(dL I ly).length<=room:=by
   grind[pN,room]
  have hs:=hs0 d1;subst ra;by_cases hn:(dL I ly).length=0
  .rw[hn]at hs;have hnil:=Go.Ev.SrcZ.nil_ hs;rw[hnil]at hs;refine⟨O,_,_,SrcZ.nothing ht hi hs none 0 0 (e9 _),.inr ⟨rfl,by grind[nV]⟩,r.lay _,by simp,λ_ _=>rfl,λb hb _=>by left;rw[Heap.get_new,b9 (by omega)],rfl⟩
  .have g:=zD (ty:=ty) (old:=[]) (olds:=[]) (sLen:=0) (sCap:=0) (base:=none) r ht hi hzi hzs' (run_firstCells_none w.drew _ _ _ _) hs (by omega) c1 (by omega) (by omega) c3 .nil rfl (by simp) (n1 O) n2 n3' 0;simp at g;exact Tk (h1:=h) (h2:=h) c1 c5 rfl g c6 n3' n4 rfl rfl (λ_=>rfl)
 .rename_i b len sz;split
  .rename_i el sig' l hg;cases hq:(Nat.beq sz i.size&&Nat.beq el elem&&iE sig' sig&&Nat.ble h.wm b&&Nat.blt h.next 65536&& !(Nat.beq el jM))with
   |false=>trivial
   |true=>
    obtain⟨hq,c7⟩:=Z1 hq;have hne:el≠jM:=λe=>by simp_all
    obtain⟨hq,c6⟩:=Z1 hq;rw[fc]at c6;obtain⟨hq,q4⟩:=Z1 hq;obtain⟨hq,q3⟩:=Z1 hq;obtain⟨q1,q2⟩:=Z1 hq;obtain rfl:=Z4.1 q1;obtain rfl:=Z4.1 q2;rw[cW]at q4;obtain rfl:=LT q3;intro hd;obtain⟨d1,d2⟩:=DS hd;obtain⟨d3,d2⟩:=DS d2;have d3:dI I len=dI I (.op .llen [l]):=Wu d3;have d2:dI I (.op .llen [rD l ly])<=dI I (.ci pN):=j5 d2;have hcat:dL I (rD l ly)=dL I l++dL I ly:=d59 l ly;rw[nV,tN,hcat,k5]at d2;rw[nV]at d3;have hroom:(dL I l).length+(dL I ly).length<=room:=by
     grind[pN,room]
    have hs:=hs0 d1;have gf: ∀(hh:Heap) (x:Option Blk) (z:Nat),(hh.put b x).get z=if z=b then(if b<65536 then x else none)else hh.get z:=λhh x z=>Heap.get_put _ _ _ _
    have hb65:=Heap.get_lim h b _ hg;rcases ra with⟨L,cap,hL,hcap,hv,hle⟩|⟨hv,h0'⟩
    .have hlen:(dI I len).toNat=(dL I l).length:=by omega
     rw[hlen]at hv hle;by_cases hn:(dL I ly).length=0
     .have hly:dL I ly=[]:=C1 hn;rw[hn]at hs;have hnil:=Go.Ev.SrcZ.nil_ hs;rw[hnil]at hs;have hbr:=r.blk b _ L hg hL;obtain⟨p1,p2⟩:=HR.rename (w':=w) r b _ (.arr el sig' (rD l ly)) L L hg hL q4 rfl (λ_ _=>rfl) rfl rfl rfl rfl rfl (by
       obtain⟨C,e',lo,hi,z1,z0,z2,z3,z4,z5⟩:=hbr;have hd:dL I (rD l ly)=dL I l:=by(intros;simp_all)
       exact⟨C,e',lo,hi,z1,z0,z2,by rw[hd];exact z3,by rw[hd];exact z4,z5⟩)
      subst hv;refine⟨_,_,_,SrcZ.nothing ht hi hs _ _ cap hle,.inl ⟨L,cap,cq.add_self _ _ _,hcap,?_,?_⟩,p1,p2⟩
      .rw[nV,hcat,hly];simp
      grind[nV]
     .obtain⟨ocs,m1,m2,m3,m4⟩:=KR I sig' (dL I l);have m3':ocs.length=(dL I l).length*i.size:=by rw[m3,jK,c5]
      have r2:HR O I K w0 (h.put b (some (.cells el 0 ocs))) w:=by
       refine HR.retell (y:= .cells el 0 ocs) r hg (.inl q4) ?_ rfl rfl (λz=>by rw[gf,e8 hb65]);intro L' hL' hbr;obtain⟨C,e',lo,hi,z1,z0,z2,z3,z4,z5⟩:=hbr;rw[z0.resolve_right hne]at z1;refine⟨C,lo,hi,cM sig' (dL I l),z1,z2,by rw[m3,jK];exact z3,pM m2,m1 O,λk hk=> ?_,λk _ hk=>z5 k hk,λhh=>by rw[hnf]at hh;cases hh⟩
       (intros;simp_all)
      have hg2:(h.put b (some (.cells el 0 ocs))).get b=some (.cells el 0 ocs):=by(intros;simp_all)
      have g:=VP (ty:=ty) (o:=0) (sLen:=(dL I l).length) (sCap:=cap) (n:=(dL I ly).length) (fz:=0) r2 ht hi hzi hzs' c1 hs (by omega) hroom c3 hL hg2 q4 (by simpa using hcap) (s7 _) (by omega) (n1 O) n2 n3' (by trivial) 0 (s7 _);rw[show(List.drop 0 ocs).take ((dL I l).length*i.size)=ocs by(intros;grind)]at g;rw[show(⟨L.blk,L.off+0,none⟩:Addr)=⟨L.blk,L.off,none⟩ by simp,<-hv]at g;have g2:Ok P O I K w0 w h (Builtin.append_ #[t,yt] ty #[va,vc]) (.us ((h.put b (some (.cells el 0 ocs))).put b none).next 0 ((dL I l).length+(dL I ly).length) i.size) (((h.put b (some (.cells el 0 ocs))).put b none).new (.cells el 0 (ocs++ncs))):=by
       obtain⟨ac,v,w',y1,y2,y3,y4⟩:=g;refine⟨ac,v,w',y1,y2,y3,y4.le,y4.ext,λz hz hzn=> ?_,y4.wm⟩;have hu:=y4.unm z hz hzn
       (intros;grind)
      refine Tk (h1:=(h.put b (some (.cells el 0 ocs))).put b none) (h2:=h.put b none) (l:=rD l ly) c1 c5 (by(intros;simp_all)) g2 c6 ?_ ?_ rfl rfl (λz=> ?_)
      ·(intros;grind)
      .intro ac vs hvs;rw[hcat,Dk];have e1:=hvs.take ocs.length;have e2:=hvs.drop ocs.length;rw[I2]at e1;rw[I3]at e2;rw[<-t8 ocs.length vs,m4 ac _ e1,n4 ac _ e2]
      grind
    .have hl0:(dL I l).length=0:=by omega
     subst hv;obtain⟨r1,st1⟩:=r.drop b;by_cases hn:(dL I ly).length=0
     .rw[hn]at hs;have hnil:=Go.Ev.SrcZ.nil_ hs;rw[hnil]at hs;refine⟨O,_,_,SrcZ.nothing ht hi hs none 0 0 (e9 _),.inr ⟨rfl,by grind[nV]⟩,r1.lay _,st1.trans ⟨by simp,λ_ _=>rfl,λb hb _=>by left;rw[Heap.get_new,b9 (by omega)],rfl⟩⟩
     .have g:=zD (ty:=ty) (old:=[]) (olds:=[]) (sLen:=0) (sCap:=0) (base:=none) r1 ht hi hzi hzs' (run_firstCells_none w.drew _ _ _ _) hs (by omega) c1 (by omega) (by omega) c3 .nil rfl (by simp) (n1 O) n2 n3' 0;simp at g;obtain⟨ac,v,w',y1,y2,y3,y4⟩:=Tk (h1:=h.put b none) (h2:=h.put b none) (l:=rD l ly) c1 c5 (n:=(dL I ly).length) (by grind) g c6 n3' (by grind) rfl rfl (λ_=>rfl);exact⟨ac,v,w',y1,y2,y3,st1.trans y4⟩
  .trivial
 .trivial
theorem br3{sig:List CT}{l idx:SX}{j sz b:Nat}{L:Loc}{C:Array Value}{e':TypeId}{lo hi:Nat}{v:Value}(r:HR O I K w0 h w)(hL:O b=some L)(hv:v= .pointer (some ⟨L.blk,L.off+(dI I idx).toNat*sz+j,none⟩))(q1:w.heap[L.blk]? =some (.cells C e' (lo,hi)))
 (q4: ∀i v,(cM sig (dL I l))[i]? =some v->C[L.off+i]? =some v) (t:TypeId):dA E O I K w0 w h (do pure (.value (<-Instr.loadAt t v))) (GA E.P t sig l idx j sz h):=by
 have cell: ∀(m:Nat),m<sig.length->sig.length=sz->0<=dI I idx->dI I idx<dI I (.op .llen [l])->
  w.cell? ⟨L.blk,L.off+(dI I idx).toNat*sz+m,none⟩=some (gX (sig.getD m .bool) (co (dL I l) (dI I idx) m)):=by
  intro m hm hs h0 h1;rw[uF q1];rw[nV]at h1;have hlt:(dI I idx).toNat<(dL I l).length:=by omega
  have:=GW (sig:=sig) (j:=m) hm hlt;grind[dI,co]
 unfold GA;split
 .rename_i n h1 h2;cases hc:(Nat.beq sig.length sz&&Nat.ble (j+n) sz)with
  |false=>trivial
  |true=>
   obtain⟨c1,c2⟩:=Z1 hc;rw[Z4]at c1;rw[cW]at c2;intro hd;obtain⟨g1,g2⟩:=Dt hd;refine dM.pureV r (u:= .agg ((List.range' j n).map λt=>gX (sig.getD t .bool) (co (dL I l) (dI I idx) t)).toArray) ⟨_,rfl,IK sig l idx n j⟩ ?_;have hload:=run_loadCells_list (P:=E.P) w ⟨L.blk,L.off+(dI I idx).toNat*sz+j,none⟩ ((List.range' j n).map λt=>gX (sig.getD t .bool) (co (dL I l) (dI I idx) t)) (λi v hi=>by
    rw[jb];grind)
   simp at hload;rw[hv];simp[Instr.loadAt,Instr.sureAddr,Sem.run_bind,Sem.run_pure,Result.andThen_ok,loadVar,BH h1,if_true,fB h2,hload]
 .rename_i n h1 h2;cases hc:(Nat.beq sig.length sz&&Nat.blt j sz)with
  |false=>trivial
  |true=>
   intro hd;obtain⟨g1,g2⟩:=Dt hd;refine dM.pureV r (CU _ _) ?_;simp[Instr.loadAt,Instr.sureAddr,Sem.run_bind,Sem.run_pure,Result.andThen_ok,loadVar,BH h1,s6,if_false];simp_all;rfl
 .trivial
theorem cF8(r:HR O I K w0 h w)(o:eY O I af ρ)(t:TypeId)(x:Operand):dA E O I K w0 w h (do pure (.value (<-Instr.loadAt t (ρ x)))) (Np E.P t h (af x)):=by
 unfold Np;split
 .rename_i b idx j sz hx;have hv:=o x _ hx;obtain⟨L,hL,hv⟩:=hv;split
  .rename_i el sig l hg;obtain⟨C,e',lo,hi,q1,q0,q2,q3,q4,q5⟩:=r.arr hg hL;exact br3 r hL hv q1 q4 t
  .rename_i el fz cs hg;split
   .rename_i sig rs hl;unfold cR3 at hl;split at hl
    .obtain⟨hc,hl⟩:=Z2 hl;split at hl
     .rename_i rs' hrs;simp only[j0,A3]at hl;obtain⟨rfl,rfl⟩:=hl;obtain⟨C,lo,hi,vs,z1,z2,z3,z4,z5,z6,z7⟩:=r.cells hg hL;obtain⟨y1,y2⟩:=wF (I:=I) hrs (Z4.1 hc) z5;refine br3 r hL hv z1 (λi v hi=> ?_) t;have hi:(cM _ (ck I rs'))[i]? =some v:=hi;rw[<-y1]at hi;rw[z6 i (by rw[<-z5.length];exact(A4.1 hi).1)];exact hi
     .cases hl
    .cases hl
   .trivial
  .trivial
  .trivial
 .trivial
theorem cg7(r:HR O I K w0 h w){elem:Nat}{x':AV}{h':Heap}(hf:I.fix elem=false)(e:Ov elem s sig x h=some (x',h'))(rx:VR O I x v):
 ∃ac,HR ac I K w0 h' w/\VR ac I x' v/\St h O h' ac:=by
 have main: ∀(b o n cap:Nat) (L:Loc) (fz:Nat) (cs:List AV) (rs:List SX),h.get b=some (.cells elem fz cs)->O b=some L->h.wm<=b->fz<=o->o+cap*s<=L.ext->o+n*s<=cs.length->n<=cap->sig.length=s->h.next<65536->
  nT sig s n ((cs.drop o).take (n*s))=some rs->v= .slice (some ⟨L.blk,L.off+o,none⟩) n cap->
  x'= .ous h.next (.op .llen [.op .row rs]) s->h'=(h.put b none).new (.arr elem sig (.op .row rs))-> ∃ac,HR ac I K w0 h' w/\VR ac I x' v/\St h O h' ac:=by
  intro b o n cap L fz cs rs hg hL hwm hfo hext hn hnc hsl hlim hrs hv hx hh;obtain⟨C,lo,hi,vs,q1,q2,q3,q4,q5,q6,q7⟩:=r.cells hg hL;obtain⟨z1,z2⟩:=wF hrs (by grind) ((q5.drop o).take (n*s));obtain⟨r1,s1⟩:=HR.rename (w':=w) r b _ (.arr elem sig (.op .row rs)) L ⟨L.blk,L.off+o,cap*s⟩ hg hL hwm rfl (λ_ _=>rfl) rfl rfl rfl rfl rfl (by
   refine⟨C,_,lo,hi,q1,.inl rfl,by grind,?_,λi v hi'=> ?_,λi hi'=> ?_⟩
   .show(ck I rs).length*sig.length<=cap*s;simp_all[A1]
   .have hi':(cM sig (ck I rs))[i]? =some v:=hi';grind
   (simp_all;grind))
  subst hx;subst hh;refine⟨_,r1,.inl ⟨_,cap,cq.add_self _ _ _,rfl,?_,?_⟩,s1⟩
  .have hll:(dI I (.op .llen [.op .row rs])).toNat=n:=by
    trivial
   grind
  .show(((ck I rs).length:Nat):Int).toNat<=cap;omega
 unfold Ov at e;split at e
 .rename_i b o n c;split at e
  .rename_i e0 fz cs hg;replace e:=Z2 e;obtain⟨hc,e⟩:=e;obtain⟨hc,c7⟩:=Z1 hc;obtain⟨hc,c6⟩:=Z1 hc;obtain⟨hc,c5⟩:=Z1 hc;obtain⟨hc,c4⟩:=Z1 hc;obtain⟨hc,c3⟩:=Z1 hc;obtain⟨c1,c2⟩:=Z1 hc;obtain rfl:=Z4.1 c1;rw[Z4]at c6;rw[cW]at c2 c3 c4 c5;rw[fc]at c7;split at e
   .obtain⟨L,hL,hv⟩:=rx;have hns:n*s<=c*s:=A1 _ c5;have hbr:=r.blk b _ L hg hL;obtain⟨_,_,_,_,_,_,q3,_⟩:=hbr;grind
   .cases e
  .cases e
 .rename_i b o n s';split at e
  .rename_i e0 fz cs hg;replace e:=Z2 e;obtain⟨hc,e⟩:=e;obtain⟨hc,c8⟩:=Z1 hc;obtain⟨hc,c7⟩:=Z1 hc;obtain⟨hc,c6⟩:=Z1 hc;obtain⟨hc,c5⟩:=Z1 hc;obtain⟨hc,c4⟩:=Z1 hc;obtain⟨hc,c3⟩:=Z1 hc;obtain⟨c1,c2⟩:=Z1 hc;obtain rfl:=Z4.1 c1;obtain rfl:=Z4.1 c5;rw[Z4]at c6;rw[cW]at c2 c3 c4;rw[fc]at c7 c8;split at e
   .obtain⟨L,cap,hL,hcap,hv⟩:=rx;have hbr:=r.blk b _ L hg hL;obtain⟨_,_,_,_,_,_,q3,_⟩:=hbr;have hnc:n<=cap:=by
     have:n*s'<=cap*s':=by omega
     exact F5 this c8
    grind
   .cases e
  .cases e
 .trivial
 .cases e
theorem c36(hfx: ∀t,I.fix t=gv E.P t)(r:HR O I K w0 h w){c:AV}(ra:VR O I a va)(rc:VR O I c vc)(ts:Array TypeId)(ty:TypeId)(cs:Array Bool):
 dA E O I K w0 w h (builtin .append ts ty cs #[va,vc]) (Sz E.P ts a c h):=by
 have lift: ∀{x:AV} {h':Heap},Ok E.P O I K w0 w h (Builtin.append_ ts ty #[va,vc]) x h'->dM E O I K w0 w h (builtin .append ts ty cs #[va,vc]) x h':=λk=>dM.of k
 unfold Sz;split
 .rename_i elem yt h1 h2;split
  .rename_i i z hi hz;split
   .rename_i sig nd ly hrows;cases hc:(Nat.blt 0 i.size&&Nat.beq z.cells.length i.size&&Nat.ble i.bytes 1000&&Nat.beq ts.size 2&&Nat.beq sig.length i.size&& !(gv E.P elem))with
    |false=>trivial
    |true=>
     obtain⟨hc,c7⟩:=Z1 hc;have hnf:I.fix elem=false:=by(intros;simp_all)
     obtain⟨hc,c5⟩:=Z1 hc;obtain⟨hc,c4⟩:=Z1 hc;obtain⟨hc,c3⟩:=Z1 hc;obtain⟨c1,c2⟩:=Z1 hc;rw[fc]at c1;rw[Z4]at c2 c4 c5;rw[cW]at c3;simp[o8]at h1;obtain⟨t,h0,ht⟩:=h1;obtain rfl:=Zu h0 h2 c4;obtain⟨i',zv,hi',hzi,hzs,hzv⟩:=bq4 hz;rw[hi]at hi';simp at hi';subst hi';have hzs':zv.cells.size=i.size:=hzs.trans c2;have hs0:dB I nd=true->SrcZ E.P i zv yt vc (dL I ly).length (cM sig (dL I ly)) w:=λhd=>d65 r c5 c3 (hzv _ _) hzs' c1 hrows hd rc
     have fin: ∀(res:Res),Cx E.P O I K w0 w h (Builtin.append_ #[t,yt] ty #[va,vc]) res->dA E O I K w0 w h (builtin .append #[t,yt] ty cs #[va,vc]) res:=by
      intro res hr;cases res<;>first|exact hr.elim|trivial|(intro hd;exact lift (hr hd))
     unfold dq3;split
     .rename_i p hp;obtain⟨ac,r1,rx,s1⟩:=cg7 r hnf (x':=p.1) (h':=p.2) hp ra;have:=cg6 (ty:=ty) r1 rx ht hi hzi hzs' c1 c3 c5 hnf hs0;refine fin _ ?_;revert this;cases Hu elem i.size sig nd ly p.1 p.2 with
      |need e v h'=>
       intro hh hd;obtain⟨ap,u,w',y1,y2,y3,y4⟩:=hh hd;exact⟨ap,u,w',y1,y2,y3,s1.trans y4⟩
      |bad=>intro _;trivial
      |_=>intro hh;trivial
     grind[cg6]
   .trivial
  .trivial
 .trivial
end Go.Ev
namespace Go.Ev
open Go
variable{ks vs:List CT}{v:Value}{l:SX}{es xs:List SX}
variable{E:Env}{O:cq}{I:Opq}{K:Nat->Prop}{w0 w:World}{h h':Heap}{af:Operand->Option AV}{ρ:Operand->Value}
def An(c:CT)(x:Val):AV:=match c with
 | .int k=> .int k x.toI
 | .str=> .str x.toS
 | .bool=> .bool x.toB
def ip(r:Val):List CT->Nat->List AV
 | [],_=>[]
 |c::cs,j=>An c (r.toL.getD j default)::ip r cs (j+1)
def gi(r:Val):List CT->Nat->List Value
 | [],_=>[]
 |c::cs,j=>gX c (r.toL.getD j default)::gi r cs (j+1)
theorem Rm(c:CT)(x:Val):VR O I (An c x) (gX c x):=by cases c<;>rfl
theorem BL(r:Val): ∀(sig:List CT) (j:Nat),ct O I (ip r sig j) (gi r sig j)
 | [],_=>rfl
 |c::cs,j=> .cons (Rm c _) (BL r cs (j+1))
theorem zK(r:Val): ∀(sig:List CT) (j:Nat),(gi r sig j).length=sig.length
 | [],_=>rfl
 |c::cs,j=>by simp[gi,zK r cs (j+1)]
theorem bO7(r:Val): ∀(a b:List CT) (j:Nat),gi r (a++b) j=gi r a j++gi r b (j+a.length)
 | [],b,j=>rfl
 |c::a,b,j=>by
  have:=bO7 r a b (j+1);simp[List.cons_append,gi,this,List.length_cons]
  (intros;grind)
theorem ZK(sig:List CT)(r:Val): ∀(s:List CT) (j:Nat),sig.drop j=s->(List.range' j s.length).map (λt=>gX (sig.getD t .bool) (r.toL.getD t default))=gi r s j
 | [],j,_=>rfl
 |c::s,j,h=>by
  have h1:sig.getD j .bool=c:=by
   have:=congrArg (λz:List CT=>z[0]?) h;grind
  have h2:sig.drop (j+1)=s:=by
   grind[List.tail_drop]
  rw[List.length_cons,G0,l9,h1,ZK sig r s (j+1) h2];rfl
theorem qV(sig:List CT)(r:Val):ej sig r=gi r sig 0:=by
 have:=ZK sig r sig 0 rfl;grind[ej,List.range_eq_range']
theorem bO8(ks vs:List CT)(r:Val):qY ks vs r=(kV (gi r ks 0),kV (gi r vs ks.length)):=by
 simp_all[qY,qV,bO7,m9,zK,I2,I3]
theorem Gy: ∀{a:List AV} {us:List Value},ct O I a us->VR O I (lW a) (kV us)
 | [],us,h=>by rw[show us=[]from h];exact⟨_,rfl,rfl⟩
 | [x],us,⟨v,vr,e,h1,h2⟩=>by rw[e,show vr=[]from h2];exact h1
 |x::y::r,us,⟨v,vr,e,h1,u,ur,e2,h3,h4⟩=>by
  rw[e,e2];exact⟨_,rfl,.cons h1 (.cons h3 h4)⟩
theorem Ls{us:List Value}(h:2<=us.length):kV us= .agg us.toArray:=by
 match us,h with
 |_::_::_,_=>rfl
def xN(I:Opq)(n:Nat)(k r:Val):Opq:=⟨I.v,λi=>if i<n then k.toL.getD i default else r.toL.getD (i-n) default,I.f,I.one,I.fix,I.gh⟩
theorem cg9(I:Opq)(c:CT)(e:SX):eA I (wc c e)=An c (bZ I e):=by cases c<;>rfl
theorem KD{aa:Opq}{r:Val}: ∀(s:List CT) (i j:Nat),(∀t,t<s.length->aa.w (i+t)=r.toL.getD (j+t) default)->rL aa (sc s i)=ip r s j
 | [],_,_,_=>rfl
 |c::s,i,j,h=>by
  have h0:=h 0 (by simp);have ih:=KD s (i+1) (j+1) (λt ht=>by
   have:=h (t+1) (by simp;omega);rw[show i+1+t=i+(t+1) by omega,show j+1+t=j+(t+1) by omega];exact this)
  simp only[sc,rL,ip,cg9,ih];rw[show bZ aa (.va i)=aa.w i from rfl,show aa.w i=r.toL.getD j default by trivial]
theorem bO9{aa:Opq}{k r:Val}: ∀(s:List CT) (i j c:Nat),(∀t,t<s.length->aa.w (i+t)=k.toL.getD (c+t) default)->(∀t,t<s.length->aa.w (j+t)=r.toL.getD (c+t) default)->dB aa (Kk s i j)=Br r k s c
 | [],_,_,_,_,_=>rfl
 |q::s,i,j,c,h1,h2=>by
  have a:=h1 0 (by simp);have b:=h2 0 (by simp);simp at a b;have ih:=bO9 s (i+1) (j+1) (c+1) (λt ht=>by
   have:=h1 (t+1) (by grind);rw[show i+1+t=i+(t+1) by omega,show c+1+t=c+(t+1) by omega];exact this) (λt ht=>by
   have:=h2 (t+1) (by grind);rw[show j+1+t=j+(t+1) by omega,show c+1+t=c+(t+1) by omega];exact this)
  have hand: ∀x y:SX,dB aa (jf x y)=(dB aa x&&dB aa y):=λx y=>by
   unfold jf;split
   .rfl
   .split
    .show dB aa _=(dB aa _&&true);grind
    .rfl
  simp[Kk,Br,hand,ih];congr 1;cases q
  .show decide ((aa.w i).toI=(aa.w j).toI)=_;rw[a,b];rfl
  .show decide ((aa.w i).toS=(aa.w j).toS)=_;rw[a,b];rfl
  .show((aa.w i).toB==(aa.w j).toB)=_;rw[a,b];rfl
theorem cF9{P:Program}{kt:TypeId}(hk:tQ P kt ks=true)(k r:Val):kG P 10000 kt (.agg (ip k ks 0)) (.agg (ip r ks 0))=some (io ks r k):=by
 obtain⟨_,hk⟩:=Z1 hk;split at hk
 .rename_i e he;obtain rfl:=SX.beq_eq _ _ hk;have:=Rs (I:=xN ax ks.length k r) 10000 he;simp[eA]at this;rw[KD (r:=k) ks 0 0 (λt ht=>by simp[xN,ht]),KD (r:=r) ks ks.length 0 (λt ht=>by simp only[xN];(split<;>grind))]at this;rw[this,bO9 (k:=k) (r:=r) ks 0 ks.length 0 (λt ht=>by simp[xN,ht]) (λt ht=>by simp only[xN];(split<;>grind))];rfl
 grind
theorem SY{P:Program}{kt:TypeId}(hk:tQ P kt ks=true)(k:Val):sf P kt (.agg (ip k ks 0))=true:=by
 obtain⟨hk,_⟩:=Z1 hk;have e:ip k ks 0=rL (xN ax ks.length k k) (sc ks 0):=(KD (r:=k) ks 0 0 (λt ht=>by simp[xN,ht])).symm;rw[e];unfold sf at hk⊢;split at hk
 .trivial
 .trivial
 .trivial
 .rename_i fields cs hu hq;cases hq;rw[hu];rw[Q3]at hk⊢;intro f hf;obtain⟨h1,h2⟩:=Z1 (hk f hf);obtain⟨a,ha⟩:=Q2.1 h1;rw[Rw ha,h2];rfl
 grind
def ZH(ks vs:List CT)(r:Val):AV×AV:=(.agg (ip r ks 0),lW (ip r vs ks.length))
theorem KK{ks vs:List CT}(h2:2<=ks.length): ∀{rows:List Val} {m:List MapEntry},(m.map λe=>(e.key,e.val))=rows.map (qY ks vs)-> ∃es,ERs O I es m/\(es.map λe=>(e.key,e.val))=rows.map (ZH ks vs)
 | [],[],_=>⟨[],.nil,rfl⟩
 | [],_::_,h=>by cases h
 |_::_,[],h=>by cases h
 |r::rows,e::m,h=>by
  simp at h;obtain⟨es,h3,h4⟩:=KK h2 (rows:=rows) (m:=m) h.2;rw[bO8]at h;obtain⟨k,v,b⟩:=e;have hk:k=kV (gi r ks 0):=congrArg Prod.fst h.1;refine⟨⟨.agg (ip r ks 0),lW (ip r vs ks.length),b⟩::es,.cons ?_ ?_ h3,by simp_all;rfl⟩
  .rw[hk,Ls (by rw[zK];exact h2)];exact⟨_,rfl,BL r ks 0⟩
  grind[Gy,BL]
theorem Lt{P:Program}{kt:TypeId}{ks vs:List CT}(hk:tQ P kt ks=true)(k:Val): ∀{rows:List Val} {es:List Ent} (i:Nat),(es.map λe=>(e.key,e.val))=rows.map (ZH ks vs)->
 (rows.findIdx (λr=>io ks r k)=rows.length/\nH P kt (.agg (ip k ks 0)) es i=some none)\/
 ∃e r,rows.findIdx (λr=>io ks r k)<rows.length/\rows[rows.findIdx (λr=>io ks r k)]? =some r/\io ks r k=true/\nH P kt (.agg (ip k ks 0)) es i=some (some (i+rows.findIdx (λr=>io ks r k),e))/\e.key= .agg (ip r ks 0)/\e.val=lW (ip r vs ks.length)
 | [],[],i,_=> .inl ⟨rfl,rfl⟩
 | [],_::_,i,h=>by cases h
 |_::_,[],i,h=>by cases h
 |r::rows,e::es,i,h=>by
  simp at h;have h1:e.key= .agg (ip r ks 0):=congrArg Prod.fst h.1;have h2:e.val=lW (ip r vs ks.length):=congrArg Prod.snd h.1;have hq:=cF9 hk k r;rw[List.findIdx_cons];cases hc:io ks r k with
  |true=>
   simp_all[nH,cond_true,Nat.add_zero]
  |false=>
   rw[hc]at hq;rcases Lt hk k (i+1) h.2 with⟨a,b⟩|⟨e',r',a1,a2,a3,a4,a5,a6⟩
   .exact .inl ⟨by rw[a];rfl,by simp[nH,h1,hq];exact b⟩
   grind[List.length_cons,Nat.succ_lt_succ,nH]
theorem HR.marr{b:Nat}{d:Bool}{L:Loc}(r:HR O I K w0 h w)(hg:h.get b=some (.marr d ks vs l))(hb:O b=some L):
 ∃E c,w.heap[L.blk]? =some (.map E c)/\(E.toList.map λe=>(e.key,e.val))=(dL I l).map (qY ks vs)/\gP d E.toList c:=r.blk b _ L hg hb
theorem gP.push{d:Bool}{E:List MapEntry}{c:Nat}(h:gP d E c)(k x:Value):gP d (E++[⟨k,x,c⟩]) (c+1):=by
 obtain⟨h1,h2,h3⟩:=h;refine⟨?_,?_,?_⟩
 ·(intros;grind)
 ·(intros;grind)
 .intro hd;rw[n8,h3 hd,R0];rfl
theorem Xl{f:MapEntry->MapEntry}(hf: ∀e,(f e).born=e.born): ∀(E:List MapEntry) (i:Nat),(E.modify i f).map (·.born)=E.map (·.born)
 | [],i=>by grind
 |e::E,0=>by grind
 |e::E,i+1=>by simpa using Xl hf E i
theorem gP.modify{d:Bool}{E:List MapEntry}{c:Nat}(h:gP d E c)(i:Nat)(f:MapEntry->MapEntry)(hf: ∀e,(f e).born=e.born):gP d (E.modify i f) c:=by
 obtain⟨h1,h2,h3⟩:=h;have hm:=Xl hf E i;refine⟨by rw[hm];exact h1,λe he=> ?_,λhd=>by rw[hm];exact h3 hd⟩;have:e.born∈(E.modify i f).map (·.born):=List.mem_map_of_mem he
 (intros;grind)
theorem KE(ks:List CT)(l:SX)(es:List SX):dI I (mi ks l es)=((dL I l).findIdx (λr=>io ks r (.vl (ck I es))):Nat):=rfl
theorem wK(ks:List CT)(l:SX)(es:List SX):dB I (gQ ks l es)=decide ((dL I l).findIdx (λr=>io ks r (.vl (ck I es)))<(dL I l).length):=by
 show decide (((dL I l).findIdx (λr=>io ks r (.vl (ck I es))):Int)<((dL I l).length:Int))=_;simp
theorem sv(c a b:SX):bZ I (.op .ite [c,a,b])=bif dB I c then bZ I a else bZ I b:=rfl
theorem br6{ks:List CT}{l:SX}{es:List SX}{r:Val}(hh:dB I (gQ ks l es)=true)(hr:(dL I l)[(dL I l).findIdx (λr=>io ks r (.vl (ck I es)))]? =some r): ∀(vs:List CT) (j:Nat) (zs:List SX),zs.length=vs.length->ct O I (mu ks l es vs j zs) (gi r vs j)
 | [],_,_,_=>by rfl
 |c::vs,j,[],h=>by simp at h
 |c::vs,j,z::zs,h=>by
  have ih:=br6 hh hr vs (j+1) zs (by simpa using h);refine .cons ?_ ih;have e:bZ I (.op .ite [gQ ks l es,.op .lget [l,mi ks l es,.ci j],z])=r.toL.getD j default:=by
   rw[sv,hh];show co (dL I l) (dI I (mi ks l es)) (j:Int)=_;rw[KE];show(((dL I l)[(dL I l).findIdx _]?).getD (.vl [])).toL.getD j default=_;rw[hr];rfl
  grind[CU]
theorem br7{ks:List CT}{l:SX}{es:List SX}(hh:dB I (gQ ks l es)=false): ∀(vs:List CT) (j i:Nat) (zs:List SX) (q:Val),zs.length=vs.length->(∀t,t<zs.length->q.toL.getD (i+t) default=bZ I (zs.getD t (.cb false)))->ct O I (mu ks l es vs j zs) (gi q vs i)
 | [],_,_,_,_,_,_=>by rfl
 |c::vs,j,i,[],q,h,_=>by simp at h
 |c::vs,j,i,z::zs,q,h,hq=>by
  have ih:=br7 hh vs (j+1) (i+1) zs q (by simpa using h) (λt ht=>by
   (simp_all;grind))
  refine .cons ?_ ih;have e:bZ I (.op .ite [gQ ks l es,.op .lget [l,mi ks l es,.ci j],z])=q.toL.getD i default:=by
   rw[sv,hh];have:=hq 0 (by simp)
   (intros;grind)
  grind[CU]
theorem aX8{z:AV}(hs:wx vs z=true)(hv:VR O I z v)(hl:v.cells.toList.length=vs.length):kV v.cells.toList=v:=by
 match vs,hs with
 | [c],hs=>
   trivial
 |_::_::_,hs=>
  cases z with
  |agg cs=>
   obtain⟨xs,rfl,_⟩:=hv;show kV xs.toList=_;have:2<=xs.toList.length:=by
    have:xs.toList.length=_:=hl;grind
   rw[Ls this]
  |_=>cases hs
theorem Yo{c:CT}{x:Val}(h:VR O I (An c x) v):v=gX c x:=by cases c<;>exact h
theorem Sc(r:Val): ∀(sig:List CT) (j:Nat) {us:List Value},ct O I (ip r sig j) us->us=gi r sig j
 | [],_,_,h=>h
 |c::cs,j,_,⟨v,vr,e,h1,h2⟩=>by rw[e,Yo h1,Sc r cs (j+1) h2];rfl
theorem d66(r:Val)(sig:List CT)(j:Nat)(h:VR O I (lW (ip r sig j)) v):v=kV (gi r sig j):=by
 match sig,h with
 | [],⟨xs,e,h⟩=>rw[e];congr 1;exact N6.1 h
 | [c],h=>exact Yo h
 |c::d::s,⟨xs,e,h⟩=>
  rw[e,Ls (by rw[zK];simp),<-Sc r (c::d::s) j h]
theorem NC(I:Opq): ∀l:List SX,(ck I l).length=l.length
 | []=>rfl
 |_::r=>by simp[ck,NC I r]
theorem Oy(I:Opq): ∀(l:List SX) (t:Nat),t<l.length->(ck I l).getD t default=bZ I (l.getD t (.cb false))
 | [],t,h=>by simp at h
 |x::r,0,_=>rfl
 |x::r,t+1,h=>by
  have:=Oy I r t (by simpa using h);grind[ck]
theorem vU: ∀{sig:List CT} {vs:List AV} {es:List SX},jZ sig vs=some es->es.length=sig.length
 | [],[],es,h=>by grind[jZ,Option.some.injEq]
 | [],_::_,es,h=>by cases h
 |_::_,[],es,h=>by cases h
 |c::cs,v::vs,es,h=>by
  unfold jZ at h;split at h
  .rename_i e es' h1 h2;simp at h;subst h;simp[vU h2]
  .cases h
theorem bP0{z:AV}(hs:wx vs z=true):z.nt=true:=by
 unfold wx at hs;split at hs
 .cases hs
 .trivial
 .cases z<;>first|rfl|cases hs
theorem JD(I:Opq): ∀a b:List SX,ck I (a++b)=ck I a++ck I b
 | [],_=>rfl
 |x::a,b=>by simp[ck,JD I a b]
theorem c37{c:CT}{e e':SX}{u:Value}(h:bZ I e'=bZ I e)(r:VR O I (wc c e) u):VR O I (wc c e') u:=by
 have h1:=CU (O:=O) (I:=I) c e';have h2:u=gX c (bZ I e):=by cases c<;>exact r
 grind
theorem Xg{ks:List CT}{l l':SX}{es:List SX}: ∀(vs:List CT) (j:Nat) (zs:List SX) {us:List Value},(∀t,t<zs.length->bZ I (.op .ite [gQ ks l' es,.op .lget [l',mi ks l' es,.ci ((j+t:Nat):Int)],zs.getD t (.cb false)])=bZ I (.op .ite [gQ ks l es,.op .lget [l,mi ks l es,.ci ((j+t:Nat):Int)],zs.getD t (.cb false)]))->
 ct O I (mu ks l es vs j zs) us->ct O I (mu ks l' es vs j zs) us
 | [],_,_,us,_,h=>by grind[mu]
 |c::vs,j,[],us,_,h=>by grind[mu]
 |c::vs,j,z::zs,us,hq,h=>by
  obtain⟨u,ur,rfl,h1,h2⟩:=h;refine .cons (c37 ?_ h1) (Xg vs (j+1) zs (λt ht=> ?_) h2)
  .grind
  (simp_all;grind)
theorem br8{ks:List CT}{l:SX}{es:List SX}: ∀(vs:List CT) (j:Nat) (zs:List SX),(mu ks l es vs j zs).length=min vs.length zs.length
 | [],_,_=>by rfl
 |c::vs,j,[]=>by rfl
 |c::vs,j,z::zs=>by
  show(mu ks l es vs (j+1) zs).length+1=_;rw[br8 vs (j+1) zs];simp
theorem ch1{A B:List AV}(hl:A.length=B.length)(h: ∀us,ct O I A us->ct O I B us)(r:VR O I (lW A) v):VR O I (lW B) v:=by
 match A,B,hl with
 | [a],[b],_=>
   have h1:=h [v] ⟨v,[],rfl,r,rfl⟩;obtain⟨u,ur,e,h2,_⟩:=h1;obtain⟨rfl,_⟩:=R1 e;exact h2
 | [],[],_=>
   omega
 |a::b::A,c::d::B,_=>
  obtain⟨xs,e,h1⟩:=r;exact⟨xs,e,h _ h1⟩
theorem cG0(c:CT){x y:Val}(h:x=y):Ny c x y=true:=by
 subst h;cases c<;>simp[Ny]
theorem br9{r k:Val}: ∀(s:List CT) (j:Nat),(∀t,t<s.length->k.toL.getD (j+t) default=r.toL.getD (j+t) default)->Br r k s j=true
 | [],_,_=>rfl
 |c::s,j,h=>by
  show(Ny c _ _&&Br r k s (j+1))=true;rw[cG0 c (by simpa using h 0 (by simp)),br9 s (j+1) (λt ht=>by
   (simp_all;grind))]
  rfl
theorem bs0{zs:List SX}(hes:es.length=ks.length): ∀t,t<zs.length->bZ I (.op .ite [gQ ks (BG ks es zs l) es,.op .lget [BG ks es zs l,mi ks (BG ks es zs l) es,.ci ((ks.length+t:Nat):Int)],zs.getD t (.cb false)])=bZ I (.op .ite [gQ ks l es,.op .lget [l,mi ks l es,.ci ((ks.length+t:Nat):Int)],zs.getD t (.cb false)]):=by
 intro t ht;unfold BG;split
 .rename_i c l0 l1 ez;cases hc:(SX.beq c (gQ ks l0 es)&&SX.beq l1 l0&&SX.beqs ez (es++zs))with
  |false=>rfl
  |true=>
   obtain⟨hc,h3⟩:=Z1 hc;obtain⟨h1,h2⟩:=Z1 hc;obtain rfl:=SX.beq_eq _ _ h1;obtain rfl:=SX.beq_eq _ _ h2;obtain rfl:=SX.beqs_eq _ _ h3;simp;cases hh:dB I (gQ ks l1 es)with
   |true=>
    have hl:dL I (.op .ite [gQ ks l1 es,l1,.op .lcat [l1,.op .row [.op .row (es++zs)]]])=dL I l1:=by
     show(bZ I (.op .ite _)).toL=_;rw[sv,hh];rfl
    have hi:dI I (mi ks (.op .ite [gQ ks l1 es,l1,.op .lcat [l1,.op .row [.op .row (es++zs)]]]) es)=dI I (mi ks l1 es):=by rw[KE,KE,hl]
    rw[sv,sv,wK,wK,hl];refine congrArg (λz=>bif _ then z else bZ I (zs.getD t (.cb false))) ?_;show co (dL I l1) (dI I (mi ks l1 es)) _=co (dL I _) (dI I _) _;rw[hl,hi]
   |false=>
    have hl:dL I (.op .ite [gQ ks l1 es,l1,.op .lcat [l1,.op .row [.op .row (es++zs)]]])=dL I l1++[.vl (ck I (es++zs))]:=by
     show(bZ I (.op .ite _)).toL=_;rw[sv,hh];rfl
    have hn: ∀x∈dL I l1,io ks x (.vl (ck I es))=false:=by
     rw[wK,decide_eq_false_iff_not]at hh
     (intros;simp_all)
    have hk:io ks (.vl (ck I (es++zs))) (.vl (ck I es))=true:=br9 ks 0 λt ht=>by
     show(ck I es).getD (0+t) default=(ck I (es++zs)).getD (0+t) default;have hdl:(ck I es).length=ks.length:=by rw[NC,hes]
     rw[show ck I (es++zs)=ck I es++ck I zs from JD I es zs,j8,j8,x6 (by omega)]
    have hi:(dL I l1++[Val.vl (ck I (es++zs))]).findIdx (λr=>io ks r (Val.vl (ck I es)))=(dL I l1).length:=by
     (intros;grind)
    rw[sv,hh,sv,wK,hl,hi];rw[show decide ((dL I l1).length<(dL I l1++[Val.vl (ck I (es++zs))]).length)=true from c9 (by simp)];show bZ I (zs.getD t (.cb false))=co (dL I _) (dI I (mi ks _ es)) ((ks.length+t:Nat):Int);rw[KE,hl,hi];show _=((dL I l1++[Val.vl (ck I (es++zs))]).getD (dL I l1).length (.vl [])).toL.getD (ks.length+t) default;rw[j8 (l:=dL I l1++_),o7 (e9 _),R2];show _=(ck I (es++zs)).getD (ks.length+t) default;have hdl:(ck I es).length=ks.length:=by rw[NC,hes]
    rw[show ck I (es++zs)=ck I es++ck I zs from JD I es zs,j8 (l:=ck I es++_),o7 (by omega),hdl,I4,<-j8,Oy I zs t ht]
 .rfl
theorem aX9{zs:List SX}(hes:es.length=ks.length)(r:VR O I (lW (mu ks l es vs ks.length zs)) v):VR O I (lW (mu ks (BG ks es zs l) es vs ks.length zs)) v:=
 ch1 (by grind[br8]) (λus h=>Xg vs ks.length zs (bs0 hes) h) r
theorem c38(r:HR O I K w0 h w)(o:eY O I af ρ)(t:TypeId)(m k:Operand)(ok:Bool):dA E O I K w0 w h (do pure (.value (<-Instr.lookup t (ρ m) (ρ k) ok))) (Kt E.P t h (af m) (af k) ok):=by
 unfold Kt;split
 .rename_i kt et ht;split
  .rename_i b hm;split
   .rename_i cs hk;have rm:=o m _ hm;have rk:=o k _ hk;obtain⟨L,hL,em⟩:=rm;obtain⟨xs,ek,rx⟩:=rk;unfold Ta;split
    .rename_i d ks vs l z hg hz;split
     .rename_i es zs hes hzs;cases hc:(tQ E.P kt ks&&Nat.ble 2 ks.length&&wx vs z)with
      |false=>trivial
      |true=>
       obtain⟨hc,hsh⟩:=Z1 hc;obtain⟨hkt,h2⟩:=Z1 hc;rw[cW]at h2;obtain⟨En,c,q1,q2,q3⟩:=r.marr hg hL;obtain⟨ents,hE,hmap⟩:=KK h2 q2;have hxs:xs.toList=gi (.vl (ck I es)) ks 0:=by rw[rR hes rx,qV]
       have rk':VR O I (.agg (ip (.vl (ck I es)) ks 0)) (ρ k):=⟨xs,ek,by grind[BL]⟩;have hko:=SY hkt (.vl (ck I es));rcases Lt hkt (.vl (ck I es)) 0 hmap with⟨a,hf⟩|⟨e,row,a1,a2,a3,hf,a5,a6⟩
       .have hhas:dB I (gQ ks l es)=false:=by grind[wK]
        obtain⟨v',hv',hrun⟩:=pf hko rk' hE hf;subst hv';obtain⟨zv,z1,z2⟩:=FG hz;have hzc:=rR hzs ((z1 O I).cells (bP0 hsh));rw[qV]at hzc;have hvr:VR O I (lW (mu ks l es vs ks.length zs)) zv:=by
         have:=Gy (br7 (O:=O) hhas vs ks.length 0 zs (.vl (ck I zs)) (vU hzs) (λt ht=>by rw[m9];exact Oy I zs t ht));rw[<-hzc]at this;rw[aX8 hsh (z1 O I) (by rw[hzc,zK])]at this;exact this
        refine dM.pureV r (u:=if ok then .tuple #[zv,.bool false]else zv) ?_ ?_
        .cases ok
         .grind[aX9,vU]
         .exact⟨_,rfl,.cons hvr (.one (by show _=Value.bool (dB I (gQ ks l es));rw[hhas]))⟩
        .simp[em,Instr.lookup,Sem.run_bind,Z3 ht,Result.andThen_ok,Sem.run_pure,lK q1,oS hko rk',hrun,z2]
       .have hhas:dB I (gQ ks l es)=true:=by grind[wK,decide_eq_true]
        obtain⟨v',hv',hrun⟩:=pf hko rk' hE hf;obtain⟨k2,v2,e1,e2,e3,e4,e5⟩:=hv';subst e1;rw[a6]at e5;have hv2:=d66 row vs ks.length e5;have hvr:VR O I (lW (mu ks l es vs ks.length zs)) v2:=by
         grind[Gy,br6,vU]
        refine dM.pureV r (u:=if ok then .tuple #[v2,.bool true]else v2) ?_ ?_
        .cases ok
         .grind[aX9,vU]
         .exact⟨_,rfl,.cons hvr (.one (by show _=Value.bool (dB I (gQ ks l es));rw[hhas]))⟩
        .simp[em,Instr.lookup,Sem.run_bind,Z3 ht,Result.andThen_ok,Sem.run_pure,lK q1,oS hko rk',hrun]
     .trivial
    .trivial
   .trivial
  .trivial
 .trivial
theorem Rb{r q:Val}: ∀(sig:List CT) (j i:Nat),(∀t,t<sig.length->r.toL.getD (j+t) default=q.toL.getD (i+t) default)->gi r sig j=gi q sig i
 | [],_,_,_=>rfl
 |c::cs,j,i,h=>by
  have h0:=h 0 (by simp);have ih:=Rb cs (j+1) (i+1) (λt ht=>by
   have:=h (t+1) (by simp;omega);rw[show j+1+t=j+(t+1) by omega,show i+1+t=i+(t+1) by omega];exact this)
  simp_all[Nat.add_zero,gi]
theorem bP1{r k:Val}: ∀(sig:List CT) (j:Nat),Br r k sig j=true->gi r sig j=gi k sig j
 | [],_,_=>rfl
 |c::cs,j,h=>by
  obtain⟨h1,h2⟩:=Z1 h;have:gX c (r.toL.getD j default)=gX c (k.toL.getD j default):=by
   cases c
   .have:=j5 h1;show Value.int _ _=Value.int _ _;rw[this]
   .have:=j5 h1;show Value.string _=Value.string _;rw[this]
   .have:=eq_of_beq h1;show Value.bool _=Value.bool _;rw[this]
  simp only[gi,this,bP1 cs (j+1) h2]
theorem aO6(k:Val): ∀(sig:List CT) (j:Nat),((gi k sig j).zip (gi k sig j)).all (λ(x,y)=>Instr.sameBits 9999 x y)=true
 | [],_=>rfl
 |c::cs,j=>by
  simp only[gi,List.zip_cons_cons,List.all_cons,j6];exact⟨RI (O:=λ_=>none) (I:=ax) (a:=An c (k.toL.getD j default)) (b:=An c (k.toL.getD j default)) 9999 (by cases c<;>simp[An,Gc,ui,uQ]) (Rm c _) (Rm c _),aO6 k cs (j+1)⟩
theorem d67{a b:List Value}(h1:es.length=ks.length)(h2:xs.length=vs.length)(ha:a=ej ks (.vl (ck I es)))(hb:b=ej vs (.vl (ck I xs))):qY ks vs (.vl (ck I (es++xs)))=(kV a,kV b):=by
 rw[bO8,ha,hb,qV,qV,JD];have q1:=NC I es;congr 2
 .refine Rb ks 0 0 λt ht=> ?_
  show(ck I es++ck I xs).getD (0+t) default=(ck I es).getD (0+t) default;grind
 .refine Rb vs ks.length 0 λt ht=> ?_
  show(ck I es++ck I xs).getD (ks.length+t) default=(ck I xs).getD (0+t) default;grind
theorem ch2{x:AV}(hs:wx vs x=true)(hv:VR O I x v){b:List Value}(hb:v.cells.toList=b)(hl:b.length=vs.length):kV b=v:=by
 grind[aX8]
theorem c39{α:Type}{l:List α}{i:Nat}{e:α}{f:α->α}(h:l[i]? =some e):l.modify i f=l.set i (f e):=by
 refine N7 λj=> ?_
 grind
theorem cG1(h:dB I (gQ ks l es)=true):dL I (HU ks l es xs)=(dL I l).set ((dL I l).findIdx (λr=>io ks r (.vl (ck I es)))) (.vl (ck I (es++xs))):=by
 show(bZ I (.op .ite _)).toL=_;rw[sv,h];rfl
theorem cG2(h:dB I (gQ ks l es)=false):dL I (HU ks l es xs)=dL I l++[.vl (ck I (es++xs))]:=by
 show(bZ I (.op .ite _)).toL=_;rw[sv,h];rfl
theorem ch3(r:HR O I K w0 h w)(o:eY O I af ρ)(t:TypeId)(m k x:Operand):dA E O I K w0 w h (do Instr.mapUpdate t (ρ m) (ρ k) (ρ x);pure .skip) (Pf E.P t h (af m) (af k) (af x)):=by
 unfold Pf;split
 .rename_i kt et ht;split
  .rename_i b hm;split
   .rename_i cs hk;split
    .rename_i xv hx;split
     .split
      .rename_i ks vs hks hvs;have rm:=o m _ hm;have rk:=o k _ hk;have rx:=o x _ hx;obtain⟨L,hL,em⟩:=rm;obtain⟨kx,ek,rkx⟩:=rk;unfold Xb;split
       .rename_i es xs hes hxs;cases hc:(tQ E.P kt ks&&Nat.ble 2 ks.length&&wx vs xv&&Nat.ble h.wm b)with
        |false=>trivial
        |true=>
         obtain⟨hc,hwm⟩:=Z1 hc;obtain⟨hc,hsh⟩:=Z1 hc;obtain⟨hkt,h2⟩:=Z1 hc;rw[cW]at h2 hwm;have hkx:=rR hes rkx;have hvx:=rR hxs (rx.cells (bP0 hsh));have l1:=vU hes;have l2:=vU hxs;have hent:=d67 (I:=I) l1 l2 hkx hvx;have hkey:kV kx.toList=ρ k:=by
          rw[ek,Ls (by rw[hkx,qV,zK];exact h2)]
         have hval:kV (ρ x).cells.toList=ρ x:=ch2 hsh rx rfl (by rw[hvx,qV,zK]);rw[hkey,hval]at hent;have hkc:kx.toList=gi (.vl (ck I es)) ks 0:=by rw[hkx,qV]
         have rk':VR O I (.agg (ip (.vl (ck I es)) ks 0)) (ρ k):=⟨kx,ek,by rw[hkc];exact BL _ _ _⟩;have hko:=SY hkt (.vl (ck I es));split
         .rename_i d ks' vs' l hg;cases hq:(iE ks' ks&&iE vs' vs)with
          |false=>trivial
          |true=>
           obtain⟨e1,e2⟩:=Z1 hq;obtain rfl:=LT e1;obtain rfl:=LT e2;obtain⟨En,c,q1,q2,q3⟩:=r.marr hg hL;obtain⟨ents,hE,hmap⟩:=KK h2 q2;refine dM.ofU ?_;rcases Lt hkt (.vl (ck I es)) 0 hmap with⟨a,hf⟩|⟨e,row,a1,a2,a3,hf,a5,a6⟩
           .have hhas:dB I (gQ ks' l es)=false:=by rw[wK,a];simp
            obtain⟨v',hv',hrun⟩:=pf hko rk' hE hf;subst hv';obtain⟨p1,p2⟩:=r.set1 b _ (.marr d ks' vs' (HU ks' l es xs)) L (.map (En.push ⟨ρ k,ρ x,c⟩) (c+1)) hg hL hwm
             ⟨_,_,rfl,by rw[N3,n8,q2,cG2 hhas,n8];simp_all,by rw[N3];exact q3.push _ _⟩
            refine⟨_,?_,p1,p2⟩;simp[em,Instr.mapUpdate,Sem.run_bind,Z3 ht,Result.andThen_ok,lK q1,oS hko rk',hrun,vX _ q1]
           .have hhas:dB I (gQ ks' l es)=true:=by rw[wK];(intros;simp_all)
            obtain⟨v',hv',hrun⟩:=pf hko rk' hE hf;obtain⟨k2,v2,e1,e2,e3,e4,e5⟩:=hv';subst e1;rw[m9]at e2 e3;have he3:En[(dL I l).findIdx (λr=>io ks' r (.vl (ck I es)))]? =some ⟨k2,v2,e.born⟩:=by simpa using e3
            have hk2:k2=ρ k:=by
             rw[a5]at e4;obtain⟨ys,ey,ry⟩:=e4;have:=Sc row ks' 0 ry;rw[bP1 ks' 0 a3,<-hkc]at this;rw[ey,ek,N6.1 this]
            have hsb:Instr.sameBits 10000 (ρ k) (ρ k)=true:=by
             rw[ek];show(kx.size==kx.size&&(kx.toList.zip kx.toList).all λ(x,y)=>Instr.sameBits 9999 x y)=true;rw[hkc,aO6];simp
            have hst: ∀w,(Instr.keyThatStays k2 (ρ k)).run E.P w= .ok (ρ k) w:=λw=>by simp[Instr.keyThatStays,hk2,hsb]
            obtain⟨p1,p2⟩:=r.set1 b _ (.marr d ks' vs' (HU ks' l es xs)) L (.map (En.modify ((dL I l).findIdx (λr=>io ks' r (.vl (ck I es)))) λx'=>{x' with key:=ρ k,val:=ρ x}) c) hg hL hwm
             ⟨_,_,rfl,by
              rw[Q5,cG1 hhas,List.map_set,hent,<-q2];rw[c39 e3,List.map_set],by rw[Q5];exact q3.modify _ _ (λ_=>rfl)⟩
            refine⟨_,?_,p1,p2⟩;simp[em,Instr.mapUpdate,Sem.run_bind,Z3 ht,Result.andThen_ok,lK q1,oS hko rk',hrun,m9,he3,Option.map_some,Option.getD_some,hst,vX _ q1]
         .rename_i c hg;obtain⟨En,q1,q2⟩:=r.map hg hL;have hE:En= #[]:=by
           have:En.toList=[]:=by generalize En.toList=z at q2;cases q2;rfl
           (intros;simp_all)
          subst hE;refine dM.ofU ?_;have hf:nH E.P kt (.agg (ip (.vl (ck I es)) ks 0)) [] 0=some none:=rfl;obtain⟨v',hv',hrun⟩:=pf (O:=O) (I:=I) hko rk' (es:=[]) (m:=[]) .nil hf;subst hv';obtain⟨p1,p2⟩:=r.set1 b _ (.marr (Nat.beq c 0) ks vs (.op .row [.op .row (es++xs)])) L (.map (#[].push ⟨ρ k,ρ x,c⟩) (c+1)) hg hL hwm
           ⟨_,_,rfl,by
            show [(ρ k,ρ x)]=[qY ks vs (.vl (ck I (es++xs)))];rw[hent],gP.push (E:=[]) (gP.nil c) _ _⟩
          refine⟨_,?_,p1,p2⟩;simp[em,Instr.mapUpdate,Sem.run_bind,Z3 ht,Result.andThen_ok,lK q1,oS hko rk',hrun,vX _ q1]
         .trivial
       .trivial
      .trivial
     .trivial
    .trivial
   .trivial
  .trivial
 .trivial
end Go.Ev
namespace Go.Ev
open Go
variable{c:Nat}
variable{E:Env}{O:cq}{I:Opq}{K:Nat->Prop}{w0 w:World}{h h':Heap}{af:Operand->Option AV}{ρ:Operand->Value}
theorem gP.len{E:List MapEntry}(h:gP true E c):E.length=c:=by
 have:=congrArg List.length (h.2.2 rfl);grind
theorem gP.at{E:List MapEntry}{i:Nat}{e:MapEntry}(h:gP true E c)(he:E[i]? =some e):e.born=i:=by
 have h1:(E.map (·.born))[i]? =some e.born:=by rw[B0,he];rfl
 rw[h.2.2 rfl]at h1;grind
theorem gP.erase{d:Bool}{E:List MapEntry}(h:gP d E c)(i:Nat):gP false (E.eraseIdx i) c:=by
 have hs:=U8 E i;exact⟨h.1.sublist (hs.map _),λe he=>h.2.1 e (hs.subset he),λhh=>by cases hh⟩
theorem bs1{α γ:Type}(f:α->γ): ∀(l:List α) (i:Nat),(l.eraseIdx i).map f=(l.map f).eraseIdx i
 | [],_=>rfl
 |_::_,0=>rfl
 |a::l,i+1=>by simp[List.eraseIdx,bs1 f l i]
theorem d68{ts:Array TypeId}{ty:TypeId}{m k:AV}{vm vk:Value}(r:HR O I K w0 h w)(rm:VR O I m vm)(rk:VR O I k vk):Cx E.P O I K w0 w h (Builtin.delete_ ts ty #[vm,vk]) (UT E.P ((ts[0]?).bind E.P.underlying) h m k):=by
 unfold UT;split
 .rename_i kt et ht;simp[o8]at ht;obtain⟨t,h0,ht⟩:=ht;split
  .rename_i b;split
   .obtain⟨L,hL,rfl⟩:=rm;obtain⟨kx,rfl,rkx⟩:=rk;unfold XD;split
    .rename_i d ks vs l hg;split
     .rename_i es hes;cases hc:(tQ E.P kt ks&&Nat.ble 2 ks.length&&Nat.ble h.wm b)with
      |false=>trivial
      |true=>
       obtain⟨hc,hwm⟩:=Z1 hc;obtain⟨hkt,h2⟩:=Z1 hc;rw[cW]at h2 hwm;intro _;obtain⟨En,c,q1,q2,q3⟩:=r.marr hg hL;obtain⟨ents,hE,hmap⟩:=KK h2 q2;have hkx:=rR hes rkx;have hkc:kx.toList=gi (.vl (ck I es)) ks 0:=by rw[hkx,qV]
       have rk':VR O I (.agg (ip (.vl (ck I es)) ks 0)) (.agg kx):=⟨kx,rfl,by grind[BL]⟩;have hko:=SY hkt (.vl (ck I es));have hden:dL I (.op (.mdel ks) [l,.op .row es])=(dL I l).eraseIdx ((dL I l).findIdx λr=>io ks r (.vl (ck I es))):=rfl;rcases Lt hkt (.vl (ck I es)) 0 hmap with⟨a,hf⟩|⟨e,row,a1,a2,a3,hf,a5,a6⟩
       .obtain⟨v',hv',hrun⟩:=pf hko rk' hE hf;subst hv';obtain⟨p1,p2⟩:=r.set1 b _ (.marr false ks vs (.op (.mdel ks) [l,.op .row es])) L (.map En c) hg hL hwm
         ⟨_,_,rfl,by simp_all[List.eraseIdx_of_length_le,e9],q3.weak rfl⟩
        refine⟨O,_,_,?_,⟨_,rfl,rfl⟩,p1,p2⟩;simp[Builtin.delete_,h0,Z3 ht,lK q1,oS hko rk',hrun,vX _ q1]
       .obtain⟨v',hv',hrun⟩:=pf hko rk' hE hf;obtain⟨k2,v2,e1,e2,e3,e4,e5⟩:=hv';subst e1;have hi:(dL I l).findIdx (λr=>io ks r (.vl (ck I es)))<En.size:=by
         grind
        obtain⟨p1,p2⟩:=r.set1 b _ (.marr false ks vs (.op (.mdel ks) [l,.op .row es])) L (.map (En.eraseIdxIfInBounds ((dL I l).findIdx λr=>io ks r (.vl (ck I es)))) c) hg hL hwm
         ⟨_,_,rfl,by simp_all[Array.eraseIdxIfInBounds,dif_pos,Q6,bs1],by rw[Array.eraseIdxIfInBounds,dif_pos hi,Q6];exact q3.erase _⟩
        refine⟨O,_,_,?_,⟨_,rfl,rfl⟩,p1,p2⟩;simp[Builtin.delete_,h0,Z3 ht,lK q1,oS hko rk',hrun,vX _ q1]
     .trivial
    .trivial
   .trivial
  .trivial
 .trivial
end Go.Ev
namespace Go.Ev
open Go
variable{n:Nat}{ts:Array TypeId}{vx:Value}{ty:TypeId}{sig:List CT}{cs:List AV}
variable{E:Env}{O:cq}{I:Opq}{K:Nat->Prop}{w0 w:World}{h:Heap}{af:Operand->Option AV}{ρ:Operand->Value}
theorem bs2(sig:List CT)(r:Val): ∀(l:List Val) (k:Nat),k<l.length->cM sig (l.set k r)=(cM sig l).take (k*sig.length)++(ej sig r++(cM sig l).drop (k*sig.length+sig.length))
 | [],k,h=>by simp at h
 |a::l,0,h=>by
  have e:cM sig (a::l)=ej sig a++cM sig l:=by simp[cM]
  have e2:cM sig ((a::l).set 0 r)=ej sig r++cM sig l:=by simp[cM]
  simp_all[nk,Q9,List.take_zero,List.nil_append,m9,List.drop_append_of_le_length,N8]
 |a::l,k+1,h=>by
  have e:cM sig (a::l)=ej sig a++cM sig l:=by simp[cM]
  have e2:cM sig ((a::l).set (k+1) r)=ej sig a++cM sig (l.set k r):=by simp[cM]
  have hl:=nk sig a;have ih:=bs2 sig r l k (by simpa using h);have t1:(ej sig a++cM sig l).take (k*sig.length+sig.length)=ej sig a++(cM sig l).take (k*sig.length):=by
   (intros;grind)
  have t2:(ej sig a++cM sig l).drop (k*sig.length+sig.length+sig.length)=(cM sig l).drop (k*sig.length+sig.length):=by
   rw[show k*sig.length+sig.length+sig.length=(ej sig a).length+(k*sig.length+sig.length) by omega,List.drop_length_add_append]
  simp_all[x8,G1,A5]
theorem cG3{old:Val}{c0 es c1:List Val}{j:Nat}(hj:j+n<=sig.length)(h0:c0=(List.range' 0 j).map λt=>old.toL.getD t default)(hn:es.length=n)(h1:c1=(List.range' (j+n) (sig.length-(j+n))).map λt=>old.toL.getD t default):
 ej sig (.vl (c0++(es++c1)))=(ej sig old).take j++(ej ((sig.drop j).take n) (.vl es)++(ej sig old).drop (j+n)):=by
 have l0:c0.length=j:=by rw[h0];simp
 apply N7;intro i;have hsub:((sig.drop j).take n).length=n:=by simp;omega
 have hold:=nk sig old;rcases j9 i sig.length with hi|hi
 .rw[Cs hi];show some (gX _ ((c0++(es++c1)).getD i default))=_;rcases j9 i j with q|q
  .rw[x6 (by rw[l5];omega),C3,e8 q,Cs hi]
   (intros;grind)
  .rcases j9 i (j+n)with q2|q2
   .rw[o7 (by(intros;grind)),l5,B1 (by omega)];rw[x6 (by rw[nk,hsub];omega),Cs (by omega)];congr 2
    ·(intros;grind)
    .show _=es.getD (i-j) default
     (intros;grind)
   .rw[o7 (by rw[l5];omega),l5,B1 (by omega)];rw[o7 (by rw[nk,hsub];omega),nk,hsub,D6,show j+n+(i-j-n)=i by omega,Cs hi]
    (intros;grind)
 grind[List.getElem?_eq_none,nk,List.length_append,List.length_take,List.length_drop]
theorem ZC(I:Opq): ∀a b:List SX,ck I (a++b)=ck I a++ck I b
 | [],b=>rfl
 |x::a,b=>by simp[List.cons_append,ck,ZC I a b]
theorem RK(l idx:SX): ∀n j,ck I (ld l idx j n)=(List.range' j n).map λ(t:Nat)=>co (dL I l) (dI I idx) (t:Int)
 |0,j=>rfl
 |n+1,j=>by
  simp[ld,ck,RK l idx n (j+1),G0,l9];rfl
theorem c40{c:CT}{v:AV}{e:SX}(h:EJ c v=some e):v.one=true:=by
 unfold EJ at h;split at h
 .split at h
  .rename_i k' e' hs;unfold kz at hs;split at hs<;>first|rfl|cases hs
  .cases h
 .unfold oN at h;split at h<;>first|rfl|cases h
 trivial
theorem QF: ∀{sig:List CT} {vs:List AV} {es:List SX},jZ sig vs=some es->vs.all AV.one=true/\es.length=vs.length
 | [],[],es,h=>by simp[jZ,j0]at h;(intros;simp_all)
 | [],_::_,es,h=>by cases h
 |_::_,[],es,h=>by cases h
 |c::cs,v::vs,es,h=>by
  simp[jZ]at h;split at h
  .rename_i e es' h1 h2;simp at h;subst h;obtain⟨a,b⟩:=QF h2;simp only[List.all_cons,j6,List.length_cons];exact⟨⟨c40 h1,a⟩,by rw[b]⟩
  .cases h
theorem bP2(I:Opq): ∀l:List SX,(ck I l).length=l.length
 | []=>rfl
 |a::r=>by simp[ck,List.length_cons,bP2 I r]
theorem WT{vs:List Value}(hd: ∀(O:cq) us,ct O I cs us->us=vs)(h0: ∀O:cq,ct O I cs vs){O:cq}{us:List Value}(hu:ct O I (cs.take n) us):us=vs.take n:=by
 have h1:=hu.append ((h0 O).drop n);rw[t8]at h1;have h2:=hd O _ h1;have hl:=hu.length;have hv:=(h0 O).length;rw[<-h2];rw[l5]at hl;rcases Nat.le_total n cs.length with q|q
 ·(intros;grind)
 .have:vs.drop n=[]:=N8 (by omega);rw[this,s8,I5 (by omega)]
theorem VS{vs:List Value}(hd: ∀(O:cq) us,ct O I cs us->us=vs)(h0: ∀O:cq,ct O I cs vs){O:cq}{us:List Value}(hu:ct O I (cs.drop n) us):us=vs.drop n:=by
 have h1:=((h0 O).take n).append hu;rw[t8]at h1;have hv:=(h0 O).length;rcases Nat.le_total n cs.length with q|q
 .grind
 .have hul:=hu.length;grind
theorem ch4(hfx: ∀t,I.fix t=gv E.P t)(r:HR O I K w0 h w)(o:eY O I af ρ)(t:TypeId)(x y:Operand):dA E O I K w0 w h (do Instr.storeAt t (ρ x) (ρ y);pure .skip) (Qm E.P t h (af x) (af y)):=by
 unfold Qm;split
 .rename_i b idx j sz v n hx hy hn;unfold cc2;split
  .rename_i el sig l hg;cases hc:(Nat.beq sig.length sz&&Nat.ble (j+n) sz&&v.nt&&Nat.beq v.cells.length n&&Nat.ble h.wm b&&Nat.blt 0 n&& !(gv E.P el)&& !(Nat.beq el jM))with
   |false=>trivial
   |true=>
    obtain⟨hc,c8⟩:=Z1 hc;have hne:el≠jM:=λe=>by simp_all
    obtain⟨hc,c7⟩:=Z1 hc;have hnf:I.fix el=false:=by grind
    obtain⟨hc,c6⟩:=Z1 hc;obtain⟨hc,c5⟩:=Z1 hc;obtain⟨hc,c4⟩:=Z1 hc;obtain⟨hc,c3⟩:=Z1 hc;obtain⟨c1,c2⟩:=Z1 hc;obtain rfl:=Z4.1 c1;rw[Z4]at c4;rw[cW]at c2 c5;rw[fc]at c6;simp only[cond_true];unfold cc1;split
    .rename_i es hes;intro hd;obtain⟨d1,d2⟩:=Dt hd;rw[nV]at d2;have hk:(dI I idx).toNat<(dL I l).length:=by omega
     have hvx:=o x _ hx;have hvy:=o y _ hy;simp only[VR]at hvx;obtain⟨L,hL,hvx⟩:=hvx;have hb65:=Heap.get_lim h b _ hg;have gf: ∀(hh:Heap) (x:Option Blk) (z:Nat),(hh.put b x).get z=if z=b then(if b<65536 then x else none)else hh.get z:=λhh x z=>Heap.get_put _ _ _ _
     obtain⟨ocs,m1,m2,m3,m4⟩:=KR I sig (dL I l);have m3':ocs.length=(dL I l).length*sig.length:=by rw[m3,jK]
     have r2:HR O I K w0 (h.put b (some (.cells el 0 ocs))) w:=by
      refine HR.retell (y:= .cells el 0 ocs) r hg (.inl c5) ?_ rfl rfl (λz=>by(intros;grind));intro L' hL' hbr;obtain⟨C,e',lo,hi,z1,z0,z2,z3,z4,z5⟩:=hbr;rw[z0.resolve_right hne]at z1;refine⟨C,lo,hi,cM sig (dL I l),z1,z2,by(intros;simp_all),pM m2,m1 O,λk hk=> ?_,λk _ hk=>z5 k hk,λhh=>by(intros;simp_all)⟩;grind
     have hg2:(h.put b (some (.cells el 0 ocs))).get b=some (.cells el 0 ocs):=by grind
     obtain⟨hone,helen⟩:=QF hes;have hkk:(dI I idx).toNat*sig.length+sig.length<=(dL I l).length*sig.length:=by
      have:=A1 sig.length (show(dI I idx).toNat+1<=(dL I l).length from hk);grind
     have hst:HA E.P t (.ptr b ((dI I idx).toNat*sig.length+j)) v (h.put b (some (.cells el 0 ocs)))=some ((h.put b (some (.cells el 0 ocs))).put b (some (.cells el 0 (kE ocs ((dI I idx).toNat*sig.length+j) v.cells)))):=by
      simp[HA,hn,c3,c4,A9,show Nat.beq n n=true from Z4.2 rfl,cond_true];cases hcs:v.cells with
      |nil=>grind
      |cons a as=>
       simp only[putCells,hcs];rw[<-hcs,hg2];simp;rw[show(Nat.ble h.wm b&&Nat.ble 0 ((dI I idx).toNat*sig.length+j)&&Nat.ble ((dI I idx).toNat*sig.length+j+v.cells.length) ocs.length&&v.cells.all AV.one)=true by
        (simp_all;omega)]
       rfl
     obtain⟨w',e1,e2,e3⟩:=XF (P:=E.P) r2 hst (vx:=ρ x) (vv:=ρ y) ⟨L,hL,by grind⟩ hvy;have hrow:=rR hes (VR.cells hvy c3);have kL:dL I (.op .lset [l,idx,.op .row (ld l idx 0 j++(es++ld l idx (j+n) (sig.length-(j+n))))])=(dL I l).set (dI I idx).toNat (.vl (ck I (ld l idx 0 j)++(ck I es++ck I (ld l idx (j+n) (sig.length-(j+n)))))):=by
      show(dL I l).set (dI I idx).toNat (.vl (ck I _))=_;grind[ZC]
     have hgv: ∀c:Nat,co (dL I l) (dI I idx) c=((dL I l).getD (dI I idx).toNat (.vl [])).toL.getD c default:=λc=>by rfl
     have hmix:=cG3 (sig:=sig) (old:=(dL I l).getD (dI I idx).toNat (.vl [])) (c0:=ck I (ld l idx 0 j)) (es:=ck I es) (c1:=ck I (ld l idx (j+n) (sig.length-(j+n)))) (j:=j) (n:=n) c2
      (by grind[RK,List.map_congr_left]) (by grind[bP2]) (by grind[RK,List.map_congr_left])
     have hflat:cM sig (dL I (.op .lset [l,idx,.op .row (ld l idx 0 j++(es++ld l idx (j+n) (sig.length-(j+n))))]))=
      (cM sig (dL I l)).take ((dI I idx).toNat*sig.length+j)++((ρ y).cells.toList++(cM sig (dL I l)).drop ((dI I idx).toNat*sig.length+j+n)):=by
      rw[kL,bs2 sig _ _ _ hk,hmix,<-hrow];have hfl:=jK sig (dL I l);have hold:ej sig ((dL I l).getD (dI I idx).toNat (.vl []))=((cM sig (dL I l)).drop ((dI I idx).toNat*sig.length)).take sig.length:=by
       apply N7;intro c;rcases j9 c sig.length with q|q
       .rw[Cs q,C3,e8 q,D6,GW q hk]
       simp_all[t7,nk,C3,b9]
      rw[hold];generalize cM sig (dL I l)=F at hfl⊢;generalize (dI I idx).toNat*sig.length=q at hkk⊢;rw[<-hfl]at hkk;apply N7;intro c;have hcl:(ρ y).cells.toList.length=n:=by rw[<-c4];exact(VR.cells hvy c3).length
      rcases j9 c q with q1|q1
      .rw[x6 (by rw[l5];omega),x6 (by rw[l5];omega),C3,e8 q1,C3,e8 (by omega)]
      .rw[o7 (by grind),l5,B1 (by omega)];rcases j9 c (q+j)with q2|q2
       .rw[x6 (by grind),x6 (by grind),C3,e8 (by omega),C3,e8 (by omega),D6,show q+(c-q)=c by omega,
         x6 (by grind),C3,e8 q2]
       .rw[o7 (l₁:=F.take (q+j)) (by grind),l5,B1 (by omega)];rcases j9 c (q+j+n)with q3|q3
        .rw[x6 (by simp_all;omega),o7 (by simp;omega),x6 (by simp_all;omega),
          x6 (by omega)]
         (intros;grind)
        .rcases j9 c (q+sig.length)with q4|q4
         .rw[x6 (by simp_all;omega),o7 (by simp;omega),o7 (by simp_all;omega),
           o7 (by omega),D6,C3,D6,D6,e8 (by simp_all;omega)]
          grind
         .rw[o7 (by simp_all;omega),o7 (l₁:=(ρ y).cells.toList) (by omega),D6,D6]
          (simp_all;grind)
     refine⟨O,Go.undef,w',.inr ⟨rfl,by simp_all⟩,⟨#[],rfl,rfl⟩,?_,?_⟩
     .refine HR.retell (y:= .arr el sig (.op .lset [l,idx,.op .row (ld l idx 0 j++(es++ld l idx (j+n) (sig.length-(j+n))))])) e2 (b:=b) (x:= .cells el 0 (kE ocs ((dI I idx).toNat*sig.length+j) v.cells)) (by(intros;simp_all)) (.inr rfl) ?_ rfl rfl (λz=> ?_)
      .intro L' hL' hbr;obtain⟨C,lo,hi,vs,q1,q2,q3,q4,q5,q6,q7,q8⟩:=hbr;have hvs:vs=cM sig (dL I (.op .lset [l,idx,.op .row (ld l idx 0 j++(es++ld l idx (j+n) (sig.length-(j+n))))])):=by
        rw[hflat];unfold kE at q5;have hdet: ∀(O:cq) us,ct O I v.cells us->us=(ρ y).cells.toList:=λO us hu=>(rR hes hu).trans hrow.symm
        have hdet1: ∀(O:cq) us,ct O I (ocs.take ((dI I idx).toNat*sig.length+j)) us->us=(cM sig (dL I l)).take ((dI I idx).toNat*sig.length+j):=λO us hu=>WT m4 m1 hu
        have hdet2: ∀(O:cq) us,ct O I (ocs.drop ((dI I idx).toNat*sig.length+j+v.cells.length)) us->us=(cM sig (dL I l)).drop ((dI I idx).toNat*sig.length+j+v.cells.length):=λO us hu=>VS m4 m1 hu
        have t1:=q5.take (ocs.take ((dI I idx).toNat*sig.length+j)++v.cells).length;have t2:=q5.drop (ocs.take ((dI I idx).toNat*sig.length+j)++v.cells).length;rw[I2]at t1;rw[I3]at t2;have t3:=t1.take (ocs.take ((dI I idx).toNat*sig.length+j)).length;have t4:=t1.drop (ocs.take ((dI I idx).toNat*sig.length+j)).length;rw[I2]at t3;rw[I3]at t4;rw[<-t8 (ocs.take ((dI I idx).toNat*sig.length+j)++v.cells).length vs,hdet2 _ _ t2,c4];rw[<-t8 (ocs.take ((dI I idx).toNat*sig.length+j)).length (vs.take (ocs.take ((dI I idx).toNat*sig.length+j)++v.cells).length),hdet1 _ _ t3,hdet _ _ t4,A5]
       subst hvs;have hll:(kE ocs ((dI I idx).toNat*sig.length+j) v.cells).length=(dL I l).length*sig.length:=by
        rw[<-q5.length,jK,kL,D8]
       refine⟨C,_,lo,hi,q1,.inl rfl,q2,by(intros;simp_all),λi v2 hi'=> ?_,λi hi'=>q7 i (s7 _) hi'⟩;rw[q6 i (by
        rcases j9 i (kE ocs ((dI I idx).toNat*sig.length+j) v.cells).length with hh|hh
        .exact hh
        .rw[t7 (by rw[q5.length];exact hh)]at hi';cases hi')]
       exact hi'
      grind
     .refine⟨e9 _,λ_ _=>rfl,λz hz hzn=> ?_,rfl⟩;grind
    .trivial
  .trivial
 .trivial
theorem ch5{lo hi n:SX}(h:dB I (Ve lo hi n)=true):0<=dI I lo/\dI I lo<=dI I hi/\dI I hi<=dI I n:=by
 obtain⟨h1,h2⟩:=DS h;obtain⟨h2,h3⟩:=DS h2;refine⟨?_,j5 h2,?_⟩
 .cases hc:SX.beq lo (.ci 0)with
  |true=>grind[SX.beq_eq,tN]
  |false=>rw[hc]at h1;exact j5 h1
 .cases hc:SX.beq hi n with
  |true=>grind[SX.beq_eq]
  |false=>rw[hc]at h3;exact j5 h3
theorem d69(a b:SX):dI I (LB a b)=dI I a-dI I b:=by
 unfold LB;split
 .rw[tN];omega
 .rfl
theorem YG{x:Option (Option AV)}{d e:SX}{vx:Option Value}{k:Nat}(h:Jo x d=some e)(hx: ∀y,x=some y->OR O I y vx)(h0:0<=dI I e)(hd:(dI I d).toNat=k): ∃y:Option AV,OR O I y vx/\ft y k=some (dI I e).toNat:=by
 unfold Jo at h;split at h
 .simp at h;subst h;exact⟨none,hx _ rfl,by show some k=_;rw[hd]⟩
 .obtain⟨p,hp,rfl⟩:=o9.1 h;obtain⟨u,hu,ru⟩:=hx _ rfl;have:=sC (k:=p.1) (e:=p.2) hp ru;refine⟨some (.int p.1 (dI I p.2)),⟨u,hu,this⟩,?_⟩;obtain⟨m,hm⟩:=Int.eq_ofNat_of_zero_le h0;rw[hm];rfl
 .cases h
theorem ch7{P:Program}{t elem:TypeId}{s l en cap:Nat}{a:Addr}{lo hi:Option AV}{vl vh:Option Value}(ht:P.underlying t=some (.slice elem))(hs:fe P elem=some s)(rl:OR O I lo vl)(rh:OR O I hi vh)(hl:ft lo 0=some l)(he:ft hi n=some en)(h1:l<=en)(h2:en<=cap)(w:World):
 (Instr.sliceAt t (.slice (some a) n cap) vl vh none).run P w= .ok (.slice (if cap=l then some a else some (a.add (l*s))) (en-l) (cap-l)) w:=by
 have hb:=oz (P:=P) (mx:=none) (vm:=none) (cap:=cap) true rl rh rfl hl he (m:=cap) rfl h1 h2 (e9 _) (λ_=>rfl) w;simp_all[Instr.sliceAt,Sem.run_bind,Z3,Instr.slice,fB]
theorem c41{P:Program}{t elem:TypeId}{s n:Nat}{lo hi:Option AV}{vl vh:Option Value}(ht:P.underlying t=some (.slice elem))(hs:fe P elem=some s)(rl:OR O I lo vl)(rh:OR O I hi vh)(hl:ft lo 0=some 0)(he:ft hi 0=some 0)(w:World):
 (Instr.sliceAt t (.slice none 0 0) vl vh none).run P w= .ok (.slice none 0 0) w:=by
 have hb:=oz (P:=P) (mx:=none) (vm:=none) (cap:=0) true rl rh rfl hl he (m:=0) rfl (e9 _) (e9 _) (e9 _) (λ_=>rfl) w;simp_all[Instr.sliceAt,Sem.run_bind,Z3,Instr.slice,fB]
theorem ch8(r:HR O I K w0 h w)(o:eY O I af ρ)(t:TypeId)(x:Operand)(lo hi mx:Option Operand):
 dA E O I K w0 w h (do pure (.value (<-Instr.sliceAt t (ρ x) (lo.map ρ) (hi.map ρ) (mx.map ρ)))) (Ni E.P t h (af x) (fA af lo) (fA af hi) (fA af mx)):=by
 have fin: ∀{v:AV} {u:Value},VR O I v u->(Instr.sliceAt t (ρ x) (lo.map ρ) (hi.map ρ) (mx.map ρ)).run E.P w= .ok u w->dM E O I K w0 w h (do pure (.value (<-Instr.sliceAt t (ρ x) (lo.map ρ) (hi.map ρ) (mx.map ρ)))) v h:=by
  intro v u hv hr;exact dM.pureV r hv (by simp_all)
 have hlo: ∀y,fA af lo=some y->OR O I y (lo.map ρ):=λy hy=>Ax o hy
 have hhi: ∀y,fA af hi=some y->OR O I y (hi.map ρ):=λy hy=>Ax o hy
 unfold Ni;split
 .rename_i a hx hm;have hmx:mx.map ρ=none:=Ax o hm;have rv:=o x _ hx;split
  .trivial
  .rename_i elem ht;split
   .trivial
   .rename_i s b len sz hs;cases hc:Nat.beq s sz with
    |false=>trivial
    |true=>
     obtain rfl:=Z4.1 hc;unfold Re;split
     .rename_i l e h1 h2;have main:0<=dI I l->dI I l<=dI I e->dI I e<=dI I len-> ∀z:AV,((∀L cap,O b=some L->cap*s=L.ext->(dI I len).toNat<=cap->VR O I z (.slice (if cap=(dI I l).toNat then some ⟨L.blk,L.off,none⟩else some ⟨L.blk,L.off+(dI I l).toNat*s,none⟩) ((dI I e).toNat-(dI I l).toNat) (cap-(dI I l).toNat)))/\(dI I len=0->VR O I z (.slice none 0 0)))->
       dM E O I K w0 w h (do pure (.value (<-Instr.sliceAt t (ρ x) (lo.map ρ) (hi.map ρ) (mx.map ρ)))) z h:=by
       intro d1 d2 d3 z ⟨hz1,hz2⟩;obtain⟨y1,r1,b1⟩:=YG (k:=0) h1 hlo d1 rfl;obtain⟨y2,r2,b2⟩:=YG (k:=(dI I len).toNat) h2 hhi (by omega) rfl;rcases rv with⟨L,cap,hL,hext,hv,hcap⟩|⟨hv,hz⟩
       .grind[ch7,dI,jb]
       .have hl0:dI I l=0:=by omega
        have he0:dI I e=0:=by omega
        rw[hl0]at b1;rw[he0,hz]at b2;exact fin (hz2 hz) (by rw[hv,hmx];exact c41 (n:=0) ht hs r1 r2 b1 b2 w)
      cases hq:SX.beq l (.ci 0)with
      |true=>
       intro hd;obtain⟨d1,d2,d3⟩:=ch5 hd;have hl0:dI I l=0:=by rw[SX.beq_eq _ _ hq,tN]
       refine main (by omega) (by omega) d3 _ ⟨λL cap hL hext hcap=> ?_,λhz=> .inr ⟨rfl,by omega⟩⟩;refine .inl ⟨L,cap,hL,hext,?_,by omega⟩;grind
      |false=>
       intro hd;obtain⟨d1,d2,d3⟩:=ch5 hd;have hle:dI I (LB e l)=dI I e-dI I l:=d69 _ _;refine main d1 d2 d3 _ ⟨λL cap hL hext hcap=> ?_,λhz=> .inr ⟨none,0,rfl,λ_=>rfl,by omega⟩⟩;simp[VR];grind
     .trivial
   .trivial
  .trivial
 .trivial
theorem HR.asCells(r:HR O I K w0 h w){b el:Nat}{l:SX}(hg:h.get b=some (.arr el sig l))(hwm:h.wm<=b)(hne:el≠jM)(hnf:I.fix el=false){ocs:List AV}(m1: ∀O:cq,ct O I ocs (cM sig (dL I l)))(m2:ocs.all AV.one=true)(m3:ocs.length=(cM sig (dL I l)).length):
 HR O I K w0 (h.put b (some (.cells el 0 ocs))) w:=by
 have hb65:=Heap.get_lim h b _ hg;refine HR.retell (y:= .cells el 0 ocs) r hg (.inl hwm) ?_ rfl rfl (λz=>by rw[Heap.get_put,e8 hb65]);intro L' hL' hbr;obtain⟨C,e',lo,hi,z1,z0,z2,z3,z4,z5⟩:=hbr;rw[z0.resolve_right hne]at z1;refine⟨C,lo,hi,cM sig (dL I l),z1,z2,by rw[m3,jK];exact z3,pM m2,m1 O,λk hk=> ?_,λk _ hk=>z5 k hk,λhh=>by(intros;simp_all)⟩;grind
theorem HR.asArr{b el:Nat}{l:SX}(hb65:b<65536)(r:HR O I K w0 (h.put b (some (.cells el 0 cs))) w)(hd: ∀us,ct O I cs us->us=cM sig (dL I l)):HR O I K w0 (h.put b (some (.arr el sig l))) w:=by
 have gf: ∀(hh:Heap) (x:Option Blk) (z:Nat),(hh.put b x).get z=if z=b then(if b<65536 then x else none)else hh.get z:=λhh x z=>Heap.get_put _ _ _ _
 refine HR.retell (y:= .arr el sig l) r (b:=b) (x:= .cells el 0 cs) (by(intros;simp_all)) (.inr rfl) ?_ rfl rfl (λz=> ?_)
 .intro L' hL' hbr;obtain⟨C,lo,hi,vs,q1,q2,q3,q4,q5,q6,q7,q8⟩:=hbr;have hvs:=hd vs q5;subst hvs;have hll:cs.length=(dL I l).length*sig.length:=by rw[<-q5.length,jK]
  refine⟨C,_,lo,hi,q1,.inl rfl,q2,by(intros;grind),λi v2 hi'=> ?_,λi hi'=>q7 i (s7 _) hi'⟩;rw[q6 i (by
   rcases j9 i cs.length with hh|hh
   .exact hh
   .rw[t7 (by rw[q5.length];exact hh)]at hi';cases hi')]
  exact hi'
 grind
theorem aY1{m:Sem Value}{n:Sem Next}{res:Res}(hm: ∀h' a,Ok E.P O I K w0 w h m a h'->dM E O I K w0 w h n a h')(k:Cx E.P O I K w0 w h m res):dA E O I K w0 w h n res:=by
 cases res<;>first|exact k.elim|trivial|exactλhd=>hm _ _ (k hd)
theorem dM.blt{h':Heap}{m:Sem Value}{n:Sem Next}{a:AV}(e:n=(do pure (.value (<-m))))(k:Ok E.P O I K w0 w h m a h'):dM E O I K w0 w h n a h':=by
 grind[dM.of]
theorem bP3(I:Opq)(z:List AV)(sig:List CT)(es:List SX)(hes:jZ sig z=some es): ∀(n:Nat) (O:cq) (us:List Value),ct O I (dZ n z) us->us=cM sig (List.replicate n (.vl (ck I es)))
 |0,O,us,h=>h
 |n+1,O,us,h=>by
  have h1:=h.take z.length;have h2:=h.drop z.length;have e1:(dZ (n+1) z).take z.length=z:=by simp[dZ]
  have e2:(dZ (n+1) z).drop z.length=dZ n z:=by simp[dZ]
  rw[e1]at h1;rw[e2]at h2;rw[<-t8 z.length us,rR hes h1,bP3 I z sig es hes n O _ h2];rfl
theorem ZR(z:List AV): ∀n,(dZ n z).length=n*z.length
 |0=>by simp[dZ]
 |n+1=>by simp[dZ,ZR z n,x8];omega
theorem bP4(z:List AV)(hz:z.all AV.one=true): ∀n,(dZ n z).all AV.one=true
 |0=>rfl
 |n+1=>by simp[dZ,C9,hz,bP4 z hz n,Bool.and_self]
theorem HR.sameGet{h2:Heap}(r:HR O I K w0 h w)(hn:h2.next=h.next)(hw:h2.wm=h.wm)(hg: ∀z,h.get z=h2.get z):HR O I K w0 h2 w:=
 ⟨λb x L e=>r.blk b x L (by grind),λb b' x x' L L' e e' hb hb' hne q=>r.sep b b' x x' L L' (by grind) (by grind) hb hb' hne (by grind),λb hb=>r.fresh b (by omega),λb hb=>by rw[<-hg];exact r.fget b (by omega),r.lt,r.kin,r.keep,
  λb x L e q=>r.free b x L (by grind) (by omega),r.size,r.os,r.tape,r.out,r.dr⟩
theorem Xk(sig:List CT): ∀(l:List Val) (o:Nat),(cM sig l).take (o*sig.length)=cM sig (l.take o)
 |l,0=>by simp[cM]
 | [],o+1=>by simp[cM]
 |r::l,o+1=>by
  have ih:=Xk sig l o;show((ej sig r++cM sig l).take ((o+1)*sig.length))=ej sig r++cM sig (l.take o);simp_all[List.take_append,nk,x8,G1,M8,I5]
theorem ba5(sig:List CT): ∀(l:List Val) (o:Nat),(cM sig l).drop (o*sig.length)=cM sig (l.drop o)
 |l,0=>by grind
 | [],o+1=>by simp[cM]
 |r::l,o+1=>by
  have ih:=ba5 sig l o;show((ej sig r++cM sig l).drop ((o+1)*sig.length))=cM sig (l.drop o);simp_all[M9,nk,x8,G1,M8,J8,List.nil_append]
theorem c42(hfx: ∀t,I.fix t=gv E.P t)(r:HR O I K w0 h w){ty t elem b:Nat}{off len:SX}{sz:Nat}{z:AV}(h0:ts[0]? =some t)(ht:E.P.underlying t=some (.slice elem))(hz:jk E.P elem=some z)(hfe:gv E.P elem=false)
 (rx:(∃L cap a,O b=some L/\vx= .slice (some a) (dI I len).toNat cap/\(dI I len).toNat<=cap/\(0<dI I len->a=⟨L.blk,L.off+(dI I off).toNat*sz,none⟩))\/ ∃a cap,vx= .slice a 0 cap/\(a=none->cap=0)/\dI I len=0):
 Cx E.P O I K w0 w h (Builtin.clear_ ts ty #[vx]) (UG E.P b off len sz z.cells (h.get b) h):=by
 unfold UG;split
 .rename_i e sig l hg;split
  .rename_i es hes;cases hc:(Nat.beq sig.length sz&&Nat.blt 0 sz&&Nat.ble h.wm b&& !(Nat.beq e jM)&& !(gv E.P e))with
   |false=>trivial
   |true=>
    obtain⟨hc,c5⟩:=Z1 hc;have hnf:I.fix e=false:=by(intros;simp_all)
    obtain⟨hc,c4⟩:=Z1 hc;have hne:e≠jM:=λe2=>by(intros;simp_all)
    obtain⟨hc,c3⟩:=Z1 hc;obtain⟨c1,c2⟩:=Z1 hc;obtain rfl:=Z4.1 c1;rw[cW]at c3;rw[fc]at c2;intro hd;obtain⟨d1,d2⟩:=Z1 (a:=(dB I (.op (.cmp .leq) [.ci 0,off])&&dB I (.op (.cmp .leq) [.ci 0,len]))) (b:=(dB I (.op (.cmp .leq) [len,.ci pN])&&dB I (.op (.cmp .leq) [.op .iadd [off,len],.op .llen [l]]))) hd;obtain⟨d1,d3⟩:=Z1 d1;obtain⟨d2,d4⟩:=Z1 d2;have d1:0<=dI I off:=j5 d1;have d3:0<=dI I len:=j5 d3;have d4:dI I off+dI I len<=((dL I l).length:Int):=j5 d4;have hb65:=Heap.get_lim h b _ hg;obtain⟨o,ho⟩: ∃o:Nat,dI I off=(o:Int):=⟨(dI I off).toNat,by omega⟩;obtain⟨n,hn⟩: ∃n:Nat,dI I len=(n:Int):=⟨(dI I len).toNat,by omega⟩;have hon:o+n<=(dL I l).length:=by omega
    have kL:dL I (.op .lcat [.op .lsub [l,.ci 0,off],.op .lcat [.op .lrep [len,.op .row es],.op .lsub [l,.op .iadd [off,len],.op .llen [l]]]])=(dL I l).take o++(List.replicate n (.vl (ck I es))++(dL I l).drop (o+n)):=by
     show((dL I l).drop (0:Int).toNat).take (dI I off-0).toNat++(List.replicate (dI I len).toNat (.vl (ck I es))++((dL I l).drop (dI I off+dI I len).toNat).take (((dL I l).length:Int)-(dI I off+dI I len)).toNat)=_;rw[ho,hn,show(0:Int).toNat=0 from rfl,R3,show((o:Int)-0).toNat=o by omega,Int.toNat_natCast,show((o:Int)+(n:Int)).toNat=o+n by omega];congr 2;rw[I5 (by(intros;grind))]
    rcases rx with⟨L,cap,a,hL,hv,hcap,ha⟩|⟨a,cap,hv,hacap,hlen0⟩
    .rw[hn,Int.toNat_natCast]at hv;by_cases hn0:n=0
     .subst hn0;refine⟨O,.tuple #[],w,by rw[hv];cases a<;>simp[Builtin.clear_,h0,Z3 ht],⟨_,rfl,rfl⟩,?_,?_⟩
      .refine HR.retell (y:= .arr e sig (.op .lcat [.op .lsub [l,.ci 0,off],.op .lcat [.op .lrep [len,.op .row es],.op .lsub [l,.op .iadd [off,len],.op .llen [l]]]])) r hg (.inl c3) ?_ rfl rfl (λz=>by rw[Heap.get_put,e8 hb65]);intro L' hL' hbr;obtain⟨C,e',lo,hi,z1,z0,z2,z3,z4,z5⟩:=hbr;have he:dL I (.op .lcat [.op .lsub [l,.ci 0,off],.op .lcat [.op .lrep [len,.op .row es],.op .lsub [l,.op .iadd [off,len],.op .llen [l]]]])=dL I l:=by rw[kL];simp
       exact⟨C,e',lo,hi,z1,z0,z2,by rw[he];exact z3,by rw[he];exact z4,z5⟩
      .refine⟨e9 _,λ_ _=>rfl,λz hz hzn=> ?_,rfl⟩;left;rw[Heap.get_put,b9 (λhh=>by(intros;simp_all))]
     .have ha:=ha (by omega);subst ha;obtain⟨ocs,m1,m2,m3,m4⟩:=KR I sig (dL I l);have m3':ocs.length=(dL I l).length*sig.length:=by rw[m3,jK]
      have r2:=r.asCells hg c3 hne hnf m1 m2 m3;obtain⟨hone,helen⟩:=QF hes;have hzl:z.cells.length=sig.length:=by rw[<-helen];exact vU hes
      have hrl:=ZR z.cells n;rw[hzl]at hrl;have hmul:o*sig.length+n*sig.length<=(dL I l).length*sig.length:=by rw[<-x8];exact A1 _ hon
      have hg2:(h.put b (some (.cells e 0 ocs))).get b=some (.cells e 0 ocs):=by rw[Heap.get_put,e8 rfl,e8 hb65]
      have hpc:putCells (h.put b (some (.cells e 0 ocs))) b (o*sig.length) (dZ n z.cells)=some ((h.put b (some (.cells e 0 ocs))).put b (some (.cells e 0 (kE ocs (o*sig.length) (dZ n z.cells))))):=by
       have hr0:0<n*sig.length:=Nat.mul_pos (by omega) c2;cases hcs:dZ n z.cells with
       |nil=>(intros;simp_all)
       |cons a as=>
        simp only[putCells,hcs];rw[<-hcs,hg2];simp;rw[show(Nat.ble h.wm b&&Nat.ble 0 (o*sig.length)&&Nat.ble (o*sig.length+(dZ n z.cells).length) ocs.length&&(dZ n z.cells).all AV.one)=true by
         rw[bP4 _ hone,cW.2 c3,cW.2 (s7 _),cW.2 (by(intros;simp_all))];rfl]
        rfl
      have hcl:Ky E.P elem b (o*sig.length) n (h.put b (some (.cells e 0 ocs)))=some (.undef,(h.put b (some (.cells e 0 ocs))).put b (some (.cells e 0 (kE ocs (o*sig.length) (dZ n z.cells))))):=by
       unfold Ky
       (split<;>grind)
      obtain⟨ac,u,w',e1,e2,e3,e4⟩:=cf9 (ty:=ty) (cap:=cap) h0 ht r2 hcl hL;have ao:HR ac I K w0 (h.put b (some (.cells e 0 (kE ocs (o*sig.length) (dZ n z.cells))))) w':=by
       have: ∀q,((h.put b (some (.cells e 0 ocs))).put b (some (.cells e 0 (kE ocs (o*sig.length) (dZ n z.cells))))).get q=(h.put b (some (.cells e 0 (kE ocs (o*sig.length) (dZ n z.cells))))).get q:=λq=>by
        rw[Heap.get_put,Heap.get_put,Heap.get_put]
        (split<;>simp_all)
       exact e3.sameGet rfl rfl this
      refine⟨ac,u,w',by(intros;simp_all),e2,?_,?_⟩
      .refine HR.asArr hb65 ao (λus hus=> ?_);rw[kL,Dk,Dk];unfold kE at hus;have hdet1: ∀us,ct ac I (ocs.take (o*sig.length)) us->us=(cM sig (dL I l)).take (o*sig.length):=λus hu=>WT m4 m1 hu
       have hdet2: ∀us,ct ac I (ocs.drop (o*sig.length+(dZ n z.cells).length)) us->us=(cM sig (dL I l)).drop (o*sig.length+(dZ n z.cells).length):=λus hu=>VS m4 m1 hu
       have t1:=hus.take (ocs.take (o*sig.length)++dZ n z.cells).length;have t2:=hus.drop (ocs.take (o*sig.length)++dZ n z.cells).length;rw[I2]at t1;rw[I3]at t2;have t3:=t1.take (ocs.take (o*sig.length)).length;have t4:=t1.drop (ocs.take (o*sig.length)).length;rw[I2]at t3;rw[I3]at t4;rw[<-t8 (ocs.take (o*sig.length)++dZ n z.cells).length us,hdet2 _ t2];rw[<-t8 (ocs.take (o*sig.length)).length (us.take (ocs.take (o*sig.length)++dZ n z.cells).length),hdet1 _ t3,bP3 I z.cells sig es hes n ac _ t4,A5,hrl,Xk,<-x8,ba5]
      .have:=e4;refine⟨this.le,λb' hb'=>this.ext b' hb',λb' hb' hn'=> ?_,this.wm⟩;left;rw[Heap.get_put,b9 (λhh=>by(intros;simp_all))]
    .have hn0:n=0:=by omega
     subst hn0;refine⟨O,.tuple #[],w,by rw[hv];cases a<;>simp[Builtin.clear_,h0,Z3 ht],⟨_,rfl,rfl⟩,?_,?_⟩
     .refine HR.retell (y:= .arr e sig (.op .lcat [.op .lsub [l,.ci 0,off],.op .lcat [.op .lrep [len,.op .row es],.op .lsub [l,.op .iadd [off,len],.op .llen [l]]]])) r hg (.inl c3) ?_ rfl rfl (λz=>by rw[Heap.get_put,e8 hb65]);intro L' hL' hbr;obtain⟨C,e',lo,hi,z1,z0,z2,z3,z4,z5⟩:=hbr;have he:dL I (.op .lcat [.op .lsub [l,.ci 0,off],.op .lcat [.op .lrep [len,.op .row es],.op .lsub [l,.op .iadd [off,len],.op .llen [l]]]])=dL I l:=by rw[kL];simp
      exact⟨C,e',lo,hi,z1,z0,z2,by rw[he];exact z3,by rw[he];exact z4,z5⟩
     .refine⟨e9 _,λ_ _=>rfl,λz hz hzn=> ?_,rfl⟩;by_cases e1:z=b
      .subst e1;exact .inr (.inr (.of hg))
      .left;rw[Heap.get_put,b9 e1]
  .trivial
 .trivial
theorem ci0(hfx: ∀t,I.fix t=gv E.P t){x:AV}(r:HR O I K w0 h w)(rx:VR O I x vx):Cx E.P O I K w0 w h (Builtin.clear_ ts ty #[vx]) (RB E.P ((ts[0]?).bind E.P.underlying) x h):=by
 unfold RB;split
 .rename_i elem ht;simp[o8]at ht;obtain⟨t,h0,ht⟩:=ht;split
  .rename_i z hz;cases hfe:gv E.P elem with
   |true=>trivial
   |false=>
    split
    .grind[VR,c42]
    .trivial
    .trivial
  .trivial
 .trivial
theorem cG4(hfx: ∀t,I.fix t=gv E.P t)(r:HR O I K w0 h w)(o:eY O I af ρ)(c:Call)(ty:TypeId):
 dA E O I K w0 w h (do let d <-resolve ρ c ty;invoke d.target d.args) (Mz E.P af c h):=by
 unfold Mz;split
 .rename_i b hb;have hrun: ∀w,(do let d <-resolve ρ c ty;invoke d.target d.args:Sem Next).run E.P w=(builtin b c.argTypes ty (c.args.map λ| .const _=>true|_=>false) (c.args.map ρ)).run E.P w:=by
   grind[resolve,Sem.run_bind,Sem.run_pure,Result.andThen_ok,invoke]
  have conv: ∀res,dA E O I K w0 w h (builtin b c.argTypes ty (c.args.map λ| .const _=>true|_=>false) (c.args.map ρ)) res->dA E O I K w0 w h (do let d <-resolve ρ c ty;invoke d.target d.args) res:=by
   intro res hh;cases res with
   |val v h1=>obtain⟨ac,u,w',q1,q2⟩:=hh;exact⟨ac,u,w',by grind,q2⟩
   |need e v h1=>intro hd;obtain⟨ac,u,w',q1,q2⟩:=hh hd;exact⟨ac,u,w',by grind,q2⟩
   |cho e v l h1=>
    refine⟨λhd=> ?_,λhd=> ?_⟩
    .obtain⟨ac,u,w',q1,q2⟩:=hh.1 hd;exact⟨ac,u,w',by grind,q2⟩
    .obtain⟨x,hx,ac,u,w',q1,q2⟩:=hh.2 hd;exact⟨x,hx,ac,u,w',by grind,q2⟩
   |enter f vs=>obtain⟨us,q1,q2⟩:=hh;exact⟨us,by grind,q2⟩
   |choice l=>obtain⟨x,hx,ac,u,w',q1,q2⟩:=hh;exact⟨x,hx,ac,u,w',by grind,q2⟩
   |yield l vs=>obtain⟨L,us,q1,q2,q3⟩:=hh;exact⟨L,us,q1,q2,by grind⟩
   |defer d=>obtain⟨dd,q1,q2⟩:=hh;exact⟨dd,by grind,q2⟩
   |bad=>trivial
  apply conv
  cases hx:evs af c.args.toList with
  |none=>trivial
  |some args=>
   have ra:=uC o hx;have harr:c.args.map ρ=(c.args.toList.map ρ).toArray:=by grind
   rw[harr];unfold Jw;split
   .rename_i x hh;simp at hh;subst hh;obtain⟨v,vr,e1,p1,p2⟩:=ra;obtain rfl:vr=[]:=p2;rw[e1];split
    .grind[d64]
    .trivial
    .exact aY1 (λh' a k=>dM.blt rfl k) (ci0 hfx r p1)
    .trivial
   .rename_i x y hh;simp at hh;subst hh;obtain⟨v,vr,e1,p1,v2,vr2,e2,p2,p3⟩:=ra;obtain rfl:vr2=[]:=p3;rw[e1,e2];split
    .exact c36 hfx r p1 p2 _ _ _
    .trivial
    .trivial
    .exact aY1 (λh' a k=>dM.blt rfl k) (d68 r p1 p2)
    grind[du3]
   .trivial
 .trivial
theorem cG5(hfx: ∀t,I.fix t=gv E.P t)(r:HR O I K w0 h w)(ro:eY O I af ρ)(o:Oper):dA E O I K w0 w h (execOp ρ o) (rG E af o h):=by
 obtain⟨dst,op,ty,pos,after,guard⟩:=o;cases op with
 |binOp op t x y _=>exact cF3 r ro op t x y
 |unOp op _ x=>exact du2 r ro op x
 |convert s d x=>exact cF6 r ro s d x
 |pick c a b=>exact cF4 r ro c a b
 |load t a=>exact cF8 r ro t a
 |indexAddr t x i=>exact be7 r ro t x i
 |fieldAddr s x f=>exact be6 r ro s f x
 |index t x i=>trivial
 |store t a x=>exact ch4 hfx r ro t a x
 |slice t x lo hi mx=>exact ch8 r ro t x lo hi mx
 |lookup t m k ok=>exact c38 r ro t m k ok
 |mapUpdate t m k x=>exact ch3 r ro t m k x
 |insert t m k x=>trivial
 |mapEntry t m k=>trivial
 |entryStore t m s x=>trivial
 |call c=>exact cG4 hfx r ro c ty
 |_=>trivial
end Go.Ev
namespace Go.Ev
open Go
variable{E:Env}{O:cq}{I:Opq}{K:Nat->Prop}{w0 w:World}{h h':Heap}{af:Operand->Option AV}{ρ:Operand->Value}
theorem cG6(r:HR O I K w0 h w)(o:eY O I af ρ)(c a b:Operand):dA E O I K w0 w h (do pure (.value (if<-asBool (ρ c)then ρ a else ρ b))) (yY af a b h (af c)):=by
 unfold yY;split
 .rename_i t hc;have rc:=o c _ hc;simp[VR]at rc;cases t with
  |true=>
   cases ha:af a with
   |none=>trivial
   |some v=>exact⟨O,ρ a,w,.inl (by simp[rc,asBool]),o a v ha,r,.refl _ _⟩
  |false=>
   cases hb:af b with
   |none=>trivial
   |some v=>exact⟨O,ρ b,w,.inl (by simp[rc,asBool]),o b v hb,r,.refl _ _⟩
 .trivial
theorem ci3(r:HR O I K w0 h w)(e:TypeId):dA E O I K w0 w h (do pure (.value (<-Instr.alloc e true (.tuple #[])))) (vu e h (jk E.P e)):=by
 cases hz:jk E.P e with
 |none=>trivial
 |some z=>
  obtain⟨zv,z1,z2⟩:=FG hz;refine LQ λv h' hv=> ?_
  obtain⟨ac,x,w',q1,q2,q3,q4⟩:=WG (P:=E.P) r hv (z1 O I);exact⟨ac,x,w',by grind[Instr.alloc,Sem.run_bind,Result.andThen_ok],q2,q3,q4⟩
theorem d70(r:HR O I K w0 h w)(o:eY O I af ρ)(e:TypeId)(x:Operand):dA E O I K w0 w h (do pure (.value (<-Instr.box e (ρ x)))) (vu e h (af x)):=by
 cases hx:af x with
 |none=>trivial
 |some a=>exact LQ λv h' hv=>WG (P:=E.P) r hv (o x a hx)
theorem ci4(r:HR O I K w0 h w)(o:eY O I af ρ)(t:TypeId)(ps:Array (Nat×Operand)):dA E O I K w0 w h (do pure (.value (<-Instr.build t (ps.map λ(i,x)=>(i,ρ x))))) (LF E.P t h (jg af ps.toList)):=by
 cases hx:jg af ps.toList with
 |none=>trivial
 |some l=>
  obtain⟨q1,q2⟩:=UV o hx;refine vq r λv hv=> ?_
  obtain⟨u,g1,g2⟩:=cf1 (P:=E.P) (O:=O) (I:=I) (vparts:=ps.map λ(i,x)=>(i,ρ x)) hv (by simpa using q1) (by simpa using q2);grind
theorem b82(r:HR O I K w0 h w)(o:eY O I af ρ)(t n:Nat)(ps:Array (Nat×Operand)):
 dA E O I K w0 w h (do pure (.value (<-Instr.buildSlice t n (ps.map λ(i,x)=>(i,ρ x))))) (DE E.P t n h (jg af ps.toList)):=by
 cases hx:jg af ps.toList with
 |none=>trivial
 |some l=>
  obtain⟨q1,q2⟩:=UV o hx;exact LQ λv h' hv=>b79 (P:=E.P) r hv (by simp_all) (by simp_all)
theorem cG7(r:HR O I K w0 h w)(o:eY O I af ρ)(t:TypeId)(x:Operand):dA E O I K w0 w h (do pure (.value (<-Instr.loadAt t (ρ x)))) (Sm E.P t h (af x)):=by
 cases hx:af x with
 |none=>trivial
 |some a=>exact vq r λv hv=>bO2 r hv (o x a hx)
theorem ci5(r:HR O I K w0 h w)(o:eY O I af ρ)(t:TypeId)(x y:Operand):dA E O I K w0 w h (do Instr.storeAt t (ρ x) (ρ y);pure .skip) (Qg E.P t h (af x) (af y)):=by
 cases hx:af x with
 |none=>trivial
 |some a=>
  cases hy:af y with
  |none=>trivial
  |some b=>exact WW λh' hv=>XF r hv (o x a hx) (o y b hy)
theorem d71(hE:E.Ok I)(r:HR O I K w0 h w)(o:eY O I af ρ)(op:BinOp)(t:TypeId)(x y:Operand):
 dA E O I K w0 w h (do pure (.value (<-(do eqGuard op t x y (ρ x) (ρ y);binOp op t (ρ x) (ρ y):Sem Value)))) (CL E op t x y h (af x) (af y)):=by
 cases hx:af x with
 |none=>trivial
 |some a=>
  cases hy:af y with
  |none=>trivial
  |some b=>
   simp only[CL];cases hg:xW E.P op t x y a b with
   |false=>trivial
   |true=>
    refine vq r λv hv=> ?_
    have hgr:=b98 hg (o x a hx) (o y b hy);have main: ∃u,VR O I v u/\ ∀w,(binOp op t (ρ x) (ρ y)).run E.P w= .ok u w:=by
     unfold Lp at hv;split at hv
     .rename_i v' hb;simp at hv;subst hv;exact d46 hb (o x a hx) (o y b hy)
     .exact hE.bin op a b v hv O t _ _ (o x a hx) (o y b hy)
    grind[Sem.run_bind,Result.andThen_ok]
theorem du4(hE:E.Ok I)(r:HR O I K w0 h w)(o:eY O I af ρ)(op:UnOp)(x:Operand):dA E O I K w0 w h (do pure (.value (<-Op.unary op (ρ x)))) (Qw E op h (af x)):=by
 cases hx:af x with
 |none=>trivial
 |some a=>
  refine vq r λv hv=> ?_
  have main: ∃u,VR O I v u/\ ∀w,(Op.unary op (ρ x)).run E.P w= .ok u w:=by
   unfold Lp at hv;split at hv
   .rename_i v' hb;simp at hv;subst hv;exact cS8 hb (o x a hx)
   .exact hE.un op a v hv O _ (o x a hx)
  grind
theorem cG8(hE:E.Ok I)(r:HR O I K w0 h w)(o:eY O I af ρ)(s d:TypeId)(x:Operand):dA E O I K w0 w h (do pure (.value (<-convert s d (ρ x)))) (Dc E s d h (af x)):=by
 cases hx:af x with
 |none=>trivial
 |some a=>
  simp[Dc];cases hc:Ca E.P s d a h with
  |some p=>exact .of (cE6 hE.fix r (a:=p.1) (h':=p.2) hc (o x a hx))
  |none=>
   cases hc2:QN E.P s d a h with
   |some p=>trivial
   |none=>exact vq r λv hv=>let ⟨u,u1,u2⟩:=hE.conv d a v hv O s _ (o x a hx);⟨u,u1,u2 w⟩
theorem ci6(r:HR O I K w0 h w)(o:eY O I af ρ)(t:TypeId)(x:Operand):dA E O I K w0 w h (do pure (.value (<-Instr.makeInterface t (ρ x)))) (Ci E.P t h (af x)):=by
 cases hx:af x with
 |none=>trivial
 |some a=>
  simp[Ci];split
  .trivial
  .refine .of ⟨O,.iface t (ρ x),w,?_,⟨_,rfl,o x a hx⟩,r,.refl _ _⟩;simp_all[Instr.makeInterface,Sem.run_bind,Z3,Result.andThen_ok]
  .trivial
theorem cG9(r:HR O I K w0 h w)(o:eY O I af ρ)(fn:Fn)(xs ys:Array Operand):
 dA E O I K w0 w h (do pure (.value (<-Instr.makeFunc fn (xs.map ρ) (ys.map ρ)))) (Cy fn h (evs af xs.toList) (evs af ys.toList)):=by
 cases hx:evs af xs.toList with
 |none=>trivial
 |some a=>
  cases hy:evs af ys.toList with
  |none=>trivial
  |some b=>
   simp[Cy];split
   .trivial
   .rename_i hn;exact .of ⟨O,.func fn (xs.map ρ) (ys.map ρ),w,rfl,⟨hn,_,_,rfl,by simpa using uC o hx,by simpa using uC o hy⟩,r,.refl _ _⟩
theorem d72(r:HR O I K w0 h w)(o:eY O I af ρ)(t:TypeId)(x:Option Operand):dA E O I K w0 w h (do pure (.value (<-Instr.makeMap t (x.map ρ)))) (we E.P t h (fA af x)):=by
 unfold we;split
 .rename_i kt et ht;have new: ∀m:Sem Value,m.run E.P w= .ok (.map (some w.heap.size)) (w.alloc (.map #[] 0))->dM E O I K w0 w h (do pure (.value (<-m))) (.map h.next) (h.new (.map [] 0)):=by
   intro m hm;obtain⟨p1,p2⟩:=r.new (.map #[] 0) (.map [] 0) 0 0 ⟨#[],rfl,.nil⟩;exact .of ⟨_,_,_,hm,⟨_,cq.add_self _ _ _,rfl⟩,p1,p2⟩
  split
  .rename_i hx;have:=Ax o hx;rw[this];exact new _ rfl
  .trivial
  .trivial
 .trivial
theorem ci7(r:HR O I K w0 h w)(o:eY O I af ρ)(t:TypeId)(x:Operand)(lo hi mx:Option Operand):
 dA E O I K w0 w h (do pure (.value (<-Instr.sliceAt t (ρ x) (lo.map ρ) (hi.map ρ) (mx.map ρ)))) (CQ E t h (af x) (fA af lo) (fA af hi) (fA af mx)):=by
 cases hx:af x with
 |none=>trivial
 |some a=>
  cases h1:fA af lo with
  |none=>trivial
  |some vl=>
   cases h2:fA af hi with
   |none=>trivial
   |some vh=>
    cases h3:fA af mx with
    |none=>trivial
    |some vm=>
     simp[CQ];cases hc:(vh.isNone&&vm.isSome)with
     |true=>trivial
     |false=>
      refine vq r λv hv=> ?_
      obtain⟨u,u1,u2⟩:=ce9 r hv hc (o x a hx) (Ax o h1) (Ax o h2) (Ax o h3);grind
theorem VN{F:AV->AV->Option AV}{G:Value->Value->Sem Value}(r:HR O I K w0 h w)(o:eY O I af ρ)(x y:Operand)
 (k: ∀a b v va vb,F a b=some v->VR O I a va->VR O I b vb-> ∃u,VR O I v u/\(G va vb).run E.P w= .ok u w):dA E O I K w0 w h (do pure (.value (<-G (ρ x) (ρ y)))) (s2 F h (af x) (af y)):=by
 cases hx:af x with
 |none=>trivial
 |some a=>
  cases hy:af y with
  |none=>trivial
  |some b=>exact vq r λv hv=>k a b v _ _ hv (o x a hx) (o y b hy)
theorem LE{F:AV->Option AV}{G:Value->Sem Value}(r:HR O I K w0 h w)(o:eY O I af ρ)(x:Operand)
 (k: ∀a v va,F a=some v->VR O I a va-> ∃u,VR O I v u/\(G va).run E.P w= .ok u w):dA E O I K w0 w h (do pure (.value (<-G (ρ x)))) (s1 F h (af x)):=by
 cases hx:af x with
 |none=>trivial
 |some a=>exact vq r λv hv=>k a v _ hv (o x a hx)
theorem du5{F:AV->AV->AV->Option Heap}{G:Value->Value->Value->Sem Unit}(r:HR O I K w0 h w)(o:eY O I af ρ)(x y z:Operand)
 (k: ∀a b c h' va vb vc,F a b c=some h'->VR O I a va->VR O I b vb->VR O I c vc->NN E.P O I K w0 w h (G va vb vc) h'):dA E O I K w0 w h (do G (ρ x) (ρ y) (ρ z);pure .skip) (Vu F (af x) (af y) (af z)):=by
 cases hx:af x with
 |none=>trivial
 |some a=>
  cases hy:af y with
  |none=>trivial
  |some b=>
   cases hz:af z with
   |none=>trivial
   |some c=>exact WW λh' hv=>k a b c h' _ _ _ hv (o x a hx) (o y b hy) (o z c hz)
theorem bD9(hE:E.Ok I)(r:HR O I K w0 h w){args:List AV}{us:List Value}(ra:ct O I args us)(b:Builtin)(ts:Array TypeId)(ty:TypeId)(cs:Array Bool):
 dA E O I K w0 w h (builtin b ts ty cs us.toArray) (yh E b ts h args):=by
 unfold yh;split
 .rename_i p hp;obtain⟨ac,v,w',q1,q2,q3,q4⟩:=Ur (ty:=ty) (cs:=cs) (us:=us.toArray) (a:=p.1) (h':=p.2) hE.fix r hp (by omega);exact⟨ac,v,w',.inl q1,q2,q3,q4⟩
 .have main: ∀k,(b= .len/\k=FK.len\/b= .max/\k=FK.max\/b= .min/\k=FK.min)->dA E O I K w0 w h (builtin b ts ty cs us.toArray) (ov (E.fact k args) h):=by
   intro k hk;cases hf:E.fact k args with
   |none=>trivial
   |some v=>
    obtain⟨u,u1,u2⟩:=hE.blt b k args v hk hf O ts ty cs us ra;exact⟨O,u,w,.inl (u2 w),u1,r,.refl _ _⟩
  split
  .grind
  .grind
  .grind
  .trivial
theorem cH1(hE:E.Ok I)(r:HR O I K w0 h w)(o:eY O I af ρ)(c:Call)(ty:TypeId):
 dA E O I K w0 w h (do let d <-resolve ρ c ty;invoke d.target d.args) (vE E af c h (evs af c.args.toList)):=by
 cases hx:evs af c.args.toList with
 |none=>trivial
 |some args=>
  have ra:=uC o hx;have harr:(c.args.toList.map ρ).toArray=c.args.map ρ:=by grind
  simp[vE];split
  .rename_i b hb;have:=bD9 hE r ra b c.argTypes ty (c.args.map λ| .const _=>true|_=>false);grind[resolve,invoke,builtin,Sem.run_bind,Sem.run_pure,Result.andThen_ok,yh]
  .trivial
  .rename_i f hf;cases hv:af f with
   |none=>trivial
   |some vf=>
    have:=c33 hE r (o f vf hv) ra;rw[harr]at this;have hres:resolve ρ c ty=Deferred.ofValue (ρ f) (c.args.map ρ):=by grind[resolve]
    rw[hres];exact this
theorem cH2(hE:E.Ok I)(r:HR O I K w0 h w)(ro:eY O I af ρ)(o:Oper):dA E O I K w0 w h (execOp ρ o) (nZ E af o h):=by
 obtain⟨dst,op,ty,pos,after,guard⟩:=o;cases op with
 |move x=>
  show dA E O I K w0 w h (pure (.value (ρ x))) (ov (af x) h);cases hx:af x with
  |none=>trivial
  |some a=>exact⟨O,ρ x,w,.inl rfl,ro x a hx,r,.refl _ _⟩
 |assign x=>
  show dA E O I K w0 w h (pure (.value (ρ x))) (ov (af x) h);cases hx:af x with
  |none=>trivial
  |some a=>exact⟨O,ρ x,w,.inl rfl,ro x a hx,r,.refl _ _⟩
 |pick c a b=>exact cG6 r ro c a b
 |alloc e=>exact ci3 r e
 |box e x=>exact d70 r ro e x
 |build t ps=>exact ci4 r ro t ps
 |buildSlice t n ps=>exact b82 r ro t n ps
 |load t a=>exact cG7 r ro t a
 |store t a x=>exact ci5 r ro t a x
 |nilCheck x=>
  show dA E O I K w0 w h _ (BD E.P h (af x));unfold BD;split
  .trivial
  .rename_i a hnm hx;cases hn:MP a with
   |none=>trivial
   |some b=>
    have rx:=ro x a hx;obtain⟨rfl,hv⟩:=bD5 rx hn;refine⟨O,ρ x,w,.inl ?_,rx,r,.refl _ _⟩;simp[execOp];generalize ρ x=v at hv;cases v with
    |pointer p=>cases p with
     |none=>cases hv
     |some p=>rfl
    |func fn a b=>cases fn<;>first|rfl|cases hv
    |nilIface=>cases hv
    |nilFunc=>cases hv
    |_=>rfl
  .trivial
 |binOp op t x y _=>exact d71 hE r ro op t x y
 |unOp op _ x=>exact du4 hE r ro op x
 |convert s d x=>exact cG8 hE r ro s d x
 |makeInterface t x=>exact ci6 r ro t x
 |makeFunc fn a b=>exact cG9 r ro fn a b
 |makeMap t x=>exact d72 r ro t x
 |makeSlice t l c=>trivial
 |slice t x lo hi mx=>exact ci7 r ro t x lo hi mx
 |fieldAddr s x f=>exact LE (F:=λa=>LC E.P s a f) (G:=λv=>Instr.fieldAt s v f) r ro x λa v va e ra=>let ⟨u,u1,u2⟩:=be0 e ra;⟨u,u1,u2 w⟩
 |field t x f=>trivial
 |indexAddr t x i=>exact VN (G:=λv u=>Instr.indexAt t v u) r ro x i λa b v va vb e ra rb=>let ⟨u,u1,u2⟩:=be1 e ra rb;⟨u,u1,u2 w⟩
 |index t x i=>exact VN (G:=λv u=>Instr.index t v u) r ro x i λa b v va vb e ra rb=>let ⟨u,u1,u2⟩:=ce7 e ra rb;⟨u,u1,u2 w⟩
 |lookup t x i ok=>exact VN (F:=λa i=>NA E.P t a i ok h) (G:=λv u=>Instr.lookup t v u ok) r ro x i λa b v va vb e ra rb=>c31 r e ra rb
 |mapUpdate t m k x=>exact du5 (F:=λm k v=>Nx E.P t m k v h) (G:=λm k v=>Instr.mapUpdate t m k v) r ro m k x λa b c h' va vb vc e ra rb rc=>be3 r e ra rb rc
 |insert t m k x=>trivial
 |mapEntry t m k=>
  trivial
 |entryStore t m s x=>trivial
 |range t x=>
  show dA E O I K w0 w h (do pure (.value (<-Instr.range t (ρ x)))) (RS (λa=>NT E.P t a h) (af x));cases hx:af x with
  |none=>trivial
  |some a=>exact LQ λv h' hv=>cf7 r hv (ro x a hx)
 |next it s=>
  show dA E O I K w0 w h (do pure (.value (<-Instr.next (ρ it) s ty))) (Fi (λa=>Gf a s h) (af it));cases hx:af it with
  |none=>trivial
  |some a=>
   have:=cE5 (P:=E.P) (ty:=ty) (isS:=s) r (ro it a hx);simp[Fi];cases hn:Gf a s h<;>rw[hn]at this
   .exact .of this
   .trivial
   .trivial
   .trivial
   .obtain⟨x,hx,hok⟩:=this;exact⟨x,hx,.of hok⟩
   .trivial
   .trivial
   .trivial
 |entry it=>exact LE (F:=λa=>MG a h) (G:=λv=>Instr.entry v) r ro it λa v va e ra=>cf8 r e ra
 |typeAssert x xt t ok=>exact LE (F:=λa=>ME E.P a t ok) (G:=λv=>Instr.typeAssert v xt t ok) r ro x λa v va e ra=>let ⟨u,u1,u2⟩:=b80 e ra;⟨u,u1,u2 w⟩
 |extract t i=>exact LE (F:=MD i) (G:=λv=>Instr.extract v i) r ro t λa v va e ra=>let ⟨u,u1,u2⟩:=bC9 e ra;⟨u,u1,u2 w⟩
 |call c=>exact cH1 hE r ro c ty
 |defer c=>
  trivial
 |_=>trivial
theorem ZZ(hE:E.Ok I)(r:HR O I K w0 h w)(ro:eY O I af ρ)(o:Oper):dA E O I K w0 w h (execOp ρ o) (fQ E af o h):=by
 have h1:=cH2 hE r ro o;have h2:=cG5 (E:=E) hE.fix r ro o;unfold fQ;cases hc:nZ E af o h<;>rw[hc]at h1<;>first|exact h1|exact h2
end Go.Ev
