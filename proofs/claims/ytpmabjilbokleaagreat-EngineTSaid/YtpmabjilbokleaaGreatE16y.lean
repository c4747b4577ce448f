import Derived.Test.YtpmabjilbokleaaGreatE13
set_option linter.unusedSimpArgs false
set_option linter.unusedVariables false
namespace Go.Ev
open Go
variable{E:Env}{O:aQ}{I:Opq}{K:Nat->Prop}{w0 w:World}{h h':Heap}{af:Operand->Option AV}{ρ:Operand->Value}
abbrev ax:Opq:=⟨λ_=> .nilIface,λ_=> .vb false,λ_ _=> .vb false,λ_=>rfl,λ_=>false,λ_=>none⟩
theorem oc{x:AV}{v:Value}{k:IntKind}{e:SX}(h:fx x=some (k,e))(r:VR O I x v):v= .int k (dI I e):=by
 unfold fx at h;split at h<;>simp only[j0,z8,reduceCtorEq]at h
 .obtain⟨rfl,rfl⟩:=h;exact r
 .obtain⟨rfl,rfl⟩:=h;exact r
theorem sV{x:AV}{v:Value}{e:SX}(h:iP x=some e)(r:VR O I x v):v= .string ⟨(dS I e).toArray⟩:=by
 unfold iP at h;split at h<;>simp only[j0,reduceCtorEq]at h
 .subst h;exact r
 .subst h;exact r
theorem qt{x:AV}{v:Value}{e:SX}(h:hZ x=some e)(r:VR O I x v):v= .bool (dB I e):=by
 unfold hZ at h;split at h<;>simp only[j0,reduceCtorEq]at h
 .subst h;exact r
 .subst h;exact r
theorem bf.pureV{m:Sem Next}{v:AV}{u:Value}(r:HR O I K w0 h w)(hv:VR O I v u)(hr:m.run E.P w= .ok (.value u) w):bf E O I K w0 w h m v h:=
 ⟨O,u,w,.inl hr,hv,r,.refl _ _⟩
theorem GW(op:BinOp)(k:IntKind)(a b:SX):dI I (.op (.ar op k) [a,b])=aS op k (dI I a) (dI I b):=rfl
theorem BT(op:BinOp)(a b:SX):dB I (.op (.cmp op) [a,b])=dA op (dI I a) (dI I b):=rfl
theorem cZ4(op:BinOp)(a b:SX):dB I (.op (.scmp op) [a,b])=np op (dS I a) (dS I b):=rfl
theorem nE(n:Int):dI I (.ci n)=n:=rfl
theorem do5(a b:SX):dI I (cT a b)=dI I a+dI I b:=rfl
theorem RF(a:SX):dI I (.op .slen [a])=((dS I a).length:Int):=rfl
theorem jt(a:SX):dI I (.op .llen [a])=((dL I a).length:Int):=rfl
theorem pE(a b:SX):dB I (.op .and [a,b])=(dB I a&&dB I b):=rfl
theorem zG{i l:SX}(h:dB I (sP i l)=true):0<=dI I i/\dI I i<dI I l:=by
 simp[sP,pE,BT,dA,j7,decide_eq_true_eq]at h;exact h
theorem Ux{op:BinOp}{t:TypeId}{k:IntKind}{x y n:Int}(he:qe op k x y=some (.int k n))(hop:op≠ .shl/\op≠ .shr)(w:World):
 (binOp op t (.int k x) (.int k y)).run E.P w= .ok (.int k n) w:=by
 obtain⟨v,r1,r2⟩:=Ik (P:=E.P) (O:=λ_=>none) (I:=ax) t he hop;rw[r2,show v=_ from r1]
theorem cZ5{op:BinOp}{t:TypeId}{k:IntKind}{x y:Int}{n:Bool}(he:qe op k x y=some (.bool n))(hop:op≠ .shl/\op≠ .shr)(w:World):
 (binOp op t (.int k x) (.int k y)).run E.P w= .ok (.bool n) w:=by
 obtain⟨v,r1,r2⟩:=Ik (P:=E.P) (O:=λ_=>none) (I:=ax) t he hop;rw[r2,show v=_ from r1]
theorem cZ6{op:BinOp}{t:TypeId}{x y z:List UInt8}(he:yi op x y=some (.str z))(w:World):
 (binOp op t (.string ⟨x.toArray⟩) (.string ⟨y.toArray⟩)).run E.P w= .ok (.string ⟨z.toArray⟩) w:=by
 obtain⟨v,r1,r2⟩:=KX (P:=E.P) (O:=λ_=>none) (I:=ax) t he;rw[r2,show v=_ from r1]
theorem cZ7{op:BinOp}{t:TypeId}{x y:List UInt8}{n:Bool}(he:yi op x y=some (.bool n))(w:World):
 (binOp op t (.string ⟨x.toArray⟩) (.string ⟨y.toArray⟩)).run E.P w= .ok (.bool n) w:=by
 obtain⟨v,r1,r2⟩:=KX (P:=E.P) (O:=λ_=>none) (I:=ax) t he;rw[r2,show v=_ from r1]
theorem cZ8{op:BinOp}{t:TypeId}{k k':IntKind}{a b:SX}(r:HR O I K w0 h w){M:Sem Value}
 (hM: ∀u,(binOp op t (.int k (dI I a)) (.int k' (dI I b))).run E.P w= .ok u w->M.run E.P w= .ok u w):
 aZ E O I K w0 w h (do pure (.value (<-M))) (Gw op k k' a b h):=by
 have fin: ∀{v:AV} {u:Value},(binOp op t (.int k (dI I a)) (.int k' (dI I b))).run E.P w= .ok u w->VR O I v u->bf E O I K w0 w h (do pure (.value (<-M))) v h:=by
  grind[bf.pureV,Sem.run_bind,Result.andThen_ok,Sem.run_pure]
 have nn:dB I (.op (.cmp .leq) [.ci 0,b])=true-> ∃n:Nat,dI I b=n:=by
  intro hd;simp[BT,dA,decide_eq_true_eq]at hd;have hd:0<=dI I b:=hd;exact⟨(dI I b).toNat,by omega⟩
 have nz:dB I (.op (.cmp .neq) [b,.ci 0])=true->jm (dI I b) 0=false:=by
  intro hd;simp[BT,dA,A6,decide_eq_false_iff_not]at hd;have hd: ¬dI I b=0:=hd;grind[pe]
 unfold Gw;cases op<;>simp only[];case shl=>
  intro hd;obtain⟨n,hn⟩:=nn hd;exact fin (by rw[hn];rfl) (by grind[VR,GW,aS,Int.toNat_natCast])
 case shr=>
  intro hd;obtain⟨n,hn⟩:=nn hd;exact fin (by rw[hn];rfl) (by grind[VR,GW,aS,Int.toNat_natCast])
 all_goals
  split
  .rename_i hk;subst hk;first
    |(intro hd
      have hz:=nz hd;refine fin (Ux (by simp[qe,hz,cond_false]<;>rfl) ⟨by simp,by simp⟩ w) ?_;grind[VR,GW,aS,nR])
    |(refine fin (Ux rfl ⟨by simp,by simp⟩ w) ?_
      grind[VR,GW,aS,nR])
    |(refine fin (cZ5 rfl ⟨by simp,by simp⟩ w) ?_
      simp[VR,BT,dA,pe,lT];first|done|rfl|(congr 1;grind)|(congr 1;rw[B9];simp;omega))
  .trivial
theorem dZ6{a b:SX}(hd:dB I (.op (.cmp .lss) [cT (.op .slen [a]) (.op .slen [b]),.ci pa])=true):dA .lss (dI I (cT (.op .slen [a]) (.op .slen [b]))) (dI I (.ci pa))=true:=by
 grind[BT]
theorem ZA{a b:SX}(hd:dA .lss (dI I (cT (.op .slen [a]) (.op .slen [b]))) (dI I (.ci pa))=true):dA .lss (dI I (cT (.op .slen [a]) (.op .slen [b]))) pa=true:=by
 grind[nE]
theorem dZ7{x y:Int}(hd:dA .lss x y=true):x<y:=by
 grind[dA]
theorem cZ9{a b:SX}(hd:dB I (.op (.cmp .lss) [cT (.op .slen [a]) (.op .slen [b]),.ci pa])=true):((dS I a).length:Int)+((dS I b).length:Int)<pa:=by
 have h1:=dZ7 (ZA (dZ6 hd));simp_all[do5,RF]
theorem cA3{t:TypeId}{a b:SX}(r:HR O I K w0 h w){M:Sem Value}
 (hM: ∀u,(binOp .add t (.string ⟨(dS I a).toArray⟩) (.string ⟨(dS I b).toArray⟩)).run E.P w= .ok u w->M.run E.P w= .ok u w)
 (hd:dB I (.op (.cmp .lss) [cT (.op .slen [a]) (.op .slen [b]),.ci pa])=true):bf E O I K w0 w h (do pure (.value (<-M))) (.ostr (.op .cat [a,b])) h:=by
 replace hd:=cZ9 hd;have e3:pa=(CJ:Int):=by rfl
 have hlt:Nat.blt ((dS I a).length+(dS I b).length) CJ=true:=dF (by omega);have h1:(binOp .add t (.string ⟨(dS I a).toArray⟩) (.string ⟨(dS I b).toArray⟩)).run E.P w= .ok (.string ⟨(dS I a++dS I b).toArray⟩) w:=cZ6 (by simp[yi,hlt,cond_true]) w;exact bf.pureV r (u:= .string ⟨(dS I a++dS I b).toArray⟩) rfl (by simp_all)
theorem d00{op:BinOp}{t:TypeId}{a b:SX}(r:HR O I K w0 h w){M:Sem Value}
 (hM: ∀u,(binOp op t (.string ⟨(dS I a).toArray⟩) (.string ⟨(dS I b).toArray⟩)).run E.P w= .ok u w->M.run E.P w= .ok u w):
 aZ E O I K w0 w h (do pure (.value (<-M))) (DU op a b h):=by
 have fin: ∀{v:AV} {u:Value},(binOp op t (.string ⟨(dS I a).toArray⟩) (.string ⟨(dS I b).toArray⟩)).run E.P w= .ok u w->VR O I v u->bf E O I K w0 w h (do pure (.value (<-M))) v h:=by
  grind[bf.pureV,Sem.run_bind,Result.andThen_ok,Sem.run_pure]
 unfold DU;cases op<;>simp only[];case add=>exact cA3 r hM
 all_goals first
  |trivial
  |(refine fin (cZ7 rfl w) ?_
    simp[VR,cZ4,np,pO,fX];first|done|rfl|grind)
mutual
noncomputable def bz(I:Opq):AV->AV
 | .oint k e=> .int k (dI I e)
 | .ostr e=> .str (dS I e)
 | .obool e=> .bool (dB I e)
 | .agg cs=> .agg (nh I cs)
 |x=>x
noncomputable def nh(I:Opq):List AV->List AV
 | []=>[]
 |x::r=>bz I x::nh I r
end
theorem HD: ∀l:List AV,nh I l=l.map (bz I)
 | []=>rfl
 |x::r=>by simp[nh,n9,HD r]
mutual
theorem Fw: ∀(x:AV) (v:Value),VR O I x v->VR O I (bz I x) v
 | .oint k e,v,h=>by exact h
 | .ostr e,v,h=>by exact h
 | .obool e,v,h=>by exact h
 | .agg cs,v,h=>by
   obtain⟨xs,rfl,q⟩:=h;exact⟨xs,rfl,Tq cs _ q⟩
 | .bool _,v,h=>by grind[bz]
 | .int _ _,v,h=>by grind[bz]
 | .str _,v,h=>by grind[bz]
 | .nilp,v,h=>by grind[bz]
 | .ptr _ _,v,h=>by grind[bz]
 | .glob _,v,h=>by grind[bz]
 | .nils,v,h=>by grind[bz]
 | .sl _ _ _ _,v,h=>by grind[bz]
 | .us _ _ _ _,v,h=>by grind[bz]
 | .es _ _ _,v,h=>by grind[bz]
 | .es0,v,h=>by grind[bz]
 | .nilm,v,h=>by grind[bz]
 | .map _,v,h=>by grind[bz]
 | .nilf,v,h=>by grind[bz]
 | .func _ _ _,v,h=>by grind[bz]
 | .yield _,v,h=>by grind[bz]
 | .nili,v,h=>by grind[bz]
 | .iface _ _,v,h=>by grind[bz]
 | .tup _,v,h=>by grind[bz]
 | .opq _,v,h=>by grind[bz]
 | .osl _ _ _ _,v,h=>by grind[bz]
 | .optr _ _ _ _,v,h=>by grind[bz]
 | .ous _ _ _,v,h=>by grind[bz]
 | .atl _,v,h=>by grind[bz]
 | .any,v,h=>by grind[bz]
theorem Tq: ∀(xs:List AV) (vs:List Value),aT O I xs vs->aT O I (nh I xs) vs
 | [],vs,h=>h
 |x::r,vs,h=>by
  obtain⟨v,vr,rfl,p,q⟩:=h;exact⟨v,vr,rfl,Fw x v p,Tq r vr q⟩
end
theorem WX{x:AV}{k:IntKind}{e:SX}(h:fx x=some (k,e)):bz I x= .int k (dI I e):=by
 unfold fx at h;split at h<;>simp only[j0,z8,reduceCtorEq]at h
 .obtain⟨rfl,rfl⟩:=h;rfl
 .obtain⟨rfl,rfl⟩:=h;rfl
theorem bk1{x:AV}{e:SX}(h:iP x=some e):bz I x= .str (dS I e):=by
 unfold iP at h;split at h<;>simp only[j0,reduceCtorEq]at h<;>subst h<;>rfl
theorem ZV{x:AV}{e:SX}(h:hZ x=some e):bz I x= .bool (dB I e):=by
 unfold hZ at h;split at h<;>simp only[j0,reduceCtorEq]at h<;>subst h<;>rfl
variable{P:Program}
theorem Lt{t:TypeId}{cs:List AV}{o:Nat}{a:AV}(h:ga P t cs o=some a):ga P t (nh I cs) o=some (bz I a):=by
 unfold ga at h⊢;split at h
 .obtain⟨hc,h⟩:=Q9 h;simp at h;subst h;rw[HD,o9,hc];simp[cond_true,bz,HD,List.map_take,List.map_drop]
 .rw[HD,B0,h];rfl
 .cases h
theorem KG(a b:SX):dB I (eF a b)=(dB I a&&dB I b):=by
 have h0:dB I (.cb true)=true:=rfl;unfold eF;split
 .rfl
 .split
  .grind
  .rfl
theorem LQ{ihS:TypeId->AV->AV->Option SX}{ih:TypeId->AV->AV->Option Bool}(hih: ∀t a b e,ihS t a b=some e->ih t (bz I a) (bz I b)=some (dB I e)){xs ys:List AV}:
 ∀{fs:List Field} {e:SX},xP P ihS xs ys fs=some e->rN P ih (nh I xs) (nh I ys) fs=some (dB I e)
 | [],e,h=>by simp[xP,j0]at h;subst h;rfl
 |f::r,e,h=>by
  simp[xP]at h;simp[rN];cases hb:(f.name== "_")with
  |true=>rw[hb]at h;exact LQ hih h
  |false=>
   rw[hb]at h;simp at h⊢;split at h
   .rename_i a b h1 h2;split at h
    .rename_i e1 h3;split at h
     .rename_i e2 h4;simp at h;subst h;rw[Lt h1,Lt h2];simp[hih _ _ _ _ h3,KG];cases dB I e1 with
      |true=>exact LQ hih h4
      |false=>rfl
     .cases h
    .cases h
   .cases h
theorem bW2{ihS:TypeId->AV->AV->Option SX}{ih:TypeId->AV->AV->Option Bool}(hih: ∀t a b e,ihS t a b=some e->ih t (bz I a) (bz I b)=some (dB I e)){t:TypeId}{x y:AV}{e:SX}(h:Mp P ihS t x y=some e):
 gI P ih t (bz I x) (bz I y)=some (dB I e):=by
 unfold Mp at h;split at h
 .rename_i ht;split at h
  .rename_i a b h1 h2;simp at h;subst h;rw[ZV h1,ZV h2];unfold gI;simp_all;rfl
  .cases h
 .rename_i k0 ht;split at h
  .rename_i k a k' b h1 h2;unfold Wa at h;split at h
   .rename_i hk;subst hk;simp at h;subst h;rw[WX h1,WX h2];unfold gI;simp[ht,if_true,pe];rfl
   .cases h
  .cases h
 .rename_i ht;split at h
  .rename_i a b h1 h2;simp at h;subst h;rw[bk1 h1,bk1 h2];unfold gI;simp[ht,pO];congr 1;show _=decide (dS I a=dS I b);grind
  .cases h
 .rename_i fields ht;split at h
  .cases hs:P.stoodInHeld t with
   |true=>grind
   |false=>
    unfold gI;simp_all;exact LQ hih h
  .cases h
 .cases h
theorem MU: ∀(n:Nat) {t:TypeId} {x y:AV} {e:SX},AE P n t x y=some e->fU P n t (bz I x) (bz I y)=some (dB I e)
 |0,t,x,y,e,h=>by cases h
 |n+1,t,x,y,e,h=>bW2 (ihS:=AE P n) (ih:=fU P n) (λt a b e h=>MU n h) h
theorem V7(sig:List CT)(r:Val):(bv sig r).length=sig.length:=by simp[bv]
theorem T3(sig:List CT): ∀l:List Val,(T2 sig l).length=l.length*sig.length
 | []=>by simp[T2]
 |r::l=>by
  have:=T3 sig l;simp[T2]at this⊢;simp_all[B1,l5,V7,List.length_cons,r9,E2,C7]
theorem wI{sig:List CT}{r:Val}{j:Nat}(hj:j<sig.length):(bv sig r)[j]? =some (dt (sig.getD j .bool) (r.toL.getD j default)):=by
 simp[bv,hj]
theorem DM{sig:List CT}{j:Nat}(hj:j<sig.length): ∀{l:List Val} {i:Nat},i<l.length->(T2 sig l)[i*sig.length+j]? =some (dt (sig.getD j .bool) ((l.getD i (.vl [])).toL.getD j default))
 | [],i,h=>by simp at h
 |r::l,0,h=>by
  simp[T2,B1,I0,l7];grind[List.getElem?_append_left,V7,wI]
 |r::l,i+1,h=>by
  simp[T2,B1];rw[l9 (by rw[V7,r9];omega),V7];have:=DM hj (l:=l) (i:=i) (by simpa using h);grind[T2]
theorem wT(c:CT)(e:SX):VR O I (rC c e) (dt c (aM I e)):=by cases c<;>rfl
theorem EQ(sig:List CT)(l idx:SX): ∀(n j:Nat),aT O I (zM sig l idx j n) ((List.range' j n).map λt=>dt (sig.getD t .bool) (S0 (dL I l) (dI I idx) t))
 |0,j=>rfl
 |n+1,j=>by
  exact⟨_,_,rfl,wT _ _,EQ sig l idx n (j+1)⟩
theorem HR.arr{b:Nat}{e:Nat}{sig:List CT}{l:SX}{L:Loc}(r:HR O I K w0 h w)(hg:h.get b=some (.arr e sig l))(hb:O b=some L):
 ∃C e' lo hi,w.heap[L.blk]? =some (.cells C e' (lo,hi))/\(e'=e\/e=eQ)/\L.off+L.ext<=C.size/\(dL I l).length*sig.length<=L.ext/\
  (∀i v,(T2 sig (dL I l))[i]? =some v->C[L.off+i]? =some v)/\(∀i,i<L.ext-> ¬(lo<=L.off+i/\L.off+i<hi)):=r.blk b _ L hg hb
theorem bI3{n:Nat}{t:TypeId}{a b:Bool}(hn:0<n)(ht:P.underlying t=some .bool):fU P n t (.bool a) (.bool b)=some (a==b):=by
 cases n with
 |zero=>omega
 |succ n=>
  have h1:fU P (n+1) t (.bool a) (.bool b)=gI P (fU P n) t (.bool a) (.bool b):=rfl;rw[h1];unfold gI;grind
theorem NE{P:Program}{t:TypeId}(h:su P t=true): ∃e,P.underlying t=some (.slice e):=by
 grind[su]
theorem Zl{n:Nat}{P:Program}{t:TypeId}{b o m c:Nat}(hn:0<n)(ht:su P t=true):fU P n t (.sl b o m c) .nils=some false:=by
 obtain⟨e,ht⟩:=NE ht;cases n with
 |zero=>omega
 |succ n=>
  have h1:fU P (n+1) t (.sl b o m c) .nils=gI P (fU P n) t (.sl b o m c) .nils:=rfl;rw[h1];unfold gI;grind[Aq]
theorem d01(l y:SX):dL I (mq l y)=dL I l++dL I y:=by
 unfold mq;split
 .rfl
 .rfl
theorem Rw{t:TypeId}(hs:su E.P t=true)(x:Option Addr)(n c:Nat)(w:World):(binOp .eql t (.slice x n c) (.slice none 0 0)).run E.P w= .ok (.bool x.isNone) w/\(binOp .neq t (.slice x n c) (.slice none 0 0)).run E.P w= .ok (.bool !x.isNone) w:=by
 obtain⟨e,ht⟩:=NE hs;have gen: ∀d,(Op.equalIn (d+1) t (.slice x n c) (.slice none 0 0)).run E.P w= .ok x.isNone w:=λd=>by
  cases x<;>simp[Op.equalIn,R1 ht]
 have key:(Op.equal t (.slice x n c) (.slice none 0 0)).run E.P w= .ok x.isNone w:=by
  have:=gen 9999;exact this
 rw[LA _ _ _ rfl,Rl _ _ _ rfl];simp_all
theorem YD{op:BinOp}{t:TypeId}{len:SX}{b:AV}{vx vy:Value}(r:HR O I K w0 h w)(rx0: ∃x n c,vx= .slice x n c)(rx:0<dI I len-> ∃b o n c,VR O I (.sl b o n c) vx)(ry:VR O I b vy){M:Sem Value}(hM: ∀u,(binOp op t vx vy).run E.P w= .ok u w->M.run E.P w= .ok u w):
 aZ E O I K w0 w h (do pure (.value (<-M))) (CK E.P op t len b h):=by
 unfold CK;split
 .cases hs:su E.P t with
  |false=>trivial
  |true=>
   have key: ∀v:AV,0<dI I len->(∀b o n c,pA E.P op t (.sl b o n c) .nils=some v)->bf E O I K w0 w h (do pure (.value (<-M))) v h:=by
    intro v h0 hv;obtain⟨b',o,n,c,rx⟩:=rx h0;obtain⟨u,u1,u2⟩:=Qm (hv b' o n c) rx ry (by intro k n hh;cases hh) (by intro l hh;cases hh);exact bf.pureV r u1 (by simp_all)
   obtain⟨x,n,c,rfl⟩:=rx0;subst ry;have two: ∀q:Bool,(binOp op t (.slice x n c) (.slice none 0 0)).run E.P w= .ok (.bool q) w-> ∃v∈[AV.bool true,AV.bool false],bf E O I K w0 w h (do pure (.value (<-M))) v h:=by
    intro q hq;refine⟨.bool q,by cases q<;>simp,bf.pureV r (u:= .bool q) rfl (by simp_all)⟩
   split
   .refine⟨λhd=>key _ (j6 hd) λb o n c=>by simp[pA,Zl (by omega:0<10000) hs,Option.map_some],λ_=>two _ (Rw hs x n c w).1⟩
   .refine⟨λhd=>key _ (j6 hd) λb o n c=>by simp[pA,Zl (by omega:0<10000) hs,Option.map_some,Bool.not_false],λ_=>two _ (Rw hs x n c w).2⟩
   .trivial
 .trivial
theorem d02{op:BinOp}{t:TypeId}{a b:AV}{vx vy:Value}(r:HR O I K w0 h w)(rx:VR O I a vx)(ry:VR O I b vy){M:Sem Value}(hM: ∀u,(binOp op t vx vy).run E.P w= .ok u w->M.run E.P w= .ok u w):
 aZ E O I K w0 w h (do pure (.value (<-M))) (GH E.P op t a b h):=by
 unfold GH;cases a<;>try trivial
 case agg cs=>
  simp;cases he:AE E.P 10000 t (.agg cs) b with
  |none=>trivial
  |some e=>
   have h5:=MU (I:=I) 10000 he;have rx':=Fw (I:=I) _ _ rx;have ry':=Fw (I:=I) _ _ ry;have key: ∀(op':BinOp) (v:AV),op=op'->pA E.P op' t (bz I (.agg cs)) (bz I b)=some v-> ∃u,VR O I v u/\(do pure (.value (<-M)):Sem Next).run E.P w= .ok (.value u) w:=by
    rintro op' v rfl hv;obtain⟨u,u1,u2⟩:=Qm hv rx' ry' (by intro k n hh;simp[bz]at hh) (by intro l hh;simp[bz]at hh);exact⟨u,u1,by simp_all⟩
   simp;split
   .obtain⟨u,u1,u2⟩:=key .eql (.bool (dB I e)) rfl (by simp[pA,h5,Option.map_some]);exact bf.pureV r (v:= .obool e) (u:=u) u1 u2
   .obtain⟨u,u1,u2⟩:=key .neq (.bool (!dB I e)) rfl (by simp[pA,h5,Option.map_some]);exact bf.pureV r (v:= .obool (.op .not [e])) (u:=u) u1 u2
   .trivial
 case osl b' off len sz=>
  refine YD r (by
   rcases rx with⟨L,cap,a,hL,rfl,_,ha⟩|⟨_,_,rfl,_,h1⟩<;>exact⟨_,_,_,rfl⟩) (λh0=> ?_) ry hM
  rcases rx with⟨L,cap,a,hL,rfl,_,ha⟩|⟨_,_,_,_,h1⟩
  .exact⟨b',(dI I off).toNat*sz,_,cap,L,hL,by rw[ha h0]⟩
  .omega
 case ous b' len sz=>
  refine YD r (by
   rcases rx with⟨L,cap,hL,_,rfl,_⟩|⟨rfl,h1⟩<;>exact⟨_,_,_,rfl⟩) (λh0=> ?_) ry hM
  rcases rx with⟨L,cap,hL,_,rfl,_⟩|⟨_,h1⟩
  .exact⟨b',0,_,cap,L,hL,rfl⟩
  .omega
theorem cA4(r:HR O I K w0 h w)(o:bH O I af ρ)(op:BinOp)(t:TypeId)(x y:Operand):
 aZ E O I K w0 w h (do pure (.value (<-(do eqGuard op t x y (ρ x) (ρ y);binOp op t (ρ x) (ρ y):Sem Value)))) (IX E.P op t x y h (af x) (af y)):=by
 cases hx:af x with
 |none=>trivial
 |some a=>
  cases hy:af y with
  |none=>trivial
  |some b=>
   simp only[IX];cases hg:sU E.P op t x y a b with
   |false=>trivial
   |true=>
    have hgr:=Yf hg (o x a hx) (o y b hy);have rx:=o x a hx;have ry:=o y b hy;have hM: ∀u,(binOp op t (ρ x) (ρ y)).run E.P w= .ok u w->(do eqGuard op t x y (ρ x) (ρ y);binOp op t (ρ x) (ρ y):Sem Value).run E.P w= .ok u w:=by
     simp_all
    unfold Pt;split
    .refine cZ8 (t:=t) r λu hu=>hM u ?_
     grind[oc]
    .split
     .refine d00 (t:=t) r λu hu=>hM u ?_
      grind[sV]
     .split
      .rename_i ea eb h1 h2;have e1:=qt h1 rx;have e2:=qt h2 ry;unfold Ly;split
       .cases hb:yC E.P t with
        |false=>trivial
        |true=>
         have ht:E.P.underlying t=some .bool:=by
          unfold yC at hb;split at hb
          .assumption
          .cases hb
         refine bf.pureV r (u:= .bool (dB I ea==dB I eb)) rfl ?_;have hrun:=tz (P:=E.P) (O:=O) (I:=I) 10000 (t:=t) (a:= .bool (dB I ea)) (b:= .bool (dB I eb)) (r:=dB I ea==dB I eb) (bI3 (by omega) ht) e1 e2 w;have h3:=hM (.bool (dB I ea==dB I eb)) (by
          rw[e1,e2,LA _ _ _ rfl];rw[e1,e2]at hrun;simp[Op.equal,Op.maxDepth,Sem.run_bind,hrun,Result.andThen_ok,Sem.run_pure])
         simp_all
       .cases hb:yC E.P t with
        |false=>trivial
        |true=>
         have ht:E.P.underlying t=some .bool:=by
          unfold yC at hb;split at hb
          .assumption
          .cases hb
         refine bf.pureV r (u:= .bool (!(dB I ea==dB I eb))) rfl ?_;have hrun:=tz (P:=E.P) (O:=O) (I:=I) 10000 (t:=t) (a:= .bool (dB I ea)) (b:= .bool (dB I eb)) (r:=dB I ea==dB I eb) (bI3 (by omega) ht) e1 e2 w;have h3:=hM (.bool (!(dB I ea==dB I eb))) (by
          rw[e1,e2,Rl _ _ _ rfl];rw[e1,e2]at hrun;simp[Op.equal,Op.maxDepth,Sem.run_bind,hrun,Result.andThen_ok,Sem.run_pure])
         simp_all
       .trivial
      grind[d02]
theorem do6(r:HR O I K w0 h w)(o:bH O I af ρ)(op:UnOp)(x:Operand):aZ E O I K w0 w h (do pure (.value (<-Op.unary op (ρ x)))) (Eu op h (af x)):=by
 have key: ∀{a v:AV} {s:AV},VR O I a (ρ x)->EC op (bz I a)=some v->(∀u,VR O I v u->VR O I s u)->bf E O I K w0 w h (do pure (.value (<-Op.unary op (ρ x)))) s h:=by
  intro a v s ra hv hs;obtain⟨u,u1,u2⟩:=SR (P:=E.P) hv (Fw _ _ ra);exact bf.pureV r (hs u u1) (by simp_all)
 unfold Eu;split
 .rename_i e he;split
  .exact key (o x _ he) rfl λu hu=>hu
  .trivial
 .rename_i k e he;split
  .refine key (o x _ he) rfl λu hu=> ?_
   rw[show u=_ from hu,nR];rfl
  .refine key (o x _ he) rfl λu hu=> ?_
   rw[show u=_ from hu,nR];rfl
  .trivial
 .trivial
theorem d03(I:Opq)(e x y:SX):dB I (IG e x y)=bif dB I e then dB I x else dB I y:=by
 have gen:dB I (.op .ite [e,x,y])=bif dB I e then dB I x else dB I y:=by
  show Val.toB (bif (aM I e).toB then aM I x else aM I y)=_;unfold dB;cases (aM I e).toB<;>rfl
 unfold IG;split
 .cases dB I e<;>rfl
 .show(!(dB I e))=bif dB I e then false else true
  cases dB I e<;>rfl
 omega
theorem cA5(r:HR O I K w0 h w)(o:bH O I af ρ)(c a b:Operand):aZ E O I K w0 w h (do pure (.value (if<-asBool (ρ c)then ρ a else ρ b))) (Gl h (af c) (af a) (af b)):=by
 unfold Gl;split
 .rename_i e he;have hc:=o c _ he;unfold Ng;split
  .rename_i y hx hy;intro hn;have hn:(!(dB I e))=true:=hn;have hf:dB I e=false:=by grind
   refine bf.pureV r (u:=ρ b) (o b _ hy) ?_;rw[hc,hf];rfl
  .intro hn;refine bf.pureV r (u:=ρ a) (o a _ ‹_›) ?_;rw[hc,hn];rfl
  .unfold Ow;split
   .rename_i x y hx hy;obtain⟨a1,h1,h2⟩:=l6.1 hx;obtain⟨b1,h3,h4⟩:=l6.1 hy;have ha:=qt h2 (o a _ h1);have hb:=qt h4 (o b _ h3);refine bf.pureV r (u:= .bool (bif dB I e then dB I x else dB I y)) ?_ ?_
    .show _=Value.bool (dB I (IG e x y));rw[d03]
    .rw[hc,ha,hb];cases dB I e<;>rfl
   .trivial
 .trivial
theorem cA6(r:HR O I K w0 h w)(o:bH O I af ρ)(t:TypeId)(x:Operand):aZ E O I K w0 w h (do pure (.value (<-Instr.loadAt t (ρ x)))) (IF E.P t h (af x)):=by
 unfold IF;split
 .rename_i b idx j sz hx;have hv:=o x _ hx;obtain⟨L,hL,hv⟩:=hv;split
  .rename_i el sig l hg;obtain⟨C,e',lo,hi,q1,q0,q2,q3,q4,q5⟩:=r.arr hg hL;have cell: ∀(m:Nat),m<sig.length->sig.length=sz->0<=dI I idx->dI I idx<dI I (.op .llen [l])->
    w.cell? ⟨L.blk,L.off+(dI I idx).toNat*sz+m,none⟩=some (dt (sig.getD m .bool) (S0 (dL I l) (dI I idx) m)):=by
    intro m hm hs h0 h1;rw[oQ q1];rw[jt]at h1;have hlt:(dI I idx).toNat<(dL I l).length:=by omega
    have:=DM (sig:=sig) (j:=m) hm hlt;grind[dI,S0]
   split
   .rename_i n h1 h2;cases hc:(Nat.beq sig.length sz&&Nat.ble (j+n) sz)with
    |false=>trivial
    |true=>
     obtain⟨c1,c2⟩:=Q8 hc;rw[R2]at c1;rw[R5]at c2;intro hd;obtain⟨g1,g2⟩:=zG hd;refine bf.pureV r (u:= .agg ((List.range' j n).map λt=>dt (sig.getD t .bool) (S0 (dL I l) (dI I idx) t)).toArray) ⟨_,rfl,EQ sig l idx n j⟩ ?_;have hload:=run_loadCells_list (P:=E.P) w ⟨L.blk,L.off+(dI I idx).toNat*sz+j,none⟩ ((List.range' j n).map λt=>dt (sig.getD t .bool) (S0 (dL I l) (dI I idx) t)) (λi v hi=>by
      rw[dQ];grind)
     simp at hload;rw[hv];simp[Instr.loadAt,Instr.sureAddr,Sem.run_bind,Sem.run_pure,Result.andThen_ok,loadVar,uF h1,if_true,T6 h2,hload]
   .rename_i n h1 h2;cases hc:(Nat.beq sig.length sz&&Nat.blt j sz)with
    |false=>trivial
    |true=>
     intro hd;obtain⟨g1,g2⟩:=zG hd;refine bf.pureV r (wT _ _) ?_;simp[Instr.loadAt,Instr.sureAddr,Sem.run_bind,Sem.run_pure,Result.andThen_ok,loadVar,uF h1,n5,if_false];simp_all;rfl
   .trivial
  .rename_i cs hg;split
   .rename_i k h1;cases hc:(Nat.beq sz 1&&Nat.beq j 0)with
    |false=>trivial
    |true=>
     split
     .rename_i a ha;obtain⟨C,e,lo,hi,vs,q1,q2,q3⟩:=r.blk b _ L hg hL;have hk:=(x8.1 ha).1;have hC:=q3 k hk;obtain⟨u,hu,hua⟩:=aT.get _ _ q2 ha;rw[hu]at hC;refine bf.pureV r hua ?_;have hcell:w.cell? ⟨L.blk,L.off+(dI I (.ci (Int.ofNat k))).toNat*1+0,none⟩=some u:=by
       rw[oQ q1];show C[L.off+(Int.ofNat k).toNat*1+0]? =_;rw[show L.off+(Int.ofNat k).toNat*1+0=L.off+k by simp];exact hC
      simp[Instr.loadAt,Instr.sureAddr,Sem.run_bind,Sem.run_pure,Result.andThen_ok,loadVar,uF h1,n5,if_false];simp_all
     .trivial
   .trivial
  .trivial
 .trivial
theorem b79(r:HR O I K w0 h w)(o:bH O I af ρ)(s:TypeId)(f:Nat)(x:Operand):aZ E O I K w0 w h (do pure (.value (<-Instr.fieldAt s (ρ x) f))) (Jp E.P s f h (af x)):=by
 unfold Jp;split
 .rename_i fields b idx j sz ht hx;have hv:=o x _ hx;obtain⟨L,hL,hv⟩:=hv;split
  .rename_i fd hf;split
   .rename_i n hs;refine bf.pureV r ⟨L,hL,rfl⟩ ?_;simp[hv,Instr.fieldAt,Sem.run_bind,R1 ht,Result.andThen_ok,hf,Instr.sureAddr,Sem.run_pure,fieldPlace,T6 hs];simp[dQ,x5]
   .trivial
  .trivial
 .trivial
theorem XY(a b:SX):dI I (DV a b)=dI I a+dI I b:=by
 unfold DV;split
 .rw[nE];omega
 .rfl
theorem cA7{a b:SX}(h:dB I (KT a b)=true):dB I a=true/\dB I b=true:=by
 unfold KT at h;split at h
 .exact⟨rfl,h⟩
 simp_all[pE,Q8]
theorem b80(r:HR O I K w0 h w)(o:bH O I af ρ)(t:TypeId)(x i:Operand):aZ E O I K w0 w h (do pure (.value (<-Instr.indexAt t (ρ x) (ρ i)))) (IU E.P t h (af x) (af i)):=by
 have run: ∀{elem s:Nat} {k:IntKind} {n:Int} {a:Addr} {len:Int} {cap:Nat},E.P.underlying t=some (.slice elem)->bJ E.P elem=some s->ρ i= .int k n->ρ x= .slice (some a) len.toNat cap->0<=n->n<len->
  (do pure (.value (<-Instr.indexAt t (ρ x) (ρ i))):Sem Next).run E.P w= .ok (.value (.pointer (some (a.add (n.toNat*s))))) w:=by
  intro elem s k n a len cap ht hs hi hx h1 h2;have hc:(0:Int)<=n/\n<(len.toNat:Int):=by omega
  rw[hi,hx];simp only[Instr.indexAt,Sem.run_bind,asIntOf,Sem.run_pure,R1 ht,Result.andThen_ok,Instr.sureAddr,e8 hc,T6 hs]
 unfold IU;split
 .rename_i elem ht;split
  .rename_i s hs;split
   .rename_i k i' hi;obtain⟨ai,g1,g2⟩:=l6.1 hi;have hvi:=oc g2 (o i _ g1);split
    .rename_i b off len sz hx;have hv:=o x _ hx;cases hc:Nat.beq s sz with
     |false=>trivial
     |true=>
      intro hd;obtain⟨d1,d2⟩:=cA7 hd;obtain⟨e1,e2⟩:=zG d2;have d1:0<=dI I off:=j6 d1;rcases hv with⟨L,cap,a,hL,hv,hcap,ha⟩|⟨_,_,hv,_,h0⟩
      .have ha:=ha (by omega);refine bf.pureV r ⟨L,hL,?_⟩ (run ht hs hvi hv e1 e2);simp_all[dQ,XY,Int.toNat_add,r9,x5]
      .omega
    .rename_i b len sz hx;have hv:=o x _ hx;cases hc:Nat.beq s sz with
     |false=>trivial
     |true=>
      obtain rfl:=R2.1 hc;intro hd;obtain⟨e1,e2⟩:=zG hd;rcases hv with⟨L,cap,hL,hcap,hv,_⟩|⟨hv,h0⟩
      .refine bf.pureV r ⟨L,hL,?_⟩ (run ht hs hvi hv e1 e2);rw[dQ];simp
      .omega
    .trivial
   .trivial
  .trivial
 .trivial
theorem cb0(r:HR O I K w0 h w)(o:bH O I af ρ)(t:TypeId)(x i:Operand):aZ E O I K w0 w h (do pure (.value (<-Instr.index t (ρ x) (ρ i)))) (JO E.P t h (af x) (af i)):=by
 trivial
theorem Qk{ts:Array TypeId}{ty:TypeId}{cs:Array Bool}{v:Value}{n:Nat}{t:TypeDesc}(ht:(ts[0]?).bind E.P.underlying=some t)(hk:(t= .string/\ ∃s,v= .string s/\s.size=n)\/ ∃e a c,t= .slice e/\v= .slice a n c):
 (builtin .len ts ty cs #[v]).run E.P w= .ok (.value (.int .i64 n)) w:=by
 simp[l6]at ht;obtain⟨t0,h0,ht⟩:=ht;show(do pure (.value (<-Builtin.len_ ts ty #[v])):Sem Next).run E.P w=_;rcases hk with⟨rfl,s,rfl,rfl⟩|⟨e,a,c,rfl,rfl⟩
 .simp[Builtin.len_,h0,R1 ht];rfl
 .simp[Builtin.len_,h0,R1 ht];rfl
theorem Kd{k:IntKind}{e:SX}{v:Value}:VR O I (kO k e) v↔v= .int k (dI I e):=by
 unfold kO;split
 .exact Iff.rfl
 rfl
theorem d04(r:HR O I K w0 h w){a:AV}{v:Value}(rv:VR O I a v)(ts:Array TypeId)(ty:TypeId)(cs:Array Bool):
 aZ E O I K w0 w h (builtin .len ts ty cs #[v]) (He E.P ((ts[0]?).bind E.P.underlying) h a):=by
 unfold He;split
 .rename_i ht;split
  .rename_i e;subst rv;exact bf.pureV r (u:= .int .i64 ((dS I e).length:Nat)) rfl (Qk ht (.inl ⟨rfl,_,rfl,by rfl⟩))
  .trivial
 .rename_i el ht;split
  .rename_i b off len sz;intro hd;have hd:0<=dI I len:=j6 hd;refine bf.pureV r (u:= .int .i64 ((dI I len).toNat:Nat)) ?_ (Qk ht (.inr ?_))
   .grind[Kd]
   .rcases rv with⟨L,cap,a,_,rfl,_⟩|⟨_,_,rfl,_,h0⟩
    .exact⟨_,_,_,rfl,rfl⟩
    simp_all
  .rename_i b len sz;intro hd;have hd:0<=dI I len:=j6 hd;refine bf.pureV r (u:= .int .i64 ((dI I len).toNat:Nat)) ?_ (Qk ht (.inr ?_))
   .grind[Kd]
   .rcases rv with⟨L,cap,_,_,rfl,_⟩|⟨rfl,h0⟩
    .exact⟨_,_,_,rfl,rfl⟩
    simp_all
  .trivial
 .trivial
theorem do7(hfx: ∀t,I.fix t=cA E.P t)(r:HR O I K w0 h w){a c:AV}{va vc:Value}(ra:VR O I a va)(rc:VR O I c vc)(b:Builtin)(ts:Array TypeId)(ty:TypeId)(cs:Array Bool):
 aZ E O I K w0 w h (builtin b ts ty cs #[va,vc]) (EW b a c h):=by
 unfold EW;split
 .rename_i k ea k' ec h1 h2;have e1:=oc h1 ra;have e2:=oc h2 rc;split
  .obtain⟨ac,u,w',q1,q2,q3,q4⟩:=Oc (P:=E.P) (b:= .max) (ts:=ts) (ty:=ty) (cs:=cs) (args:=[.int k (dI I ea),.int k' (dI I ec)]) (us:= #[va,vc]) (a:= .int k (bif eG (dI I ea) (dI I ec)then dI I ec else dI I ea)) (h':=h) hfx r rfl ⟨va,[vc],rfl,e1,vc,[],rfl,e2,rfl⟩;obtain⟨_,_,_,p1,p2,_⟩: ∃(a b c:Unit),(builtin .max ts ty cs #[va,vc]).run E.P w= .ok (.value u) w'/\u= .int k (bif eG (dI I ea) (dI I ec)then dI I ec else dI I ea)/\True:=⟨(),(),(),q1,q2,trivial⟩;refine⟨ac,u,w',.inl q1,?_,q3,q4⟩;show _=Value.int k (max (dI I ea) (dI I ec));grind[lT,dI]
  .obtain⟨ac,u,w',q1,q2,q3,q4⟩:=Oc (P:=E.P) (b:= .min) (ts:=ts) (ty:=ty) (cs:=cs) (args:=[.int k (dI I ea),.int k' (dI I ec)]) (us:= #[va,vc]) (a:= .int k (bif eG (dI I ec) (dI I ea)then dI I ec else dI I ea)) (h':=h) hfx r rfl ⟨va,[vc],rfl,e1,vc,[],rfl,e2,rfl⟩;refine⟨ac,u,w',.inl q1,?_,q3,q4⟩;rw[show u=_ from q2];show _=Value.int k (min (dI I ea) (dI I ec));grind[lT,dI]
  .trivial
 .trivial
theorem cb2{c:CT}{v:AV}{e:SX}{u:Value}(h:zC c v=some e)(r:VR O I v u):u=dt c (aM I e):=by
 unfold zC at h;split at h
 .split at h
  .rename_i k k' e' hs;split at h
   .rename_i hk;subst hk;simp at h;subst h;exact oc hs r
   .cases h
  .cases h
 .exact sV h r
 .exact qt h r
theorem mw: ∀{sig:List CT} {vs:List AV} {es:List SX} {us:List Value},Z9 sig vs=some es->aT O I vs us->us=bv sig (.vl (R7 I es))
 | [],[],es,us,h,r=>by
   rw[show us=[]from r];rfl
 |c::sig,v::vs,es,us,h,⟨u,ur,e,r1,r2⟩=>by
  simp[Z9]at h;split at h
  .rename_i e1 e2 h1 h2;simp at h;subst h;rw[e,cb2 h1 r1,mw h2 r2];simp_all[bv,Val.toL,List.length_cons,I3,n9,o7,R7]
  .cases h
 | [],_::_,es,us,h,r=>by simp[Z9]at h
 |_::_,[],es,us,h,r=>by simp[Z9]at h
theorem rV{sig:List CT}{sz:Nat}: ∀{n:Nat} {cs:List AV} {rs:List SX} {us:List Value},jr sig sz n cs=some rs->cs.length=n*sz->aT O I cs us->us=T2 sig (R7 I rs)/\(R7 I rs).length=n
 |0,cs,rs,us,h,hl,r=>by
  simp[jr,j0]at h;subst h;have:us=[]:=by have:=r.length;grind
  subst this;exact⟨rfl,rfl⟩
 |n+1,cs,rs,us,h,hl,r=>by
  simp[jr]at h;split at h
  .rename_i e rs' h1 h2;simp at h;subst h;have g1:=mw h1 (r.take sz);have g2:=rV h2 (by rw[E3,hl,r9];omega) (r.drop sz);refine⟨?_,by simp[R7,List.length_cons,g2.2]⟩;rw[<-u5 sz us,g1,g2.1];rfl
  .cases h
theorem HR.arrCells{b e sz:Nat}{sig:List CT}{l:SX}{L:Loc}(r:HR O I K w0 h w)(hg:h.get b=some (.arr e sig l))(hb:O b=some L)(hsz:sig.length=sz)(o n:Nat)(hn:o+n<=(dL I l).length):
 ∀j v,(T2 sig (((dL I l).drop o).take n))[j]? =some v->w.cell? ⟨L.blk,L.off+o*sz+j,none⟩=some v:=by
 intro j v hj;obtain⟨C,e',lo,hi,q1,q0,q2,q3,q4,q5⟩:=r.arr hg hb;rw[oQ q1,show L.off+o*sz+j=L.off+(o*sz+j) by omega];apply q4;have e1:dL I l=(dL I l).take o++(((dL I l).drop o).take n++((dL I l).drop o).drop n):=by
  rw[u5,u5]
 have e2: ∀a b:List Val,T2 sig (a++b)=T2 sig a++T2 sig b:=λa b=>by simp[T2,K4]
 rw[e1,e2,e2];have hl:(T2 sig ((dL I l).take o)).length=o*sz:=by rw[T3,k7,hsz];congr 1;omega
 rw[l9 (by omega),hl,show o*sz+j-o*sz=j by omega];grind
theorem bW3(r:HR O I K w0 h w)(o:bH O I af ρ)(s d:TypeId)(x:Operand){el:TypeId}(hs:E.P.underlying s=some (.slice el))(hd:E.P.underlying d=some .string)(h8:E.P.underlying el=some (.int .u8)):
 aZ E O I K w0 w h (do pure (.value (<-convert s d (ρ x)))) (Nf (af x) h):=by
 trivial
theorem bx4(l:List UInt8):T2 [.int .u8] (l.map λb=> .vl [.vi (b.toNat:Int)])=l.map λb=>Value.int .u8 (b.toNat:Int):=by
 induction l with
 |nil=>rfl
 |cons a r ih=>
  have:T2 [.int .u8] ((a::r).map λb=> .vl [.vi (b.toNat:Int)])=bv [.int .u8] (.vl [.vi (a.toNat:Int)])++T2 [.int .u8] (r.map λb=> .vl [.vi (b.toNat:Int)]):=by rfl
  rw[this,ih];rfl
theorem bW4(r:HR O I K w0 h w)(s d el:TypeId){a:Option AV}{v:Value}(ha: ∀x,a=some x->VR O I x v)(hs:E.P.underlying s=some .string)(hd:E.P.underlying d=some (.slice el))(h8:E.P.underlying el=some (.int .u8)):
 aZ E O I K w0 w h (do pure (.value (<-convert s d v))) (Kw el a h):=by
 trivial
theorem cA8(r:HR O I K w0 h w)(o:bH O I af ρ)(s d:TypeId)(x:Operand):aZ E O I K w0 w h (do pure (.value (<-convert s d (ρ x)))) (Jl E.P s d h (af x)):=by
 unfold Jl;split
 .rename_i sd k hs hd;split
  .rename_i k' e he;have hv:=o x _ he;simp[VR]at hv;refine bf.pureV r (u:= .int k (k.wrap (dI I e))) rfl ?_;simp[hv,convert,Sem.run_bind,R1 hs,R1 hd,Result.andThen_ok];rfl
  .trivial
 .rename_i el hs hd;cases h8:rL E.P el with
  |false=>trivial
  |true=>exact bW3 r o s d x hs hd (HS h8)
 .rename_i el hs hd;cases h8:rL E.P el with
  |false=>trivial
  |true=>exact bW4 r s d el (o x) hs hd (HS h8)
 .split
  .rename_i e he;have hv:=o x _ he;refine bf.pureV r (u:=ρ x) hv ?_;simp_all[VR,convert,Sem.run_bind,R1,Result.andThen_ok,Sem.run_pure]
  .trivial
 .trivial
theorem NJ(sig:List CT)(l:List Val): ∀u∈T2 sig l,u.oneCell'=true:=by
 intro u hu;simp[T2,B2,bv,j8]at hu;obtain⟨r,_,j,_,rfl⟩:=hu;unfold dt;split<;>rfl
theorem wd{a b:SX}(h:dB I (eF a b)=true):dB I a=true/\dB I b=true:=by
 simp_all[KG,j7]
theorem Vo{a b:SX}(h:dB I (Fa a b)=true):dI I a=dI I b:=by
 unfold Fa at h;cases hc:SX.beq a b with
 |true=>rw[SX.beq_eq _ _ hc]
 |false=>rw[hc]at h;exact j6 h
theorem cA9{P:Program}{s:Nat}{y:AV}{sig:List CT}{nd ly:SX}{vy:Value}{yt e':TypeId}(r:HR O I K w0 h w)(hyt:P.underlying yt=some (.slice e'))(hs:sig.length=s)(e:Qi s y h=some (sig,nd,ly))(hd:dB I nd=true)(ry:VR O I y vy):
 Src P s yt vy (dL I ly).length (T2 sig (dL I ly)) w:=by
 have mk: ∀(a:Addr) (n c:Nat),vy= .slice (some a) n c->n=(dL I ly).length->(∀j v,(T2 sig (dL I ly))[j]? =some v->w.cell? (a.add j)=some v)->Src P s yt vy (dL I ly).length (T2 sig (dL I ly)) w:=by
  intro a n c hv hn hc;refine⟨.inl ⟨_,hyt⟩,λw'=>by rw[hv,<-hn];rfl,?_,?_,by rw[T3,hs],NJ _ _⟩
  .grind[run_firstCells_some,T3]
  .rw[hv,<-hn];exact run_firstCells_some w.drew s n a n c _ (by grind[T3]) hc
 have mk0:vy= .slice none 0 0->(dL I ly).length=0->Src P s yt vy (dL I ly).length (T2 sig (dL I ly)) w:=by
  intro hv hn;have:dL I ly=[]:=A8 hn;rw[this];refine⟨.inl ⟨_,hyt⟩,λw'=>by rw[hv];rfl,?_,?_,by simp[T2],by simp[T2]⟩
  .rw[hv];rfl
  .rw[hv];rfl
 unfold Qi at e;split at e
 .rename_i b len s';split at e
  .rename_i el sig' l hg;replace e:=Q9 e;obtain⟨hc,e⟩:=e;obtain⟨c1,c2⟩:=Q8 hc;rw[R2]at c2;cases happ:UJ len with
   |true=>
    rw[happ]at e;obtain⟨rfl,rfl,rfl⟩:=e;obtain⟨d1,d2⟩:=Q8 hd;have d2:dI I len<=((dL I l).length:Int):=j6 d2;have hll:dL I (.op .lsub [l,.ci 0,len])=((dL I l).drop 0).take (dI I len).toNat:=by
     show((dL I l).drop (0:Int).toNat).take (dI I len-0).toNat=_;rw[Int.sub_zero];rfl
    have hln:(dL I (.op .lsub [l,.ci 0,len])).length=(dI I len).toNat:=by
     rw[hll,k7,E3];omega
    rcases ry with⟨L,cap,hL,hcap,hv,_⟩|⟨hv,h0⟩
    .refine mk _ _ cap hv hln.symm λj v hj=> ?_
     rw[hll]at hj;have:=r.arrCells hg hL c2 0 (dI I len).toNat (by omega) j v hj;rw[dQ];simpa using this
    grind
   |false=>
   rw[happ]at e;simp at e;obtain⟨rfl,rfl,rfl⟩:=e;have hlen:dI I len=((dL I l).length:Int):=by
    have:=Vo hd;exact this
   rcases ry with⟨L,cap,hL,hcap,hv,_⟩|⟨hv,h0⟩
   .refine mk _ _ cap hv (by omega) λj v hj=> ?_
    have:=r.arrCells hg hL c2 0 (dL I l).length (by omega) j v (by simpa using hj);rw[dQ];simpa using this
   grind
  .cases e
 .rename_i b off len s';split at e
  .rename_i el sig' l hg;replace e:=Q9 e;obtain⟨hc,e⟩:=e;obtain⟨c1,c2⟩:=Q8 hc;obtain rfl:=R2.1 c1;rw[R2]at c2;have vD:0<=dI I off/\0<=dI I len/\dI I off+dI I len<=((dL I l).length:Int)/\dL I ly=((dL I l).drop (dI I off).toNat).take (dI I len).toNat/\sig'=sig:=by
    cases hq:(SX.beq off (.ci 0)&&SX.beq len (.op .llen [l]))with
    |true=>
     obtain⟨k1,k2⟩:=Q8 hq;have k1:dI I off=0:=by rw[SX.beq_eq _ _ k1,nE]
     have k2:dI I len=((dL I l).length:Int):=by rw[SX.beq_eq _ _ k2,jt]
     simp_all
    |false=>
     rw[hq]at e;obtain⟨rfl,rfl,rfl⟩:=e;obtain⟨d1,d2⟩:=Q8 hd;obtain⟨d2,d3⟩:=Q8 d2;have d1:0<=dI I off:=j6 d1;have d2:0<=dI I len:=j6 d2;have d3:dI I off+dI I len<=((dL I l).length:Int):=j6 d3;refine⟨d1,d2,d3,?_,rfl⟩;show((dL I l).drop (dI I off).toNat).take (dI I off+dI I len-dI I off).toNat=_;grind
   obtain⟨d1,d2,d3,hll,rfl⟩:=vD;have hln:(dL I ly).length=(dI I len).toNat:=by
    grind
   rcases ry with⟨L,cap,a,hL,hv,hcap,ha⟩|⟨a,c,hv,hnc,h0⟩
   .by_cases hz:dI I len=0
    .grind[dL,List.eq_nil_of_length_eq_zero,T2]
    .refine mk a _ cap hv hln.symm λj v hj=> ?_
     rw[hll]at hj;have:=r.arrCells hg hL c2 (dI I off).toNat (dI I len).toNat (by omega) j v hj;grind[dQ]
   .cases a with
    |none=>
     grind
    |some a=>
     grind[dL,List.eq_nil_of_length_eq_zero,T2]
  .cases e
 .rename_i b o n c;split at e
  .rename_i el fz cs hg;replace e:=Q9 e;obtain⟨hc,e⟩:=e;obtain⟨c1,c2⟩:=Q8 hc;rw[R5]at c1;split at e
   .split at e
    .rename_i rs hrs;obtain⟨rfl,rfl,rfl⟩:=e;obtain⟨L,hL,hv⟩:=ry;obtain⟨us,u1,u2,u3⟩:=uQ r hg hL c1;obtain⟨g1,g2⟩:=rV hrs (by grind) u1;refine mk _ n c hv g2.symm λj v hj=> ?_
     rw[dQ];exact u3 j v (by rw[g1];exact hj)
    .cases e
   .cases e
  .cases e
 .rename_i b o n s';split at e
  .rename_i el fz cs hg;replace e:=Q9 e;obtain⟨hc,e⟩:=e;obtain⟨hc,c3⟩:=Q8 hc;obtain⟨c1,c2⟩:=Q8 hc;rw[R5]at c1;split at e
   .split at e
    .rename_i rs hrs;obtain⟨rfl,rfl,rfl⟩:=e;obtain⟨L,c,hL,hcp,hv⟩:=ry;obtain⟨us,u1,u2,u3⟩:=uQ r hg hL c1;obtain⟨g1,g2⟩:=rV hrs (by grind) u1;refine mk _ n c hv g2.symm λj v hj=> ?_
     rw[dQ];exact u3 j v (by rw[g1];exact hj)
    .cases e
   .cases e
  .cases e
 .cases e
theorem cb3{P:Program}{s:Nat}{y:AV}{sig:List CT}{nd ly:SX}{vy:Value}{yt:TypeId}(r:HR O I K w0 h w)(hyt:P.underlying yt=some .string)(e:Yu s y=some (sig,nd,ly))(ry:VR O I y vy):
 Src P s yt vy (dL I ly).length (T2 sig (dL I ly)) w:=by
 replace e:=Q9 e;obtain⟨hs,e⟩:=e;obtain rfl:=R2.1 hs;split at e
 .rename_i x hx;obtain⟨rfl,rfl,rfl⟩:=e;have hv:=sV hx ry;have hl:dL I (.op .sbytes [x])=(dS I x).map λb=> .vl [.vi (b.toNat:Int)]:=rfl
  have hlen:(dL I (.op .sbytes [x])).length=(dS I x).length:=by grind
  have hfl:T2 [.int .u8] (dL I (.op .sbytes [x]))=(dS I x).map λb=>Value.int .u8 (b.toNat:Int):=by rw[hl,bx4]
  have rs:VR O I (.str (dS I x)) vy:=hv;have hn:dz (.str (dS I x))=some (dS I x).length:=rfl;obtain⟨us,u1,u2,u3⟩:=DS (P:=P) (s:=1) (n:=(dS I x).length) r (l:=(dS I x).map λb=>AV.int .u8 (b.toNat:Int)) (by simp[mR]) rs;have hus:us=(dS I x).map λb=>Value.int .u8 (b.toNat:Int):=by
   have: ∀(l:List UInt8) (us:List Value),aT O I (l.map λb=>AV.int .u8 (b.toNat:Int)) us->us=l.map λb=>Value.int .u8 (b.toNat:Int):=by
    intro l;induction l with
    |nil=>intro us h;exact h
    |cons a q ih=>
     rintro us ⟨v,vr,rfl,h1,h2⟩;rw[show v=Value.int .u8 (a.toNat:Int)from h1,ih vr h2];rfl
   grind
  rw[hlen,hfl];refine⟨.inr hyt,λw'=>Mo hn rs w',?_,?_,by simp,?_⟩
  .grind
  .rw[<-hus];exact u3 w.drew rfl
  .intro u hu;simp at hu;obtain⟨_,_,rfl⟩:=hu;rfl
 .cases e
theorem b03(zs:Array Value)(hp:0<zs.size)(n:Nat):(Builtin.zeroCells zs (n+1)).toList=zs.toList++(Builtin.zeroCells zs n).toList:=by
 show((Array.range ((n+1)*zs.size)).map (λi=>zs[i % zs.size]!)).toList=zs.toList++((Array.range (n*zs.size)).map (λi=>zs[i % zs.size]!)).toList;simp;rw[r9,E2,C7,List.range_add,u4,o7];congr 1
 .apply K1 (by simp);intro i h1 h2;simp at h1;simp[Nat.mod_eq_of_lt h1,h1]
 simp_all
theorem ay8{zs:Array Value}{sig:List CT}{r:Val}(hp:0<zs.size)(hz:zs.toList=bv sig r): ∀n,(Builtin.zeroCells zs n).toList=T2 sig (List.replicate n r)
 |0=>by simp[Builtin.zeroCells,T2]
 |n+1=>by
  rw[b03 zs hp n,ay8 hp hz n,List.replicate_succ,hz];rfl
theorem d05{P:Program}{i:TypeInfo}{zv:Value}{z:List AV}{y:AV}{sig:List CT}{nd ly:SX}{vy:Value}{yt:TypeId}(r:HR O I K w0 h w)(hs:sig.length=i.size)(hb:i.bytes<=1000)(hz:aT O I z zv.cells.toList)(hzs:zv.cells.size=i.size)(hp:0<i.size)(e:Qv P yt i.size z y h=some (sig,nd,ly))(hd:dB I nd=true)(ry:VR O I y vy):
 SrcZ P i zv yt vy (dL I ly).length (T2 sig (dL I ly)) w:=by
 unfold Qv at e;split at e
 .rename_i e' hyt;exact .inl (cA9 r hyt hs e hd ry)
 .rename_i hyt;exact .inl (cb3 r hyt e ry)
 .rename_i kn hyt;unfold RJ at e;split at e
  .rename_i k ex sg hk hc;split at e
   .rename_i es hes;obtain⟨rfl,rfl,rfl⟩:=e;obtain⟨d1,d2⟩:=Q8 hd;have d1:0<=dI I ex:=j6 d1;have d2:dI I ex<=kN:=j6 d2;have hroom:kN=(room:Int):=by unfold kN room;simp
    have hv:=oc hk ry;have hl:dL I (.op .lrep [ex,.op .row es])=List.replicate (dI I ex).toNat (.vl (R7 I es)):=rfl;have hlen:(dL I (.op .lrep [ex,.op .row es])).length=(dI I ex).toNat:=by rw[hl,List.length_replicate]
    have hrow:=mw hes hz;refine .inr ⟨k,kn,hyt,?_,?_,hb,?_,by rw[T3,hs],NJ _ _⟩
    .rw[hlen,hv];congr 1;omega
    .omega
    grind[ay8]
   .cases e
  .cases e
 .cases e
theorem SrcZ.nil_{P:Program}{i:TypeInfo}{zv:Value}{yt:TypeId}{x:Value}{news:List Value}(h:SrcZ P i zv yt x 0 news w):news=[]:=by
 rcases h with h|⟨_,_,_,_,_,_,_,h,_⟩
 .exact A8 (by simpa using h.newsLen)
 grind
theorem Src.nil_{P:Program}{s:Nat}{yt:TypeId}{x:Value}{news:List Value}(h:Src P s yt x 0 news w):news=[]:=A8 (by simpa using h.newsLen)
theorem BI: ∀{a b:List CT},cZ a b=true->a=b
 | [],[],_=>rfl
 | [],_::_,h=>by cases h
 |_::_,[],h=>by cases h
 |a::x,b::y,h=>by
  simp[cZ,j7,decide_eq_true_eq]at h;rw[h.1,BI h.2]
theorem HR.lay(r:HR O I K w0 h w)(x:Blk):HR O I K w0 (h.new x) w:=by
 have hn: ∀b y,(h.new x).get b=some y->O b≠none->h.get b=some y:=by
  intro b y hg hb;rw[Heap.get_new]at hg;by_cases e:b=h.next
  .subst e;exact absurd (r.fresh _ (i6 _)) hb
  grind
 refine⟨λb y L hg hb=>r.blk b y L (hn b y hg (by grind)) hb,λb b' y y' L L' g g' m m' hne hw=>r.sep b b' y y' L L' (hn b y g (by grind)) (hn b' y' g' (by grind)) m m' hne hw,
  λb hb=>r.fresh b (by grind[Heap.next_new]),λb hb=> ?_,r.lt,r.kin,r.keep,λb y L hg hw hb=>r.free b y L (hn b y hg (by grind)) hw hb,r.size,r.os,r.tape,r.out,r.dr⟩
 simp at hb;rw[Heap.get_new,b9 (by omega)];exact r.fget b (by omega)
theorem Ea(I:Opq)(sig:List CT)(l:List Val): ∃cs:List AV,(∀O:aQ,aT O I cs (T2 sig l))/\cs.all AV.one=true/\cs.length=(T2 sig l).length/\ ∀(O:aQ) vs,aT O I cs vs->vs=T2 sig l:=by
 have: ∀us:List Value,(∀u∈us,∃a:AV,(∀O:aQ,VR O I a u)/\a.one=true/\ ∀(O:aQ) v,VR O I a v->v=u)-> ∃cs:List AV,(∀O:aQ,aT O I cs us)/\cs.all AV.one=true/\cs.length=us.length/\ ∀(O:aQ) vs,aT O I cs vs->vs=us:=by
  intro us;induction us with
  |nil=>intro _;exact⟨[],λ_=>rfl,rfl,rfl,λ_ vs h=>h⟩
  |cons u us ih=>
   intro hh;obtain⟨a,a1,a2,a3⟩:=hh u (by simp);obtain⟨cs,c1,c2,c3,c4⟩:=ih λx hx=>hh x (by simp[hx])
   refine⟨a::cs,λO=>⟨u,us,rfl,a1 O,c1 O⟩,by simp[a2,c2],by simp[c3],λO vs ⟨v,vr,e,p,q⟩=> ?_⟩;grind
 refine this _ λu hu=> ?_
 simp[T2,B2,bv,j8]at hu;obtain⟨x,_,j,_,rfl⟩:=hu;unfold dt;split
 .exact⟨.int _ _,λ_=>rfl,rfl,λ_ v h=>h⟩
 .exact⟨.str _,λ_=>rfl,rfl,λ_ v h=>h⟩
 .exact⟨.bool _,λ_=>rfl,rfl,λ_ v h=>h⟩
theorem wS(sig:List CT)(a b:List Val):T2 sig (a++b)=T2 sig a++T2 sig b:=by simp[T2,K4]
theorem Mq{P:Program}{m:Sem Value}{n sz elem:Nat}{sig:List CT}{l:SX}{cs:List AV}{h1 h2:Heap}(hsz:0<sz)(hs:sig.length=sz)(hn:(dL I l).length=n)(k:Ok P O I K w0 w h m (.us h1.next 0 n sz) (h1.new (.cells elem 0 cs)))
 (hlim:h1.next<65536) (hcs:cs.length=n*sz) (hdet: ∀(O:aQ) vs,aT O I cs vs->vs=T2 sig (dL I l)) (h2n:h2.next=h1.next) (h2w:h2.wm=h1.wm) (h2g: ∀z,h2.get z=h1.get z):
 Ok P O I K w0 w h m (.ous h1.next (.op .llen [l]) sz) (h2.new (.arr elem sig l)):=by
 obtain⟨ac,v,w',e1,e2,e3,e4⟩:=k;obtain⟨L,cap,hL,hcap,hv⟩:=e2;have hg:(h1.new (.cells elem 0 cs)).get h1.next=some (.cells elem 0 cs):=by rw[Heap.get_new,e8 rfl,e8 hlim]
 have hbr:=e3.blk _ _ L hg hL;have hle:n<=cap:=by
  obtain⟨C,lo,hi,vs,q1,q2,q3,_⟩:=hbr;rw[hcs,<-show cap*sz=L.ext by omega]at q3;exact C0 q3 hsz
 refine⟨ac,v,w',e1,.inl ⟨L,cap,hL,by omega,?_,?_⟩,?_,?_⟩
 .rw[jt,hn];simpa using hv
 .rw[jt,hn];simpa using hle
 .refine HR.retell (y:= .arr elem sig l) e3 hg (.inr rfl) ?_ (by simp[h2n]) (by simp[h2w]) (λz=> ?_)
  .intro L' hL' hb;obtain⟨C,lo,hi,vs,q1,q2,q3,q4,q5,q6,q7,q8⟩:=hb;have:=hdet _ _ q5;subst this;refine⟨C,_,lo,hi,q1,.inl rfl,q2,by rw[hn,hs,<-hcs];exact q3,λi v hi'=> ?_,λi hi'=>q7 i (p7 _) hi'⟩;have hlt:i<cs.length:=by
    have:=q5.length;rw[<-this];rcases k5 i (T2 sig (dL I l)).length with hh|hh
    .exact hh
    .rw[s7 hh]at hi';cases hi'
   rw[q6 i hlt];exact hi'
  .rw[Heap.get_new,Heap.get_new,h2n,h2g];by_cases hz:z=h1.next
   .rw[e8 hz,e8 hz,e8 hlim]
   .rw[b9 hz,b9 hz,b9 hz]
 .refine⟨?_,e4.ext,λb hb hbn=> ?_,?_⟩
  .have:=e4.le;simp at this⊢;rw[h2n];exact this
  .have hu:=e4.unm b hb hbn;have he:(h2.new (.arr elem sig l)).get b=(h1.new (.cells elem 0 cs)).get b:=by
    rw[Heap.get_new,Heap.get_new,h2n,h2g];by_cases hz:b=h1.next
    .have:=e4.ext b hb;rw[hz,hL]at this;rw[hz,<-this]at hbn;cases hbn
    .rw[b9 hz,b9 hz]
   rw[he];exact hu
  .have:=e4.wm;simp at this⊢;rw[h2w];exact this
def qj(P:Program)(O:aQ)(I:Opq)(K:Nat->Prop)(w0 w:World)(h:Heap)(m:Sem Value)(r:Res):Prop:=match r with
 | .need e v h'=>dB I e=true->Ok P O I K w0 w h m v h'
 | .bad=>True
 |_=>False
theorem VK{P:Program}(r:HR O I K w0 h w){a:AV}{va vc:Value}(ra:VR O I a va){t yt ty elem:TypeId}{i:TypeInfo}{zv:Value}{sig:List CT}{nd ly:SX}(ht:P.underlying t=some (.slice elem))(hi:P.info? elem=some i)(hzi:i.zero=some zv)
 (hzs':zv.cells.size=i.size) (c1:0<i.size) (c3:i.bytes<=1000) (c5:sig.length=i.size) (hnf:I.fix elem=false) (hs0:dB I nd=true->SrcZ P i zv yt vc (dL I ly).length (T2 sig (dL I ly)) w):
 qj P O I K w0 w h (Builtin.append_ #[t,yt] ty #[va,vc]) (Ac elem i.size sig nd ly a h):=by
 unfold Ac;obtain⟨ncs,n1,n2,n3,n4⟩:=Ea I sig (dL I ly);have n3':ncs.length=(dL I ly).length*i.size:=by grind[T3]
 split
 .cases hc6:Nat.blt h.next 65536 with
  |false=>trivial
  |true=>
  have c6:=T4.1 hc6;intro hd;obtain⟨d1,d2⟩:=wd hd;have d2:dI I (.op .llen [ly])<=dI I (.ci kN):=j6 d2;rw[jt,nE]at d2;have hroom:(dL I ly).length<=room:=by
   grind[kN,room]
  have hs:=hs0 d1;subst ra;by_cases hn:(dL I ly).length=0
  .rw[hn]at hs;have hnil:=Go.Ev.SrcZ.nil_ hs;rw[hnil]at hs;refine⟨O,_,_,SrcZ.nothing ht hi hs none 0 0 (i6 _),.inr ⟨rfl,by grind[jt]⟩,r.lay _,by simp,λ_ _=>rfl,λb hb _=>by left;rw[Heap.get_new,b9 (by omega)],rfl⟩
  .have g:=uw (ty:=ty) (old:=[]) (olds:=[]) (sLen:=0) (sCap:=0) (base:=none) r ht hi hzi hzs' (run_firstCells_none w.drew _ _ _ _) hs (by omega) c1 (by omega) (by omega) c3 .nil rfl (by simp) (n1 O) n2 n3' 0;simp at g;exact Mq (h1:=h) (h2:=h) c1 c5 rfl g c6 n3' n4 rfl rfl (λ_=>rfl)
 .rename_i b len sz;split
  .rename_i el sig' l hg;cases hq:(Nat.beq sz i.size&&Nat.beq el elem&&cZ sig' sig&&Nat.ble h.wm b&&Nat.blt h.next 65536&& !(Nat.beq el eQ))with
   |false=>trivial
   |true=>
    obtain⟨hq,c7⟩:=Q8 hq;have hne:el≠eQ:=λe=>by simp_all
    obtain⟨hq,c6⟩:=Q8 hq;rw[T4]at c6;obtain⟨hq,q4⟩:=Q8 hq;obtain⟨hq,q3⟩:=Q8 hq;obtain⟨q1,q2⟩:=Q8 hq;obtain rfl:=R2.1 q1;obtain rfl:=R2.1 q2;rw[R5]at q4;obtain rfl:=BI q3;intro hd;obtain⟨d1,d2⟩:=wd hd;obtain⟨d3,d2⟩:=wd d2;have d3:dI I len=dI I (.op .llen [l]):=Vo d3;have d2:dI I (.op .llen [mq l ly])<=dI I (.ci kN):=j6 d2;have hcat:dL I (mq l ly)=dL I l++dL I ly:=d01 l ly;rw[jt,nE,hcat,l5]at d2;rw[jt]at d3;have hroom:(dL I l).length+(dL I ly).length<=room:=by
     grind[kN,room]
    have hs:=hs0 d1;have bN: ∀(hh:Heap) (x:Option Blk) (z:Nat),(hh.put b x).get z=if z=b then(if b<65536 then x else none)else hh.get z:=λhh x z=>Heap.get_put _ _ _ _
    have hb65:=Heap.get_lim h b _ hg;rcases ra with⟨L,cap,hL,hcap,hv,hle⟩|⟨hv,h0'⟩
    .have hlen:(dI I len).toNat=(dL I l).length:=by omega
     rw[hlen]at hv hle;by_cases hn:(dL I ly).length=0
     .have hly:dL I ly=[]:=A8 hn;rw[hn]at hs;have hnil:=Go.Ev.SrcZ.nil_ hs;rw[hnil]at hs;have hbr:=r.blk b _ L hg hL;obtain⟨p1,p2⟩:=HR.rename (w':=w) r b _ (.arr el sig' (mq l ly)) L L hg hL q4 rfl (λ_ _=>rfl) rfl rfl rfl rfl rfl (by
       obtain⟨C,e',lo,hi,z1,z0,z2,z3,z4,z5⟩:=hbr;have hd:dL I (mq l ly)=dL I l:=by rw[hcat,hly,p9]
       exact⟨C,e',lo,hi,z1,z0,z2,by rw[hd];exact z3,by rw[hd];exact z4,z5⟩)
      subst hv;refine⟨_,_,_,SrcZ.nothing ht hi hs _ _ cap hle,.inl ⟨L,cap,aQ.add_self _ _ _,hcap,?_,?_⟩,p1,p2⟩
      .rw[jt,hcat,hly];simp
      grind[jt]
     .obtain⟨ocs,m1,m2,m3,m4⟩:=Ea I sig' (dL I l);have m3':ocs.length=(dL I l).length*i.size:=by rw[m3,T3,c5]
      have r2:HR O I K w0 (h.put b (some (.cells el 0 ocs))) w:=by
       refine HR.retell (y:= .cells el 0 ocs) r hg (.inl q4) ?_ rfl rfl (λz=>by rw[bN,e8 hb65]);intro L' hL' hbr;obtain⟨C,e',lo,hi,z1,z0,z2,z3,z4,z5⟩:=hbr;rw[z0.resolve_right hne]at z1;refine⟨C,lo,hi,T2 sig' (dL I l),z1,z2,by rw[m3,T3];exact z3,nB m2,m1 O,λk hk=> ?_,λk _ hk=>z5 k hk,λhh=>by rw[hnf]at hh;cases hh⟩;have hk':k<(T2 sig' (dL I l)).length:=by rw[<-m3];exact hk
       rw[k8 hk'];exact z4 k _ (k8 hk')
      have hg2:(h.put b (some (.cells el 0 ocs))).get b=some (.cells el 0 ocs):=by rw[bN,e8 rfl,e8 hb65]
      have g:=Yj (ty:=ty) (o:=0) (sLen:=(dL I l).length) (sCap:=cap) (n:=(dL I ly).length) (fz:=0) r2 ht hi hzi hzs' c1 hs (by omega) hroom c3 hL hg2 q4 (by simpa using hcap) (p7 _) (by omega) (n1 O) n2 n3' (by first|exact hnf|(rw[<-hel];exact hnf)) 0 (p7 _);rw[show(List.drop 0 ocs).take ((dL I l).length*i.size)=ocs by rw[F9,<-m3',x9]]at g;rw[show(⟨L.blk,L.off+0,none⟩:Addr)=⟨L.blk,L.off,none⟩ by simp,<-hv]at g;have g2:Ok P O I K w0 w h (Builtin.append_ #[t,yt] ty #[va,vc]) (.us ((h.put b (some (.cells el 0 ocs))).put b none).next 0 ((dL I l).length+(dL I ly).length) i.size) (((h.put b (some (.cells el 0 ocs))).put b none).new (.cells el 0 (ocs++ncs))):=by
       obtain⟨ac,v,w',y1,y2,y3,y4⟩:=g;refine⟨ac,v,w',y1,y2,y3,y4.le,y4.ext,λz hz hzn=> ?_,y4.wm⟩;have hu:=y4.unm z hz hzn;rw[bN,b9 (λhzb=>by rw[hzb,hL]at hzn;cases hzn)]at hu;exact hu
      refine Mq (h1:=(h.put b (some (.cells el 0 ocs))).put b none) (h2:=h.put b none) (l:=mq l ly) c1 c5 (by rw[hcat,l5]) g2 c6 ?_ ?_ rfl rfl (λz=> ?_)
      .rw[l5,m3',n3',r9]
      .intro ac vs hvs;rw[hcat,wS];have e1:=hvs.take ocs.length;have e2:=hvs.drop ocs.length;rw[E4]at e1;rw[E5]at e2;rw[<-u5 ocs.length vs,m4 ac _ e1,n4 ac _ e2]
      grind
    .have hl0:(dL I l).length=0:=by omega
     subst hv;obtain⟨r1,st1⟩:=r.drop b;by_cases hn:(dL I ly).length=0
     .rw[hn]at hs;have hnil:=Go.Ev.SrcZ.nil_ hs;rw[hnil]at hs;refine⟨O,_,_,SrcZ.nothing ht hi hs none 0 0 (i6 _),.inr ⟨rfl,by grind[jt]⟩,r1.lay _,st1.trans ⟨by simp,λ_ _=>rfl,λb hb _=>by left;rw[Heap.get_new,b9 (by omega)],rfl⟩⟩
     .have g:=uw (ty:=ty) (old:=[]) (olds:=[]) (sLen:=0) (sCap:=0) (base:=none) r1 ht hi hzi hzs' (run_firstCells_none w.drew _ _ _ _) hs (by omega) c1 (by omega) (by omega) c3 .nil rfl (by simp) (n1 O) n2 n3' 0;simp at g;obtain⟨ac,v,w',y1,y2,y3,y4⟩:=Mq (h1:=h.put b none) (h2:=h.put b none) (l:=mq l ly) c1 c5 (n:=(dL I ly).length) (by grind) g c6 n3' (by grind) rfl rfl (λ_=>rfl);exact⟨ac,v,w',y1,y2,y3,st1.trans y4⟩
  .trivial
 .trivial
theorem cb5(r:HR O I K w0 h w){elem s:Nat}{sig:List CT}{x x':AV}{h':Heap}{v:Value}(hf:I.fix elem=false)(e:JC elem s sig x h=some (x',h'))(rx:VR O I x v):
 ∃ac,HR ac I K w0 h' w/\VR ac I x' v/\St h O h' ac:=by
 have main: ∀(b o n cap:Nat) (L:Loc) (fz:Nat) (cs:List AV) (rs:List SX),h.get b=some (.cells elem fz cs)->O b=some L->h.wm<=b->fz<=o->o+cap*s<=L.ext->o+n*s<=cs.length->n<=cap->sig.length=s->h.next<65536->
  jr sig s n ((cs.drop o).take (n*s))=some rs->v= .slice (some ⟨L.blk,L.off+o,none⟩) n cap->
  x'= .ous h.next (.op .llen [.op .row rs]) s->h'=(h.put b none).new (.arr elem sig (.op .row rs))-> ∃ac,HR ac I K w0 h' w/\VR ac I x' v/\St h O h' ac:=by
  intro b o n cap L fz cs rs hg hL hwm hfo hext hn hnc hsl hlim hrs hv hx hh;obtain⟨C,lo,hi,vs,q1,q2,q3,q4,q5,q6,q7⟩:=r.cells hg hL;obtain⟨z1,z2⟩:=rV hrs (by grind) ((q5.drop o).take (n*s));obtain⟨r1,s1⟩:=HR.rename (w':=w) r b _ (.arr elem sig (.op .row rs)) L ⟨L.blk,L.off+o,cap*s⟩ hg hL hwm rfl (λ_ _=>rfl) rfl rfl rfl rfl rfl (by
   refine⟨C,_,lo,hi,q1,.inl rfl,by grind,?_,λi v hi'=> ?_,λi hi'=> ?_⟩
   .show(R7 I rs).length*sig.length<=cap*s;simp_all[y6]
   .have hi':(T2 sig (R7 I rs))[i]? =some v:=hi';grind
   .have hi':i<cap*s:=hi';have:=q7 (o+i) (by omega) (by omega);grind)
  subst hx;subst hh;refine⟨_,r1,.inl ⟨_,cap,aQ.add_self _ _ _,rfl,?_,?_⟩,s1⟩
  .have hll:(dI I (.op .llen [.op .row rs])).toNat=n:=by
    show(((R7 I rs).length:Nat):Int).toNat=n;rw[z2];simp
   grind
  .show(((R7 I rs).length:Nat):Int).toNat<=cap;omega
 unfold JC at e;split at e
 .rename_i b o n c;split at e
  .rename_i e0 fz cs hg;replace e:=Q9 e;obtain⟨hc,e⟩:=e;obtain⟨hc,c7⟩:=Q8 hc;obtain⟨hc,c6⟩:=Q8 hc;obtain⟨hc,c5⟩:=Q8 hc;obtain⟨hc,c4⟩:=Q8 hc;obtain⟨hc,c3⟩:=Q8 hc;obtain⟨c1,c2⟩:=Q8 hc;obtain rfl:=R2.1 c1;rw[R2]at c6;rw[R5]at c2 c3 c4 c5;rw[T4]at c7;split at e
   .obtain⟨L,hL,hv⟩:=rx;have hns:n*s<=c*s:=y6 _ c5;have hbr:=r.blk b _ L hg hL;obtain⟨_,_,_,_,_,_,q3,_⟩:=hbr;grind
   .cases e
  .cases e
 .rename_i b o n s';split at e
  .rename_i e0 fz cs hg;replace e:=Q9 e;obtain⟨hc,e⟩:=e;obtain⟨hc,c8⟩:=Q8 hc;obtain⟨hc,c7⟩:=Q8 hc;obtain⟨hc,c6⟩:=Q8 hc;obtain⟨hc,c5⟩:=Q8 hc;obtain⟨hc,c4⟩:=Q8 hc;obtain⟨hc,c3⟩:=Q8 hc;obtain⟨c1,c2⟩:=Q8 hc;obtain rfl:=R2.1 c1;obtain rfl:=R2.1 c5;rw[R2]at c6;rw[R5]at c2 c3 c4;rw[T4]at c7 c8;split at e
   .obtain⟨L,cap,hL,hcap,hv⟩:=rx;have hbr:=r.blk b _ L hg hL;obtain⟨_,_,_,_,_,_,q3,_⟩:=hbr;have hnc:n<=cap:=by
     have:n*s'<=cap*s':=by omega
     exact C0 this c8
    grind
   .cases e
  .cases e
 .rename_i b s';split at e
  .rename_i e0 sg l0 hg;replace e:=Q9 e;obtain⟨hc,e⟩:=e;obtain⟨hc,c6⟩:=Q8 hc;obtain⟨hc,c5⟩:=Q8 hc;obtain⟨hc,c4⟩:=Q8 hc;obtain⟨hc,c3⟩:=Q8 hc;obtain⟨c1,c2⟩:=Q8 hc;obtain rfl:=R2.1 c1;obtain rfl:=BI c3;obtain rfl:=R2.1 c4;rw[R5]at c2;obtain⟨rfl,rfl⟩:=e;rcases rx with⟨L,cap,hL,hcap,hv,_⟩|⟨hv,_⟩
   .obtain⟨C,e',lo,hi,q1,q0,q2,q3,q4,q5⟩:=r.arr hg hL;obtain⟨r1,s1⟩:=HR.rename (w':=w) r b _ (.arr e0 sg (.op .row [])) L L hg hL c2 rfl (λ_ _=>rfl) rfl rfl rfl rfl rfl ⟨C,e',lo,hi,q1,q0,q2,by show 0*_<=_;omega,λi v hi'=>by grind[dL,aM,R7,W7,Val.toL,T2],q5⟩;exact⟨_,r1,.inl ⟨L,cap,aQ.add_self _ _ _,hcap,hv,p7 _⟩,s1⟩
   .obtain⟨r1,s1⟩:=r.drop b;exact⟨O,r1.lay _,.inr ⟨hv,rfl⟩,s1.trans ⟨by simp,λ_ _=>rfl,λb hb _=>by left;rw[Heap.get_new,b9 (by omega)],rfl⟩⟩
  .cases e
 .cases e
theorem bW5(hfx: ∀t,I.fix t=cA E.P t)(r:HR O I K w0 h w){a c:AV}{va vc:Value}(ra:VR O I a va)(rc:VR O I c vc)(ts:Array TypeId)(ty:TypeId)(cs:Array Bool):
 aZ E O I K w0 w h (builtin .append ts ty cs #[va,vc]) (QA E.P ts a c h):=by
 have lift: ∀{x:AV} {h':Heap},Ok E.P O I K w0 w h (Builtin.append_ ts ty #[va,vc]) x h'->bf E O I K w0 w h (builtin .append ts ty cs #[va,vc]) x h':=λk=>bf.of k
 unfold QA;split
 .rename_i elem yt h1 h2;split
  .rename_i i z hi hz;split
   .rename_i sig nd ly hrows;cases hc:(Nat.blt 0 i.size&&Nat.beq z.cells.length i.size&&Nat.ble i.bytes 1000&&Nat.beq ts.size 2&&Nat.beq sig.length i.size&& !(cA E.P elem))with
    |false=>trivial
    |true=>
     obtain⟨hc,c7⟩:=Q8 hc;have hnf:I.fix elem=false:=by rw[hfx];simpa using c7
     obtain⟨hc,c5⟩:=Q8 hc;obtain⟨hc,c4⟩:=Q8 hc;obtain⟨hc,c3⟩:=Q8 hc;obtain⟨c1,c2⟩:=Q8 hc;rw[T4]at c1;rw[R2]at c2 c4 c5;rw[R5]at c3;simp[l6]at h1;obtain⟨t,h0,ht⟩:=h1;obtain rfl:=SP h0 h2 c4;obtain⟨i',zv,hi',hzi,hzs,hzv⟩:=RG hz;rw[hi]at hi';simp at hi';subst hi';have hzs':zv.cells.size=i.size:=hzs.trans c2;have hs0:dB I nd=true->SrcZ E.P i zv yt vc (dL I ly).length (T2 sig (dL I ly)) w:=λhd=>d05 r c5 c3 (hzv _ _) hzs' c1 hrows hd rc
     have fin: ∀(res:Res),qj E.P O I K w0 w h (Builtin.append_ #[t,yt] ty #[va,vc]) res->aZ E O I K w0 w h (builtin .append #[t,yt] ty cs #[va,vc]) res:=by
      intro res hr;cases res<;>first|exact hr.elim|trivial|(intro hd;exact lift (hr hd))
     unfold XI;split
     .rename_i p hp;obtain⟨ac,r1,rx,s1⟩:=cb5 r hnf (x':=p.1) (h':=p.2) hp ra;have:=VK (ty:=ty) r1 rx ht hi hzi hzs' c1 c3 c5 hnf hs0;refine fin _ ?_;revert this;cases Ac elem i.size sig nd ly p.1 p.2 with
      |need e v h'=>
       intro hh hd;obtain⟨an,u,w',y1,y2,y3,y4⟩:=hh hd;exact⟨an,u,w',y1,y2,y3,s1.trans y4⟩
      |bad=>intro _;trivial
      |_=>intro hh;exact hh.elim
     grind[VK]
   .trivial
  .trivial
 .trivial
end Go.Ev
namespace Go.Ev
open Go
variable{E:Env}{O:aQ}{I:Opq}{K:Nat->Prop}{w0 w:World}{h h':Heap}{af:Operand->Option AV}{ρ:Operand->Value}
def ux(c:CT)(x:Val):AV:=match c with
 | .int k=> .int k x.toI
 | .str=> .str x.toS
 | .bool=> .bool x.toB
def dO(r:Val):List CT->Nat->List AV
 | [],_=>[]
 |c::cs,j=>ux c (r.toL.getD j default)::dO r cs (j+1)
def cy(r:Val):List CT->Nat->List Value
 | [],_=>[]
 |c::cs,j=>dt c (r.toL.getD j default)::cy r cs (j+1)
theorem PG(c:CT)(x:Val):VR O I (ux c x) (dt c x):=by cases c<;>rfl
theorem yE(r:Val): ∀(sig:List CT) (j:Nat),aT O I (dO r sig j) (cy r sig j)
 | [],_=>rfl
 |c::cs,j=> .cons (PG c _) (yE r cs (j+1))
theorem sm(r:Val): ∀(sig:List CT) (j:Nat),(cy r sig j).length=sig.length
 | [],_=>rfl
 |c::cs,j=>by simp[cy,sm r cs (j+1)]
theorem Tx(r:Val): ∀(a b:List CT) (j:Nat),cy r (a++b) j=cy r a j++cy r b (j+a.length)
 | [],b,j=>rfl
 |c::a,b,j=>by
  have:=Tx r a b (j+1);simp[List.cons_append,cy,this,List.length_cons];rw[show j+1+a.length=j+(a.length+1) by omega]
theorem Xs(sig:List CT)(r:Val): ∀(s:List CT) (j:Nat),sig.drop j=s->(List.range' j s.length).map (λt=>dt (sig.getD t .bool) (r.toL.getD t default))=cy r s j
 | [],j,_=>rfl
 |c::s,j,h=>by
  have h1:sig.getD j .bool=c:=by
   have:=congrArg (λz:List CT=>z[0]?) h;grind
  have h2:sig.drop (j+1)=s:=by
   grind[List.tail_drop]
  rw[List.length_cons,D8,n9,h1,Xs sig r s (j+1) h2];rfl
theorem mC(sig:List CT)(r:Val):bv sig r=cy r sig 0:=by
 have:=Xs sig r sig 0 rfl;grind[bv,List.range_eq_range']
theorem Yo(ks vs:List CT)(r:Val):mV ks vs r=(gz (cy r ks 0),gz (cy r vs ks.length)):=by
 simp_all[mV,mC,Tx,l7,sm,E4,E5]
theorem Aj: ∀{a:List AV} {us:List Value},aT O I a us->VR O I (gU a) (gz us)
 | [],us,h=>by rw[show us=[]from h];exact⟨_,rfl,rfl⟩
 | [x],us,⟨v,vr,e,h1,h2⟩=>by rw[e,show vr=[]from h2];exact h1
 |x::y::r,us,⟨v,vr,e,h1,u,ur,e2,h3,h4⟩=>by
  rw[e,e2];exact⟨_,rfl,.cons h1 (.cons h3 h4)⟩
theorem II{us:List Value}(h:2<=us.length):gz us= .agg us.toArray:=by
 match us,h with
 |_::_::_,_=>rfl
def tC(I:Opq)(n:Nat)(k r:Val):Opq:=⟨I.v,λi=>if i<n then k.toL.getD i default else r.toL.getD (i-n) default,I.f,I.one,I.fix,I.gh⟩
theorem cb7(I:Opq)(c:CT)(e:SX):bz I (rC c e)=ux c (aM I e):=by cases c<;>rfl
theorem FB{aa:Opq}{r:Val}: ∀(s:List CT) (i j:Nat),(∀t,t<s.length->aa.w (i+t)=r.toL.getD (j+t) default)->nh aa (og s i)=dO r s j
 | [],_,_,_=>rfl
 |c::s,i,j,h=>by
  have h0:=h 0 (by simp);have ih:=FB s (i+1) (j+1) (λt ht=>by
   have:=h (t+1) (by simp;omega);rw[show i+1+t=i+(t+1) by omega,show j+1+t=j+(t+1) by omega];exact this)
  simp only[og,nh,dO,cb7,ih];rw[show aM aa (.va i)=aa.w i from rfl,show aa.w i=r.toL.getD j default by simpa using h0]
theorem XV{aa:Opq}{k r:Val}: ∀(s:List CT) (i j c:Nat),(∀t,t<s.length->aa.w (i+t)=k.toL.getD (c+t) default)->(∀t,t<s.length->aa.w (j+t)=r.toL.getD (c+t) default)->dB aa (Ed s i j)=tG r k s c
 | [],_,_,_,_,_=>rfl
 |q::s,i,j,c,h1,h2=>by
  have a:=h1 0 (by simp);have b:=h2 0 (by simp);simp at a b;have ih:=XV s (i+1) (j+1) (c+1) (λt ht=>by
   have:=h1 (t+1) (by grind);rw[show i+1+t=i+(t+1) by omega,show c+1+t=c+(t+1) by omega];exact this) (λt ht=>by
   have:=h2 (t+1) (by grind);rw[show j+1+t=j+(t+1) by omega,show c+1+t=c+(t+1) by omega];exact this)
  have hand: ∀x y:SX,dB aa (eF x y)=(dB aa x&&dB aa y):=λx y=>by
   unfold eF;split
   .rfl
   .split
    .show dB aa _=(dB aa _&&true);grind
    .rfl
  simp[Ed,tG,hand,ih];congr 1;cases q
  .show decide ((aa.w i).toI=(aa.w j).toI)=_;rw[a,b];rfl
  .show decide ((aa.w i).toS=(aa.w j).toS)=_;rw[a,b];rfl
  .show((aa.w i).toB==(aa.w j).toB)=_;rw[a,b];rfl
theorem cB0{P:Program}{kt:TypeId}{ks:List CT}(hk:pJ P kt ks=true)(k r:Val):fU P 10000 kt (.agg (dO k ks 0)) (.agg (dO r ks 0))=some (dR ks r k):=by
 obtain⟨_,hk⟩:=Q8 hk;split at hk
 .rename_i e he;obtain rfl:=SX.beq_eq _ _ hk;have:=MU (I:=tC ax ks.length k r) 10000 he;simp[bz]at this;rw[FB (r:=k) ks 0 0 (λt ht=>by simp[tC,ht]),FB (r:=r) ks ks.length 0 (λt ht=>by simp only[tC];rw[b9 (by omega),B3,l7])]at this;rw[this,XV (k:=k) (r:=r) ks 0 ks.length 0 (λt ht=>by simp[tC,ht]) (λt ht=>by simp only[tC];rw[b9 (by omega),B3,l7])];rfl
 grind
theorem JU{P:Program}{kt:TypeId}{ks:List CT}(hk:pJ P kt ks=true)(k:Val):lS P kt (.agg (dO k ks 0))=true:=by
 obtain⟨hk,_⟩:=Q8 hk;have e:dO k ks 0=nh (tC ax ks.length k k) (og ks 0):=(FB (r:=k) ks 0 0 (λt ht=>by simp[tC,ht])).symm;rw[e];unfold lS at hk⊢;split at hk
 .rename_i h1;cases h1
 .rename_i h1;cases h1
 .rename_i h1;cases h1
 .rename_i fields cs hu hq;cases hq;rw[hu];rw[O0]at hk⊢;intro f hf;obtain⟨h1,h2⟩:=Q8 (hk f hf);obtain⟨a,ha⟩:=N9.1 h1;rw[Lt ha,h2];rfl
 grind
def SM(ks vs:List CT)(r:Val):AV×AV:=(.agg (dO r ks 0),gU (dO r vs ks.length))
theorem Hm{ks vs:List CT}(h2:2<=ks.length): ∀{rows:List Val} {m:List MapEntry},(m.map λe=>(e.key,e.val))=rows.map (mV ks vs)-> ∃es,ERs O I es m/\(es.map λe=>(e.key,e.val))=rows.map (SM ks vs)
 | [],[],_=>⟨[],.nil,rfl⟩
 | [],_::_,h=>by cases h
 |_::_,[],h=>by cases h
 |r::rows,e::m,h=>by
  simp at h;obtain⟨es,h3,h4⟩:=Hm h2 (rows:=rows) (m:=m) h.2;rw[Yo]at h;obtain⟨k,v,b⟩:=e;have hk:k=gz (cy r ks 0):=congrArg Prod.fst h.1;refine⟨⟨.agg (dO r ks 0),gU (dO r vs ks.length),b⟩::es,.cons ?_ ?_ h3,by simp_all;rfl⟩
  .rw[hk,II (by rw[sm];exact h2)];exact⟨_,rfl,yE r ks 0⟩
  grind[Aj,yE]
theorem DO{P:Program}{kt:TypeId}{ks vs:List CT}(hk:pJ P kt ks=true)(k:Val): ∀{rows:List Val} {es:List Ent} (i:Nat),(es.map λe=>(e.key,e.val))=rows.map (SM ks vs)->
 (rows.findIdx (λr=>dR ks r k)=rows.length/\iO P kt (.agg (dO k ks 0)) es i=some none)\/
 ∃e r,rows.findIdx (λr=>dR ks r k)<rows.length/\rows[rows.findIdx (λr=>dR ks r k)]? =some r/\dR ks r k=true/\iO P kt (.agg (dO k ks 0)) es i=some (some (i+rows.findIdx (λr=>dR ks r k),e))/\e.key= .agg (dO r ks 0)/\e.val=gU (dO r vs ks.length)
 | [],[],i,_=> .inl ⟨rfl,rfl⟩
 | [],_::_,i,h=>by cases h
 |_::_,[],i,h=>by cases h
 |r::rows,e::es,i,h=>by
  simp at h;have h1:e.key= .agg (dO r ks 0):=congrArg Prod.fst h.1;have h2:e.val=gU (dO r vs ks.length):=congrArg Prod.snd h.1;have hq:=cB0 hk k r;rw[List.findIdx_cons];cases hc:dR ks r k with
  |true=>
   simp_all[iO,cond_true,Nat.add_zero]
  |false=>
   rw[hc]at hq;rcases DO hk k (i+1) h.2 with⟨a,b⟩|⟨e',r',a1,a2,a3,a4,a5,a6⟩
   .exact .inl ⟨by rw[a];rfl,by simp[iO,h1,hq];exact b⟩
   grind[List.length_cons,Nat.succ_lt_succ,iO]
theorem HR.marr{b:Nat}{d:Bool}{ks vs:List CT}{l:SX}{L:Loc}(r:HR O I K w0 h w)(hg:h.get b=some (.marr d ks vs l))(hb:O b=some L):
 ∃E c,w.heap[L.blk]? =some (.map E c)/\(E.toList.map λe=>(e.key,e.val))=(dL I l).map (mV ks vs)/\dG d E.toList c:=r.blk b _ L hg hb
theorem dG.push{d:Bool}{E:List MapEntry}{c:Nat}(h:dG d E c)(k x:Value):dG d (E++[⟨k,x,c⟩]) (c+1):=by
 obtain⟨h1,h2,h3⟩:=h;refine⟨?_,?_,?_⟩
 .rw[u4,List.pairwise_append];refine⟨h1,by simp,λa ha b hb=> ?_⟩;obtain⟨e,he,rfl⟩:=j8.1 ha;simp at hb;subst hb;exact h2 e he
 .intro e he;rcases t7.1 he with he|he
  .exact N5 (h2 e he)
  .simp at he;subst he;exact Nat.lt_succ_self _
 .intro hd;rw[u4,h3 hd,O4];rfl
theorem Xn{f:MapEntry->MapEntry}(hf: ∀e,(f e).born=e.born): ∀(E:List MapEntry) (i:Nat),(E.modify i f).map (·.born)=E.map (·.born)
 | [],i=>by grind
 |e::E,0=>by grind
 |e::E,i+1=>by simpa using Xn hf E i
theorem dG.modify{d:Bool}{E:List MapEntry}{c:Nat}(h:dG d E c)(i:Nat)(f:MapEntry->MapEntry)(hf: ∀e,(f e).born=e.born):dG d (E.modify i f) c:=by
 obtain⟨h1,h2,h3⟩:=h;have hm:=Xn hf E i;refine⟨by rw[hm];exact h1,λe he=> ?_,λhd=>by rw[hm];exact h3 hd⟩;have:e.born∈(E.modify i f).map (·.born):=List.mem_map_of_mem he;rw[hm]at this;obtain⟨e',he',q⟩:=j8.1 this;rw[<-q];exact h2 e' he'
theorem It(ks:List CT)(l:SX)(es:List SX):dI I (jh ks l es)=((dL I l).findIdx (λr=>dR ks r (.vl (R7 I es))):Nat):=rfl
theorem re(ks:List CT)(l:SX)(es:List SX):dB I (cX ks l es)=decide ((dL I l).findIdx (λr=>dR ks r (.vl (R7 I es)))<(dL I l).length):=by
 show decide (((dL I l).findIdx (λr=>dR ks r (.vl (R7 I es))):Int)<((dL I l).length:Int))=_;simp
theorem oG(c a b:SX):aM I (.op .ite [c,a,b])=bif dB I c then aM I a else aM I b:=rfl
theorem YB{ks:List CT}{l:SX}{es:List SX}{r:Val}(hh:dB I (cX ks l es)=true)(hr:(dL I l)[(dL I l).findIdx (λr=>dR ks r (.vl (R7 I es)))]? =some r): ∀(vs:List CT) (j:Nat) (zs:List SX),zs.length=vs.length->aT O I (iN ks l es vs j zs) (cy r vs j)
 | [],_,_,_=>by rfl
 |c::vs,j,[],h=>by simp at h
 |c::vs,j,z::zs,h=>by
  have ih:=YB hh hr vs (j+1) zs (by simpa using h);refine .cons ?_ ih;have e:aM I (.op .ite [cX ks l es,.op .lget [l,jh ks l es,.ci j],z])=r.toL.getD j default:=by
   rw[oG,hh];show S0 (dL I l) (dI I (jh ks l es)) (j:Int)=_;rw[It];show(((dL I l)[(dL I l).findIdx _]?).getD (.vl [])).toL.getD j default=_;rw[hr];rfl
  grind[wT]
theorem Yw{ks:List CT}{l:SX}{es:List SX}(hh:dB I (cX ks l es)=false): ∀(vs:List CT) (j i:Nat) (zs:List SX) (q:Val),zs.length=vs.length->(∀t,t<zs.length->q.toL.getD (i+t) default=aM I (zs.getD t (.cb false)))->aT O I (iN ks l es vs j zs) (cy q vs i)
 | [],_,_,_,_,_,_=>by rfl
 |c::vs,j,i,[],q,h,_=>by simp at h
 |c::vs,j,i,z::zs,q,h,hq=>by
  have ih:=Yw hh vs (j+1) (i+1) zs q (by simpa using h) (λt ht=>by
   have:=hq (t+1) (by simp;omega);rw[show i+1+t=i+(t+1) by omega];simpa using this)
  refine .cons ?_ ih;have e:aM I (.op .ite [cX ks l es,.op .lget [l,jh ks l es,.ci j],z])=q.toL.getD i default:=by
   rw[oG,hh];have:=hq 0 (by simp);simpa using this.symm
  grind[wT]
theorem ZB{vs:List CT}{z:AV}{v:Value}(hs:rJ vs z=true)(hv:VR O I z v)(hl:v.cells.toList.length=vs.length):gz v.cells.toList=v:=by
 match vs,hs with
 | [c],hs=>
   have h1:=VR.one hv (show z.one=true from hs);have:v.cells= #[v]:=by cases v<;>first|rfl|grind[Value.oneCell']
   rw[this];rfl
 |_::_::_,hs=>
  cases z with
  |agg cs=>
   obtain⟨xs,rfl,_⟩:=hv;show gz xs.toList=_;have:2<=xs.toList.length:=by
    have:xs.toList.length=_:=hl;grind
   rw[II this]
  |_=>cases hs
theorem Sk{c:CT}{x:Val}{v:Value}(h:VR O I (ux c x) v):v=dt c x:=by cases c<;>exact h
theorem PA(r:Val): ∀(sig:List CT) (j:Nat) {us:List Value},aT O I (dO r sig j) us->us=cy r sig j
 | [],_,_,h=>h
 |c::cs,j,_,⟨v,vr,e,h1,h2⟩=>by rw[e,Sk h1,PA r cs (j+1) h2];rfl
theorem d06(r:Val)(sig:List CT)(j:Nat){v:Value}(h:VR O I (gU (dO r sig j)) v):v=gz (cy r sig j):=by
 match sig,h with
 | [],⟨xs,e,h⟩=>rw[e];congr 1;exact I5.1 h
 | [c],h=>exact Sk h
 |c::d::s,⟨xs,e,h⟩=>
  rw[e,II (by rw[sm];simp),<-PA r (c::d::s) j h]
theorem Gb(I:Opq): ∀l:List SX,(R7 I l).length=l.length
 | []=>rfl
 |_::r=>by simp[R7,Gb I r]
theorem Ny(I:Opq): ∀(l:List SX) (t:Nat),t<l.length->(R7 I l).getD t default=aM I (l.getD t (.cb false))
 | [],t,h=>by simp at h
 |x::r,0,_=>rfl
 |x::r,t+1,h=>by
  have:=Ny I r t (by simpa using h);grind[R7]
theorem qK: ∀{sig:List CT} {vs:List AV} {es:List SX},Z9 sig vs=some es->es.length=sig.length
 | [],[],es,h=>by grind[Z9,Option.some.injEq]
 | [],_::_,es,h=>by cases h
 |_::_,[],es,h=>by cases h
 |c::cs,v::vs,es,h=>by
  unfold Z9 at h;split at h
  .rename_i e es' h1 h2;simp at h;subst h;simp[qK h2]
  .cases h
theorem UK{vs:List CT}{z:AV}(hs:rJ vs z=true):z.nt=true:=by
 unfold rJ at hs;split at hs
 .cases hs
 .cases z<;>first|rfl|cases hs
 .cases z<;>first|rfl|cases hs
theorem If(I:Opq): ∀a b:List SX,R7 I (a++b)=R7 I a++R7 I b
 | [],_=>rfl
 |x::a,b=>by simp[R7,If I a b]
theorem bW6{c:CT}{e e':SX}{u:Value}(h:aM I e'=aM I e)(r:VR O I (rC c e) u):VR O I (rC c e') u:=by
 have h1:=wT (O:=O) (I:=I) c e';have h2:u=dt c (aM I e):=by cases c<;>exact r
 grind
theorem Wg{ks:List CT}{l l':SX}{es:List SX}: ∀(vs:List CT) (j:Nat) (zs:List SX) {us:List Value},(∀t,t<zs.length->aM I (.op .ite [cX ks l' es,.op .lget [l',jh ks l' es,.ci ((j+t:Nat):Int)],zs.getD t (.cb false)])=aM I (.op .ite [cX ks l es,.op .lget [l,jh ks l es,.ci ((j+t:Nat):Int)],zs.getD t (.cb false)]))->
 aT O I (iN ks l es vs j zs) us->aT O I (iN ks l' es vs j zs) us
 | [],_,_,us,_,h=>by grind[iN]
 |c::vs,j,[],us,_,h=>by grind[iN]
 |c::vs,j,z::zs,us,hq,h=>by
  obtain⟨u,ur,rfl,h1,h2⟩:=h;refine .cons (bW6 ?_ h1) (Wg vs (j+1) zs (λt ht=> ?_) h2)
  .grind
  .have:=hq (t+1) (by simp;omega);grind
theorem bk7{ks:List CT}{l:SX}{es:List SX}: ∀(vs:List CT) (j:Nat) (zs:List SX),(iN ks l es vs j zs).length=min vs.length zs.length
 | [],_,_=>by rfl
 |c::vs,j,[]=>by rfl
 |c::vs,j,z::zs=>by
  show(iN ks l es vs (j+1) zs).length+1=_;rw[bk7 vs (j+1) zs];simp
theorem cb9{A B:List AV}{v:Value}(hl:A.length=B.length)(h: ∀us,aT O I A us->aT O I B us)(r:VR O I (gU A) v):VR O I (gU B) v:=by
 match A,B,hl with
 | [a],[b],_=>
   have h1:=h [v] ⟨v,[],rfl,r,rfl⟩;obtain⟨u,ur,e,h2,_⟩:=h1;obtain⟨rfl,_⟩:=K3 e;exact h2
 | [],[],_=>
   omega
 |a::b::A,c::d::B,_=>
  obtain⟨xs,e,h1⟩:=r;exact⟨xs,e,h _ h1⟩
theorem cB1(c:CT){x y:Val}(h:x=y):FF c x y=true:=by
 subst h;cases c<;>simp[FF]
theorem Uv{r k:Val}: ∀(s:List CT) (j:Nat),(∀t,t<s.length->k.toL.getD (j+t) default=r.toL.getD (j+t) default)->tG r k s j=true
 | [],_,_=>rfl
 |c::s,j,h=>by
  show(FF c _ _&&tG r k s (j+1))=true;rw[cB1 c (by simpa using h 0 (by simp)),Uv s (j+1) (λt ht=>by
   have:=h (t+1) (by simp;omega);grind)]
  rfl
theorem bk9{ks:List CT}{es zs:List SX}{l:SX}(hes:es.length=ks.length): ∀t,t<zs.length->aM I (.op .ite [cX ks (xy ks es zs l) es,.op .lget [xy ks es zs l,jh ks (xy ks es zs l) es,.ci ((ks.length+t:Nat):Int)],zs.getD t (.cb false)])=aM I (.op .ite [cX ks l es,.op .lget [l,jh ks l es,.ci ((ks.length+t:Nat):Int)],zs.getD t (.cb false)]):=by
 intro t ht;unfold xy;split
 .rename_i c l0 l1 ez;cases hc:(SX.beq c (cX ks l0 es)&&SX.beq l1 l0&&SX.beqs ez (es++zs))with
  |false=>rfl
  |true=>
   obtain⟨hc,h3⟩:=Q8 hc;obtain⟨h1,h2⟩:=Q8 hc;obtain rfl:=SX.beq_eq _ _ h1;obtain rfl:=SX.beq_eq _ _ h2;obtain rfl:=SX.beqs_eq _ _ h3;simp;cases hh:dB I (cX ks l1 es)with
   |true=>
    have hl:dL I (.op .ite [cX ks l1 es,l1,.op .lcat [l1,.op .row [.op .row (es++zs)]]])=dL I l1:=by
     show(aM I (.op .ite _)).toL=_;rw[oG,hh];rfl
    have hi:dI I (jh ks (.op .ite [cX ks l1 es,l1,.op .lcat [l1,.op .row [.op .row (es++zs)]]]) es)=dI I (jh ks l1 es):=by rw[It,It,hl]
    rw[oG,oG,re,re,hl];refine congrArg (λz=>bif _ then z else aM I (zs.getD t (.cb false))) ?_;show S0 (dL I l1) (dI I (jh ks l1 es)) _=S0 (dL I _) (dI I _) _;rw[hl,hi]
   |false=>
    have hl:dL I (.op .ite [cX ks l1 es,l1,.op .lcat [l1,.op .row [.op .row (es++zs)]]])=dL I l1++[.vl (R7 I (es++zs))]:=by
     show(aM I (.op .ite _)).toL=_;rw[oG,hh];rfl
    have hn: ∀x∈dL I l1,dR ks x (.vl (R7 I es))=false:=by
     rw[re,decide_eq_false_iff_not]at hh;have:=List.findIdx_eq_length.1 (O5 List.findIdx_le_length (K5 hh));intro x hx;simpa using this x hx
    have hk:dR ks (.vl (R7 I (es++zs))) (.vl (R7 I es))=true:=Uv ks 0 λt ht=>by
     show(R7 I es).getD (0+t) default=(R7 I (es++zs)).getD (0+t) default;have hdl:(R7 I es).length=ks.length:=by rw[Gb,hes]
     rw[show R7 I (es++zs)=R7 I es++R7 I zs from If I es zs,j9,j9,s8 (by omega)]
    have hi:(dL I l1++[Val.vl (R7 I (es++zs))]).findIdx (λr=>dR ks r (Val.vl (R7 I es)))=(dL I l1).length:=by
     rw[List.findIdx_append,List.findIdx_eq_length.2 (λx hx=>by simpa using hn x hx)];simp[hk]
    rw[oG,hh,oG,re,hl,hi];rw[show decide ((dL I l1).length<(dL I l1++[Val.vl (R7 I (es++zs))]).length)=true from e9 (by simp)];show aM I (zs.getD t (.cb false))=S0 (dL I _) (dI I (jh ks _ es)) ((ks.length+t:Nat):Int);rw[It,hl,hi];show _=((dL I l1++[Val.vl (R7 I (es++zs))]).getD (dL I l1).length (.vl [])).toL.getD (ks.length+t) default;rw[j9 (l:=dL I l1++_),l9 (i6 _),Nat.sub_self];show _=(R7 I (es++zs)).getD (ks.length+t) default;have hdl:(R7 I es).length=ks.length:=by rw[Gb,hes]
    rw[show R7 I (es++zs)=R7 I es++R7 I zs from If I es zs,j9 (l:=R7 I es++_),l9 (by omega),hdl,B3,<-j9,Ny I zs t ht]
 .rfl
theorem WV{ks vs:List CT}{es zs:List SX}{l:SX}{v:Value}(hes:es.length=ks.length)(r:VR O I (gU (iN ks l es vs ks.length zs)) v):VR O I (gU (iN ks (xy ks es zs l) es vs ks.length zs)) v:=
 cb9 (by grind[bk7]) (λus h=>Wg vs ks.length zs (bk9 hes) h) r
theorem bW7(r:HR O I K w0 h w)(o:bH O I af ρ)(t:TypeId)(m k:Operand)(ok:Bool):aZ E O I K w0 w h (do pure (.value (<-Instr.lookup t (ρ m) (ρ k) ok))) (Fk E.P t h (af m) (af k) ok):=by
 unfold Fk;split
 .rename_i kt et ht;split
  .rename_i b hm;split
   .rename_i cs hk;have rm:=o m _ hm;have rk:=o k _ hk;obtain⟨L,hL,em⟩:=rm;obtain⟨xs,ek,rx⟩:=rk;unfold Mt;split
    .rename_i d ks vs l z hg hz;split
     .rename_i es zs hes hzs;cases hc:(pJ E.P kt ks&&Nat.ble 2 ks.length&&rJ vs z)with
      |false=>trivial
      |true=>
       obtain⟨hc,hsh⟩:=Q8 hc;obtain⟨hkt,h2⟩:=Q8 hc;rw[R5]at h2;obtain⟨En,c,q1,q2,q3⟩:=r.marr hg hL;obtain⟨ents,hE,hmap⟩:=Hm h2 q2;have hxs:xs.toList=cy (.vl (R7 I es)) ks 0:=by rw[mw hes rx,mC]
       have rk':VR O I (.agg (dO (.vl (R7 I es)) ks 0)) (ρ k):=⟨xs,ek,by grind[yE]⟩;have hko:=JU hkt (.vl (R7 I es));rcases DO hkt (.vl (R7 I es)) 0 hmap with⟨a,hf⟩|⟨e,row,a1,a2,a3,hf,a5,a6⟩
       .have hhas:dB I (cX ks l es)=false:=by grind[re]
        obtain⟨v',hv',hrun⟩:=iM hko rk' hE hf;subst hv';obtain⟨zv,z1,z2⟩:=wQ hz;have hzc:=mw hzs ((z1 O I).cells (UK hsh));rw[mC]at hzc;have hvr:VR O I (gU (iN ks l es vs ks.length zs)) zv:=by
         have:=Aj (Yw (O:=O) hhas vs ks.length 0 zs (.vl (R7 I zs)) (qK hzs) (λt ht=>by rw[l7];exact Ny I zs t ht));rw[<-hzc]at this;rw[ZB hsh (z1 O I) (by rw[hzc,sm])]at this;exact this
        refine bf.pureV r (u:=if ok then .tuple #[zv,.bool false]else zv) ?_ ?_
        .cases ok
         .grind[WV,qK]
         .exact⟨_,rfl,.cons hvr (.one (by show _=Value.bool (dB I (cX ks l es));rw[hhas]))⟩
        .simp[em,Instr.lookup,Sem.run_bind,R1 ht,Result.andThen_ok,Sem.run_pure,U7 q1,iZ hko rk',hrun,z2]
       .have hhas:dB I (cX ks l es)=true:=by grind[re,decide_eq_true]
        obtain⟨v',hv',hrun⟩:=iM hko rk' hE hf;obtain⟨k2,v2,e1,e2,e3,e4,e5⟩:=hv';subst e1;rw[a6]at e5;have hv2:=d06 row vs ks.length e5;have hvr:VR O I (gU (iN ks l es vs ks.length zs)) v2:=by
         grind[Aj,YB,qK]
        refine bf.pureV r (u:=if ok then .tuple #[v2,.bool true]else v2) ?_ ?_
        .cases ok
         .grind[WV,qK]
         .exact⟨_,rfl,.cons hvr (.one (by show _=Value.bool (dB I (cX ks l es));rw[hhas]))⟩
        .simp[em,Instr.lookup,Sem.run_bind,R1 ht,Result.andThen_ok,Sem.run_pure,U7 q1,iZ hko rk',hrun]
     .trivial
    .trivial
   .trivial
  .trivial
 .trivial
theorem OS{r q:Val}: ∀(sig:List CT) (j i:Nat),(∀t,t<sig.length->r.toL.getD (j+t) default=q.toL.getD (i+t) default)->cy r sig j=cy q sig i
 | [],_,_,_=>rfl
 |c::cs,j,i,h=>by
  have h0:=h 0 (by simp);have ih:=OS cs (j+1) (i+1) (λt ht=>by
   have:=h (t+1) (by simp;omega);rw[show j+1+t=j+(t+1) by omega,show i+1+t=i+(t+1) by omega];exact this)
  simp_all[Nat.add_zero,cy]
theorem TV{r k:Val}: ∀(sig:List CT) (j:Nat),tG r k sig j=true->cy r sig j=cy k sig j
 | [],_,_=>rfl
 |c::cs,j,h=>by
  obtain⟨h1,h2⟩:=Q8 h;have:dt c (r.toL.getD j default)=dt c (k.toL.getD j default):=by
   cases c
   .have:=j6 h1;show Value.int _ _=Value.int _ _;rw[this]
   .have:=j6 h1;show Value.string _=Value.string _;rw[this]
   .have:=eq_of_beq h1;show Value.bool _=Value.bool _;rw[this]
  simp only[cy,this,TV cs (j+1) h2]
theorem SL(k:Val): ∀(sig:List CT) (j:Nat),((cy k sig j).zip (cy k sig j)).all (λ(x,y)=>Instr.sameBits 9999 x y)=true
 | [],_=>rfl
 |c::cs,j=>by
  simp only[cy,List.zip_cons_cons,List.all_cons,j7];exact⟨Mg (O:=λ_=>none) (I:=ax) (a:=ux c (k.toL.getD j default)) (b:=ux c (k.toL.getD j default)) 9999 (by cases c<;>simp[ux,Bh,pe,pO]) (PG c _) (PG c _),SL k cs (j+1)⟩
theorem d07{ks vs:List CT}{es xs:List SX}{a b:List Value}(h1:es.length=ks.length)(h2:xs.length=vs.length)(ha:a=bv ks (.vl (R7 I es)))(hb:b=bv vs (.vl (R7 I xs))):mV ks vs (.vl (R7 I (es++xs)))=(gz a,gz b):=by
 rw[Yo,ha,hb,mC,mC,If];have q1:=Gb I es;congr 2
 .refine OS ks 0 0 λt ht=> ?_
  show(R7 I es++R7 I xs).getD (0+t) default=(R7 I es).getD (0+t) default;grind
 .refine OS vs ks.length 0 λt ht=> ?_
  show(R7 I es++R7 I xs).getD (ks.length+t) default=(R7 I xs).getD (0+t) default;grind
theorem cc0{vs:List CT}{x:AV}{v:Value}(hs:rJ vs x=true)(hv:VR O I x v){b:List Value}(hb:v.cells.toList=b)(hl:b.length=vs.length):gz b=v:=by
 grind[ZB]
theorem bW8{α:Type}{l:List α}{i:Nat}{e:α}{f:α->α}(h:l[i]? =some e):l.modify i f=l.set i (f e):=by
 refine K6 λj=> ?_
 grind
theorem cB2{ks:List CT}{l:SX}{es xs:List SX}(h:dB I (cX ks l es)=true):dL I (Do ks l es xs)=(dL I l).set ((dL I l).findIdx (λr=>dR ks r (.vl (R7 I es)))) (.vl (R7 I (es++xs))):=by
 show(aM I (.op .ite _)).toL=_;rw[oG,h];rfl
theorem cB3{ks:List CT}{l:SX}{es xs:List SX}(h:dB I (cX ks l es)=false):dL I (Do ks l es xs)=dL I l++[.vl (R7 I (es++xs))]:=by
 show(aM I (.op .ite _)).toL=_;rw[oG,h];rfl
theorem Zn(r:HR O I K w0 h w)(o:bH O I af ρ)(t:TypeId)(m k x:Operand):aZ E O I K w0 w h (do Instr.mapUpdate t (ρ m) (ρ k) (ρ x);pure .skip) (HB E.P t h (af m) (af k) (af x)):=by
 unfold HB;split
 .rename_i kt et ht;split
  .rename_i b hm;split
   .rename_i cs hk;split
    .rename_i xv hx;split
     .split
      .rename_i ks vs hks hvs;have rm:=o m _ hm;have rk:=o k _ hk;have rx:=o x _ hx;obtain⟨L,hL,em⟩:=rm;obtain⟨kx,ek,rkx⟩:=rk;unfold YG;split
       .rename_i es xs hes hxs;cases hc:(pJ E.P kt ks&&Nat.ble 2 ks.length&&rJ vs xv&&Nat.ble h.wm b)with
        |false=>trivial
        |true=>
         obtain⟨hc,hwm⟩:=Q8 hc;obtain⟨hc,hsh⟩:=Q8 hc;obtain⟨hkt,h2⟩:=Q8 hc;rw[R5]at h2 hwm;have hkx:=mw hes rkx;have hvx:=mw hxs (rx.cells (UK hsh));have l1:=qK hes;have l2:=qK hxs;have hent:=d07 (I:=I) l1 l2 hkx hvx;have hkey:gz kx.toList=ρ k:=by
          rw[ek,II (by rw[hkx,mC,sm];exact h2)]
         have hval:gz (ρ x).cells.toList=ρ x:=cc0 hsh rx rfl (by rw[hvx,mC,sm]);rw[hkey,hval]at hent;have hkc:kx.toList=cy (.vl (R7 I es)) ks 0:=by rw[hkx,mC]
         have rk':VR O I (.agg (dO (.vl (R7 I es)) ks 0)) (ρ k):=⟨kx,ek,by rw[hkc];exact yE _ _ _⟩;have hko:=JU hkt (.vl (R7 I es));split
         .rename_i d ks' vs' l hg;cases hq:(cZ ks' ks&&cZ vs' vs)with
          |false=>trivial
          |true=>
           obtain⟨e1,e2⟩:=Q8 hq;obtain rfl:=BI e1;obtain rfl:=BI e2;obtain⟨En,c,q1,q2,q3⟩:=r.marr hg hL;obtain⟨ents,hE,hmap⟩:=Hm h2 q2;refine bf.ofU ?_;rcases DO hkt (.vl (R7 I es)) 0 hmap with⟨a,hf⟩|⟨e,row,a1,a2,a3,hf,a5,a6⟩
           .have hhas:dB I (cX ks' l es)=false:=by rw[re,a];simp
            obtain⟨v',hv',hrun⟩:=iM hko rk' hE hf;subst hv';obtain⟨p1,p2⟩:=r.set1 b _ (.marr d ks' vs' (Do ks' l es xs)) L (.map (En.push ⟨ρ k,ρ x,c⟩) (c+1)) hg hL hwm
             ⟨_,_,rfl,by rw[I2,u4,q2,cB3 hhas,u4];simp_all,by rw[I2];exact q3.push _ _⟩
            refine⟨_,?_,p1,p2⟩;simp[em,Instr.mapUpdate,Sem.run_bind,R1 ht,Result.andThen_ok,U7 q1,iZ hko rk',hrun,Z0 _ q1]
           .have hhas:dB I (cX ks' l es)=true:=by rw[re];exact e9 a1
            obtain⟨v',hv',hrun⟩:=iM hko rk' hE hf;obtain⟨k2,v2,e1,e2,e3,e4,e5⟩:=hv';subst e1;rw[l7]at e2 e3;have he3:En[(dL I l).findIdx (λr=>dR ks' r (.vl (R7 I es)))]? =some ⟨k2,v2,e.born⟩:=by simpa using e3
            have hk2:k2=ρ k:=by
             rw[a5]at e4;obtain⟨ys,ey,ry⟩:=e4;have:=PA row ks' 0 ry;rw[TV ks' 0 a3,<-hkc]at this;rw[ey,ek,I5.1 this]
            have hsb:Instr.sameBits 10000 (ρ k) (ρ k)=true:=by
             rw[ek];show(kx.size==kx.size&&(kx.toList.zip kx.toList).all λ(x,y)=>Instr.sameBits 9999 x y)=true;rw[hkc,SL];simp
            have hst: ∀w,(Instr.keyThatStays k2 (ρ k)).run E.P w= .ok (ρ k) w:=λw=>by simp[Instr.keyThatStays,hk2,hsb]
            obtain⟨p1,p2⟩:=r.set1 b _ (.marr d ks' vs' (Do ks' l es xs)) L (.map (En.modify ((dL I l).findIdx (λr=>dR ks' r (.vl (R7 I es)))) λx'=>{x' with key:=ρ k,val:=ρ x}) c) hg hL hwm
             ⟨_,_,rfl,by
              rw[I1,cB2 hhas,List.map_set,hent,<-q2];rw[bW8 e3,List.map_set],by rw[I1];exact q3.modify _ _ (λ_=>rfl)⟩
            refine⟨_,?_,p1,p2⟩;simp[em,Instr.mapUpdate,Sem.run_bind,R1 ht,Result.andThen_ok,U7 q1,iZ hko rk',hrun,l7,he3,Option.map_some,Option.getD_some,hst,Z0 _ q1]
         .rename_i c hg;obtain⟨En,q1,q2⟩:=r.map hg hL;have hE:En= #[]:=by
           have:En.toList=[]:=by generalize En.toList=z at q2;cases q2;rfl
           exact I5.1 this
          subst hE;refine bf.ofU ?_;have hf:iO E.P kt (.agg (dO (.vl (R7 I es)) ks 0)) [] 0=some none:=rfl;obtain⟨v',hv',hrun⟩:=iM (O:=O) (I:=I) hko rk' (es:=[]) (m:=[]) .nil hf;subst hv';obtain⟨p1,p2⟩:=r.set1 b _ (.marr (Nat.beq c 0) ks vs (.op .row [.op .row (es++xs)])) L (.map (#[].push ⟨ρ k,ρ x,c⟩) (c+1)) hg hL hwm
           ⟨_,_,rfl,by
            show [(ρ k,ρ x)]=[mV ks vs (.vl (R7 I (es++xs)))];rw[hent],dG.push (E:=[]) (dG.nil c) _ _⟩
          refine⟨_,?_,p1,p2⟩;simp[em,Instr.mapUpdate,Sem.run_bind,R1 ht,Result.andThen_ok,U7 q1,iZ hko rk',hrun,Z0 _ q1]
         .trivial
       .trivial
      .trivial
     .trivial
    .trivial
   .trivial
  .trivial
 .trivial
end Go.Ev
namespace Go.Ev
open Go
variable{E:Env}{O:aQ}{I:Opq}{K:Nat->Prop}{w0 w:World}{h h':Heap}{af:Operand->Option AV}{ρ:Operand->Value}
theorem dG.len{E:List MapEntry}{c:Nat}(h:dG true E c):E.length=c:=by
 have:=congrArg List.length (h.2.2 rfl);grind
theorem bW9(r:HR O I K w0 h w)(o:bH O I af ρ)(t:TypeId)(m k:Operand):aZ E O I K w0 w h (do pure (.value (<-Instr.mapEntry t (ρ m) (ρ k)))) (WG E.P t h (af m) (af k)):=by
 trivial
theorem cc1(r:HR O I K w0 h w)(o:bH O I af ρ)(t:TypeId)(m s x:Operand):aZ E O I K w0 w h (do Instr.entryStore t (ρ m) (ρ s) (ρ x);pure .skip) (Xc h (af m) (af s) (af x)):=by
 trivial
theorem dG.erase{d:Bool}{E:List MapEntry}{c:Nat}(h:dG d E c)(i:Nat):dG false (E.eraseIdx i) c:=by
 have hs:=List.eraseIdx_sublist E i;exact⟨h.1.sublist (hs.map _),λe he=>h.2.1 e (hs.subset he),λhh=>by cases hh⟩
theorem Vw{α γ:Type}(f:α->γ): ∀(l:List α) (i:Nat),(l.eraseIdx i).map f=(l.map f).eraseIdx i
 | [],_=>rfl
 |_::_,0=>rfl
 |a::l,i+1=>by simp[List.eraseIdx,Vw f l i]
theorem d08{ts:Array TypeId}{ty:TypeId}{m k:AV}{vm vk:Value}(r:HR O I K w0 h w)(rm:VR O I m vm)(rk:VR O I k vk):qj E.P O I K w0 w h (Builtin.delete_ ts ty #[vm,vk]) (OF E.P ((ts[0]?).bind E.P.underlying) h m k):=by
 unfold OF;split
 .rename_i kt et ht;simp[l6]at ht;obtain⟨t,h0,ht⟩:=ht;split
  .rename_i b;split
   .obtain⟨L,hL,rfl⟩:=rm;obtain⟨kx,rfl,rkx⟩:=rk;unfold SI;split
    .rename_i d ks vs l hg;split
     .rename_i es hes;cases hc:(pJ E.P kt ks&&Nat.ble 2 ks.length&&Nat.ble h.wm b)with
      |false=>trivial
      |true=>
       obtain⟨hc,hwm⟩:=Q8 hc;obtain⟨hkt,h2⟩:=Q8 hc;rw[R5]at h2 hwm;intro _;obtain⟨En,c,q1,q2,q3⟩:=r.marr hg hL;obtain⟨ents,hE,hmap⟩:=Hm h2 q2;have hkx:=mw hes rkx;have hkc:kx.toList=cy (.vl (R7 I es)) ks 0:=by rw[hkx,mC]
       have rk':VR O I (.agg (dO (.vl (R7 I es)) ks 0)) (.agg kx):=⟨kx,rfl,by grind[yE]⟩;have hko:=JU hkt (.vl (R7 I es));have hden:dL I (.op (.mdel ks) [l,.op .row es])=(dL I l).eraseIdx ((dL I l).findIdx λr=>dR ks r (.vl (R7 I es))):=rfl;rcases DO hkt (.vl (R7 I es)) 0 hmap with⟨a,hf⟩|⟨e,row,a1,a2,a3,hf,a5,a6⟩
       .obtain⟨v',hv',hrun⟩:=iM hko rk' hE hf;subst hv';obtain⟨p1,p2⟩:=r.set1 b _ (.marr false ks vs (.op (.mdel ks) [l,.op .row es])) L (.map En c) hg hL hwm
         ⟨_,_,rfl,by simp_all[List.eraseIdx_of_length_le,i6],q3.weak rfl⟩
        refine⟨O,_,_,?_,⟨_,rfl,rfl⟩,p1,p2⟩;simp[Builtin.delete_,h0,R1 ht,U7 q1,iZ hko rk',hrun,Z0 _ q1]
       .obtain⟨v',hv',hrun⟩:=iM hko rk' hE hf;obtain⟨k2,v2,e1,e2,e3,e4,e5⟩:=hv';subst e1;have hi:(dL I l).findIdx (λr=>dR ks r (.vl (R7 I es)))<En.size:=by
         grind
        obtain⟨p1,p2⟩:=r.set1 b _ (.marr false ks vs (.op (.mdel ks) [l,.op .row es])) L (.map (En.eraseIdxIfInBounds ((dL I l).findIdx λr=>dR ks r (.vl (R7 I es)))) c) hg hL hwm
         ⟨_,_,rfl,by simp_all[Array.eraseIdxIfInBounds,dif_pos,O2,Vw],by rw[Array.eraseIdxIfInBounds,dif_pos hi,O2];exact q3.erase _⟩
        refine⟨O,_,_,?_,⟨_,rfl,rfl⟩,p1,p2⟩;simp[Builtin.delete_,h0,R1 ht,U7 q1,iZ hko rk',hrun,Z0 _ q1]
     .trivial
    .trivial
   .trivial
  .trivial
 .trivial
end Go.Ev
namespace Go.Ev
open Go
variable{E:Env}{O:aQ}{I:Opq}{K:Nat->Prop}{w0 w:World}{h:Heap}{af:Operand->Option AV}{ρ:Operand->Value}
theorem Yx(sig:List CT)(r:Val): ∀(l:List Val) (k:Nat),k<l.length->T2 sig (l.set k r)=(T2 sig l).take (k*sig.length)++(bv sig r++(T2 sig l).drop (k*sig.length+sig.length))
 | [],k,h=>by simp at h
 |a::l,0,h=>by
  have e:T2 sig (a::l)=bv sig a++T2 sig l:=by simp[T2]
  have e2:T2 sig ((a::l).set 0 r)=bv sig r++T2 sig l:=by simp[T2]
  simp_all[V7,I0,List.take_zero,List.nil_append,l7,List.drop_append_of_le_length,K7]
 |a::l,k+1,h=>by
  have e:T2 sig (a::l)=bv sig a++T2 sig l:=by simp[T2]
  have e2:T2 sig ((a::l).set (k+1) r)=bv sig a++T2 sig (l.set k r):=by simp[T2]
  have hl:=V7 sig a;have ih:=Yx sig r l k (by simpa using h);have t1:(bv sig a++T2 sig l).take (k*sig.length+sig.length)=bv sig a++(T2 sig l).take (k*sig.length):=by
   rw[show k*sig.length+sig.length=(bv sig a).length+k*sig.length by omega,List.take_length_add_append]
  have t2:(bv sig a++T2 sig l).drop (k*sig.length+sig.length+sig.length)=(T2 sig l).drop (k*sig.length+sig.length):=by
   rw[show k*sig.length+sig.length+sig.length=(bv sig a).length+(k*sig.length+sig.length) by omega,List.drop_length_add_append]
  simp_all[r9,E2,y8]
theorem cB4{sig:List CT}{old:Val}{c0 es c1:List Val}{j n:Nat}(hj:j+n<=sig.length)(h0:c0=(List.range' 0 j).map λt=>old.toL.getD t default)(hn:es.length=n)(h1:c1=(List.range' (j+n) (sig.length-(j+n))).map λt=>old.toL.getD t default):
 bv sig (.vl (c0++(es++c1)))=(bv sig old).take j++(bv ((sig.drop j).take n) (.vl es)++(bv sig old).drop (j+n)):=by
 have l0:c0.length=j:=by rw[h0];simp
 apply K6;intro i;have hsub:((sig.drop j).take n).length=n:=by simp;omega
 have hold:=V7 sig old;rcases k5 i sig.length with hi|hi
 .rw[wI hi];show some (dt _ ((c0++(es++c1)).getD i default))=_;rcases k5 i j with q|q
  .rw[s8 (by rw[k7];omega),A4,e8 q,wI hi];congr 2;rw[j9,s8 (by omega),h0];simp[q]
  .rcases k5 i (j+n)with q2|q2
   .rw[l9 (by rw[k7];omega),k7,A0 (by omega)];rw[s8 (by rw[V7,hsub];omega),wI (by omega)];congr 2
    .rw[j9,j9,A4,e8 (by omega),A9,show j+(i-j)=i by omega]
    .show _=es.getD (i-j) default;rw[j9,j9,l9 (by omega),l0,s8 (by omega)]
   .rw[l9 (by rw[k7];omega),k7,A0 (by omega)];rw[l9 (by rw[V7,hsub];omega),V7,hsub,A9,show j+n+(i-j-n)=i by omega,wI hi];congr 2;rw[j9,l9 (by omega),l9 (by omega),l0,hn,h1];rw[B0,List.getElem?_range' (by omega)];simp only[Option.map_some,Option.getD_some];congr 1;omega
 grind[List.getElem?_eq_none,V7,List.length_append,List.length_take,List.length_drop]
theorem Wy(I:Opq): ∀a b:List SX,R7 I (a++b)=R7 I a++R7 I b
 | [],b=>rfl
 |x::a,b=>by simp[List.cons_append,R7,Wy I a b]
theorem PI(l idx:SX): ∀n j,R7 I (gn l idx j n)=(List.range' j n).map λ(t:Nat)=>S0 (dL I l) (dI I idx) (t:Int)
 |0,j=>rfl
 |n+1,j=>by
  simp[gn,R7,PI l idx n (j+1),D8,n9];rfl
theorem bX0{c:CT}{v:AV}{e:SX}(h:zC c v=some e):v.one=true:=by
 unfold zC at h;split at h
 .split at h
  .rename_i k' e' hs;unfold fx at hs;split at hs<;>first|rfl|cases hs
  .cases h
 .unfold iP at h;split at h<;>first|rfl|cases h
 .unfold hZ at h;split at h<;>first|rfl|cases h
theorem QT: ∀{sig:List CT} {vs:List AV} {es:List SX},Z9 sig vs=some es->vs.all AV.one=true/\es.length=vs.length
 | [],[],es,h=>by simp[Z9,j0]at h;subst h;exact⟨rfl,rfl⟩
 | [],_::_,es,h=>by cases h
 |_::_,[],es,h=>by cases h
 |c::cs,v::vs,es,h=>by
  simp[Z9]at h;split at h
  .rename_i e es' h1 h2;simp at h;subst h;obtain⟨a,b⟩:=QT h2;simp only[List.all_cons,j7,List.length_cons];exact⟨⟨bX0 h1,a⟩,by rw[b]⟩
  .cases h
theorem RQ(I:Opq): ∀l:List SX,(R7 I l).length=l.length
 | []=>rfl
 |a::r=>by simp[R7,List.length_cons,RQ I r]
theorem Tv{cs:List AV}{vs:List Value}{n:Nat}(hd: ∀(O:aQ) us,aT O I cs us->us=vs)(h0: ∀O:aQ,aT O I cs vs){O:aQ}{us:List Value}(hu:aT O I (cs.take n) us):us=vs.take n:=by
 have h1:=hu.append ((h0 O).drop n);rw[u5]at h1;have h2:=hd O _ h1;have hl:=hu.length;have hv:=(h0 O).length;rw[<-h2];rw[k7]at hl;rcases Nat.le_total n cs.length with q|q
 .rw[O6 (by omega),G0 (by omega)]
 .have:vs.drop n=[]:=K7 (by omega);rw[this,p9,G0 (by omega)]
theorem RT{cs:List AV}{vs:List Value}{n:Nat}(hd: ∀(O:aQ) us,aT O I cs us->us=vs)(h0: ∀O:aQ,aT O I cs vs){O:aQ}{us:List Value}(hu:aT O I (cs.drop n) us):us=vs.drop n:=by
 have h1:=((h0 O).take n).append hu;rw[u5]at h1;have hv:=(h0 O).length;rcases Nat.le_total n cs.length with q|q
 .grind
 .have hul:=hu.length;grind
theorem cc2(hfx: ∀t,I.fix t=cA E.P t)(r:HR O I K w0 h w)(o:bH O I af ρ)(t:TypeId)(x y:Operand):aZ E O I K w0 w h (do Instr.storeAt t (ρ x) (ρ y);pure .skip) (Oe E.P t h (af x) (af y)):=by
 unfold Oe;split
 .rename_i b idx j sz v n hx hy hn;unfold Rp;split
  .rename_i el sig l hg;cases hc:(Nat.beq sig.length sz&&Nat.ble (j+n) sz&&v.nt&&Nat.beq v.cells.length n&&Nat.ble h.wm b&&Nat.blt 0 n&& !(cA E.P el)&& !(Nat.beq el eQ))with
   |false=>trivial
   |true=>
    obtain⟨hc,c8⟩:=Q8 hc;have hne:el≠eQ:=λe=>by simp_all
    obtain⟨hc,c7⟩:=Q8 hc;have hnf:I.fix el=false:=by grind
    obtain⟨hc,c6⟩:=Q8 hc;obtain⟨hc,c5⟩:=Q8 hc;obtain⟨hc,c4⟩:=Q8 hc;obtain⟨hc,c3⟩:=Q8 hc;obtain⟨c1,c2⟩:=Q8 hc;obtain rfl:=R2.1 c1;rw[R2]at c4;rw[R5]at c2 c5;rw[T4]at c6;simp only[cond_true];unfold Uf;split
    .rename_i es hes;intro hd;obtain⟨d1,d2⟩:=zG hd;rw[jt]at d2;have hk:(dI I idx).toNat<(dL I l).length:=by omega
     have hvx:=o x _ hx;have hvy:=o y _ hy;simp only[VR]at hvx;obtain⟨L,hL,hvx⟩:=hvx;have hb65:=Heap.get_lim h b _ hg;have bN: ∀(hh:Heap) (x:Option Blk) (z:Nat),(hh.put b x).get z=if z=b then(if b<65536 then x else none)else hh.get z:=λhh x z=>Heap.get_put _ _ _ _
     obtain⟨ocs,m1,m2,m3,m4⟩:=Ea I sig (dL I l);have m3':ocs.length=(dL I l).length*sig.length:=by rw[m3,T3]
     have r2:HR O I K w0 (h.put b (some (.cells el 0 ocs))) w:=by
      refine HR.retell (y:= .cells el 0 ocs) r hg (.inl c5) ?_ rfl rfl (λz=>by rw[bN,e8 hb65]);intro L' hL' hbr;obtain⟨C,e',lo,hi,z1,z0,z2,z3,z4,z5⟩:=hbr;rw[z0.resolve_right hne]at z1;refine⟨C,lo,hi,T2 sig (dL I l),z1,z2,by rw[m3,T3];exact z3,nB m2,m1 O,λk hk=> ?_,λk _ hk=>z5 k hk,λhh=>by rw[hnf]at hh;cases hh⟩;grind
     have hg2:(h.put b (some (.cells el 0 ocs))).get b=some (.cells el 0 ocs):=by grind
     obtain⟨hone,helen⟩:=QT hes;have hkk:(dI I idx).toNat*sig.length+sig.length<=(dL I l).length*sig.length:=by
      have:=y6 sig.length (show(dI I idx).toNat+1<=(dL I l).length from hk);grind
     have hst:CN E.P t (.ptr b ((dI I idx).toNat*sig.length+j)) v (h.put b (some (.cells el 0 ocs)))=some ((h.put b (some (.cells el 0 ocs))).put b (some (.cells el 0 (gi ocs ((dI I idx).toNat*sig.length+j) v.cells)))):=by
      simp[CN,hn,c3,c4,A5,show Nat.beq n n=true from R2.2 rfl,cond_true];cases hcs:v.cells with
      |nil=>grind
      |cons a as=>
       simp only[putCells,hcs];rw[<-hcs,hg2];simp;rw[show(Nat.ble h.wm b&&Nat.ble 0 ((dI I idx).toNat*sig.length+j)&&Nat.ble ((dI I idx).toNat*sig.length+j+v.cells.length) ocs.length&&v.cells.all AV.one)=true by
        rw[hone,R5.2 c5,R5.2 (p7 _),R5.2 (by omega)];rfl]
       rfl
     obtain⟨w',e1,e2,e3⟩:=bi9 (P:=E.P) r2 hst (vx:=ρ x) (vv:=ρ y) ⟨L,hL,by grind⟩ hvy;have hrow:=mw hes (VR.cells hvy c3);have fp:dL I (.op .lset [l,idx,.op .row (gn l idx 0 j++(es++gn l idx (j+n) (sig.length-(j+n))))])=(dL I l).set (dI I idx).toNat (.vl (R7 I (gn l idx 0 j)++(R7 I es++R7 I (gn l idx (j+n) (sig.length-(j+n)))))):=by
      show(dL I l).set (dI I idx).toNat (.vl (R7 I _))=_;grind[Wy]
     have hgv: ∀c:Nat,S0 (dL I l) (dI I idx) c=((dL I l).getD (dI I idx).toNat (.vl [])).toL.getD c default:=λc=>by rfl
     have hmix:=cB4 (sig:=sig) (old:=(dL I l).getD (dI I idx).toNat (.vl [])) (c0:=R7 I (gn l idx 0 j)) (es:=R7 I es) (c1:=R7 I (gn l idx (j+n) (sig.length-(j+n)))) (j:=j) (n:=n) c2
      (by grind[PI,List.map_congr_left]) (by grind[RQ]) (by grind[PI,List.map_congr_left])
     have hflat:T2 sig (dL I (.op .lset [l,idx,.op .row (gn l idx 0 j++(es++gn l idx (j+n) (sig.length-(j+n))))]))=
      (T2 sig (dL I l)).take ((dI I idx).toNat*sig.length+j)++((ρ y).cells.toList++(T2 sig (dL I l)).drop ((dI I idx).toNat*sig.length+j+n)):=by
      rw[fp,Yx sig _ _ _ hk,hmix,<-hrow];have hfl:=T3 sig (dL I l);have hold:bv sig ((dL I l).getD (dI I idx).toNat (.vl []))=((T2 sig (dL I l)).drop ((dI I idx).toNat*sig.length)).take sig.length:=by
       apply K6;intro c;rcases k5 c sig.length with q|q
       .rw[wI q,A4,e8 q,A9,DM q hk]
       simp_all[s7,V7,A4,b9]
      rw[hold];generalize T2 sig (dL I l)=F at hfl⊢;generalize (dI I idx).toNat*sig.length=q at hkk⊢;rw[<-hfl]at hkk;apply K6;intro c;have hcl:(ρ y).cells.toList.length=n:=by rw[<-c4];exact(VR.cells hvy c3).length
      rcases k5 c q with q1|q1
      .rw[s8 (by rw[k7];omega),s8 (by rw[k7];omega),A4,e8 q1,A4,e8 (by omega)]
      .rw[l9 (by grind),k7,A0 (by omega)];rcases k5 c (q+j)with q2|q2
       .rw[s8 (by grind),s8 (by grind),A4,e8 (by omega),A4,e8 (by omega),A9,show q+(c-q)=c by omega,
         s8 (by grind),A4,e8 q2]
       .rw[l9 (l₁:=F.take (q+j)) (by grind),k7,A0 (by omega)];rcases k5 c (q+j+n)with q3|q3
        .rw[s8 (by simp_all;omega),l9 (by simp;omega),s8 (by simp_all;omega),
          s8 (by omega)]
         congr 1;simp;omega
        .rcases k5 c (q+sig.length)with q4|q4
         .rw[s8 (by simp_all;omega),l9 (by simp;omega),l9 (by simp_all;omega),
           l9 (by omega),A9,A4,A9,A9,e8 (by simp_all;omega)]
          grind
         .rw[l9 (by simp_all;omega),l9 (l₁:=(ρ y).cells.toList) (by omega),A9,A9];congr 1;simp_all;omega
     refine⟨O,Go.undef,w',.inr ⟨rfl,by simp_all⟩,⟨#[],rfl,rfl⟩,?_,?_⟩
     .refine HR.retell (y:= .arr el sig (.op .lset [l,idx,.op .row (gn l idx 0 j++(es++gn l idx (j+n) (sig.length-(j+n))))])) e2 (b:=b) (x:= .cells el 0 (gi ocs ((dI I idx).toNat*sig.length+j) v.cells)) (by rw[bN,e8 rfl,e8 hb65]) (.inr rfl) ?_ rfl rfl (λz=> ?_)
      .intro L' hL' hbr;obtain⟨C,lo,hi,vs,q1,q2,q3,q4,q5,q6,q7,q8⟩:=hbr;have hvs:vs=T2 sig (dL I (.op .lset [l,idx,.op .row (gn l idx 0 j++(es++gn l idx (j+n) (sig.length-(j+n))))])):=by
        rw[hflat];unfold gi at q5;have hdet: ∀(O:aQ) us,aT O I v.cells us->us=(ρ y).cells.toList:=λO us hu=>(mw hes hu).trans hrow.symm
        have hdet1: ∀(O:aQ) us,aT O I (ocs.take ((dI I idx).toNat*sig.length+j)) us->us=(T2 sig (dL I l)).take ((dI I idx).toNat*sig.length+j):=λO us hu=>Tv m4 m1 hu
        have hdet2: ∀(O:aQ) us,aT O I (ocs.drop ((dI I idx).toNat*sig.length+j+v.cells.length)) us->us=(T2 sig (dL I l)).drop ((dI I idx).toNat*sig.length+j+v.cells.length):=λO us hu=>RT m4 m1 hu
        have t1:=q5.take (ocs.take ((dI I idx).toNat*sig.length+j)++v.cells).length;have t2:=q5.drop (ocs.take ((dI I idx).toNat*sig.length+j)++v.cells).length;rw[E4]at t1;rw[E5]at t2;have t3:=t1.take (ocs.take ((dI I idx).toNat*sig.length+j)).length;have t4:=t1.drop (ocs.take ((dI I idx).toNat*sig.length+j)).length;rw[E4]at t3;rw[E5]at t4;rw[<-u5 (ocs.take ((dI I idx).toNat*sig.length+j)++v.cells).length vs,hdet2 _ _ t2,c4];rw[<-u5 (ocs.take ((dI I idx).toNat*sig.length+j)).length (vs.take (ocs.take ((dI I idx).toNat*sig.length+j)++v.cells).length),hdet1 _ _ t3,hdet _ _ t4,y8]
       subst hvs;have hll:(gi ocs ((dI I idx).toNat*sig.length+j) v.cells).length=(dL I l).length*sig.length:=by
        rw[<-q5.length,T3,fp,C1]
       refine⟨C,_,lo,hi,q1,.inl rfl,q2,by rw[fp,C1,<-hll];exact q3,λi v2 hi'=> ?_,λi hi'=>q7 i (p7 _) hi'⟩;rw[q6 i (by
        rcases k5 i (gi ocs ((dI I idx).toNat*sig.length+j) v.cells).length with hh|hh
        .exact hh
        .rw[s7 (by rw[q5.length];exact hh)]at hi';cases hi')]
       exact hi'
      grind
     .refine⟨i6 _,λ_ _=>rfl,λz hz hzn=> ?_,rfl⟩;grind
    .trivial
  .trivial
 .trivial
theorem Gy{lo hi n:SX}(h:dB I (CX lo hi n)=true):0<=dI I lo/\dI I lo<=dI I hi/\dI I hi<=dI I n:=by
 obtain⟨h1,h2⟩:=wd h;obtain⟨h2,h3⟩:=wd h2;refine⟨?_,j6 h2,?_⟩
 .cases hc:SX.beq lo (.ci 0)with
  |true=>grind[SX.beq_eq,nE]
  |false=>rw[hc]at h1;exact j6 h1
 .cases hc:SX.beq hi n with
  |true=>grind[SX.beq_eq]
  |false=>rw[hc]at h3;exact j6 h3
theorem Sz(a b:SX):dI I (sM a b)=dI I a-dI I b:=by
 unfold sM;split
 .rw[nE];omega
 .rfl
theorem xJ{x:Option (Option AV)}{d e:SX}{vx:Option Value}{k:Nat}(h:rB x d=some e)(hx: ∀y,x=some y->OR O I y vx)(h0:0<=dI I e)(hd:(dI I d).toNat=k): ∃y:Option AV,OR O I y vx/\bR y k=some (dI I e).toNat:=by
 unfold rB at h;split at h
 .simp at h;subst h;exact⟨none,hx _ rfl,by show some k=_;rw[hd]⟩
 .obtain⟨p,hp,rfl⟩:=o8.1 h;obtain⟨u,hu,ru⟩:=hx _ rfl;have:=oc (k:=p.1) (e:=p.2) hp ru;refine⟨some (.int p.1 (dI I p.2)),⟨u,hu,this⟩,?_⟩;obtain⟨m,hm⟩:=Int.eq_ofNat_of_zero_le h0;rw[hm];rfl
 .cases h
theorem KE{P:Program}{t elem:TypeId}{s l en n cap:Nat}{a:Addr}{lo hi:Option AV}{vl vh:Option Value}(ht:P.underlying t=some (.slice elem))(hs:bJ P elem=some s)(rl:OR O I lo vl)(rh:OR O I hi vh)(hl:bR lo 0=some l)(he:bR hi n=some en)(h1:l<=en)(h2:en<=cap)(w:World):
 (Instr.sliceAt t (.slice (some a) n cap) vl vh none).run P w= .ok (.slice (if cap=l then some a else some (a.add (l*s))) (en-l) (cap-l)) w:=by
 have hb:=T9 (P:=P) (mx:=none) (vm:=none) (cap:=cap) true rl rh rfl hl he (m:=cap) rfl h1 h2 (i6 _) (λ_=>rfl) w;simp_all[Instr.sliceAt,Sem.run_bind,R1,Instr.slice,T6]
theorem Sp{P:Program}{t elem:TypeId}{s n:Nat}{lo hi:Option AV}{vl vh:Option Value}(ht:P.underlying t=some (.slice elem))(hs:bJ P elem=some s)(rl:OR O I lo vl)(rh:OR O I hi vh)(hl:bR lo 0=some 0)(he:bR hi 0=some 0)(w:World):
 (Instr.sliceAt t (.slice none 0 0) vl vh none).run P w= .ok (.slice none 0 0) w:=by
 have hb:=T9 (P:=P) (mx:=none) (vm:=none) (cap:=0) true rl rh rfl hl he (m:=0) rfl (i6 _) (i6 _) (i6 _) (λ_=>rfl) w;simp_all[Instr.sliceAt,Sem.run_bind,R1,Instr.slice,T6]
theorem cc4(r:HR O I K w0 h w)(o:bH O I af ρ)(t:TypeId)(x:Operand)(lo hi mx:Option Operand):
 aZ E O I K w0 w h (do pure (.value (<-Instr.sliceAt t (ρ x) (lo.map ρ) (hi.map ρ) (mx.map ρ)))) (Hi E.P t h (af x) (bQ af lo) (bQ af hi) (bQ af mx)):=by
 have fin: ∀{v:AV} {u:Value},VR O I v u->(Instr.sliceAt t (ρ x) (lo.map ρ) (hi.map ρ) (mx.map ρ)).run E.P w= .ok u w->bf E O I K w0 w h (do pure (.value (<-Instr.sliceAt t (ρ x) (lo.map ρ) (hi.map ρ) (mx.map ρ)))) v h:=by
  intro v u hv hr;exact bf.pureV r hv (by simp_all)
 have hlo: ∀y,bQ af lo=some y->OR O I y (lo.map ρ):=λy hy=>qn o hy
 have hhi: ∀y,bQ af hi=some y->OR O I y (hi.map ρ):=λy hy=>qn o hy
 unfold Hi;split
 .rename_i a hx hm;have hmx:mx.map ρ=none:=qn o hm;have rv:=o x _ hx;split
  .rename_i ht;split
   .rename_i s hs;have hv:=sV hs rv;unfold MQ;split
    .rename_i l e h1 h2;intro hd;obtain⟨d1,d2,d3⟩:=Gy hd;rw[RF]at d3;obtain⟨y1,r1,b1⟩:=xJ (k:=0) h1 hlo d1 rfl;obtain⟨y2,r2,b2⟩:=xJ (k:=(dS I s).length) h2 hhi (by omega) (by rfl);have hb:=T9 (P:=E.P) (mx:=none) (vm:=none) (cap:=(dS I s).length) (len:=(dS I s).length) false r1 r2 rfl b1 b2 (m:=(dS I s).length) rfl (by omega) (by omega) (i6 _) (λ_=>rfl);have hsz:(ByteArray.mk (dS I s).toArray).size=(dS I s).length:=by rfl
     refine fin (u:= .string ⟨(((dS I s).drop (dI I l).toNat).take ((dI I e).toNat-(dI I l).toNat)).toArray⟩) ?_ ?_
     .show _=Value.string ⟨(((dS I s).drop (dI I l).toNat).take (dI I e-dI I l).toNat).toArray⟩;grind
     .rw[hv,hmx];simp[Instr.sliceAt,Sem.run_bind,R1 ht,Result.andThen_ok,Instr.slice,hsz,Option.isSome_none,n5,if_false,Sem.run_pure,hb,ByteArray.extract_mk]
    .trivial
   .trivial
  .rename_i elem ht;split
   .rename_i s b off len sz hs;cases hc:Nat.beq s sz with
    |false=>trivial
    |true=>
     obtain rfl:=R2.1 hc;unfold LB;split
     .rename_i l e h1 h2;intro hd;obtain⟨d0,hd⟩:=wd hd;obtain⟨d1,d2,d3⟩:=Gy hd;have d0:0<=dI I off:=by
       cases hq:SX.beq off (.ci 0)with
       |true=>grind[SX.beq_eq,nE]
       |false=>rw[hq]at d0;exact j6 d0
      obtain⟨y1,r1,b1⟩:=xJ (k:=0) h1 hlo d1 rfl;obtain⟨y2,r2,b2⟩:=xJ (k:=(dI I len).toNat) h2 hhi (by omega) rfl;have hle:dI I (sM e l)=dI I e-dI I l:=Sz _ _;have hlt:((dI I e).toNat-(dI I l).toNat)=(dI I (sM e l)).toNat:=by omega
      rcases rv with⟨L,cap,ad,hL,hv,hcap,had⟩|⟨ad,cap,hv,hac,hz⟩
      .refine fin ?_ (by rw[hv,hmx];exact KE ht hs r1 r2 b1 b2 (by omega) (by omega) w);simp only[VR];rw[hlt];by_cases hcl:cap=(dI I l).toNat
       .rw[e8 hcl];grind
       .rw[b9 hcl];refine .inl ⟨L,_,_,hL,rfl,by omega,λhp=> ?_⟩;rw[had (by omega),dQ,XY,Int.toNat_add d0 d1,r9];grind
      .rw[hz]at b2 d3;have hl0:dI I l=0:=by omega
       have he0:dI I e=0:=by omega
       rw[hl0]at b1;rw[he0]at b2;cases ad with
       |none=>
        obtain rfl:=hac rfl;refine fin ?_ (by rw[hv,hmx];exact Sp (n:=0) ht hs r1 r2 b1 b2 w);exact .inr ⟨none,0,rfl,λ_=>rfl,by omega⟩
       |some ad=>
        refine fin ?_ (by rw[hv,hmx];exact KE (n:=0) ht hs r1 r2 b1 b2 (i6 _) (p7 _) w);by_cases hcl:cap=(0:Int).toNat
        .rw[e8 hcl];exact .inr ⟨some ad,_,rfl,(λhh=>(by cases hh)),by omega⟩
        .rw[b9 hcl];exact .inr ⟨some _,_,rfl,(λhh=>(by cases hh)),by omega⟩
     .trivial
   .rename_i s b len sz hs;cases hc:Nat.beq s sz with
    |false=>trivial
    |true=>
     obtain rfl:=R2.1 hc;unfold Lg;split
     .rename_i l e h1 h2;have main:0<=dI I l->dI I l<=dI I e->dI I e<=dI I len-> ∀z:AV,((∀L cap,O b=some L->cap*s=L.ext->(dI I len).toNat<=cap->VR O I z (.slice (if cap=(dI I l).toNat then some ⟨L.blk,L.off,none⟩else some ⟨L.blk,L.off+(dI I l).toNat*s,none⟩) ((dI I e).toNat-(dI I l).toNat) (cap-(dI I l).toNat)))/\(dI I len=0->VR O I z (.slice none 0 0)))->
       bf E O I K w0 w h (do pure (.value (<-Instr.sliceAt t (ρ x) (lo.map ρ) (hi.map ρ) (mx.map ρ)))) z h:=by
       intro d1 d2 d3 z ⟨hz1,hz2⟩;obtain⟨y1,r1,b1⟩:=xJ (k:=0) h1 hlo d1 rfl;obtain⟨y2,r2,b2⟩:=xJ (k:=(dI I len).toNat) h2 hhi (by omega) rfl;rcases rv with⟨L,cap,hL,hext,hv,hcap⟩|⟨hv,hz⟩
       .grind[KE,dI,dQ]
       .have hl0:dI I l=0:=by omega
        have he0:dI I e=0:=by omega
        rw[hl0]at b1;rw[he0,hz]at b2;exact fin (hz2 hz) (by rw[hv,hmx];exact Sp (n:=0) ht hs r1 r2 b1 b2 w)
      cases hq:SX.beq l (.ci 0)with
      |true=>
       intro hd;obtain⟨d1,d2,d3⟩:=Gy hd;have hl0:dI I l=0:=by rw[SX.beq_eq _ _ hq,nE]
       refine main (by omega) (by omega) d3 _ ⟨λL cap hL hext hcap=> ?_,λhz=> .inr ⟨rfl,by omega⟩⟩;refine .inl ⟨L,cap,hL,hext,?_,by omega⟩;grind
      |false=>
       intro hd;obtain⟨d1,d2,d3⟩:=Gy hd;have hle:dI I (sM e l)=dI I e-dI I l:=Sz _ _;refine main d1 d2 d3 _ ⟨λL cap hL hext hcap=> ?_,λhz=> .inr ⟨none,0,rfl,λ_=>rfl,by omega⟩⟩;simp[VR];grind
     .trivial
   .trivial
  .trivial
 .trivial
theorem HR.asCells(r:HR O I K w0 h w){b el:Nat}{sig:List CT}{l:SX}(hg:h.get b=some (.arr el sig l))(hwm:h.wm<=b)(hne:el≠eQ)(hnf:I.fix el=false){ocs:List AV}(m1: ∀O:aQ,aT O I ocs (T2 sig (dL I l)))(m2:ocs.all AV.one=true)(m3:ocs.length=(T2 sig (dL I l)).length):
 HR O I K w0 (h.put b (some (.cells el 0 ocs))) w:=by
 have hb65:=Heap.get_lim h b _ hg;refine HR.retell (y:= .cells el 0 ocs) r hg (.inl hwm) ?_ rfl rfl (λz=>by rw[Heap.get_put,e8 hb65]);intro L' hL' hbr;obtain⟨C,e',lo,hi,z1,z0,z2,z3,z4,z5⟩:=hbr;rw[z0.resolve_right hne]at z1;refine⟨C,lo,hi,T2 sig (dL I l),z1,z2,by rw[m3,T3];exact z3,nB m2,m1 O,λk hk=> ?_,λk _ hk=>z5 k hk,λhh=>by rw[hnf]at hh;cases hh⟩;grind
theorem HR.asArr{b el:Nat}{sig:List CT}{l:SX}{cs:List AV}(hb65:b<65536)(r:HR O I K w0 (h.put b (some (.cells el 0 cs))) w)(hd: ∀us,aT O I cs us->us=T2 sig (dL I l)):HR O I K w0 (h.put b (some (.arr el sig l))) w:=by
 have bN: ∀(hh:Heap) (x:Option Blk) (z:Nat),(hh.put b x).get z=if z=b then(if b<65536 then x else none)else hh.get z:=λhh x z=>Heap.get_put _ _ _ _
 refine HR.retell (y:= .arr el sig l) r (b:=b) (x:= .cells el 0 cs) (by rw[bN,e8 rfl,e8 hb65]) (.inr rfl) ?_ rfl rfl (λz=> ?_)
 .intro L' hL' hbr;obtain⟨C,lo,hi,vs,q1,q2,q3,q4,q5,q6,q7,q8⟩:=hbr;have hvs:=hd vs q5;subst hvs;have hll:cs.length=(dL I l).length*sig.length:=by rw[<-q5.length,T3]
  refine⟨C,_,lo,hi,q1,.inl rfl,q2,by rw[<-hll];exact q3,λi v2 hi'=> ?_,λi hi'=>q7 i (p7 _) hi'⟩;rw[q6 i (by
   rcases k5 i cs.length with hh|hh
   .exact hh
   .rw[s7 (by rw[q5.length];exact hh)]at hi';cases hi')]
  exact hi'
 grind
theorem AR{m:Sem Value}{n:Sem Next}{res:Res}(hm: ∀h' a,Ok E.P O I K w0 w h m a h'->bf E O I K w0 w h n a h')(k:qj E.P O I K w0 w h m res):aZ E O I K w0 w h n res:=by
 cases res<;>first|exact k.elim|trivial|exactλhd=>hm _ _ (k hd)
theorem bf.blt{h':Heap}{m:Sem Value}{n:Sem Next}{a:AV}(e:n=(do pure (.value (<-m))))(k:Ok E.P O I K w0 w h m a h'):bf E O I K w0 w h n a h':=by
 grind[bf.of]
theorem bx6{ts:Array TypeId}{ty:TypeId}{x:AV}{vx:Value}(r:HR O I K w0 h w)(rx:VR O I x vx):qj E.P O I K w0 w h (Builtin.unsafeSliceData_ ts ty #[vx]) (Wb x h):=by
 trivial
theorem bX1{ts:Array TypeId}{ty:TypeId}{x y:AV}{vx vy:Value}(r:HR O I K w0 h w)(rx:VR O I x vx)(ry:VR O I y vy):qj E.P O I K w0 w h (Builtin.unsafeString_ ts ty #[vx,vy]) (SC E.P ts x y h):=by
 trivial
theorem cB5{ts:Array TypeId}{ty:TypeId}{x y:AV}{vx vy:Value}(r:HR O I K w0 h w)(rx:VR O I x vx)(ry:VR O I y vy):qj E.P O I K w0 w h (Builtin.copy_ ts ty #[vx,vy]) (Vk E.P ts x y h):=by
 trivial
theorem ZO(I:Opq)(z:List AV)(sig:List CT)(es:List SX)(hes:Z9 sig z=some es): ∀(n:Nat) (O:aQ) (us:List Value),aT O I (bu n z) us->us=T2 sig (List.replicate n (.vl (R7 I es)))
 |0,O,us,h=>h
 |n+1,O,us,h=>by
  have h1:=h.take z.length;have h2:=h.drop z.length;have e1:(bu (n+1) z).take z.length=z:=by simp[bu]
  have e2:(bu (n+1) z).drop z.length=bu n z:=by simp[bu]
  rw[e1]at h1;rw[e2]at h2;rw[<-u5 z.length us,mw hes h1,ZO I z sig es hes n O _ h2];rfl
theorem Zi(z:List AV): ∀n,(bu n z).length=n*z.length
 |0=>by simp[bu]
 |n+1=>by simp[bu,Zi z n,r9];omega
theorem Xz(z:List AV)(hz:z.all AV.one=true): ∀n,(bu n z).all AV.one=true
 |0=>rfl
 |n+1=>by simp[bu,D9,hz,Xz z hz n,Bool.and_self]
theorem HR.sameGet{h2:Heap}(r:HR O I K w0 h w)(hn:h2.next=h.next)(hw:h2.wm=h.wm)(hg: ∀z,h.get z=h2.get z):HR O I K w0 h2 w:=
 ⟨λb x L e=>r.blk b x L (by grind),λb b' x x' L L' e e' hb hb' hne q=>r.sep b b' x x' L L' (by grind) (by grind) hb hb' hne (by grind),λb hb=>r.fresh b (by omega),λb hb=>by rw[<-hg];exact r.fget b (by omega),r.lt,r.kin,r.keep,
  λb x L e q=>r.free b x L (by grind) (by omega),r.size,r.os,r.tape,r.out,r.dr⟩
theorem ZU(sig:List CT): ∀(l:List Val) (o:Nat),(T2 sig l).take (o*sig.length)=T2 sig (l.take o)
 |l,0=>by simp[T2]
 | [],o+1=>by simp[T2]
 |r::l,o+1=>by
  have ih:=ZU sig l o;show((bv sig r++T2 sig l).take ((o+1)*sig.length))=bv sig r++T2 sig (l.take o);simp_all[List.take_append,V7,r9,E2,N7,G0]
theorem So(sig:List CT): ∀(l:List Val) (o:Nat),(T2 sig l).drop (o*sig.length)=T2 sig (l.drop o)
 |l,0=>by grind
 | [],o+1=>by simp[T2]
 |r::l,o+1=>by
  have ih:=So sig l o;show((bv sig r++T2 sig l).drop ((o+1)*sig.length))=T2 sig (l.drop o);simp_all[J8,V7,r9,E2,N7,I6,List.nil_append]
theorem WN(hfx: ∀t,I.fix t=cA E.P t)(r:HR O I K w0 h w){ts:Array TypeId}{ty t elem b:Nat}{off len:SX}{sz:Nat}{z:AV}{vx:Value}(h0:ts[0]? =some t)(ht:E.P.underlying t=some (.slice elem))(hz:ef E.P elem=some z)(hfe:cA E.P elem=false)
 (rx:(∃L cap a,O b=some L/\vx= .slice (some a) (dI I len).toNat cap/\(dI I len).toNat<=cap/\(0<dI I len->a=⟨L.blk,L.off+(dI I off).toNat*sz,none⟩))\/ ∃a cap,vx= .slice a 0 cap/\(a=none->cap=0)/\dI I len=0):
 qj E.P O I K w0 w h (Builtin.clear_ ts ty #[vx]) (Hb E.P b off len sz z.cells (h.get b) h):=by
 unfold Hb;split
 .rename_i e sig l hg;split
  .rename_i es hes;cases hc:(Nat.beq sig.length sz&&Nat.blt 0 sz&&Nat.ble h.wm b&& !(Nat.beq e eQ)&& !(cA E.P e))with
   |false=>trivial
   |true=>
    obtain⟨hc,c5⟩:=Q8 hc;have hnf:I.fix e=false:=by rw[hfx];simpa using c5
    obtain⟨hc,c4⟩:=Q8 hc;have hne:e≠eQ:=λe2=>by rw[e2,show Nat.beq eQ eQ=true from rfl]at c4;cases c4
    obtain⟨hc,c3⟩:=Q8 hc;obtain⟨c1,c2⟩:=Q8 hc;obtain rfl:=R2.1 c1;rw[R5]at c3;rw[T4]at c2;intro hd;obtain⟨d1,d2⟩:=Q8 (a:=(dB I (.op (.cmp .leq) [.ci 0,off])&&dB I (.op (.cmp .leq) [.ci 0,len]))) (b:=(dB I (.op (.cmp .leq) [len,.ci kN])&&dB I (.op (.cmp .leq) [.op .iadd [off,len],.op .llen [l]]))) hd;obtain⟨d1,d3⟩:=Q8 d1;obtain⟨d2,d4⟩:=Q8 d2;have d1:0<=dI I off:=j6 d1;have d3:0<=dI I len:=j6 d3;have d4:dI I off+dI I len<=((dL I l).length:Int):=j6 d4;have hb65:=Heap.get_lim h b _ hg;obtain⟨o,ho⟩: ∃o:Nat,dI I off=(o:Int):=⟨(dI I off).toNat,by omega⟩;obtain⟨n,hn⟩: ∃n:Nat,dI I len=(n:Int):=⟨(dI I len).toNat,by omega⟩;have hon:o+n<=(dL I l).length:=by omega
    have fp:dL I (.op .lcat [.op .lsub [l,.ci 0,off],.op .lcat [.op .lrep [len,.op .row es],.op .lsub [l,.op .iadd [off,len],.op .llen [l]]]])=(dL I l).take o++(List.replicate n (.vl (R7 I es))++(dL I l).drop (o+n)):=by
     show((dL I l).drop (0:Int).toNat).take (dI I off-0).toNat++(List.replicate (dI I len).toNat (.vl (R7 I es))++((dL I l).drop (dI I off+dI I len).toNat).take (((dL I l).length:Int)-(dI I off+dI I len)).toNat)=_;rw[ho,hn,show(0:Int).toNat=0 from rfl,F9,show((o:Int)-0).toNat=o by omega,Int.toNat_natCast,show((o:Int)+(n:Int)).toNat=o+n by omega];congr 2;rw[G0 (by rw[E3];omega)]
    rcases rx with⟨L,cap,a,hL,hv,hcap,ha⟩|⟨a,cap,hv,hacap,hlen0⟩
    .rw[hn,Int.toNat_natCast]at hv;by_cases hn0:n=0
     .subst hn0;refine⟨O,.tuple #[],w,by rw[hv];cases a<;>simp[Builtin.clear_,h0,R1 ht],⟨_,rfl,rfl⟩,?_,?_⟩
      .refine HR.retell (y:= .arr e sig (.op .lcat [.op .lsub [l,.ci 0,off],.op .lcat [.op .lrep [len,.op .row es],.op .lsub [l,.op .iadd [off,len],.op .llen [l]]]])) r hg (.inl c3) ?_ rfl rfl (λz=>by rw[Heap.get_put,e8 hb65]);intro L' hL' hbr;obtain⟨C,e',lo,hi,z1,z0,z2,z3,z4,z5⟩:=hbr;have he:dL I (.op .lcat [.op .lsub [l,.ci 0,off],.op .lcat [.op .lrep [len,.op .row es],.op .lsub [l,.op .iadd [off,len],.op .llen [l]]]])=dL I l:=by rw[fp];simp
       exact⟨C,e',lo,hi,z1,z0,z2,by rw[he];exact z3,by rw[he];exact z4,z5⟩
      .refine⟨i6 _,λ_ _=>rfl,λz hz hzn=> ?_,rfl⟩;left;rw[Heap.get_put,b9 (λhh=>by rw[hh,hL]at hzn;cases hzn)]
     .have ha:=ha (by omega);subst ha;obtain⟨ocs,m1,m2,m3,m4⟩:=Ea I sig (dL I l);have m3':ocs.length=(dL I l).length*sig.length:=by rw[m3,T3]
      have r2:=r.asCells hg c3 hne hnf m1 m2 m3;obtain⟨hone,helen⟩:=QT hes;have hzl:z.cells.length=sig.length:=by rw[<-helen];exact qK hes
      have hrl:=Zi z.cells n;rw[hzl]at hrl;have hmul:o*sig.length+n*sig.length<=(dL I l).length*sig.length:=by rw[<-r9];exact y6 _ hon
      have hg2:(h.put b (some (.cells e 0 ocs))).get b=some (.cells e 0 ocs):=by rw[Heap.get_put,e8 rfl,e8 hb65]
      have hpc:putCells (h.put b (some (.cells e 0 ocs))) b (o*sig.length) (bu n z.cells)=some ((h.put b (some (.cells e 0 ocs))).put b (some (.cells e 0 (gi ocs (o*sig.length) (bu n z.cells))))):=by
       have hr0:0<n*sig.length:=Nat.mul_pos (by omega) c2;cases hcs:bu n z.cells with
       |nil=>rw[hcs]at hrl;simp at hrl;omega
       |cons a as=>
        simp only[putCells,hcs];rw[<-hcs,hg2];simp;rw[show(Nat.ble h.wm b&&Nat.ble 0 (o*sig.length)&&Nat.ble (o*sig.length+(bu n z.cells).length) ocs.length&&(bu n z.cells).all AV.one)=true by
         rw[Xz _ hone,R5.2 c3,R5.2 (p7 _),R5.2 (by rw[hrl,m3'];exact hmul)];rfl]
        rfl
      have hcl:wY E.P elem b (o*sig.length) n (h.put b (some (.cells e 0 ocs)))=some (.undef,(h.put b (some (.cells e 0 ocs))).put b (some (.cells e 0 (gi ocs (o*sig.length) (bu n z.cells))))):=by
       unfold wY;split
       .exact absurd rfl hn0
       .rw[hz];simp[hzl];rw[dF c2,cond_true,hpc];rfl
      obtain⟨ac,u,w',e1,e2,e3,e4⟩:=QO (ty:=ty) (cap:=cap) h0 ht r2 hcl hL;have ap:HR ac I K w0 (h.put b (some (.cells e 0 (gi ocs (o*sig.length) (bu n z.cells))))) w':=by
       have: ∀q,((h.put b (some (.cells e 0 ocs))).put b (some (.cells e 0 (gi ocs (o*sig.length) (bu n z.cells))))).get q=(h.put b (some (.cells e 0 (gi ocs (o*sig.length) (bu n z.cells))))).get q:=λq=>by
        rw[Heap.get_put,Heap.get_put,Heap.get_put];by_cases hz:q=b
        .rw[e8 hz,e8 hz]
        .rw[b9 hz,b9 hz,b9 hz]
       exact e3.sameGet rfl rfl this
      refine⟨ac,u,w',by rw[hv,ho,Int.toNat_natCast];exact e1,e2,?_,?_⟩
      .refine HR.asArr hb65 ap (λus hus=> ?_);rw[fp,wS,wS];unfold gi at hus;have hdet1: ∀us,aT ac I (ocs.take (o*sig.length)) us->us=(T2 sig (dL I l)).take (o*sig.length):=λus hu=>Tv m4 m1 hu
       have hdet2: ∀us,aT ac I (ocs.drop (o*sig.length+(bu n z.cells).length)) us->us=(T2 sig (dL I l)).drop (o*sig.length+(bu n z.cells).length):=λus hu=>RT m4 m1 hu
       have t1:=hus.take (ocs.take (o*sig.length)++bu n z.cells).length;have t2:=hus.drop (ocs.take (o*sig.length)++bu n z.cells).length;rw[E4]at t1;rw[E5]at t2;have t3:=t1.take (ocs.take (o*sig.length)).length;have t4:=t1.drop (ocs.take (o*sig.length)).length;rw[E4]at t3;rw[E5]at t4;rw[<-u5 (ocs.take (o*sig.length)++bu n z.cells).length us,hdet2 _ t2];rw[<-u5 (ocs.take (o*sig.length)).length (us.take (ocs.take (o*sig.length)++bu n z.cells).length),hdet1 _ t3,ZO I z.cells sig es hes n ac _ t4,y8,hrl,ZU,<-r9,So]
      .have:=e4;refine⟨this.le,λb' hb'=>this.ext b' hb',λb' hb' hn'=> ?_,this.wm⟩;left;rw[Heap.get_put,b9 (λhh=>by rw[hh,hL]at hn';cases hn')]
    .have hn0:n=0:=by omega
     subst hn0;refine⟨O,.tuple #[],w,by rw[hv];cases a<;>simp[Builtin.clear_,h0,R1 ht],⟨_,rfl,rfl⟩,?_,?_⟩
     .refine HR.retell (y:= .arr e sig (.op .lcat [.op .lsub [l,.ci 0,off],.op .lcat [.op .lrep [len,.op .row es],.op .lsub [l,.op .iadd [off,len],.op .llen [l]]]])) r hg (.inl c3) ?_ rfl rfl (λz=>by rw[Heap.get_put,e8 hb65]);intro L' hL' hbr;obtain⟨C,e',lo,hi,z1,z0,z2,z3,z4,z5⟩:=hbr;have he:dL I (.op .lcat [.op .lsub [l,.ci 0,off],.op .lcat [.op .lrep [len,.op .row es],.op .lsub [l,.op .iadd [off,len],.op .llen [l]]]])=dL I l:=by rw[fp];simp
      exact⟨C,e',lo,hi,z1,z0,z2,by rw[he];exact z3,by rw[he];exact z4,z5⟩
     .refine⟨i6 _,λ_ _=>rfl,λz hz hzn=> ?_,rfl⟩;by_cases e1:z=b
      .subst e1;exact .inr (.inr (.of hg))
      .left;rw[Heap.get_put,b9 e1]
  .trivial
 .trivial
theorem cc6(hfx: ∀t,I.fix t=cA E.P t){ts:Array TypeId}{ty:TypeId}{x:AV}{vx:Value}(r:HR O I K w0 h w)(rx:VR O I x vx):qj E.P O I K w0 w h (Builtin.clear_ ts ty #[vx]) (Kg E.P ((ts[0]?).bind E.P.underlying) x h):=by
 unfold Kg;split
 .rename_i elem ht;simp[l6]at ht;obtain⟨t,h0,ht⟩:=ht;split
  .rename_i z hz;cases hfe:cA E.P elem with
   |true=>trivial
   |false=>
    split
    .grind[VR,WN]
    .rename_i b len sz;refine WN hfx r h0 ht hz hfe ?_;rcases rx with⟨L,cap,hL,h1,h2,h3⟩|⟨h1,h2⟩
     .refine .inl ⟨L,cap,_,hL,h2,h3,λ_=> ?_⟩;rw[show(dI I (.ci 0)).toNat*sz=0 by show(0:Int).toNat*sz=0;simp];rfl
     grind
    .trivial
  .trivial
 .trivial
theorem cB6(hfx: ∀t,I.fix t=cA E.P t)(r:HR O I K w0 h w)(o:bH O I af ρ)(c:Call)(ty:TypeId):
 aZ E O I K w0 w h (do let d <-resolve ρ c ty;invoke d.target d.args) (Gx E.P af c h):=by
 unfold Gx;split
 .rename_i b hb;have hrun: ∀w,(do let d <-resolve ρ c ty;invoke d.target d.args:Sem Next).run E.P w=(builtin b c.argTypes ty (c.args.map λ| .const _=>true|_=>false) (c.args.map ρ)).run E.P w:=by
   grind[resolve,Sem.run_bind,Sem.run_pure,Result.andThen_ok,invoke]
  have conv: ∀res,aZ E O I K w0 w h (builtin b c.argTypes ty (c.args.map λ| .const _=>true|_=>false) (c.args.map ρ)) res->aZ E O I K w0 w h (do let d <-resolve ρ c ty;invoke d.target d.args) res:=by
   intro res hh;cases res with
   |val v h1=>obtain⟨ac,u,w',q1,q2⟩:=hh;exact⟨ac,u,w',by grind,q2⟩
   |need e v h1=>intro hd;obtain⟨ac,u,w',q1,q2⟩:=hh hd;exact⟨ac,u,w',by grind,q2⟩
   |cho e v l h1=>
    refine⟨λhd=> ?_,λhd=> ?_⟩
    .obtain⟨ac,u,w',q1,q2⟩:=hh.1 hd;exact⟨ac,u,w',by grind,q2⟩
    .obtain⟨x,hx,ac,u,w',q1,q2⟩:=hh.2 hd;exact⟨x,hx,ac,u,w',by grind,q2⟩
   |enter f vs=>obtain⟨us,q1,q2⟩:=hh;exact⟨us,by grind,q2⟩
   |choice l=>obtain⟨x,hx,ac,u,w',q1,q2⟩:=hh;exact⟨x,hx,ac,u,w',by grind,q2⟩
   |yield l vs=>obtain⟨L,us,q1,q2,q3⟩:=hh;exact⟨L,us,q1,q2,by grind⟩
   |defer d=>obtain⟨dd,q1,q2⟩:=hh;exact⟨dd,by grind,q2⟩
   |bad=>trivial
  apply conv
  cases hx:evs af c.args.toList with
  |none=>trivial
  |some args=>
   have ra:=yR o hx;have harr:c.args.map ρ=(c.args.toList.map ρ).toArray:=by grind
   rw[harr];unfold Ih;split
   .rename_i x hh;simp at hh;subst hh;obtain⟨v,vr,e1,p1,p2⟩:=ra;obtain rfl:vr=[]:=p2;rw[e1];split
    .grind[d04]
    .exact AR (λh' a k=>bf.blt rfl k) (bx6 r p1)
    .exact AR (λh' a k=>bf.blt rfl k) (cc6 hfx r p1)
    .trivial
   .rename_i x y hh;simp at hh;subst hh;obtain⟨v,vr,e1,p1,v2,vr2,e2,p2,p3⟩:=ra;obtain rfl:vr2=[]:=p3;rw[e1,e2];split
    .exact bW5 hfx r p1 p2 _ _ _
    .exact AR (λh' a k=>bf.blt rfl k) (bX1 r p1 p2)
    .exact AR (λh' a k=>bf.blt rfl k) (cB5 r p1 p2)
    .exact AR (λh' a k=>bf.blt rfl k) (d08 r p1 p2)
    grind[do7]
   .trivial
 .trivial
theorem cB7(hfx: ∀t,I.fix t=cA E.P t)(r:HR O I K w0 h w)(ro:bH O I af ρ)(o:Oper):aZ E O I K w0 w h (execOp ρ o) (mI E af o h):=by
 obtain⟨dst,op,ty,pos,after,guard⟩:=o;cases op with
 |binOp op t x y _=>exact cA4 r ro op t x y
 |unOp op _ x=>exact do6 r ro op x
 |convert s d x=>exact cA8 r ro s d x
 |pick c a b=>exact cA5 r ro c a b
 |load t a=>exact cA6 r ro t a
 |indexAddr t x i=>exact b80 r ro t x i
 |fieldAddr s x f=>exact b79 r ro s f x
 |index t x i=>exact cb0 r ro t x i
 |store t a x=>exact cc2 hfx r ro t a x
 |slice t x lo hi mx=>exact cc4 r ro t x lo hi mx
 |lookup t m k ok=>exact bW7 r ro t m k ok
 |mapUpdate t m k x=>exact Zn r ro t m k x
 |insert t m k x=>exact Zn r ro t m k x
 |mapEntry t m k=>exact bW9 r ro t m k
 |entryStore t m s x=>exact cc1 r ro t m s x
 |call c=>exact cB6 hfx r ro c ty
 |_=>trivial
end Go.Ev
namespace Go.Ev
open Go
variable{E:Env}{O:aQ}{I:Opq}{K:Nat->Prop}{w0 w:World}{h h':Heap}{af:Operand->Option AV}{ρ:Operand->Value}
theorem cB8(r:HR O I K w0 h w)(o:bH O I af ρ)(c a b:Operand):aZ E O I K w0 w h (do pure (.value (if<-asBool (ρ c)then ρ a else ρ b))) (vj af a b h (af c)):=by
 unfold vj;split
 .rename_i t hc;have rc:=o c _ hc;simp[VR]at rc;cases t with
  |true=>
   cases ha:af a with
   |none=>trivial
   |some v=>exact⟨O,ρ a,w,.inl (by simp[rc,asBool]),o a v ha,r,.refl _ _⟩
  |false=>
   cases hb:af b with
   |none=>trivial
   |some v=>exact⟨O,ρ b,w,.inl (by simp[rc,asBool]),o b v hb,r,.refl _ _⟩
 .trivial
theorem cc7(r:HR O I K w0 h w)(e:TypeId):aZ E O I K w0 w h (do pure (.value (<-Instr.alloc e true (.tuple #[])))) (rg e h (ef E.P e)):=by
 cases hz:ef E.P e with
 |none=>trivial
 |some z=>
  obtain⟨zv,z1,z2⟩:=wQ hz;refine xw λv h' hv=> ?_
  obtain⟨ac,x,w',q1,q2,q3,q4⟩:=Uw (P:=E.P) r hv (z1 O I);exact⟨ac,x,w',by grind[Instr.alloc,Sem.run_bind,Result.andThen_ok],q2,q3,q4⟩
theorem d09(r:HR O I K w0 h w)(o:bH O I af ρ)(e:TypeId)(x:Operand):aZ E O I K w0 w h (do pure (.value (<-Instr.box e (ρ x)))) (rg e h (af x)):=by
 cases hx:af x with
 |none=>trivial
 |some a=>exact xw λv h' hv=>Uw (P:=E.P) r hv (o x a hx)
theorem cc8(r:HR O I K w0 h w)(o:bH O I af ρ)(t:TypeId)(ps:Array (Nat×Operand)):aZ E O I K w0 w h (do pure (.value (<-Instr.build t (ps.map λ(i,x)=>(i,ρ x))))) (FW E.P t h (eZ af ps.toList)):=by
 cases hx:eZ af ps.toList with
 |none=>trivial
 |some l=>
  obtain⟨q1,q2⟩:=Pn o hx;refine qw r λv hv=> ?_
  obtain⟨u,g1,g2⟩:=c92 (P:=E.P) (O:=O) (I:=I) (vparts:=ps.map λ(i,x)=>(i,ρ x)) hv (by simpa using q1) (by simpa using q2);grind
theorem b04(r:HR O I K w0 h w)(o:bH O I af ρ)(t n:Nat)(ps:Array (Nat×Operand)):
 aZ E O I K w0 w h (do pure (.value (<-Instr.buildSlice t n (ps.map λ(i,x)=>(i,ρ x))))) (xS E.P t n h (eZ af ps.toList)):=by
 cases hx:eZ af ps.toList with
 |none=>trivial
 |some l=>
  obtain⟨q1,q2⟩:=Pn o hx;exact xw λv h' hv=>aZ9 (P:=E.P) r hv (by simp_all) (by simp_all)
theorem cB9(r:HR O I K w0 h w)(o:bH O I af ρ)(t:TypeId)(x:Operand):aZ E O I K w0 w h (do pure (.value (<-Instr.loadAt t (ρ x)))) (Qw E.P t h (af x)):=by
 cases hx:af x with
 |none=>trivial
 |some a=>exact qw r λv hv=>UM r hv (o x a hx)
theorem cc9(r:HR O I K w0 h w)(o:bH O I af ρ)(t:TypeId)(x y:Operand):aZ E O I K w0 w h (do Instr.storeAt t (ρ x) (ρ y);pure .skip) (Mw E.P t h (af x) (af y)):=by
 cases hx:af x with
 |none=>trivial
 |some a=>
  cases hy:af y with
  |none=>trivial
  |some b=>exact Uk λh' hv=>bi9 r hv (o x a hx) (o y b hy)
theorem d13(hE:E.Ok I)(r:HR O I K w0 h w)(o:bH O I af ρ)(op:BinOp)(t:TypeId)(x y:Operand):
 aZ E O I K w0 w h (do pure (.value (<-(do eqGuard op t x y (ρ x) (ρ y);binOp op t (ρ x) (ρ y):Sem Value)))) (yb E op t x y h (af x) (af y)):=by
 cases hx:af x with
 |none=>trivial
 |some a=>
  cases hy:af y with
  |none=>trivial
  |some b=>
   simp only[yb];cases hg:sU E.P op t x y a b with
   |false=>trivial
   |true=>
    refine qw r λv hv=> ?_
    have hgr:=Yf hg (o x a hx) (o y b hy);have main: ∃u,VR O I v u/\ ∀w,(binOp op t (ρ x) (ρ y)).run E.P w= .ok u w:=by
     unfold HE at hv;split at hv
     .rename_i v' hb;simp at hv;subst hv;exact cY6 hb (o x a hx) (o y b hy)
     .exact hE.bin op a b v hv O t _ _ (o x a hx) (o y b hy)
    grind[Sem.run_bind,Result.andThen_ok]
theorem do8(hE:E.Ok I)(r:HR O I K w0 h w)(o:bH O I af ρ)(op:UnOp)(x:Operand):aZ E O I K w0 w h (do pure (.value (<-Op.unary op (ρ x)))) (Qu E op h (af x)):=by
 cases hx:af x with
 |none=>trivial
 |some a=>
  refine qw r λv hv=> ?_
  have main: ∃u,VR O I v u/\ ∀w,(Op.unary op (ρ x)).run E.P w= .ok u w:=by
   unfold HE at hv;split at hv
   .rename_i v' hb;simp at hv;subst hv;exact SR hb (o x a hx)
   .exact hE.un op a v hv O _ (o x a hx)
  grind
theorem cC0(hE:E.Ok I)(r:HR O I K w0 h w)(o:bH O I af ρ)(s d:TypeId)(x:Operand):aZ E O I K w0 w h (do pure (.value (<-convert s d (ρ x)))) (wE E s d h (af x)):=by
 cases hx:af x with
 |none=>trivial
 |some a=>
  simp[wE];cases hc:xW E.P s d a h with
  |some p=>exact .of (cz7 hE.fix r (a:=p.1) (h':=p.2) hc (o x a hx))
  |none=>
   cases hc2:AY E.P s d a h with
   |some p=>exact⟨p,by simp,.of (cz8 r (a:=p.1) (h':=p.2) hc2 (o x a hx))⟩
   |none=>exact qw r λv hv=>let ⟨u,u1,u2⟩:=hE.conv d a v hv O s _ (o x a hx);⟨u,u1,u2 w⟩
theorem cd0(r:HR O I K w0 h w)(o:bH O I af ρ)(t:TypeId)(x:Operand):aZ E O I K w0 w h (do pure (.value (<-Instr.makeInterface t (ρ x)))) (xg E.P t h (af x)):=by
 cases hx:af x with
 |none=>trivial
 |some a=>
  simp[xg];split
  .trivial
  .refine .of ⟨O,.iface t (ρ x),w,?_,⟨_,rfl,o x a hx⟩,r,.refl _ _⟩;simp_all[Instr.makeInterface,Sem.run_bind,R1,Result.andThen_ok]
  .trivial
theorem cC1(r:HR O I K w0 h w)(o:bH O I af ρ)(fn:Fn)(xs ys:Array Operand):
 aZ E O I K w0 w h (do pure (.value (<-Instr.makeFunc fn (xs.map ρ) (ys.map ρ)))) (wO fn h (evs af xs.toList) (evs af ys.toList)):=by
 cases hx:evs af xs.toList with
 |none=>trivial
 |some a=>
  cases hy:evs af ys.toList with
  |none=>trivial
  |some b=>
   simp[wO];split
   .trivial
   .rename_i hn;exact .of ⟨O,.func fn (xs.map ρ) (ys.map ρ),w,rfl,⟨hn,_,_,rfl,by simpa using yR o hx,by simpa using yR o hy⟩,r,.refl _ _⟩
theorem d14(r:HR O I K w0 h w)(o:bH O I af ρ)(t:TypeId)(x:Option Operand):aZ E O I K w0 w h (do pure (.value (<-Instr.makeMap t (x.map ρ)))) (oJ E.P t h (bQ af x)):=by
 unfold oJ;split
 .rename_i kt et ht;have new: ∀m:Sem Value,m.run E.P w= .ok (.map (some w.heap.size)) (w.alloc (.map #[] 0))->bf E O I K w0 w h (do pure (.value (<-m))) (.map h.next) (h.new (.map [] 0)):=by
   intro m hm;obtain⟨p1,p2⟩:=r.new (.map #[] 0) (.map [] 0) 0 0 ⟨#[],rfl,.nil⟩;exact .of ⟨_,_,_,hm,⟨_,aQ.add_self _ _ _,rfl⟩,p1,p2⟩
  split
  .rename_i hx;have:=qn o hx;rw[this];exact new _ rfl
  .rename_i k n hx;obtain⟨v,hv,rv⟩:=qn o hx;subst rv;rw[hv];refine new _ ?_;simp only[Instr.makeMap,Sem.run_bind,R1 ht,Result.andThen_ok,asInt,asIntOf,Sem.run_pure,run_newObj];rfl
  .trivial
 .trivial
theorem b88(r:HR O I K w0 h w)(o:bH O I af ρ)(t:TypeId)(x y:Operand):aZ E O I K w0 w h (do pure (.value (<-Instr.makeSlice t (ρ x) (ρ y)))) (xq E.P t h (af x) (af y)):=by
 cases hx:af x with
 |none=>trivial
 |some a=>
  cases hy:af y with
  |none=>trivial
  |some b=>exact xw λv h' hv=>b76 r hv (o x a hx) (o y b hy)
theorem cd1(r:HR O I K w0 h w)(o:bH O I af ρ)(t:TypeId)(x:Operand)(lo hi mx:Option Operand):
 aZ E O I K w0 w h (do pure (.value (<-Instr.sliceAt t (ρ x) (lo.map ρ) (hi.map ρ) (mx.map ρ)))) (wH E t h (af x) (bQ af lo) (bQ af hi) (bQ af mx)):=by
 cases hx:af x with
 |none=>trivial
 |some a=>
  cases h1:bQ af lo with
  |none=>trivial
  |some vl=>
   cases h2:bQ af hi with
   |none=>trivial
   |some vh=>
    cases h3:bQ af mx with
    |none=>trivial
    |some vm=>
     simp[wH];cases hc:(vh.isNone&&vm.isSome)with
     |true=>trivial
     |false=>
      refine qw r λv hv=> ?_
      obtain⟨u,u1,u2⟩:=c90 r hv hc (o x a hx) (qn o h1) (qn o h2) (qn o h3);grind
theorem Ml{F:AV->AV->Option AV}{G:Value->Value->Sem Value}(r:HR O I K w0 h w)(o:bH O I af ρ)(x y:Operand)
 (k: ∀a b v va vb,F a b=some v->VR O I a va->VR O I b vb-> ∃u,VR O I v u/\(G va vb).run E.P w= .ok u w):aZ E O I K w0 w h (do pure (.value (<-G (ρ x) (ρ y)))) (s2 F h (af x) (af y)):=by
 cases hx:af x with
 |none=>trivial
 |some a=>
  cases hy:af y with
  |none=>trivial
  |some b=>exact qw r λv hv=>k a b v _ _ hv (o x a hx) (o y b hy)
theorem Du{F:AV->Option AV}{G:Value->Sem Value}(r:HR O I K w0 h w)(o:bH O I af ρ)(x:Operand)
 (k: ∀a v va,F a=some v->VR O I a va-> ∃u,VR O I v u/\(G va).run E.P w= .ok u w):aZ E O I K w0 w h (do pure (.value (<-G (ρ x)))) (s1 F h (af x)):=by
 cases hx:af x with
 |none=>trivial
 |some a=>exact qw r λv hv=>k a v _ hv (o x a hx)
theorem QW{F:AV->AV->AV->Option Heap}{G:Value->Value->Value->Sem Unit}(r:HR O I K w0 h w)(o:bH O I af ρ)(x y z:Operand)
 (k: ∀a b c h' va vb vc,F a b c=some h'->VR O I a va->VR O I b vb->VR O I c vc->DH E.P O I K w0 w h (G va vb vc) h'):aZ E O I K w0 w h (do G (ρ x) (ρ y) (ρ z);pure .skip) (Cp F (af x) (af y) (af z)):=by
 cases hx:af x with
 |none=>trivial
 |some a=>
  cases hy:af y with
  |none=>trivial
  |some b=>
   cases hz:af z with
   |none=>trivial
   |some c=>exact Uk λh' hv=>k a b c h' _ _ _ hv (o x a hx) (o y b hy) (o z c hz)
theorem bx7(hE:E.Ok I)(r:HR O I K w0 h w){args:List AV}{us:List Value}(ra:aT O I args us)(b:Builtin)(ts:Array TypeId)(ty:TypeId)(cs:Array Bool):
 aZ E O I K w0 w h (builtin b ts ty cs us.toArray) (sF E b ts h args):=by
 unfold sF;split
 .rename_i p hp;obtain⟨ac,v,w',q1,q2,q3,q4⟩:=Oc (ty:=ty) (cs:=cs) (us:=us.toArray) (a:=p.1) (h':=p.2) hE.fix r hp (by omega);exact⟨ac,v,w',.inl q1,q2,q3,q4⟩
 .have main: ∀k,(b= .len/\k=FK.len\/b= .max/\k=FK.max\/b= .min/\k=FK.min)->aZ E O I K w0 w h (builtin b ts ty cs us.toArray) (ov (E.fact k args) h):=by
   intro k hk;cases hf:E.fact k args with
   |none=>trivial
   |some v=>
    obtain⟨u,u1,u2⟩:=hE.blt b k args v hk hf O ts ty cs us ra;exact⟨O,u,w,.inl (u2 w),u1,r,.refl _ _⟩
  split
  .grind
  .grind
  .grind
  .trivial
theorem cC2(hE:E.Ok I)(r:HR O I K w0 h w)(o:bH O I af ρ)(c:Call)(ty:TypeId):
 aZ E O I K w0 w h (do let d <-resolve ρ c ty;invoke d.target d.args) (rH E af c h (evs af c.args.toList)):=by
 cases hx:evs af c.args.toList with
 |none=>trivial
 |some args=>
  have ra:=yR o hx;have harr:(c.args.toList.map ρ).toArray=c.args.map ρ:=by grind
  simp[rH];split
  .rename_i b hb;have:=bx7 hE r ra b c.argTypes ty (c.args.map λ| .const _=>true|_=>false);grind[resolve,invoke,builtin,Sem.run_bind,Sem.run_pure,Result.andThen_ok,sF]
  .rename_i rc name hf;cases hv:af rc with
   |none=>trivial
   |some vf=>
    have:=VY hE (name:=name) (cap:=[]) (y:= #[]) (x:= #[ρ rc]) r (first:=[vf]) ⟨ρ rc,[],rfl,o rc vf hv,rfl⟩ ra;exact this
  .rename_i f hf;cases hv:af f with
   |none=>trivial
   |some vf=>
    have:=TC hE r (o f vf hv) ra;rw[harr]at this;have hres:resolve ρ c ty=Deferred.ofValue (ρ f) (c.args.map ρ):=by grind[resolve]
    rw[hres];exact this
theorem cC3(hE:E.Ok I)(r:HR O I K w0 h w)(ro:bH O I af ρ)(o:Oper):aZ E O I K w0 w h (execOp ρ o) (jF E af o h):=by
 obtain⟨dst,op,ty,pos,after,guard⟩:=o;cases op with
 |move x=>
  show aZ E O I K w0 w h (pure (.value (ρ x))) (ov (af x) h);cases hx:af x with
  |none=>trivial
  |some a=>exact⟨O,ρ x,w,.inl rfl,ro x a hx,r,.refl _ _⟩
 |assign x=>
  show aZ E O I K w0 w h (pure (.value (ρ x))) (ov (af x) h);cases hx:af x with
  |none=>trivial
  |some a=>exact⟨O,ρ x,w,.inl rfl,ro x a hx,r,.refl _ _⟩
 |pick c a b=>exact cB8 r ro c a b
 |alloc e=>exact cc7 r e
 |box e x=>exact d09 r ro e x
 |build t ps=>exact cc8 r ro t ps
 |buildSlice t n ps=>exact b04 r ro t n ps
 |load t a=>exact cB9 r ro t a
 |store t a x=>exact cc9 r ro t a x
 |nilCheck x=>
  show aZ E O I K w0 w h _ (xH E.P h (af x));unfold xH;split
  .rename_i name first cap hx
   unfold EF;split
   .rename_i t v rest;split
    .rename_i g hm;have rx:=ro x _ hx;refine⟨O,ρ x,w,.inl ?_,rx,r,.refl _ _⟩;obtain⟨-,p,q,e,rp,-⟩:=rx;obtain⟨u,us,hp,ru,-⟩:=rp;obtain⟨y,rfl,-⟩:=ru;have h0:p[0]? =some (.iface t y):=by rw[<-Array.getElem?_toList,hp];rfl
     have hn:(nilAhead (E.P.types.size+Made.depth) t y name).run E.P w= .ok (some false) w:=bj8 hm (E.P.types.size+99) y w;simp_all[execOp,Sem.run_bind,run_program,Result.andThen_ok]
    .trivial
   .trivial
  .rename_i a hnm hx;cases hn:Ir a with
   |none=>trivial
   |some b=>
    have rx:=ro x a hx;obtain⟨rfl,hv⟩:=bx1 rx hn;refine⟨O,ρ x,w,.inl ?_,rx,r,.refl _ _⟩;simp[execOp];generalize ρ x=v at hv;cases v with
    |pointer p=>cases p with
     |none=>cases hv
     |some p=>rfl
    |func fn a b=>cases fn<;>first|rfl|cases hv
    |nilIface=>cases hv
    |nilFunc=>cases hv
    |_=>rfl
  .trivial
 |binOp op t x y _=>exact d13 hE r ro op t x y
 |unOp op _ x=>exact do8 hE r ro op x
 |convert s d x=>exact cC0 hE r ro s d x
 |makeInterface t x=>exact cd0 r ro t x
 |makeFunc fn a b=>exact cC1 r ro fn a b
 |makeMap t x=>exact d14 r ro t x
 |makeSlice t l c=>exact b88 r ro t l c
 |slice t x lo hi mx=>exact cd1 r ro t x lo hi mx
 |fieldAddr s x f=>exact Du (F:=λa=>Hz E.P s a f) (G:=λv=>Instr.fieldAt s v f) r ro x λa v va e ra=>let ⟨u,u1,u2⟩:=b73 e ra;⟨u,u1,u2 w⟩
 |field t x f=>exact Du (F:=λa=>Gf E.P t a f) (G:=λv=>Instr.field t v f) r ro x λa v va e ra=>let ⟨u,u1,u2⟩:=c87 e ra;⟨u,u1,u2 w⟩
 |indexAddr t x i=>exact Ml (G:=λv u=>Instr.indexAt t v u) r ro x i λa b v va vb e ra rb=>let ⟨u,u1,u2⟩:=b74 e ra rb;⟨u,u1,u2 w⟩
 |index t x i=>exact Ml (G:=λv u=>Instr.index t v u) r ro x i λa b v va vb e ra rb=>let ⟨u,u1,u2⟩:=c88 e ra rb;⟨u,u1,u2 w⟩
 |lookup t x i ok=>exact Ml (F:=λa i=>Gp E.P t a i ok h) (G:=λv u=>Instr.lookup t v u ok) r ro x i λa b v va vb e ra rb=>bV7 r e ra rb
 |mapUpdate t m k x=>exact QW (F:=λm k v=>wW E.P t m k v h) (G:=λm k v=>Instr.mapUpdate t m k v) r ro m k x λa b c h' va vb vc e ra rb rc=>SG r e ra rb rc
 |insert t m k x=>exact QW (F:=λm k v=>wW E.P t m k v h) (G:=λm k v=>Instr.mapUpdate t m k v) r ro m k x λa b c h' va vb vc e ra rb rc=>SG r e ra rb rc
 |mapEntry t m k=>
  show aZ E O I K w0 w h (do pure (.value (<-Instr.mapEntry t (ρ m) (ρ k)))) (Nd (λm k=>FQ E.P t m k h) (af m) (af k));cases hx:af m with
  |none=>trivial
  |some a=>
   cases hy:af k with
   |none=>trivial
   |some b=>exact xw λv h' hv=>bj2 r hv (ro m a hx) (ro k b hy)
 |entryStore t m s x=>exact QW (F:=λm s v=>Gq m s v h) (G:=λm k v=>Instr.entryStore t m k v) r ro m s x λa b c h' va vb vc e ra rb rc=>b00 r e ra rb rc
 |range t x=>
  show aZ E O I K w0 w h (do pure (.value (<-Instr.range t (ρ x)))) (Pa (λa=>Ep E.P t a h) (af x));cases hx:af x with
  |none=>trivial
  |some a=>exact xw λv h' hv=>c96 r hv (ro x a hx)
 |next it s=>
  show aZ E O I K w0 w h (do pure (.value (<-Instr.next (ρ it) s ty))) (pC (λa=>zD a s h) (af it));cases hx:af it with
  |none=>trivial
  |some a=>
   have:=cz6 (P:=E.P) (ty:=ty) (isS:=s) r (ro it a hx);simp[pC];cases hn:zD a s h<;>rw[hn]at this
   .exact .of this
   .exact this.elim
   .exact this.elim
   .exact this.elim
   .obtain⟨x,hx,hok⟩:=this;exact⟨x,hx,.of hok⟩
   .exact this.elim
   .exact this.elim
   .trivial
 |entry it=>exact Du (F:=λa=>Jb a h) (G:=λv=>Instr.entry v) r ro it λa v va e ra=>ca2 r e ra
 |typeAssert x xt t ok=>exact Du (F:=λa=>Ff E.P a t ok) (G:=λv=>Instr.typeAssert v xt t ok) r ro x λa v va e ra=>let ⟨u,u1,u2⟩:=b01 e ra;⟨u,u1,u2 w⟩
 |extract t i=>exact Du (F:=Fb i) (G:=λv=>Instr.extract v i) r ro t λa v va e ra=>let ⟨u,u1,u2⟩:=bw2 e ra;⟨u,u1,u2 w⟩
 |call c=>exact cC2 hE r ro c ty
 |defer c=>
  show aZ E O I K w0 w h (do pure (.defer (<-resolve ρ c ty))) (DB af c (evs af c.args.toList));cases hv:evs af c.args.toList with
  |none=>trivial
  |some args=>
   have ra:=yR ro hv;simp only[DB];split
   .rename_i f hcal;cases hf:af f with
    |none=>trivial
    |some a=>
     simp only[pC];unfold Ri;split
     .rename_i g first cap
      obtain⟨-,x,y,hx,rx,ry⟩:=ro f _ hf;refine⟨{target:= .fn (.func g) y,args:=x++(c.args.map ρ)},?_,_,_,rfl,?_,ry⟩
      .grind[resolve,Deferred.ofValue,Sem.run_bind,Sem.run_pure,Result.andThen_ok]
      .rw[Array.toList_append,Array.toList_map];exact rx.append ra
     .trivial
   .trivial
 |_=>trivial
theorem bl4(hE:E.Ok I)(r:HR O I K w0 h w)(ro:bH O I af ρ)(o:Oper):aZ E O I K w0 w h (execOp ρ o) (Y8 E af o h):=by
 have h1:=cC3 hE r ro o;have h2:=cB7 (E:=E) hE.fix r ro o;unfold Y8;cases hc:jF E af o h<;>rw[hc]at h1<;>first|exact h1|exact h2
end Go.Ev
