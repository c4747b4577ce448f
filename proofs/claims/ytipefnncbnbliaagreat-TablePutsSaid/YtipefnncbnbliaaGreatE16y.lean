import Derived.Test.YtipefnncbnbliaaGreatE13
set_option linter.unusedSimpArgs false
set_option linter.unusedVariables false
namespace Go.Ev
open Go
variable{t yt:TypeId}{op:BinOp}{x a y:AV}{v vy vx va vc zv:Value}{e b nd ly:SX}{sig:List CT}{k:IntKind}{M:Sem Value}{n s:Nat}{i:TypeInfo}
variable{E:Env}{O:bY}{I:Opq}{K:Nat->Prop}{w0 w:World}{h h':Heap}{af:Operand->Option AV}{ρ:Operand->Value}
abbrev ax:Opq:=⟨λ_=> .nilIface,λ_=> .vb false,λ_ _=> .vb false,λ_=>rfl,λ_=>false,λ_=>none⟩
theorem rW(h:jn x=some (k,e))(r:VR O I x v):v= .int k (dI I e):=by
 unfold jn at h;split at h<;>simp only[j0,A7,reduceCtorEq]at h
 .obtain⟨rfl,rfl⟩:=h;exact r
 .obtain⟨rfl,rfl⟩:=h;exact r
theorem yv(h:lE x=some e)(r:VR O I x v):v= .string ⟨(dS I e).toArray⟩:=by
 unfold lE at h;split at h<;>simp only[j0,reduceCtorEq]at h
 .subst h;exact r
 .subst h;exact r
theorem vn(h:lY x=some e)(r:VR O I x v):v= .bool (dB I e):=by
 unfold lY at h;split at h<;>simp only[j0,reduceCtorEq]at h
 .subst h;exact r
 .subst h;exact r
theorem cR.pureV{m:Sem Next}{v:AV}{u:Value}(r:HR O I K w0 h w)(hv:VR O I v u)(hr:m.run E.P w= .ok (.value u) w):cR E O I K w0 w h m v h:=
 ⟨O,u,w,.inl hr,hv,r,.refl _ _⟩
theorem JK(op:BinOp)(k:IntKind)(a b:SX):dI I (.op (.ar op k) [a,b])=cg op k (dI I a) (dI I b):=rfl
theorem De(op:BinOp)(a b:SX):dB I (.op (.cmp op) [a,b])=gn op (dI I a) (dI I b):=rfl
theorem da7(op:BinOp)(a b:SX):dB I (.op (.scmp op) [a,b])=pz op (dS I a) (dS I b):=rfl
theorem rN(n:Int):dI I (.ci n)=n:=rfl
theorem dy5(a b:SX):dI I (fZ a b)=dI I a+dI I b:=rfl
theorem cl0(a:SX):dI I (.op .slen [a])=((dS I a).length:Int):=rfl
theorem mO(a:SX):dI I (.op .llen [a])=((dL I a).length:Int):=rfl
theorem ub(a b:SX):dB I (.op .and [a,b])=(dB I a&&dB I b):=rfl
theorem FF{i l:SX}(h:dB I (zS i l)=true):0<=dI I i/\dI I i<dI I l:=by
 simp[zS,ub,De,gn,j7,decide_eq_true_eq]at h;exact h
theorem Wi{x y n:Int}(he:uc op k x y=some (.int k n))(hop:op≠ .shl/\op≠ .shr)(w:World):
 (binOp op t (.int k x) (.int k y)).run E.P w= .ok (.int k n) w:=by
 obtain⟨v,r1,r2⟩:=KE (P:=E.P) (O:=λ_=>none) (I:=ax) t he hop;rw[r2,show v=_ from r1]
theorem da8{x y:Int}{n:Bool}(he:uc op k x y=some (.bool n))(hop:op≠ .shl/\op≠ .shr)(w:World):
 (binOp op t (.int k x) (.int k y)).run E.P w= .ok (.bool n) w:=by
 obtain⟨v,r1,r2⟩:=KE (P:=E.P) (O:=λ_=>none) (I:=ax) t he hop;rw[r2,show v=_ from r1]
theorem da9{x y z:List UInt8}(he:Ci op x y=some (.str z))(w:World):
 (binOp op t (.string ⟨x.toArray⟩) (.string ⟨y.toArray⟩)).run E.P w= .ok (.string ⟨z.toArray⟩) w:=by
 obtain⟨v,r1,r2⟩:=QF (P:=E.P) (O:=λ_=>none) (I:=ax) t he;rw[r2,show v=_ from r1]
theorem db0{x y:List UInt8}{n:Bool}(he:Ci op x y=some (.bool n))(w:World):
 (binOp op t (.string ⟨x.toArray⟩) (.string ⟨y.toArray⟩)).run E.P w= .ok (.bool n) w:=by
 obtain⟨v,r1,r2⟩:=QF (P:=E.P) (O:=λ_=>none) (I:=ax) t he;rw[r2,show v=_ from r1]
theorem db1{k':IntKind}{a:SX}(r:HR O I K w0 h w)
 (hM: ∀u,(binOp op t (.int k (dI I a)) (.int k' (dI I b))).run E.P w= .ok u w->M.run E.P w= .ok u w):
 cO E O I K w0 w h (do pure (.value (<-M))) (Ji op k k' a b h):=by
 have fin: ∀{v:AV} {u:Value},(binOp op t (.int k (dI I a)) (.int k' (dI I b))).run E.P w= .ok u w->VR O I v u->cR E O I K w0 w h (do pure (.value (<-M))) v h:=by
  grind[cR.pureV,Sem.run_bind,Result.andThen_ok,Sem.run_pure]
 have nn:dB I (.op (.cmp .leq) [.ci 0,b])=true-> ∃n:Nat,dI I b=n:=by
  intro hd;simp[De,gn,decide_eq_true_eq]at hd;have hd:0<=dI I b:=hd;exact⟨(dI I b).toNat,by omega⟩
 have nz:dB I (.op (.cmp .neq) [b,.ci 0])=true->mV (dI I b) 0=false:=by
  intro hd;simp[De,gn,y6,decide_eq_false_iff_not]at hd;have hd: ¬dI I b=0:=hd;grind[tq]
 unfold Ji;cases op<;>simp only[];case shl=>
  intro hd;obtain⟨n,hn⟩:=nn hd;exact fin (by rw[hn];rfl) (by grind[VR,JK,cg,Int.toNat_natCast])
 case shr=>
  intro hd;obtain⟨n,hn⟩:=nn hd;exact fin (by rw[hn];rfl) (by grind[VR,JK,cg,Int.toNat_natCast])
 all_goals
  split
  .rename_i hk;subst hk;first
    |(intro hd
      have hz:=nz hd;refine fin (Wi (by simp[uc,hz,cond_false]<;>rfl) ⟨by simp,by simp⟩ w) ?_;grind[VR,JK,cg,sj])
    |(refine fin (Wi rfl ⟨by simp,by simp⟩ w) ?_
      grind[VR,JK,cg,sj])
    |(refine fin (da8 rfl ⟨by simp,by simp⟩ w) ?_
      simp[VR,De,gn,tq,qC];first|done|rfl|(congr 1;grind)|(congr 1;rw[D9];simp;omega))
  .trivial
theorem ea6{a:SX}(hd:dB I (.op (.cmp .lss) [fZ (.op .slen [a]) (.op .slen [b]),.ci tJ])=true):gn .lss (dI I (fZ (.op .slen [a]) (.op .slen [b]))) (dI I (.ci tJ))=true:=by
 grind[De]
theorem Vt{a:SX}(hd:gn .lss (dI I (fZ (.op .slen [a]) (.op .slen [b]))) (dI I (.ci tJ))=true):gn .lss (dI I (fZ (.op .slen [a]) (.op .slen [b]))) tJ=true:=by
 grind[rN]
theorem ea7{x y:Int}(hd:gn .lss x y=true):x<y:=by
 grind[gn]
theorem db2{a:SX}(hd:dB I (.op (.cmp .lss) [fZ (.op .slen [a]) (.op .slen [b]),.ci tJ])=true):((dS I a).length:Int)+((dS I b).length:Int)<tJ:=by
 have h1:=ea7 (Vt (ea6 hd));simp_all[dy5,cl0]
theorem cJ9{a:SX}(r:HR O I K w0 h w)
 (hM: ∀u,(binOp .add t (.string ⟨(dS I a).toArray⟩) (.string ⟨(dS I b).toArray⟩)).run E.P w= .ok u w->M.run E.P w= .ok u w)
 (hd:dB I (.op (.cmp .lss) [fZ (.op .slen [a]) (.op .slen [b]),.ci tJ])=true):cR E O I K w0 w h (do pure (.value (<-M))) (.ostr (.op .cat [a,b])) h:=by
 replace hd:=db2 hd;have e3:tJ=(EO:Int):=by rfl
 have hlt:Nat.blt ((dS I a).length+(dS I b).length) EO=true:=gO (by omega);have h1:(binOp .add t (.string ⟨(dS I a).toArray⟩) (.string ⟨(dS I b).toArray⟩)).run E.P w= .ok (.string ⟨(dS I a++dS I b).toArray⟩) w:=da9 (by simp[Ci,hlt,cond_true]) w;exact cR.pureV r (u:= .string ⟨(dS I a++dS I b).toArray⟩) rfl (by simp_all)
theorem db3{a:SX}(r:HR O I K w0 h w)
 (hM: ∀u,(binOp op t (.string ⟨(dS I a).toArray⟩) (.string ⟨(dS I b).toArray⟩)).run E.P w= .ok u w->M.run E.P w= .ok u w):
 cO E O I K w0 w h (do pure (.value (<-M))) (IL op a b h):=by
 have fin: ∀{v:AV} {u:Value},(binOp op t (.string ⟨(dS I a).toArray⟩) (.string ⟨(dS I b).toArray⟩)).run E.P w= .ok u w->VR O I v u->cR E O I K w0 w h (do pure (.value (<-M))) v h:=by
  grind[cR.pureV,Sem.run_bind,Result.andThen_ok,Sem.run_pure]
 unfold IL;cases op<;>simp only[];case add=>exact cJ9 r hM
 all_goals first
  |trivial
  |(refine fin (db0 rfl w) ?_
    simp[VR,da7,pz,sS,jW];first|done|rfl|grind)
mutual
noncomputable def dO(I:Opq):AV->AV
 | .oint k e=> .int k (dI I e)
 | .ostr e=> .str (dS I e)
 | .obool e=> .bool (dB I e)
 | .agg cs=> .agg (qf I cs)
 |x=>x
noncomputable def qf(I:Opq):List AV->List AV
 | []=>[]
 |x::r=>dO I x::qf I r
end
theorem KB: ∀l:List AV,qf I l=l.map (dO I)
 | []=>rfl
 |x::r=>by simp[qf,m8,KB r]
mutual
theorem JG: ∀(x:AV) (v:Value),VR O I x v->VR O I (dO I x) v
 | .oint k e,v,h=>by exact h
 | .ostr e,v,h=>by exact h
 | .obool e,v,h=>by exact h
 | .agg cs,v,h=>by
   obtain⟨xs,rfl,q⟩:=h;exact⟨xs,rfl,bR7 cs _ q⟩
 | .bool _,v,h=>by grind[dO]
 | .int _ _,v,h=>by grind[dO]
 | .str _,v,h=>by grind[dO]
 | .nilp,v,h=>by grind[dO]
 | .ptr _ _,v,h=>by grind[dO]
 | .glob _,v,h=>by grind[dO]
 | .nils,v,h=>by grind[dO]
 | .sl _ _ _ _,v,h=>by grind[dO]
 | .us _ _ _ _,v,h=>by grind[dO]
 | .es _ _ _,v,h=>by grind[dO]
 | .es0,v,h=>by grind[dO]
 | .nilm,v,h=>by grind[dO]
 | .map _,v,h=>by grind[dO]
 | .nilf,v,h=>by grind[dO]
 | .func _ _ _,v,h=>by grind[dO]
 | .yield _,v,h=>by grind[dO]
 | .nili,v,h=>by grind[dO]
 | .iface _ _,v,h=>by grind[dO]
 | .tup _,v,h=>by grind[dO]
 | .opq _,v,h=>by grind[dO]
 | .osl _ _ _ _,v,h=>by grind[dO]
 | .optr _ _ _ _,v,h=>by grind[dO]
 | .ous _ _ _,v,h=>by grind[dO]
 | .atl _,v,h=>by grind[dO]
 | .any,v,h=>by grind[dO]
theorem bR7: ∀(xs:List AV) (vs:List Value),cj O I xs vs->cj O I (qf I xs) vs
 | [],vs,h=>h
 |x::r,vs,h=>by
  obtain⟨v,vr,rfl,p,q⟩:=h;exact⟨v,vr,rfl,JG x v p,bR7 r vr q⟩
end
theorem ZL(h:jn x=some (k,e)):dO I x= .int k (dI I e):=by
 unfold jn at h;split at h<;>simp only[j0,A7,reduceCtorEq]at h
 .obtain⟨rfl,rfl⟩:=h;rfl
 .obtain⟨rfl,rfl⟩:=h;rfl
theorem bs4(h:lE x=some e):dO I x= .str (dS I e):=by
 unfold lE at h;split at h<;>simp only[j0,reduceCtorEq]at h<;>subst h<;>rfl
theorem Yf(h:lY x=some e):dO I x= .bool (dB I e):=by
 unfold lY at h;split at h<;>simp only[j0,reduceCtorEq]at h<;>subst h<;>rfl
variable{P:Program}
theorem OA{cs:List AV}{o:Nat}(h:jV P t cs o=some a):jV P t (qf I cs) o=some (dO I a):=by
 unfold jV at h⊢;split at h
 .obtain⟨hc,h⟩:=W6 h;simp at h;subst h;rw[KB,l5,hc];simp[cond_true,dO,KB,List.map_take,List.map_drop]
 .rw[KB,B9,h];rfl
 .cases h
theorem RN(a b:SX):dB I (gZ a b)=(dB I a&&dB I b):=by
 have h0:dB I (.cb true)=true:=rfl;unfold gZ;split
 .rfl
 .split
  .grind
  .rfl
theorem OC{ihS:TypeId->AV->AV->Option SX}{ih:TypeId->AV->AV->Option Bool}(hih: ∀t a b e,ihS t a b=some e->ih t (dO I a) (dO I b)=some (dB I e)){xs ys:List AV}:
 ∀{fs:List Field} {e:SX},AP P ihS xs ys fs=some e->uy P ih (qf I xs) (qf I ys) fs=some (dB I e)
 | [],e,h=>by simp[AP,j0]at h;subst h;rfl
 |f::r,e,h=>by
  simp[AP]at h;simp[uy];cases hb:(f.name== "_")with
  |true=>rw[hb]at h;exact OC hih h
  |false=>
   rw[hb]at h;simp at h⊢;split at h
   .rename_i a b h1 h2;split at h
    .rename_i e1 h3;split at h
     .rename_i e2 h4;simp at h;subst h;rw[OA h1,OA h2];simp[hih _ _ _ _ h3,RN];cases dB I e1 with
      |true=>exact OC hih h4
      |false=>rfl
     .cases h
    .cases h
   .cases h
theorem c63{ihS:TypeId->AV->AV->Option SX}{ih:TypeId->AV->AV->Option Bool}(hih: ∀t a b e,ihS t a b=some e->ih t (dO I a) (dO I b)=some (dB I e))(h:Rk P ihS t x y=some e):
 kJ P ih t (dO I x) (dO I y)=some (dB I e):=by
 unfold Rk at h;split at h
 .rename_i ht;split at h
  .rename_i a b h1 h2;simp at h;subst h;rw[Yf h1,Yf h2];unfold kJ;simp_all;rfl
  .cases h
 .rename_i k0 ht;split at h
  .rename_i k a k' b h1 h2;unfold XE at h;split at h
   .rename_i hk;subst hk;simp at h;subst h;rw[ZL h1,ZL h2];unfold kJ;simp[ht,if_true,tq];rfl
   .cases h
  .cases h
 .rename_i ht;split at h
  .rename_i a b h1 h2;simp at h;subst h;rw[bs4 h1,bs4 h2];unfold kJ;simp[ht,sS];congr 1;show _=decide (dS I a=dS I b);grind
  .cases h
 .rename_i fields ht;split at h
  .cases hs:P.stoodInHeld t with
   |true=>grind
   |false=>
    unfold kJ;simp_all;exact OC hih h
  .cases h
 .cases h
theorem RB: ∀(n:Nat) {t:TypeId} {x y:AV} {e:SX},FB P n t x y=some e->jL P n t (dO I x) (dO I y)=some (dB I e)
 |0,t,x,y,e,h=>by cases h
 |n+1,t,x,y,e,h=>c63 (ihS:=FB P n) (ih:=jL P n) (λt a b e h=>RB n h) h
theorem lU(sig:List CT)(r:Val):(dG sig r).length=sig.length:=by simp[dG]
theorem iJ(sig:List CT): ∀l:List Val,(cE sig l).length=l.length*sig.length
 | []=>by simp[cE]
 |r::l=>by
  have:=iJ sig l;simp[cE]at this⊢;simp_all[C0,k7,lU,List.length_cons,s8,F7,E4]
theorem BL{r:Val}{j:Nat}(hj:j<sig.length):(dG sig r)[j]? =some (gr (sig.getD j .bool) (r.toL.getD j default)):=by
 simp[dG,hj]
theorem CU{sig:List CT}{j:Nat}(hj:j<sig.length): ∀{l:List Val} {i:Nat},i<l.length->(cE sig l)[i*sig.length+j]? =some (gr (sig.getD j .bool) ((l.getD i (.vl [])).toL.getD j default))
 | [],i,h=>by simp at h
 |r::l,0,h=>by
  simp[cE,C0,J5,l9];grind[List.getElem?_append_left,lU,BL]
 |r::l,i+1,h=>by
  simp[cE,C0];rw[m9 (by rw[lU,s8];omega),lU];have:=CU hj (l:=l) (i:=i) (by simpa using h);grind[cE]
theorem BP(c:CT)(e:SX):VR O I (uA c e) (gr c (bU I e)):=by cases c<;>rfl
theorem Ke(sig:List CT)(l idx:SX): ∀(n j:Nat),cj O I (CO sig l idx j n) ((List.range' j n).map λt=>gr (sig.getD t .bool) (bZ (dL I l) (dI I idx) t))
 |0,j=>rfl
 |n+1,j=>by
  exact⟨_,_,rfl,BP _ _,Ke sig l idx n (j+1)⟩
theorem HR.arr{b:Nat}{e:Nat}{l:SX}{L:Loc}(r:HR O I K w0 h w)(hg:h.get b=some (.arr e sig l))(hb:O b=some L):
 ∃C e' lo hi,w.heap[L.blk]? =some (.cells C e' (lo,hi))/\(e'=e\/e=iD)/\L.off+L.ext<=C.size/\(dL I l).length*sig.length<=L.ext/\
  (∀i v,(cE sig (dL I l))[i]? =some v->C[L.off+i]? =some v)/\(∀i,i<L.ext-> ¬(lo<=L.off+i/\L.off+i<hi)):=r.blk b _ L hg hb
theorem bR8{a b:Bool}(hn:0<n)(ht:P.underlying t=some .bool):jL P n t (.bool a) (.bool b)=some (a==b):=by
 cases n with
 |zero=>omega
 |succ n=>
  have h1:jL P (n+1) t (.bool a) (.bool b)=kJ P (jL P n) t (.bool a) (.bool b):=rfl;rw[h1];unfold kJ;grind
theorem Tq{P:Program}(h:yz P t=true): ∃e,P.underlying t=some (.slice e):=by
 grind[yz]
theorem Vg{P:Program}{b o m c:Nat}(hn:0<n)(ht:yz P t=true):jL P n t (.sl b o m c) .nils=some false:=by
 obtain⟨e,ht⟩:=Tq ht;cases n with
 |zero=>omega
 |succ n=>
  have h1:jL P (n+1) t (.sl b o m c) .nils=kJ P (jL P n) t (.sl b o m c) .nils:=rfl;rw[h1];unfold kJ;grind[Gu]
theorem db4(l y:SX):dL I (qv l y)=dL I l++dL I y:=by
 unfold qv;split
 .rfl
 .rfl
theorem cZ7(hs:yz E.P t=true)(x:Option Addr)(n c:Nat)(w:World):(binOp .eql t (.slice x n c) (.slice none 0 0)).run E.P w= .ok (.bool x.isNone) w/\(binOp .neq t (.slice x n c) (.slice none 0 0)).run E.P w= .ok (.bool !x.isNone) w:=by
 obtain⟨e,ht⟩:=Tq hs;have gen: ∀d,(Op.equalIn (d+1) t (.slice x n c) (.slice none 0 0)).run E.P w= .ok x.isNone w:=λd=>by
  cases x<;>simp[Op.equalIn,Z0 ht]
 have key:(Op.equal t (.slice x n c) (.slice none 0 0)).run E.P w= .ok x.isNone w:=by
  have:=gen 9999;exact this
 rw[PA _ _ _ rfl,Rq _ _ _ rfl];simp_all
theorem cl3{len:SX}{b:AV}(r:HR O I K w0 h w)(rx0: ∃x n c,vx= .slice x n c)(rx:0<dI I len-> ∃b o n c,VR O I (.sl b o n c) vx)(ry:VR O I b vy)(hM: ∀u,(binOp op t vx vy).run E.P w= .ok u w->M.run E.P w= .ok u w):
 cO E O I K w0 w h (do pure (.value (<-M))) (Hf E.P op t len b h):=by
 unfold Hf;split
 .cases hs:yz E.P t with
  |false=>trivial
  |true=>
   have key: ∀v:AV,0<dI I len->(∀b o n c,tw E.P op t (.sl b o n c) .nils=some v)->cR E O I K w0 w h (do pure (.value (<-M))) v h:=by
    intro v h0 hv;obtain⟨b',o,n,c,rx⟩:=rx h0;obtain⟨u,u1,u2⟩:=NJ (hv b' o n c) rx ry (by intro k n hh;cases hh) (by intro l hh;cases hh);exact cR.pureV r u1 (by simp_all)
   obtain⟨x,n,c,rfl⟩:=rx0;subst ry;have two: ∀q:Bool,(binOp op t (.slice x n c) (.slice none 0 0)).run E.P w= .ok (.bool q) w-> ∃v∈[AV.bool true,AV.bool false],cR E O I K w0 w h (do pure (.value (<-M))) v h:=by
    intro q hq;refine⟨.bool q,by cases q<;>simp,cR.pureV r (u:= .bool q) rfl (by simp_all)⟩
   split
   .refine⟨λhd=>key _ (j6 hd) λb o n c=>by simp[tw,Vg (by omega:0<10000) hs,Option.map_some],λ_=>two _ (cZ7 hs x n c w).1⟩
   .refine⟨λhd=>key _ (j6 hd) λb o n c=>by simp[tw,Vg (by omega:0<10000) hs,Option.map_some,M9],λ_=>two _ (cZ7 hs x n c w).2⟩
   .trivial
 .trivial
theorem db5{b:AV}(r:HR O I K w0 h w)(rx:VR O I a vx)(ry:VR O I b vy)(hM: ∀u,(binOp op t vx vy).run E.P w= .ok u w->M.run E.P w= .ok u w):
 cO E O I K w0 w h (do pure (.value (<-M))) (JO E.P op t a b h):=by
 unfold JO;cases a<;>try trivial
 case agg cs=>
  simp;cases he:FB E.P 10000 t (.agg cs) b with
  |none=>trivial
  |some e=>
   have h5:=RB (I:=I) 10000 he;have rx':=JG (I:=I) _ _ rx;have ry':=JG (I:=I) _ _ ry;have key: ∀(op':BinOp) (v:AV),op=op'->tw E.P op' t (dO I (.agg cs)) (dO I b)=some v-> ∃u,VR O I v u/\(do pure (.value (<-M)):Sem Next).run E.P w= .ok (.value u) w:=by
    rintro op' v rfl hv;obtain⟨u,u1,u2⟩:=NJ hv rx' ry' (by intro k n hh;simp[dO]at hh) (by intro l hh;simp[dO]at hh);exact⟨u,u1,by simp_all⟩
   simp;split
   .obtain⟨u,u1,u2⟩:=key .eql (.bool (dB I e)) rfl (by simp[tw,h5,Option.map_some]);exact cR.pureV r (v:= .obool e) (u:=u) u1 u2
   .obtain⟨u,u1,u2⟩:=key .neq (.bool (!dB I e)) rfl (by simp[tw,h5,Option.map_some]);exact cR.pureV r (v:= .obool (.op .not [e])) (u:=u) u1 u2
   .trivial
 case osl b' off len sz=>
  refine cl3 r (by
   rcases rx with⟨L,cap,a,hL,rfl,_,ha⟩|⟨_,_,rfl,_,h1⟩<;>exact⟨_,_,_,rfl⟩) (λh0=> ?_) ry hM
  rcases rx with⟨L,cap,a,hL,rfl,_,ha⟩|⟨_,_,_,_,h1⟩
  .exact⟨b',(dI I off).toNat*sz,_,cap,L,hL,by rw[ha h0]⟩
  .omega
 case ous b' len sz=>
  refine cl3 r (by
   rcases rx with⟨L,cap,hL,_,rfl,_⟩|⟨rfl,h1⟩<;>exact⟨_,_,_,rfl⟩) (λh0=> ?_) ry hM
  rcases rx with⟨L,cap,hL,_,rfl,_⟩|⟨_,h1⟩
  .exact⟨b',0,_,cap,L,hL,rfl⟩
  .omega
theorem cK0(r:HR O I K w0 h w)(o:dW O I af ρ)(op:BinOp)(t:TypeId)(x y:Operand):
 cO E O I K w0 w h (do pure (.value (<-(do eqGuard op t x y (ρ x) (ρ y);binOp op t (ρ x) (ρ y):Sem Value)))) (Ip E.P op t x y h (af x) (af y)):=by
 cases hx:af x with
 |none=>trivial
 |some a=>
  cases hy:af y with
  |none=>trivial
  |some b=>
   simp only[Ip];cases hg:wX E.P op t x y a b with
   |false=>trivial
   |true=>
    have hgr:=ba0 hg (o x a hx) (o y b hy);have rx:=o x a hx;have ry:=o y b hy;have hM: ∀u,(binOp op t (ρ x) (ρ y)).run E.P w= .ok u w->(do eqGuard op t x y (ρ x) (ρ y);binOp op t (ρ x) (ρ y):Sem Value).run E.P w= .ok u w:=by
     simp_all
    unfold Od;split
    .refine db1 (t:=t) r λu hu=>hM u ?_
     grind[rW]
    .split
     .refine db3 (t:=t) r λu hu=>hM u ?_
      grind[yv]
     .split
      .rename_i ea eb h1 h2;have e1:=vn h1 rx;have e2:=vn h2 ry;unfold TV;split
       .cases hb:Cx E.P t with
        |false=>trivial
        |true=>
         have ht:E.P.underlying t=some .bool:=by
          unfold Cx at hb;split at hb
          .assumption
          .cases hb
         refine cR.pureV r (u:= .bool (dB I ea==dB I eb)) rfl ?_;have hrun:=xm (P:=E.P) (O:=O) (I:=I) 10000 (t:=t) (a:= .bool (dB I ea)) (b:= .bool (dB I eb)) (r:=dB I ea==dB I eb) (bR8 (by omega) ht) e1 e2 w;have h3:=hM (.bool (dB I ea==dB I eb)) (by
          rw[e1,e2,PA _ _ _ rfl];rw[e1,e2]at hrun;simp[Op.equal,Op.maxDepth,Sem.run_bind,hrun,Result.andThen_ok,Sem.run_pure])
         simp_all
       .cases hb:Cx E.P t with
        |false=>trivial
        |true=>
         have ht:E.P.underlying t=some .bool:=by
          unfold Cx at hb;split at hb
          .assumption
          .cases hb
         refine cR.pureV r (u:= .bool (!(dB I ea==dB I eb))) rfl ?_;have hrun:=xm (P:=E.P) (O:=O) (I:=I) 10000 (t:=t) (a:= .bool (dB I ea)) (b:= .bool (dB I eb)) (r:=dB I ea==dB I eb) (bR8 (by omega) ht) e1 e2 w;have h3:=hM (.bool (!(dB I ea==dB I eb))) (by
          rw[e1,e2,Rq _ _ _ rfl];rw[e1,e2]at hrun;simp[Op.equal,Op.maxDepth,Sem.run_bind,hrun,Result.andThen_ok,Sem.run_pure])
         simp_all
       .trivial
      grind[db5]
theorem dy6(r:HR O I K w0 h w)(o:dW O I af ρ)(op:UnOp)(x:Operand):cO E O I K w0 w h (do pure (.value (<-Op.unary op (ρ x)))) (JS op h (af x)):=by
 have key: ∀{a v:AV} {s:AV},VR O I a (ρ x)->Kw op (dO I a)=some v->(∀u,VR O I v u->VR O I s u)->cR E O I K w0 w h (do pure (.value (<-Op.unary op (ρ x)))) s h:=by
  intro a v s ra hv hs;obtain⟨u,u1,u2⟩:=cZ5 (P:=E.P) hv (JG _ _ ra);exact cR.pureV r (hs u u1) (by simp_all)
 unfold JS;split
 .rename_i e he;split
  .exact key (o x _ he) rfl λu hu=>hu
  .trivial
 .rename_i k e he;split
  .refine key (o x _ he) rfl λu hu=> ?_
   rw[show u=_ from hu,sj];rfl
  .refine key (o x _ he) rfl λu hu=> ?_
   rw[show u=_ from hu,sj];rfl
  .trivial
 .trivial
theorem db6(I:Opq)(e x y:SX):dB I (Ix e x y)=bif dB I e then dB I x else dB I y:=by
 have gen:dB I (.op .ite [e,x,y])=bif dB I e then dB I x else dB I y:=by
  show Val.toB (bif (bU I e).toB then bU I x else bU I y)=_;unfold dB;cases (bU I e).toB<;>rfl
 unfold Ix;split
 .cases dB I e<;>rfl
 .show(!(dB I e))=bif dB I e then false else true
  cases dB I e<;>rfl
 omega
theorem cK1(r:HR O I K w0 h w)(o:dW O I af ρ)(c a b:Operand):cO E O I K w0 w h (do pure (.value (if<-asBool (ρ c)then ρ a else ρ b))) (Jg h (af c) (af a) (af b)):=by
 unfold Jg;split
 .rename_i e he;have hc:=o c _ he;unfold Ra;split
  .rename_i y hx hy;intro hn;have hn:(!(dB I e))=true:=hn;have hf:dB I e=false:=by grind
   refine cR.pureV r (u:=ρ b) (o b _ hy) ?_;rw[hc,hf];rfl
  .intro hn;refine cR.pureV r (u:=ρ a) (o a _ ‹_›) ?_;rw[hc,hn];rfl
  .unfold SW;split
   .rename_i x y hx hy;obtain⟨a1,h1,h2⟩:=m7.1 hx;obtain⟨b1,h3,h4⟩:=m7.1 hy;have ha:=vn h2 (o a _ h1);have hb:=vn h4 (o b _ h3);refine cR.pureV r (u:= .bool (bif dB I e then dB I x else dB I y)) ?_ ?_
    .show _=Value.bool (dB I (Ix e x y));rw[db6]
    .rw[hc,ha,hb];cases dB I e<;>rfl
   .trivial
 .trivial
theorem cK2(r:HR O I K w0 h w)(o:dW O I af ρ)(t:TypeId)(x:Operand):cO E O I K w0 w h (do pure (.value (<-Instr.loadAt t (ρ x)))) (Md E.P t h (af x)):=by
 unfold Md;split
 .rename_i b idx j sz hx;have hv:=o x _ hx;obtain⟨L,hL,hv⟩:=hv;split
  .rename_i el sig l hg;obtain⟨C,e',lo,hi,q1,q0,q2,q3,q4,q5⟩:=r.arr hg hL;have cell: ∀(m:Nat),m<sig.length->sig.length=sz->0<=dI I idx->dI I idx<dI I (.op .llen [l])->
    w.cell? ⟨L.blk,L.off+(dI I idx).toNat*sz+m,none⟩=some (gr (sig.getD m .bool) (bZ (dL I l) (dI I idx) m)):=by
    intro m hm hs h0 h1;rw[sC q1];rw[mO]at h1;have hlt:(dI I idx).toNat<(dL I l).length:=by omega
    have:=CU (sig:=sig) (j:=m) hm hlt;grind[dI,bZ]
   split
   .rename_i n h1 h2;cases hc:(Nat.beq sig.length sz&&Nat.ble (j+n) sz)with
    |false=>trivial
    |true=>
     obtain⟨c1,c2⟩:=W5 hc;rw[Z1]at c1;rw[Z5]at c2;intro hd;obtain⟨g1,g2⟩:=FF hd;refine cR.pureV r (u:= .agg ((List.range' j n).map λt=>gr (sig.getD t .bool) (bZ (dL I l) (dI I idx) t)).toArray) ⟨_,rfl,Ke sig l idx n j⟩ ?_;have hload:=run_loadCells_list (P:=E.P) w ⟨L.blk,L.off+(dI I idx).toNat*sz+j,none⟩ ((List.range' j n).map λt=>gr (sig.getD t .bool) (bZ (dL I l) (dI I idx) t)) (λi v hi=>by
      rw[io];grind)
     simp at hload;rw[hv];simp[Instr.loadAt,Instr.sureAddr,Sem.run_bind,Sem.run_pure,Result.andThen_ok,loadVar,wE h1,if_true,eC h2,hload]
   .rename_i n h1 h2;cases hc:(Nat.beq sig.length sz&&Nat.blt j sz)with
    |false=>trivial
    |true=>
     intro hd;obtain⟨g1,g2⟩:=FF hd;refine cR.pureV r (BP _ _) ?_;simp[Instr.loadAt,Instr.sureAddr,Sem.run_bind,Sem.run_pure,Result.andThen_ok,loadVar,wE h1,n8,if_false];simp_all;rfl
   .trivial
  .rename_i cs hg;split
   .rename_i k h1;cases hc:(Nat.beq sz 1&&Nat.beq j 0)with
    |false=>trivial
    |true=>
     split
     .rename_i a ha;obtain⟨C,e,lo,hi,vs,q1,q2,q3⟩:=r.blk b _ L hg hL;have hk:=(A0.1 ha).1;have hC:=q3 k hk;obtain⟨u,hu,hua⟩:=cj.get _ _ q2 ha;rw[hu]at hC;refine cR.pureV r hua ?_;have hcell:w.cell? ⟨L.blk,L.off+(dI I (.ci (Int.ofNat k))).toNat*1+0,none⟩=some u:=by
       rw[sC q1];show C[L.off+(Int.ofNat k).toNat*1+0]? =_;rw[show L.off+(Int.ofNat k).toNat*1+0=L.off+k by simp];exact hC
      simp[Instr.loadAt,Instr.sureAddr,Sem.run_bind,Sem.run_pure,Result.andThen_ok,loadVar,wE h1,n8,if_false];simp_all
     .trivial
   .trivial
  .trivial
 .trivial
theorem bf6(r:HR O I K w0 h w)(o:dW O I af ρ)(s:TypeId)(f:Nat)(x:Operand):cO E O I K w0 w h (do pure (.value (<-Instr.fieldAt s (ρ x) f))) (LQ E.P s f h (af x)):=by
 unfold LQ;split
 .rename_i fields b idx j sz ht hx;have hv:=o x _ hx;obtain⟨L,hL,hv⟩:=hv;split
  .rename_i fd hf;split
   .rename_i n hs;refine cR.pureV r ⟨L,hL,rfl⟩ ?_;simp[hv,Instr.fieldAt,Sem.run_bind,Z0 ht,Result.andThen_ok,hf,Instr.sureAddr,Sem.run_pure,fieldPlace,eC hs];simp[io,y5]
   .trivial
  .trivial
 .trivial
theorem cl4(a b:SX):dI I (IE a b)=dI I a+dI I b:=by
 unfold IE;split
 .rw[rN];omega
 .rfl
theorem cK3{a:SX}(h:dB I (Np a b)=true):dB I a=true/\dB I b=true:=by
 unfold Np at h;split at h
 .exact⟨rfl,h⟩
 simp_all[ub,W5]
theorem bf7(r:HR O I K w0 h w)(o:dW O I af ρ)(t:TypeId)(x i:Operand):cO E O I K w0 w h (do pure (.value (<-Instr.indexAt t (ρ x) (ρ i)))) (LF E.P t h (af x) (af i)):=by
 have run: ∀{elem s:Nat} {k:IntKind} {n:Int} {a:Addr} {len:Int} {cap:Nat},E.P.underlying t=some (.slice elem)->ej E.P elem=some s->ρ i= .int k n->ρ x= .slice (some a) len.toNat cap->0<=n->n<len->
  (do pure (.value (<-Instr.indexAt t (ρ x) (ρ i))):Sem Next).run E.P w= .ok (.value (.pointer (some (a.add (n.toNat*s))))) w:=by
  intro elem s k n a len cap ht hs hi hx h1 h2;have hc:(0:Int)<=n/\n<(len.toNat:Int):=by omega
  rw[hi,hx];simp only[Instr.indexAt,Sem.run_bind,asIntOf,Sem.run_pure,Z0 ht,Result.andThen_ok,Instr.sureAddr,e8 hc,eC hs]
 unfold LF;split
 .rename_i elem ht;split
  .rename_i s hs;split
   .rename_i k i' hi;obtain⟨ai,g1,g2⟩:=m7.1 hi;have hvi:=rW g2 (o i _ g1);split
    .rename_i b off len sz hx;have hv:=o x _ hx;cases hc:Nat.beq s sz with
     |false=>trivial
     |true=>
      intro hd;obtain⟨d1,d2⟩:=cK3 hd;obtain⟨e1,e2⟩:=FF d2;have d1:0<=dI I off:=j6 d1;rcases hv with⟨L,cap,a,hL,hv,hcap,ha⟩|⟨_,_,hv,_,h0⟩
      .have ha:=ha (by omega);refine cR.pureV r ⟨L,hL,?_⟩ (run ht hs hvi hv e1 e2);simp_all[io,cl4,Int.toNat_add,s8,y5]
      .omega
    .rename_i b len sz hx;have hv:=o x _ hx;cases hc:Nat.beq s sz with
     |false=>trivial
     |true=>
      obtain rfl:=Z1.1 hc;intro hd;obtain⟨e1,e2⟩:=FF hd;rcases hv with⟨L,cap,hL,hcap,hv,_⟩|⟨hv,h0⟩
      .refine cR.pureV r ⟨L,hL,?_⟩ (run ht hs hvi hv e1 e2);rw[io];simp
      .omega
    .trivial
   .trivial
  .trivial
 .trivial
theorem cl5(r:HR O I K w0 h w)(o:dW O I af ρ)(t:TypeId)(x i:Operand):cO E O I K w0 w h (do pure (.value (<-Instr.index t (ρ x) (ρ i)))) (RY E.P t h (af x) (af i)):=by
 trivial
theorem OP{ts:Array TypeId}{ty:TypeId}{cs:Array Bool}{t:TypeDesc}(ht:(ts[0]?).bind E.P.underlying=some t)(hk:(t= .string/\ ∃s,v= .string s/\s.size=n)\/ ∃e a c,t= .slice e/\v= .slice a n c):
 (builtin .len ts ty cs #[v]).run E.P w= .ok (.value (.int .i64 n)) w:=by
 simp[m7]at ht;obtain⟨t0,h0,ht⟩:=ht;show(do pure (.value (<-Builtin.len_ ts ty #[v])):Sem Next).run E.P w=_;rcases hk with⟨rfl,s,rfl,rfl⟩|⟨e,a,c,rfl,rfl⟩
 .simp[Builtin.len_,h0,Z0 ht];rfl
 .simp[Builtin.len_,h0,Z0 ht];rfl
theorem Uj:VR O I (oA k e) v↔v= .int k (dI I e):=by
 unfold oA;split
 .exact Iff.rfl
 rfl
theorem db7(r:HR O I K w0 h w)(rv:VR O I a v)(ts:Array TypeId)(ty:TypeId)(cs:Array Bool):
 cO E O I K w0 w h (builtin .len ts ty cs #[v]) (Lu E.P ((ts[0]?).bind E.P.underlying) h a):=by
 unfold Lu;split
 .rename_i ht;split
  .rename_i e;subst rv;exact cR.pureV r (u:= .int .i64 ((dS I e).length:Nat)) rfl (OP ht (.inl ⟨rfl,_,rfl,by rfl⟩))
  .trivial
 .rename_i el ht;split
  .rename_i b off len sz;intro hd;have hd:0<=dI I len:=j6 hd;refine cR.pureV r (u:= .int .i64 ((dI I len).toNat:Nat)) ?_ (OP ht (.inr ?_))
   .grind[Uj]
   .rcases rv with⟨L,cap,a,_,rfl,_⟩|⟨_,_,rfl,_,h0⟩
    .exact⟨_,_,_,rfl,rfl⟩
    simp_all
  .rename_i b len sz;intro hd;have hd:0<=dI I len:=j6 hd;refine cR.pureV r (u:= .int .i64 ((dI I len).toNat:Nat)) ?_ (OP ht (.inr ?_))
   .grind[Uj]
   .rcases rv with⟨L,cap,_,_,rfl,_⟩|⟨rfl,h0⟩
    .exact⟨_,_,_,rfl,rfl⟩
    simp_all
  .trivial
 .trivial
theorem dy7(hfx: ∀t,I.fix t=fC E.P t)(r:HR O I K w0 h w){c:AV}(ra:VR O I a va)(rc:VR O I c vc)(b:Builtin)(ts:Array TypeId)(ty:TypeId)(cs:Array Bool):
 cO E O I K w0 w h (builtin b ts ty cs #[va,vc]) (KI b a c h):=by
 unfold KI;split
 .rename_i k ea k' ec h1 h2;have e1:=rW h1 ra;have e2:=rW h2 rc;split
  .obtain⟨ac,u,w',q1,q2,q3,q4⟩:=QH (P:=E.P) (b:= .max) (ts:=ts) (ty:=ty) (cs:=cs) (args:=[.int k (dI I ea),.int k' (dI I ec)]) (us:= #[va,vc]) (a:= .int k (bif iv (dI I ea) (dI I ec)then dI I ec else dI I ea)) (h':=h) hfx r rfl ⟨va,[vc],rfl,e1,vc,[],rfl,e2,rfl⟩;obtain⟨_,_,_,p1,p2,_⟩: ∃(a b c:Unit),(builtin .max ts ty cs #[va,vc]).run E.P w= .ok (.value u) w'/\u= .int k (bif iv (dI I ea) (dI I ec)then dI I ec else dI I ea)/\True:=⟨(),(),(),q1,q2,trivial⟩;refine⟨ac,u,w',.inl q1,?_,q3,q4⟩;show _=Value.int k (max (dI I ea) (dI I ec));grind[qC,dI]
  .obtain⟨ac,u,w',q1,q2,q3,q4⟩:=QH (P:=E.P) (b:= .min) (ts:=ts) (ty:=ty) (cs:=cs) (args:=[.int k (dI I ea),.int k' (dI I ec)]) (us:= #[va,vc]) (a:= .int k (bif iv (dI I ec) (dI I ea)then dI I ec else dI I ea)) (h':=h) hfx r rfl ⟨va,[vc],rfl,e1,vc,[],rfl,e2,rfl⟩;refine⟨ac,u,w',.inl q1,?_,q3,q4⟩;rw[show u=_ from q2];show _=Value.int k (min (dI I ea) (dI I ec));grind[qC,dI]
  .trivial
 .trivial
theorem cl7{c:CT}{v:AV}{u:Value}(h:FN c v=some e)(r:VR O I v u):u=gr c (bU I e):=by
 unfold FN at h;split at h
 .split at h
  .rename_i k k' e' hs;split at h
   .rename_i hk;subst hk;simp at h;subst h;exact rW hs r
   .cases h
  .cases h
 .exact yv h r
 .exact vn h r
theorem qu: ∀{sig:List CT} {vs:List AV} {es:List SX} {us:List Value},iI sig vs=some es->cj O I vs us->us=dG sig (.vl (Z6 I es))
 | [],[],es,us,h,r=>by
   rw[show us=[]from r];rfl
 |c::sig,v::vs,es,us,h,⟨u,ur,e,r1,r2⟩=>by
  simp[iI]at h;split at h
  .rename_i e1 e2 h1 h2;simp at h;subst h;rw[e,cl7 h1 r1,qu h2 r2];simp_all[dG,Val.toL,List.length_cons,J8,m8,o7,Z6]
  .cases h
 | [],_::_,es,us,h,r=>by simp[iI]at h
 |_::_,[],es,us,h,r=>by simp[iI]at h
theorem vg{sig:List CT}{sz:Nat}: ∀{n:Nat} {cs:List AV} {rs:List SX} {us:List Value},mN sig sz n cs=some rs->cs.length=n*sz->cj O I cs us->us=cE sig (Z6 I rs)/\(Z6 I rs).length=n
 |0,cs,rs,us,h,hl,r=>by
  simp[mN,j0]at h;subst h;have:us=[]:=by have:=r.length;grind
  subst this;exact⟨rfl,rfl⟩
 |n+1,cs,rs,us,h,hl,r=>by
  simp[mN]at h;split at h
  .rename_i e rs' h1 h2;simp at h;subst h;have g1:=qu h1 (r.take sz);have g2:=vg h2 (by rw[F8,hl,s8];omega) (r.drop sz);refine⟨?_,by simp[Z6,List.length_cons,g2.2]⟩;rw[<-x7 sz us,g1,g2.1];rfl
  .cases h
theorem HR.arrCells{b e sz:Nat}{l:SX}{L:Loc}(r:HR O I K w0 h w)(hg:h.get b=some (.arr e sig l))(hb:O b=some L)(hsz:sig.length=sz)(o n:Nat)(hn:o+n<=(dL I l).length):
 ∀j v,(cE sig (((dL I l).drop o).take n))[j]? =some v->w.cell? ⟨L.blk,L.off+o*sz+j,none⟩=some v:=by
 intro j v hj;obtain⟨C,e',lo,hi,q1,q0,q2,q3,q4,q5⟩:=r.arr hg hb;rw[sC q1,show L.off+o*sz+j=L.off+(o*sz+j) by omega];apply q4;have e1:dL I l=(dL I l).take o++(((dL I l).drop o).take n++((dL I l).drop o).drop n):=by
  rw[x7,x7]
 have e2: ∀a b:List Val,cE sig (a++b)=cE sig a++cE sig b:=λa b=>by simp[cE,N8]
 rw[e1,e2,e2];have hl:(cE sig ((dL I l).take o)).length=o*sz:=by rw[iJ,k8,hsz];congr 1;omega
 rw[m9 (by omega),hl,show o*sz+j-o*sz=j by omega];grind
theorem c64(r:HR O I K w0 h w)(o:dW O I af ρ)(s d:TypeId)(x:Operand){el:TypeId}(hs:E.P.underlying s=some (.slice el))(hd:E.P.underlying d=some .string)(h8:E.P.underlying el=some (.int .u8)):
 cO E O I K w0 w h (do pure (.value (<-convert s d (ρ x)))) (UG (af x) h):=by
 trivial
theorem bG1(l:List UInt8):cE [.int .u8] (l.map λb=> .vl [.vi (b.toNat:Int)])=l.map λb=>Value.int .u8 (b.toNat:Int):=by
 induction l with
 |nil=>rfl
 |cons a r ih=>
  have:cE [.int .u8] ((a::r).map λb=> .vl [.vi (b.toNat:Int)])=dG [.int .u8] (.vl [.vi (a.toNat:Int)])++cE [.int .u8] (r.map λb=> .vl [.vi (b.toNat:Int)]):=by rfl
  rw[this,ih];rfl
theorem c65(r:HR O I K w0 h w)(s d el:TypeId){a:Option AV}(ha: ∀x,a=some x->VR O I x v)(hs:E.P.underlying s=some .string)(hd:E.P.underlying d=some (.slice el))(h8:E.P.underlying el=some (.int .u8)):
 cO E O I K w0 w h (do pure (.value (<-convert s d v))) (OO el a h):=by
 trivial
theorem cK4(r:HR O I K w0 h w)(o:dW O I af ρ)(s d:TypeId)(x:Operand):cO E O I K w0 w h (do pure (.value (<-convert s d (ρ x)))) (MB E.P s d h (af x)):=by
 unfold MB;split
 .rename_i sd k hs hd;split
  .rename_i k' e he;have hv:=o x _ he;simp[VR]at hv;refine cR.pureV r (u:= .int k (k.wrap (dI I e))) rfl ?_;simp[hv,convert,Sem.run_bind,Z0 hs,Z0 hd,Result.andThen_ok];rfl
  .trivial
 .rename_i el hs hd;cases h8:vR E.P el with
  |false=>trivial
  |true=>exact c64 r o s d x hs hd (Lj h8)
 .rename_i el hs hd;cases h8:vR E.P el with
  |false=>trivial
  |true=>exact c65 r s d el (o x) hs hd (Lj h8)
 .split
  .rename_i e he;have hv:=o x _ he;refine cR.pureV r (u:=ρ x) hv ?_;simp_all[VR,convert,Sem.run_bind,Z0,Result.andThen_ok,Sem.run_pure]
  .trivial
 .trivial
theorem RS(sig:List CT)(l:List Val): ∀u∈cE sig l,u.oneCell'=true:=by
 intro u hu;simp[cE,C1,dG,j8]at hu;obtain⟨r,_,j,_,rfl⟩:=hu;unfold gr;split<;>rfl
theorem xl{a:SX}(h:dB I (gZ a b)=true):dB I a=true/\dB I b=true:=by
 simp_all[RN,j7]
theorem cZ8{a:SX}(h:dB I (IH a b)=true):dI I a=dI I b:=by
 unfold IH at h;cases hc:SX.beq a b with
 |true=>rw[SX.beq_eq _ _ hc]
 |false=>rw[hc]at h;exact j6 h
theorem cK5{P:Program}{e':TypeId}(r:HR O I K w0 h w)(hyt:P.underlying yt=some (.slice e'))(hs:sig.length=s)(e:Qs s y h=some (sig,nd,ly))(hd:dB I nd=true)(ry:VR O I y vy):
 Src P s yt vy (dL I ly).length (cE sig (dL I ly)) w:=by
 have mk: ∀(a:Addr) (n c:Nat),vy= .slice (some a) n c->n=(dL I ly).length->(∀j v,(cE sig (dL I ly))[j]? =some v->w.cell? (a.add j)=some v)->Src P s yt vy (dL I ly).length (cE sig (dL I ly)) w:=by
  intro a n c hv hn hc;refine⟨.inl ⟨_,hyt⟩,λw'=>by rw[hv,<-hn];rfl,?_,?_,by rw[iJ,hs],RS _ _⟩
  .grind[run_firstCells_some,iJ]
  .rw[hv,<-hn];exact run_firstCells_some w.drew s n a n c _ (by grind[iJ]) hc
 have mk0:vy= .slice none 0 0->(dL I ly).length=0->Src P s yt vy (dL I ly).length (cE sig (dL I ly)) w:=by
  intro hv hn;have:dL I ly=[]:=B7 hn;rw[this];refine⟨.inl ⟨_,hyt⟩,λw'=>by rw[hv];rfl,?_,?_,by simp[cE],by simp[cE]⟩
  .rw[hv];rfl
  .rw[hv];rfl
 unfold Qs at e;split at e
 .rename_i b len s';split at e
  .rename_i el sig' l hg;replace e:=W6 e;obtain⟨hc,e⟩:=e;obtain⟨c1,c2⟩:=W5 hc;rw[Z1]at c2;cases happ:Xm len with
   |true=>
    rw[happ]at e;obtain⟨rfl,rfl,rfl⟩:=e;obtain⟨d1,d2⟩:=W5 hd;have d2:dI I len<=((dL I l).length:Int):=j6 d2;have hll:dL I (.op .lsub [l,.ci 0,len])=((dL I l).drop 0).take (dI I len).toNat:=by
     show((dL I l).drop (0:Int).toNat).take (dI I len-0).toNat=_;rw[Int.sub_zero];rfl
    have hln:(dL I (.op .lsub [l,.ci 0,len])).length=(dI I len).toNat:=by
     rw[hll,k8,F8];omega
    rcases ry with⟨L,cap,hL,hcap,hv,_⟩|⟨hv,h0⟩
    .refine mk _ _ cap hv hln.symm λj v hj=> ?_
     rw[hll]at hj;have:=r.arrCells hg hL c2 0 (dI I len).toNat (by omega) j v hj;rw[io];simpa using this
    grind
   |false=>
   rw[happ]at e;simp at e;obtain⟨rfl,rfl,rfl⟩:=e;have hlen:dI I len=((dL I l).length:Int):=by
    have:=cZ8 hd;exact this
   rcases ry with⟨L,cap,hL,hcap,hv,_⟩|⟨hv,h0⟩
   .refine mk _ _ cap hv (by omega) λj v hj=> ?_
    have:=r.arrCells hg hL c2 0 (dL I l).length (by omega) j v (by simpa using hj);rw[io];simpa using this
   grind
  .cases e
 .rename_i b off len s';split at e
  .rename_i el sig' l hg;replace e:=W6 e;obtain⟨hc,e⟩:=e;obtain⟨c1,c2⟩:=W5 hc;obtain rfl:=Z1.1 c1;rw[Z1]at c2;have wM:0<=dI I off/\0<=dI I len/\dI I off+dI I len<=((dL I l).length:Int)/\dL I ly=((dL I l).drop (dI I off).toNat).take (dI I len).toNat/\sig'=sig:=by
    cases hq:(SX.beq off (.ci 0)&&SX.beq len (.op .llen [l]))with
    |true=>
     obtain⟨k1,k2⟩:=W5 hq;have k1:dI I off=0:=by rw[SX.beq_eq _ _ k1,rN]
     have k2:dI I len=((dL I l).length:Int):=by rw[SX.beq_eq _ _ k2,mO]
     simp_all
    |false=>
     rw[hq]at e;obtain⟨rfl,rfl,rfl⟩:=e;obtain⟨d1,d2⟩:=W5 hd;obtain⟨d2,d3⟩:=W5 d2;have d1:0<=dI I off:=j6 d1;have d2:0<=dI I len:=j6 d2;have d3:dI I off+dI I len<=((dL I l).length:Int):=j6 d3;refine⟨d1,d2,d3,?_,rfl⟩;show((dL I l).drop (dI I off).toNat).take (dI I off+dI I len-dI I off).toNat=_;grind
   obtain⟨d1,d2,d3,hll,rfl⟩:=wM;have hln:(dL I ly).length=(dI I len).toNat:=by
    grind
   rcases ry with⟨L,cap,a,hL,hv,hcap,ha⟩|⟨a,c,hv,hnc,h0⟩
   .by_cases hz:dI I len=0
    .grind[dL,List.eq_nil_of_length_eq_zero,cE]
    .refine mk a _ cap hv hln.symm λj v hj=> ?_
     rw[hll]at hj;have:=r.arrCells hg hL c2 (dI I off).toNat (dI I len).toNat (by omega) j v hj;grind[io]
   .cases a with
    |none=>
     grind
    |some a=>
     grind[dL,List.eq_nil_of_length_eq_zero,cE]
  .cases e
 .rename_i b o n c;split at e
  .rename_i el fz cs hg;replace e:=W6 e;obtain⟨hc,e⟩:=e;obtain⟨c1,c2⟩:=W5 hc;rw[Z5]at c1;split at e
   .split at e
    .rename_i rs hrs;obtain⟨rfl,rfl,rfl⟩:=e;obtain⟨L,hL,hv⟩:=ry;obtain⟨us,u1,u2,u3⟩:=Cu r hg hL c1;obtain⟨g1,g2⟩:=vg hrs (by grind) u1;refine mk _ n c hv g2.symm λj v hj=> ?_
     rw[io];exact u3 j v (by rw[g1];exact hj)
    .cases e
   .cases e
  .cases e
 .rename_i b o n s';split at e
  .rename_i el fz cs hg;replace e:=W6 e;obtain⟨hc,e⟩:=e;obtain⟨hc,c3⟩:=W5 hc;obtain⟨c1,c2⟩:=W5 hc;rw[Z5]at c1;split at e
   .split at e
    .rename_i rs hrs;obtain⟨rfl,rfl,rfl⟩:=e;obtain⟨L,c,hL,hcp,hv⟩:=ry;obtain⟨us,u1,u2,u3⟩:=Cu r hg hL c1;obtain⟨g1,g2⟩:=vg hrs (by grind) u1;refine mk _ n c hv g2.symm λj v hj=> ?_
     rw[io];exact u3 j v (by rw[g1];exact hj)
    .cases e
   .cases e
  .cases e
 .cases e
theorem cl8{P:Program}(r:HR O I K w0 h w)(hyt:P.underlying yt=some .string)(e:Zw s y=some (sig,nd,ly))(ry:VR O I y vy):
 Src P s yt vy (dL I ly).length (cE sig (dL I ly)) w:=by
 replace e:=W6 e;obtain⟨hs,e⟩:=e;obtain rfl:=Z1.1 hs;split at e
 .rename_i x hx;obtain⟨rfl,rfl,rfl⟩:=e;have hv:=yv hx ry;have hl:dL I (.op .sbytes [x])=(dS I x).map λb=> .vl [.vi (b.toNat:Int)]:=rfl
  have hlen:(dL I (.op .sbytes [x])).length=(dS I x).length:=by grind
  have hfl:cE [.int .u8] (dL I (.op .sbytes [x]))=(dS I x).map λb=>Value.int .u8 (b.toNat:Int):=by rw[hl,bG1]
  have rs:VR O I (.str (dS I x)) vy:=hv;have hn:gB (.str (dS I x))=some (dS I x).length:=rfl;obtain⟨us,u1,u2,u3⟩:=IK (P:=P) (s:=1) (n:=(dS I x).length) r (l:=(dS I x).map λb=>AV.int .u8 (b.toNat:Int)) (by simp[pK]) rs;have hus:us=(dS I x).map λb=>Value.int .u8 (b.toNat:Int):=by
   have: ∀(l:List UInt8) (us:List Value),cj O I (l.map λb=>AV.int .u8 (b.toNat:Int)) us->us=l.map λb=>Value.int .u8 (b.toNat:Int):=by
    intro l;induction l with
    |nil=>intro us h;exact h
    |cons a q ih=>
     rintro us ⟨v,vr,rfl,h1,h2⟩;rw[show v=Value.int .u8 (a.toNat:Int)from h1,ih vr h2];rfl
   grind
  rw[hlen,hfl];refine⟨.inr hyt,λw'=>Ow hn rs w',?_,?_,by simp,?_⟩
  .grind
  .rw[<-hus];exact u3 w.drew rfl
  .intro u hu;simp at hu;obtain⟨_,_,rfl⟩:=hu;rfl
 .cases e
theorem b81(zs:Array Value)(hp:0<zs.size)(n:Nat):(Builtin.zeroCells zs (n+1)).toList=zs.toList++(Builtin.zeroCells zs n).toList:=by
 show((Array.range ((n+1)*zs.size)).map (λi=>zs[i % zs.size]!)).toList=zs.toList++((Array.range (n*zs.size)).map (λi=>zs[i % zs.size]!)).toList;simp;rw[s8,F7,E4,List.range_add,u9,o7];congr 1
 .apply J3 (by simp);intro i h1 h2;simp at h1;simp[Nat.mod_eq_of_lt h1,h1]
 simp_all
theorem Xy{zs:Array Value}{sig:List CT}{r:Val}(hp:0<zs.size)(hz:zs.toList=dG sig r): ∀n,(Builtin.zeroCells zs n).toList=cE sig (List.replicate n r)
 |0=>by simp[Builtin.zeroCells,cE]
 |n+1=>by
  rw[b81 zs hp n,Xy hp hz n,List.replicate_succ,hz];rfl
theorem db8{P:Program}{z:List AV}(r:HR O I K w0 h w)(hs:sig.length=i.size)(hb:i.bytes<=1000)(hz:cj O I z zv.cells.toList)(hzs:zv.cells.size=i.size)(hp:0<i.size)(e:PM P yt i.size z y h=some (sig,nd,ly))(hd:dB I nd=true)(ry:VR O I y vy):
 SrcZ P i zv yt vy (dL I ly).length (cE sig (dL I ly)) w:=by
 unfold PM at e;split at e
 .rename_i e' hyt;exact .inl (cK5 r hyt hs e hd ry)
 .rename_i hyt;exact .inl (cl8 r hyt e ry)
 .rename_i kn hyt;unfold cX7 at e;split at e
  .rename_i k ex sg hk hc;split at e
   .rename_i es hes;obtain⟨rfl,rfl,rfl⟩:=e;obtain⟨d1,d2⟩:=W5 hd;have d1:0<=dI I ex:=j6 d1;have d2:dI I ex<=oV:=j6 d2;have hroom:oV=(room:Int):=by unfold oV room;simp
    have hv:=rW hk ry;have hl:dL I (.op .lrep [ex,.op .row es])=List.replicate (dI I ex).toNat (.vl (Z6 I es)):=rfl;have hlen:(dL I (.op .lrep [ex,.op .row es])).length=(dI I ex).toNat:=by rw[hl,List.length_replicate]
    have hrow:=qu hes hz;refine .inr ⟨k,kn,hyt,?_,?_,hb,?_,by rw[iJ,hs],RS _ _⟩
    .rw[hlen,hv];congr 1;omega
    .omega
    grind[Xy]
   .cases e
  .cases e
 .cases e
theorem SrcZ.nil_{P:Program}{x:Value}{news:List Value}(h:SrcZ P i zv yt x 0 news w):news=[]:=by
 rcases h with h|⟨_,_,_,_,_,_,_,h,_⟩
 .exact B7 (by simpa using h.newsLen)
 grind
theorem Src.nil_{P:Program}{x:Value}{news:List Value}(h:Src P s yt x 0 news w):news=[]:=B7 (by simpa using h.newsLen)
theorem Gb: ∀{a b:List CT},gj a b=true->a=b
 | [],[],_=>rfl
 | [],_::_,h=>by cases h
 |_::_,[],h=>by cases h
 |a::x,b::y,h=>by
  simp[gj,j7,decide_eq_true_eq]at h;rw[h.1,Gb h.2]
theorem HR.lay(r:HR O I K w0 h w)(x:Blk):HR O I K w0 (h.new x) w:=by
 have hn: ∀b y,(h.new x).get b=some y->O b≠none->h.get b=some y:=by
  intro b y hg hb;rw[Heap.get_new]at hg;by_cases e:b=h.next
  .subst e;exact absurd (r.fresh _ (i6 _)) hb
  grind
 refine⟨λb y L hg hb=>r.blk b y L (hn b y hg (by grind)) hb,λb b' y y' L L' g g' m m' hne hw=>r.sep b b' y y' L L' (hn b y g (by grind)) (hn b' y' g' (by grind)) m m' hne hw,
  λb hb=>r.fresh b (by grind[Heap.next_new]),λb hb=> ?_,r.lt,r.kin,r.keep,λb y L hg hw hb=>r.free b y L (hn b y hg (by grind)) hw hb,r.size,r.os,r.tape,r.out,r.dr⟩
 simp at hb;rw[Heap.get_new,b9 (by omega)];exact r.fget b (by omega)
theorem IZ(I:Opq)(sig:List CT)(l:List Val): ∃cs:List AV,(∀O:bY,cj O I cs (cE sig l))/\cs.all AV.one=true/\cs.length=(cE sig l).length/\ ∀(O:bY) vs,cj O I cs vs->vs=cE sig l:=by
 have: ∀us:List Value,(∀u∈us,∃a:AV,(∀O:bY,VR O I a u)/\a.one=true/\ ∀(O:bY) v,VR O I a v->v=u)-> ∃cs:List AV,(∀O:bY,cj O I cs us)/\cs.all AV.one=true/\cs.length=us.length/\ ∀(O:bY) vs,cj O I cs vs->vs=us:=by
  intro us;induction us with
  |nil=>intro _;exact⟨[],λ_=>rfl,rfl,rfl,λ_ vs h=>h⟩
  |cons u us ih=>
   intro hh;obtain⟨a,a1,a2,a3⟩:=hh u (by simp);obtain⟨cs,c1,c2,c3,c4⟩:=ih λx hx=>hh x (by simp[hx])
   refine⟨a::cs,λO=>⟨u,us,rfl,a1 O,c1 O⟩,by simp[a2,c2],by simp[c3],λO vs ⟨v,vr,e,p,q⟩=> ?_⟩;grind
 refine this _ λu hu=> ?_
 simp[cE,C1,dG,j8]at hu;obtain⟨x,_,j,_,rfl⟩:=hu;unfold gr;split
 .exact⟨.int _ _,λ_=>rfl,rfl,λ_ v h=>h⟩
 .exact⟨.str _,λ_=>rfl,rfl,λ_ v h=>h⟩
 .exact⟨.bool _,λ_=>rfl,rfl,λ_ v h=>h⟩
theorem BK(sig:List CT)(a b:List Val):cE sig (a++b)=cE sig a++cE sig b:=by simp[cE,N8]
theorem RG{P:Program}{m:Sem Value}{sz elem:Nat}{l:SX}{cs:List AV}{h1 h2:Heap}(hsz:0<sz)(hs:sig.length=sz)(hn:(dL I l).length=n)(k:Ok P O I K w0 w h m (.us h1.next 0 n sz) (h1.new (.cells elem 0 cs)))
 (hlim:h1.next<65536) (hcs:cs.length=n*sz) (hdet: ∀(O:bY) vs,cj O I cs vs->vs=cE sig (dL I l)) (h2n:h2.next=h1.next) (h2w:h2.wm=h1.wm) (h2g: ∀z,h2.get z=h1.get z):
 Ok P O I K w0 w h m (.ous h1.next (.op .llen [l]) sz) (h2.new (.arr elem sig l)):=by
 obtain⟨ac,v,w',e1,e2,e3,e4⟩:=k;obtain⟨L,cap,hL,hcap,hv⟩:=e2;have hg:(h1.new (.cells elem 0 cs)).get h1.next=some (.cells elem 0 cs):=by rw[Heap.get_new,e8 rfl,e8 hlim]
 have hbr:=e3.blk _ _ L hg hL;have hle:n<=cap:=by
  obtain⟨C,lo,hi,vs,q1,q2,q3,_⟩:=hbr;rw[hcs,<-show cap*sz=L.ext by omega]at q3;exact D6 q3 hsz
 refine⟨ac,v,w',e1,.inl ⟨L,cap,hL,by omega,?_,?_⟩,?_,?_⟩
 .rw[mO,hn];simpa using hv
 .rw[mO,hn];simpa using hle
 .refine HR.retell (y:= .arr elem sig l) e3 hg (.inr rfl) ?_ (by simp[h2n]) (by simp[h2w]) (λz=> ?_)
  .intro L' hL' hb;obtain⟨C,lo,hi,vs,q1,q2,q3,q4,q5,q6,q7,q8⟩:=hb;have:=hdet _ _ q5;subst this;refine⟨C,_,lo,hi,q1,.inl rfl,q2,by rw[hn,hs,<-hcs];exact q3,λi v hi'=> ?_,λi hi'=>q7 i (r9 _) hi'⟩;have hlt:i<cs.length:=by
    have:=q5.length;rw[<-this];rcases k5 i (cE sig (dL I l)).length with hh|hh
    .exact hh
    .rw[t7 hh]at hi';cases hi'
   rw[q6 i hlt];exact hi'
  .rw[Heap.get_new,Heap.get_new,h2n,h2g];by_cases hz:z=h1.next
   .rw[e8 hz,e8 hz,e8 hlim]
   .rw[b9 hz,b9 hz,b9 hz]
 .refine⟨?_,e4.ext,λb hb hbn=> ?_,?_⟩
  .have:=e4.le;simp at this⊢;rw[h2n];exact this
  .have hu:=e4.unm b hb hbn;have he:(h2.new (.arr elem sig l)).get b=(h1.new (.cells elem 0 cs)).get b:=by
    rw[Heap.get_new,Heap.get_new,h2n,h2g];by_cases hz:b=h1.next
    .have:=e4.ext b hb;rw[hz,hL]at this;rw[hz,<-this]at hbn;cases hbn
    .rw[b9 hz,b9 hz]
   rw[he];exact hu
  .have:=e4.wm;simp at this⊢;rw[h2w];exact this
def tU(P:Program)(O:bY)(I:Opq)(K:Nat->Prop)(w0 w:World)(h:Heap)(m:Sem Value)(r:Res):Prop:=match r with
 | .need e v h'=>dB I e=true->Ok P O I K w0 w h m v h'
 | .bad=>True
 |_=>False
theorem cl9{P:Program}(r:HR O I K w0 h w)(ra:VR O I a va){ty elem:TypeId}(ht:P.underlying t=some (.slice elem))(hi:P.info? elem=some i)(hzi:i.zero=some zv)
 (hzs':zv.cells.size=i.size) (c1:0<i.size) (c3:i.bytes<=1000) (c5:sig.length=i.size) (hnf:I.fix elem=false) (hs0:dB I nd=true->SrcZ P i zv yt vc (dL I ly).length (cE sig (dL I ly)) w):
 tU P O I K w0 w h (Builtin.append_ #[t,yt] ty #[va,vc]) (CS elem i.size sig nd ly a h):=by
 unfold CS;obtain⟨ncs,n1,n2,n3,n4⟩:=IZ I sig (dL I ly);have n3':ncs.length=(dL I ly).length*i.size:=by grind[iJ]
 split
 .cases hc6:Nat.blt h.next 65536 with
  |false=>trivial
  |true=>
  have c6:=dQ.1 hc6;intro hd;obtain⟨d1,d2⟩:=xl hd;have d2:dI I (.op .llen [ly])<=dI I (.ci oV):=j6 d2;rw[mO,rN]at d2;have hroom:(dL I ly).length<=room:=by
   grind[oV,room]
  have hs:=hs0 d1;subst ra;by_cases hn:(dL I ly).length=0
  .rw[hn]at hs;have hnil:=Go.Ev.SrcZ.nil_ hs;rw[hnil]at hs;refine⟨O,_,_,SrcZ.nothing ht hi hs none 0 0 (i6 _),.inr ⟨rfl,by grind[mO]⟩,r.lay _,by simp,λ_ _=>rfl,λb hb _=>by left;rw[Heap.get_new,b9 (by omega)],rfl⟩
  .have g:=wY (ty:=ty) (old:=[]) (olds:=[]) (sLen:=0) (sCap:=0) (base:=none) r ht hi hzi hzs' (run_firstCells_none w.drew _ _ _ _) hs (by omega) c1 (by omega) (by omega) c3 .nil rfl (by simp) (n1 O) n2 n3' 0;simp at g;exact RG (h1:=h) (h2:=h) c1 c5 rfl g c6 n3' n4 rfl rfl (λ_=>rfl)
 .rename_i b len sz;split
  .rename_i el sig' l hg;cases hq:(Nat.beq sz i.size&&Nat.beq el elem&&gj sig' sig&&Nat.ble h.wm b&&Nat.blt h.next 65536&& !(Nat.beq el iD))with
   |false=>trivial
   |true=>
    obtain⟨hq,c7⟩:=W5 hq;have hne:el≠iD:=λe=>by simp_all
    obtain⟨hq,c6⟩:=W5 hq;rw[dQ]at c6;obtain⟨hq,q4⟩:=W5 hq;obtain⟨hq,q3⟩:=W5 hq;obtain⟨q1,q2⟩:=W5 hq;obtain rfl:=Z1.1 q1;obtain rfl:=Z1.1 q2;rw[Z5]at q4;obtain rfl:=Gb q3;intro hd;obtain⟨d1,d2⟩:=xl hd;obtain⟨d3,d2⟩:=xl d2;have d3:dI I len=dI I (.op .llen [l]):=cZ8 d3;have d2:dI I (.op .llen [qv l ly])<=dI I (.ci oV):=j6 d2;have hcat:dL I (qv l ly)=dL I l++dL I ly:=db4 l ly;rw[mO,rN,hcat,k7]at d2;rw[mO]at d3;have hroom:(dL I l).length+(dL I ly).length<=room:=by
     grind[oV,room]
    have hs:=hs0 d1;have eD: ∀(hh:Heap) (x:Option Blk) (z:Nat),(hh.put b x).get z=if z=b then(if b<65536 then x else none)else hh.get z:=λhh x z=>Heap.get_put _ _ _ _
    have hb65:=Heap.get_lim h b _ hg;rcases ra with⟨L,cap,hL,hcap,hv,hle⟩|⟨hv,h0'⟩
    .have hlen:(dI I len).toNat=(dL I l).length:=by omega
     rw[hlen]at hv hle;by_cases hn:(dL I ly).length=0
     .have hly:dL I ly=[]:=B7 hn;rw[hn]at hs;have hnil:=Go.Ev.SrcZ.nil_ hs;rw[hnil]at hs;have hbr:=r.blk b _ L hg hL;obtain⟨p1,p2⟩:=HR.rename (w':=w) r b _ (.arr el sig' (qv l ly)) L L hg hL q4 rfl (λ_ _=>rfl) rfl rfl rfl rfl rfl (by
       obtain⟨C,e',lo,hi,z1,z0,z2,z3,z4,z5⟩:=hbr;have hd:dL I (qv l ly)=dL I l:=by rw[hcat,hly,s6]
       exact⟨C,e',lo,hi,z1,z0,z2,by rw[hd];exact z3,by rw[hd];exact z4,z5⟩)
      subst hv;refine⟨_,_,_,SrcZ.nothing ht hi hs _ _ cap hle,.inl ⟨L,cap,bY.add_self _ _ _,hcap,?_,?_⟩,p1,p2⟩
      .rw[mO,hcat,hly];simp
      grind[mO]
     .obtain⟨ocs,m1,m2,m3,m4⟩:=IZ I sig' (dL I l);have m3':ocs.length=(dL I l).length*i.size:=by rw[m3,iJ,c5]
      have r2:HR O I K w0 (h.put b (some (.cells el 0 ocs))) w:=by
       refine HR.retell (y:= .cells el 0 ocs) r hg (.inl q4) ?_ rfl rfl (λz=>by rw[eD,e8 hb65]);intro L' hL' hbr;obtain⟨C,e',lo,hi,z1,z0,z2,z3,z4,z5⟩:=hbr;rw[z0.resolve_right hne]at z1;refine⟨C,lo,hi,cE sig' (dL I l),z1,z2,by rw[m3,iJ];exact z3,qB m2,m1 O,λk hk=> ?_,λk _ hk=>z5 k hk,λhh=>by rw[hnf]at hh;cases hh⟩;have hk':k<(cE sig' (dL I l)).length:=by rw[<-m3];exact hk
       rw[k9 hk'];exact z4 k _ (k9 hk')
      have hg2:(h.put b (some (.cells el 0 ocs))).get b=some (.cells el 0 ocs):=by rw[eD,e8 rfl,e8 hb65]
      have g:=dy3 (ty:=ty) (o:=0) (sLen:=(dL I l).length) (sCap:=cap) (n:=(dL I ly).length) (fz:=0) r2 ht hi hzi hzs' c1 hs (by omega) hroom c3 hL hg2 q4 (by simpa using hcap) (r9 _) (by omega) (n1 O) n2 n3' (by first|exact hnf|(rw[<-hel];exact hnf)) 0 (r9 _);rw[show(List.drop 0 ocs).take ((dL I l).length*i.size)=ocs by rw[G9,<-m3',A1]]at g;rw[show(⟨L.blk,L.off+0,none⟩:Addr)=⟨L.blk,L.off,none⟩ by simp,<-hv]at g;have g2:Ok P O I K w0 w h (Builtin.append_ #[t,yt] ty #[va,vc]) (.us ((h.put b (some (.cells el 0 ocs))).put b none).next 0 ((dL I l).length+(dL I ly).length) i.size) (((h.put b (some (.cells el 0 ocs))).put b none).new (.cells el 0 (ocs++ncs))):=by
       obtain⟨ac,v,w',y1,y2,y3,y4⟩:=g;refine⟨ac,v,w',y1,y2,y3,y4.le,y4.ext,λz hz hzn=> ?_,y4.wm⟩;have hu:=y4.unm z hz hzn;rw[eD,b9 (λhzb=>by rw[hzb,hL]at hzn;cases hzn)]at hu;exact hu
      refine RG (h1:=(h.put b (some (.cells el 0 ocs))).put b none) (h2:=h.put b none) (l:=qv l ly) c1 c5 (by rw[hcat,k7]) g2 c6 ?_ ?_ rfl rfl (λz=> ?_)
      .rw[k7,m3',n3',s8]
      .intro ac vs hvs;rw[hcat,BK];have e1:=hvs.take ocs.length;have e2:=hvs.drop ocs.length;rw[F9]at e1;rw[G0]at e2;rw[<-x7 ocs.length vs,m4 ac _ e1,n4 ac _ e2]
      grind
    .have hl0:(dL I l).length=0:=by omega
     subst hv;obtain⟨r1,st1⟩:=r.drop b;by_cases hn:(dL I ly).length=0
     .rw[hn]at hs;have hnil:=Go.Ev.SrcZ.nil_ hs;rw[hnil]at hs;refine⟨O,_,_,SrcZ.nothing ht hi hs none 0 0 (i6 _),.inr ⟨rfl,by grind[mO]⟩,r1.lay _,st1.trans ⟨by simp,λ_ _=>rfl,λb hb _=>by left;rw[Heap.get_new,b9 (by omega)],rfl⟩⟩
     .have g:=wY (ty:=ty) (old:=[]) (olds:=[]) (sLen:=0) (sCap:=0) (base:=none) r1 ht hi hzi hzs' (run_firstCells_none w.drew _ _ _ _) hs (by omega) c1 (by omega) (by omega) c3 .nil rfl (by simp) (n1 O) n2 n3' 0;simp at g;obtain⟨ac,v,w',y1,y2,y3,y4⟩:=RG (h1:=h.put b none) (h2:=h.put b none) (l:=qv l ly) c1 c5 (n:=(dL I ly).length) (by grind) g c6 n3' (by grind) rfl rfl (λ_=>rfl);exact⟨ac,v,w',y1,y2,y3,st1.trans y4⟩
  .trivial
 .trivial
theorem cm0(r:HR O I K w0 h w){elem:Nat}{x':AV}{h':Heap}(hf:I.fix elem=false)(e:Pj elem s sig x h=some (x',h'))(rx:VR O I x v):
 ∃ac,HR ac I K w0 h' w/\VR ac I x' v/\St h O h' ac:=by
 have main: ∀(b o n cap:Nat) (L:Loc) (fz:Nat) (cs:List AV) (rs:List SX),h.get b=some (.cells elem fz cs)->O b=some L->h.wm<=b->fz<=o->o+cap*s<=L.ext->o+n*s<=cs.length->n<=cap->sig.length=s->h.next<65536->
  mN sig s n ((cs.drop o).take (n*s))=some rs->v= .slice (some ⟨L.blk,L.off+o,none⟩) n cap->
  x'= .ous h.next (.op .llen [.op .row rs]) s->h'=(h.put b none).new (.arr elem sig (.op .row rs))-> ∃ac,HR ac I K w0 h' w/\VR ac I x' v/\St h O h' ac:=by
  intro b o n cap L fz cs rs hg hL hwm hfo hext hn hnc hsl hlim hrs hv hx hh;obtain⟨C,lo,hi,vs,q1,q2,q3,q4,q5,q6,q7⟩:=r.cells hg hL;obtain⟨z1,z2⟩:=vg hrs (by grind) ((q5.drop o).take (n*s));obtain⟨r1,s1⟩:=HR.rename (w':=w) r b _ (.arr elem sig (.op .row rs)) L ⟨L.blk,L.off+o,cap*s⟩ hg hL hwm rfl (λ_ _=>rfl) rfl rfl rfl rfl rfl (by
   refine⟨C,_,lo,hi,q1,.inl rfl,by grind,?_,λi v hi'=> ?_,λi hi'=> ?_⟩
   .show(Z6 I rs).length*sig.length<=cap*s;simp_all[A2]
   .have hi':(cE sig (Z6 I rs))[i]? =some v:=hi';grind
   .have hi':i<cap*s:=hi';have:=q7 (o+i) (by omega) (by omega);grind)
  subst hx;subst hh;refine⟨_,r1,.inl ⟨_,cap,bY.add_self _ _ _,rfl,?_,?_⟩,s1⟩
  .have hll:(dI I (.op .llen [.op .row rs])).toNat=n:=by
    show(((Z6 I rs).length:Nat):Int).toNat=n;rw[z2];simp
   grind
  .show(((Z6 I rs).length:Nat):Int).toNat<=cap;omega
 unfold Pj at e;split at e
 .rename_i b o n c;split at e
  .rename_i e0 fz cs hg;replace e:=W6 e;obtain⟨hc,e⟩:=e;obtain⟨hc,c7⟩:=W5 hc;obtain⟨hc,c6⟩:=W5 hc;obtain⟨hc,c5⟩:=W5 hc;obtain⟨hc,c4⟩:=W5 hc;obtain⟨hc,c3⟩:=W5 hc;obtain⟨c1,c2⟩:=W5 hc;obtain rfl:=Z1.1 c1;rw[Z1]at c6;rw[Z5]at c2 c3 c4 c5;rw[dQ]at c7;split at e
   .obtain⟨L,hL,hv⟩:=rx;have hns:n*s<=c*s:=A2 _ c5;have hbr:=r.blk b _ L hg hL;obtain⟨_,_,_,_,_,_,q3,_⟩:=hbr;grind
   .cases e
  .cases e
 .rename_i b o n s';split at e
  .rename_i e0 fz cs hg;replace e:=W6 e;obtain⟨hc,e⟩:=e;obtain⟨hc,c8⟩:=W5 hc;obtain⟨hc,c7⟩:=W5 hc;obtain⟨hc,c6⟩:=W5 hc;obtain⟨hc,c5⟩:=W5 hc;obtain⟨hc,c4⟩:=W5 hc;obtain⟨hc,c3⟩:=W5 hc;obtain⟨c1,c2⟩:=W5 hc;obtain rfl:=Z1.1 c1;obtain rfl:=Z1.1 c5;rw[Z1]at c6;rw[Z5]at c2 c3 c4;rw[dQ]at c7 c8;split at e
   .obtain⟨L,cap,hL,hcap,hv⟩:=rx;have hbr:=r.blk b _ L hg hL;obtain⟨_,_,_,_,_,_,q3,_⟩:=hbr;have hnc:n<=cap:=by
     have:n*s'<=cap*s':=by omega
     exact D6 this c8
    grind
   .cases e
  .cases e
 .rename_i b s';split at e
  .rename_i e0 sg l0 hg;replace e:=W6 e;obtain⟨hc,e⟩:=e;obtain⟨hc,c6⟩:=W5 hc;obtain⟨hc,c5⟩:=W5 hc;obtain⟨hc,c4⟩:=W5 hc;obtain⟨hc,c3⟩:=W5 hc;obtain⟨c1,c2⟩:=W5 hc;obtain rfl:=Z1.1 c1;obtain rfl:=Gb c3;obtain rfl:=Z1.1 c4;rw[Z5]at c2;obtain⟨rfl,rfl⟩:=e;rcases rx with⟨L,cap,hL,hcap,hv,_⟩|⟨hv,_⟩
   .obtain⟨C,e',lo,hi,q1,q0,q2,q3,q4,q5⟩:=r.arr hg hL;obtain⟨r1,s1⟩:=HR.rename (w':=w) r b _ (.arr e0 sg (.op .row [])) L L hg hL c2 rfl (λ_ _=>rfl) rfl rfl rfl rfl rfl ⟨C,e',lo,hi,q1,q0,q2,by show 0*_<=_;omega,λi v hi'=>by grind[dL,bU,Z6,cA,Val.toL,cE],q5⟩;exact⟨_,r1,.inl ⟨L,cap,bY.add_self _ _ _,hcap,hv,r9 _⟩,s1⟩
   .obtain⟨r1,s1⟩:=r.drop b;exact⟨O,r1.lay _,.inr ⟨hv,rfl⟩,s1.trans ⟨by simp,λ_ _=>rfl,λb hb _=>by left;rw[Heap.get_new,b9 (by omega)],rfl⟩⟩
  .cases e
 .cases e
theorem c66(hfx: ∀t,I.fix t=fC E.P t)(r:HR O I K w0 h w){c:AV}(ra:VR O I a va)(rc:VR O I c vc)(ts:Array TypeId)(ty:TypeId)(cs:Array Bool):
 cO E O I K w0 w h (builtin .append ts ty cs #[va,vc]) (OF E.P ts a c h):=by
 have lift: ∀{x:AV} {h':Heap},Ok E.P O I K w0 w h (Builtin.append_ ts ty #[va,vc]) x h'->cR E O I K w0 w h (builtin .append ts ty cs #[va,vc]) x h':=λk=>cR.of k
 unfold OF;split
 .rename_i elem yt h1 h2;split
  .rename_i i z hi hz;split
   .rename_i sig nd ly hrows;cases hc:(Nat.blt 0 i.size&&Nat.beq z.cells.length i.size&&Nat.ble i.bytes 1000&&Nat.beq ts.size 2&&Nat.beq sig.length i.size&& !(fC E.P elem))with
    |false=>trivial
    |true=>
     obtain⟨hc,c7⟩:=W5 hc;have hnf:I.fix elem=false:=by rw[hfx];simpa using c7
     obtain⟨hc,c5⟩:=W5 hc;obtain⟨hc,c4⟩:=W5 hc;obtain⟨hc,c3⟩:=W5 hc;obtain⟨c1,c2⟩:=W5 hc;rw[dQ]at c1;rw[Z1]at c2 c4 c5;rw[Z5]at c3;simp[m7]at h1;obtain⟨t,h0,ht⟩:=h1;obtain rfl:=e42 h0 h2 c4;obtain⟨i',zv,hi',hzi,hzs,hzv⟩:=br3 hz;rw[hi]at hi';simp at hi';subst hi';have hzs':zv.cells.size=i.size:=hzs.trans c2;have hs0:dB I nd=true->SrcZ E.P i zv yt vc (dL I ly).length (cE sig (dL I ly)) w:=λhd=>db8 r c5 c3 (hzv _ _) hzs' c1 hrows hd rc
     have fin: ∀(res:Res),tU E.P O I K w0 w h (Builtin.append_ #[t,yt] ty #[va,vc]) res->cO E O I K w0 w h (builtin .append #[t,yt] ty cs #[va,vc]) res:=by
      intro res hr;cases res<;>first|exact hr.elim|trivial|(intro hd;exact lift (hr hd))
     unfold du6;split
     .rename_i p hp;obtain⟨ac,r1,rx,s1⟩:=cm0 r hnf (x':=p.1) (h':=p.2) hp ra;have:=cl9 (ty:=ty) r1 rx ht hi hzi hzs' c1 c3 c5 hnf hs0;refine fin _ ?_;revert this;cases CS elem i.size sig nd ly p.1 p.2 with
      |need e v h'=>
       intro hh hd;obtain⟨an,u,w',y1,y2,y3,y4⟩:=hh hd;exact⟨an,u,w',y1,y2,y3,s1.trans y4⟩
      |bad=>intro _;trivial
      |_=>intro hh;exact hh.elim
     grind[cl9]
   .trivial
  .trivial
 .trivial
end Go.Ev
namespace Go.Ev
open Go
variable{ks vs:List CT}{v:Value}{l:SX}{es xs:List SX}
variable{E:Env}{O:bY}{I:Opq}{K:Nat->Prop}{w0 w:World}{h h':Heap}{af:Operand->Option AV}{ρ:Operand->Value}
def wt(c:CT)(x:Val):AV:=match c with
 | .int k=> .int k x.toI
 | .str=> .str x.toS
 | .bool=> .bool x.toB
def gL(r:Val):List CT->Nat->List AV
 | [],_=>[]
 |c::cs,j=>wt c (r.toL.getD j default)::gL r cs (j+1)
def fD(r:Val):List CT->Nat->List Value
 | [],_=>[]
 |c::cs,j=>gr c (r.toL.getD j default)::fD r cs (j+1)
theorem PJ(c:CT)(x:Val):VR O I (wt c x) (gr c x):=by cases c<;>rfl
theorem Bm(r:Val): ∀(sig:List CT) (j:Nat),cj O I (gL r sig j) (fD r sig j)
 | [],_=>rfl
 |c::cs,j=> .cons (PJ c _) (Bm r cs (j+1))
theorem Ai(r:Val): ∀(sig:List CT) (j:Nat),(fD r sig j).length=sig.length
 | [],_=>rfl
 |c::cs,j=>by simp[fD,Ai r cs (j+1)]
theorem VO(r:Val): ∀(a b:List CT) (j:Nat),fD r (a++b) j=fD r a j++fD r b (j+a.length)
 | [],b,j=>rfl
 |c::a,b,j=>by
  have:=VO r a b (j+1);simp[List.cons_append,fD,this,List.length_cons];rw[show j+1+a.length=j+(a.length+1) by omega]
theorem bs6(sig:List CT)(r:Val): ∀(s:List CT) (j:Nat),sig.drop j=s->(List.range' j s.length).map (λt=>gr (sig.getD t .bool) (r.toL.getD t default))=fD r s j
 | [],j,_=>rfl
 |c::s,j,h=>by
  have h1:sig.getD j .bool=c:=by
   have:=congrArg (λz:List CT=>z[0]?) h;grind
  have h2:sig.drop (j+1)=s:=by
   grind[List.tail_drop]
  rw[List.length_cons,F6,m8,h1,bs6 sig r s (j+1) h2];rfl
theorem qR(sig:List CT)(r:Val):dG sig r=fD r sig 0:=by
 have:=bs6 sig r sig 0 rfl;grind[dG,List.range_eq_range']
theorem VF(ks vs:List CT)(r:Val):qi ks vs r=(kD (fD r ks 0),kD (fD r vs ks.length)):=by
 simp_all[qi,qR,VO,l9,Ai,F9,G0]
theorem EF: ∀{a:List AV} {us:List Value},cj O I a us->VR O I (kV a) (kD us)
 | [],us,h=>by rw[show us=[]from h];exact⟨_,rfl,rfl⟩
 | [x],us,⟨v,vr,e,h1,h2⟩=>by rw[e,show vr=[]from h2];exact h1
 |x::y::r,us,⟨v,vr,e,h1,u,ur,e2,h3,h4⟩=>by
  rw[e,e2];exact⟨_,rfl,.cons h1 (.cons h3 h4)⟩
theorem Jy{us:List Value}(h:2<=us.length):kD us= .agg us.toArray:=by
 match us,h with
 |_::_::_,_=>rfl
def ye(I:Opq)(n:Nat)(k r:Val):Opq:=⟨I.v,λi=>if i<n then k.toL.getD i default else r.toL.getD (i-n) default,I.f,I.one,I.fix,I.gh⟩
theorem cm2(I:Opq)(c:CT)(e:SX):dO I (uA c e)=wt c (bU I e):=by cases c<;>rfl
theorem KC{aa:Opq}{r:Val}: ∀(s:List CT) (i j:Nat),(∀t,t<s.length->aa.w (i+t)=r.toL.getD (j+t) default)->qf aa (sm s i)=gL r s j
 | [],_,_,_=>rfl
 |c::s,i,j,h=>by
  have h0:=h 0 (by simp);have ih:=KC s (i+1) (j+1) (λt ht=>by
   have:=h (t+1) (by simp;omega);rw[show i+1+t=i+(t+1) by omega,show j+1+t=j+(t+1) by omega];exact this)
  simp only[sm,qf,gL,cm2,ih];rw[show bU aa (.va i)=aa.w i from rfl,show aa.w i=r.toL.getD j default by simpa using h0]
theorem Vh{aa:Opq}{k r:Val}: ∀(s:List CT) (i j c:Nat),(∀t,t<s.length->aa.w (i+t)=k.toL.getD (c+t) default)->(∀t,t<s.length->aa.w (j+t)=r.toL.getD (c+t) default)->dB aa (Ie s i j)=zj r k s c
 | [],_,_,_,_,_=>rfl
 |q::s,i,j,c,h1,h2=>by
  have a:=h1 0 (by simp);have b:=h2 0 (by simp);simp at a b;have ih:=Vh s (i+1) (j+1) (c+1) (λt ht=>by
   have:=h1 (t+1) (by grind);rw[show i+1+t=i+(t+1) by omega,show c+1+t=c+(t+1) by omega];exact this) (λt ht=>by
   have:=h2 (t+1) (by grind);rw[show j+1+t=j+(t+1) by omega,show c+1+t=c+(t+1) by omega];exact this)
  have hand: ∀x y:SX,dB aa (gZ x y)=(dB aa x&&dB aa y):=λx y=>by
   unfold gZ;split
   .rfl
   .split
    .show dB aa _=(dB aa _&&true);grind
    .rfl
  simp[Ie,zj,hand,ih];congr 1;cases q
  .show decide ((aa.w i).toI=(aa.w j).toI)=_;rw[a,b];rfl
  .show decide ((aa.w i).toS=(aa.w j).toS)=_;rw[a,b];rfl
  .show((aa.w i).toB==(aa.w j).toB)=_;rw[a,b];rfl
theorem cK6{P:Program}{kt:TypeId}(hk:sX P kt ks=true)(k r:Val):jL P 10000 kt (.agg (gL k ks 0)) (.agg (gL r ks 0))=some (gP ks r k):=by
 obtain⟨_,hk⟩:=W5 hk;split at hk
 .rename_i e he;obtain rfl:=SX.beq_eq _ _ hk;have:=RB (I:=ye ax ks.length k r) 10000 he;simp[dO]at this;rw[KC (r:=k) ks 0 0 (λt ht=>by simp[ye,ht]),KC (r:=r) ks ks.length 0 (λt ht=>by simp only[ye];rw[b9 (by omega),C3,l9])]at this;rw[this,Vh (k:=k) (r:=r) ks 0 ks.length 0 (λt ht=>by simp[ye,ht]) (λt ht=>by simp only[ye];rw[b9 (by omega),C3,l9])];rfl
 grind
theorem TE{P:Program}{kt:TypeId}(hk:sX P kt ks=true)(k:Val):pi P kt (.agg (gL k ks 0))=true:=by
 obtain⟨hk,_⟩:=W5 hk;have e:gL k ks 0=qf (ye ax ks.length k k) (sm ks 0):=(KC (r:=k) ks 0 0 (λt ht=>by simp[ye,ht])).symm;rw[e];unfold pi at hk⊢;split at hk
 .rename_i h1;cases h1
 .rename_i h1;cases h1
 .rename_i h1;cases h1
 .rename_i fields cs hu hq;cases hq;rw[hu];rw[Q5]at hk⊢;intro f hf;obtain⟨h1,h2⟩:=W5 (hk f hf);obtain⟨a,ha⟩:=Q4.1 h1;rw[OA ha,h2];rfl
 grind
def ZO(ks vs:List CT)(r:Val):AV×AV:=(.agg (gL r ks 0),kV (gL r vs ks.length))
theorem Km{ks vs:List CT}(h2:2<=ks.length): ∀{rows:List Val} {m:List MapEntry},(m.map λe=>(e.key,e.val))=rows.map (qi ks vs)-> ∃es,ERs O I es m/\(es.map λe=>(e.key,e.val))=rows.map (ZO ks vs)
 | [],[],_=>⟨[],.nil,rfl⟩
 | [],_::_,h=>by cases h
 |_::_,[],h=>by cases h
 |r::rows,e::m,h=>by
  simp at h;obtain⟨es,h3,h4⟩:=Km h2 (rows:=rows) (m:=m) h.2;rw[VF]at h;obtain⟨k,v,b⟩:=e;have hk:k=kD (fD r ks 0):=congrArg Prod.fst h.1;refine⟨⟨.agg (gL r ks 0),kV (gL r vs ks.length),b⟩::es,.cons ?_ ?_ h3,by simp_all;rfl⟩
  .rw[hk,Jy (by rw[Ai];exact h2)];exact⟨_,rfl,Bm r ks 0⟩
  grind[EF,Bm]
theorem Ig{P:Program}{kt:TypeId}{ks vs:List CT}(hk:sX P kt ks=true)(k:Val): ∀{rows:List Val} {es:List Ent} (i:Nat),(es.map λe=>(e.key,e.val))=rows.map (ZO ks vs)->
 (rows.findIdx (λr=>gP ks r k)=rows.length/\lj P kt (.agg (gL k ks 0)) es i=some none)\/
 ∃e r,rows.findIdx (λr=>gP ks r k)<rows.length/\rows[rows.findIdx (λr=>gP ks r k)]? =some r/\gP ks r k=true/\lj P kt (.agg (gL k ks 0)) es i=some (some (i+rows.findIdx (λr=>gP ks r k),e))/\e.key= .agg (gL r ks 0)/\e.val=kV (gL r vs ks.length)
 | [],[],i,_=> .inl ⟨rfl,rfl⟩
 | [],_::_,i,h=>by cases h
 |_::_,[],i,h=>by cases h
 |r::rows,e::es,i,h=>by
  simp at h;have h1:e.key= .agg (gL r ks 0):=congrArg Prod.fst h.1;have h2:e.val=kV (gL r vs ks.length):=congrArg Prod.snd h.1;have hq:=cK6 hk k r;rw[List.findIdx_cons];cases hc:gP ks r k with
  |true=>
   simp_all[lj,cond_true,Nat.add_zero]
  |false=>
   rw[hc]at hq;rcases Ig hk k (i+1) h.2 with⟨a,b⟩|⟨e',r',a1,a2,a3,a4,a5,a6⟩
   .exact .inl ⟨by rw[a];rfl,by simp[lj,h1,hq];exact b⟩
   grind[List.length_cons,Nat.succ_lt_succ,lj]
theorem HR.marr{b:Nat}{d:Bool}{L:Loc}(r:HR O I K w0 h w)(hg:h.get b=some (.marr d ks vs l))(hb:O b=some L):
 ∃E c,w.heap[L.blk]? =some (.map E c)/\(E.toList.map λe=>(e.key,e.val))=(dL I l).map (qi ks vs)/\gH d E.toList c:=r.blk b _ L hg hb
theorem gH.push{d:Bool}{E:List MapEntry}{c:Nat}(h:gH d E c)(k x:Value):gH d (E++[⟨k,x,c⟩]) (c+1):=by
 obtain⟨h1,h2,h3⟩:=h;refine⟨?_,?_,?_⟩
 .rw[u9,U4];refine⟨h1,by simp,λa ha b hb=> ?_⟩;obtain⟨e,he,rfl⟩:=j8.1 ha;simp at hb;subst hb;exact h2 e he
 .intro e he;rcases x8.1 he with he|he
  .exact P9 (h2 e he)
  .simp at he;subst he;exact Nat.lt_succ_self _
 .intro hd;rw[u9,h3 hd,Q8];rfl
theorem aY6{f:MapEntry->MapEntry}(hf: ∀e,(f e).born=e.born): ∀(E:List MapEntry) (i:Nat),(E.modify i f).map (·.born)=E.map (·.born)
 | [],i=>by grind
 |e::E,0=>by grind
 |e::E,i+1=>by simpa using aY6 hf E i
theorem gH.modify{d:Bool}{E:List MapEntry}{c:Nat}(h:gH d E c)(i:Nat)(f:MapEntry->MapEntry)(hf: ∀e,(f e).born=e.born):gH d (E.modify i f) c:=by
 obtain⟨h1,h2,h3⟩:=h;have hm:=aY6 hf E i;refine⟨by rw[hm];exact h1,λe he=> ?_,λhd=>by rw[hm];exact h3 hd⟩;have:e.born∈(E.modify i f).map (·.born):=List.mem_map_of_mem he;rw[hm]at this;obtain⟨e',he',q⟩:=j8.1 this;rw[<-q];exact h2 e' he'
theorem Mm(ks:List CT)(l:SX)(es:List SX):dI I (lG ks l es)=((dL I l).findIdx (λr=>gP ks r (.vl (Z6 I es))):Nat):=rfl
theorem uR(ks:List CT)(l:SX)(es:List SX):dB I (ga ks l es)=decide ((dL I l).findIdx (λr=>gP ks r (.vl (Z6 I es)))<(dL I l).length):=by
 show decide (((dL I l).findIdx (λr=>gP ks r (.vl (Z6 I es))):Int)<((dL I l).length:Int))=_;simp
theorem rg(c a b:SX):bU I (.op .ite [c,a,b])=bif dB I c then bU I a else bU I b:=rfl
theorem bs8{ks:List CT}{l:SX}{es:List SX}{r:Val}(hh:dB I (ga ks l es)=true)(hr:(dL I l)[(dL I l).findIdx (λr=>gP ks r (.vl (Z6 I es)))]? =some r): ∀(vs:List CT) (j:Nat) (zs:List SX),zs.length=vs.length->cj O I (mw ks l es vs j zs) (fD r vs j)
 | [],_,_,_=>by rfl
 |c::vs,j,[],h=>by simp at h
 |c::vs,j,z::zs,h=>by
  have ih:=bs8 hh hr vs (j+1) zs (by simpa using h);refine .cons ?_ ih;have e:bU I (.op .ite [ga ks l es,.op .lget [l,lG ks l es,.ci j],z])=r.toL.getD j default:=by
   rw[rg,hh];show bZ (dL I l) (dI I (lG ks l es)) (j:Int)=_;rw[Mm];show(((dL I l)[(dL I l).findIdx _]?).getD (.vl [])).toL.getD j default=_;rw[hr];rfl
  grind[BP]
theorem Zq{ks:List CT}{l:SX}{es:List SX}(hh:dB I (ga ks l es)=false): ∀(vs:List CT) (j i:Nat) (zs:List SX) (q:Val),zs.length=vs.length->(∀t,t<zs.length->q.toL.getD (i+t) default=bU I (zs.getD t (.cb false)))->cj O I (mw ks l es vs j zs) (fD q vs i)
 | [],_,_,_,_,_,_=>by rfl
 |c::vs,j,i,[],q,h,_=>by simp at h
 |c::vs,j,i,z::zs,q,h,hq=>by
  have ih:=Zq hh vs (j+1) (i+1) zs q (by simpa using h) (λt ht=>by
   have:=hq (t+1) (by simp;omega);rw[show i+1+t=i+(t+1) by omega];simpa using this)
  refine .cons ?_ ih;have e:bU I (.op .ite [ga ks l es,.op .lget [l,lG ks l es,.ci j],z])=q.toL.getD i default:=by
   rw[rg,hh];have:=hq 0 (by simp);simpa using this.symm
  grind[BP]
theorem VU{z:AV}(hs:uL vs z=true)(hv:VR O I z v)(hl:v.cells.toList.length=vs.length):kD v.cells.toList=v:=by
 match vs,hs with
 | [c],hs=>
   have h1:=VR.one hv (show z.one=true from hs);have:v.cells= #[v]:=by cases v<;>first|rfl|grind[Value.oneCell']
   rw[this];rfl
 |_::_::_,hs=>
  cases z with
  |agg cs=>
   obtain⟨xs,rfl,_⟩:=hv;show kD xs.toList=_;have:2<=xs.toList.length:=by
    have:xs.toList.length=_:=hl;grind
   rw[Jy this]
  |_=>cases hs
theorem ZK{c:CT}{x:Val}(h:VR O I (wt c x) v):v=gr c x:=by cases c<;>exact h
theorem Pc(r:Val): ∀(sig:List CT) (j:Nat) {us:List Value},cj O I (gL r sig j) us->us=fD r sig j
 | [],_,_,h=>h
 |c::cs,j,_,⟨v,vr,e,h1,h2⟩=>by rw[e,ZK h1,Pc r cs (j+1) h2];rfl
theorem db9(r:Val)(sig:List CT)(j:Nat)(h:VR O I (kV (gL r sig j)) v):v=kD (fD r sig j):=by
 match sig,h with
 | [],⟨xs,e,h⟩=>rw[e];congr 1;exact K0.1 h
 | [c],h=>exact ZK h
 |c::d::s,⟨xs,e,h⟩=>
  rw[e,Jy (by rw[Ai];simp),<-Pc r (c::d::s) j h]
theorem KN(I:Opq): ∀l:List SX,(Z6 I l).length=l.length
 | []=>rfl
 |_::r=>by simp[Z6,KN I r]
theorem Qa(I:Opq): ∀(l:List SX) (t:Nat),t<l.length->(Z6 I l).getD t default=bU I (l.getD t (.cb false))
 | [],t,h=>by simp at h
 |x::r,0,_=>rfl
 |x::r,t+1,h=>by
  have:=Qa I r t (by simpa using h);grind[Z6]
theorem vP: ∀{sig:List CT} {vs:List AV} {es:List SX},iI sig vs=some es->es.length=sig.length
 | [],[],es,h=>by grind[iI,Option.some.injEq]
 | [],_::_,es,h=>by cases h
 |_::_,[],es,h=>by cases h
 |c::cs,v::vs,es,h=>by
  unfold iI at h;split at h
  .rename_i e es' h1 h2;simp at h;subst h;simp[vP h2]
  .cases h
theorem bS3{z:AV}(hs:uL vs z=true):z.nt=true:=by
 unfold uL at hs;split at hs
 .cases hs
 .cases z<;>first|rfl|cases hs
 .cases z<;>first|rfl|cases hs
theorem KK(I:Opq): ∀a b:List SX,Z6 I (a++b)=Z6 I a++Z6 I b
 | [],_=>rfl
 |x::a,b=>by simp[Z6,KK I a b]
theorem c67{c:CT}{e e':SX}{u:Value}(h:bU I e'=bU I e)(r:VR O I (uA c e) u):VR O I (uA c e') u:=by
 have h1:=BP (O:=O) (I:=I) c e';have h2:u=gr c (bU I e):=by cases c<;>exact r
 grind
theorem Wn{ks:List CT}{l l':SX}{es:List SX}: ∀(vs:List CT) (j:Nat) (zs:List SX) {us:List Value},(∀t,t<zs.length->bU I (.op .ite [ga ks l' es,.op .lget [l',lG ks l' es,.ci ((j+t:Nat):Int)],zs.getD t (.cb false)])=bU I (.op .ite [ga ks l es,.op .lget [l,lG ks l es,.ci ((j+t:Nat):Int)],zs.getD t (.cb false)]))->
 cj O I (mw ks l es vs j zs) us->cj O I (mw ks l' es vs j zs) us
 | [],_,_,us,_,h=>by grind[mw]
 |c::vs,j,[],us,_,h=>by grind[mw]
 |c::vs,j,z::zs,us,hq,h=>by
  obtain⟨u,ur,rfl,h1,h2⟩:=h;refine .cons (c67 ?_ h1) (Wn vs (j+1) zs (λt ht=> ?_) h2)
  .grind
  .have:=hq (t+1) (by simp;omega);grind
theorem bt0{ks:List CT}{l:SX}{es:List SX}: ∀(vs:List CT) (j:Nat) (zs:List SX),(mw ks l es vs j zs).length=min vs.length zs.length
 | [],_,_=>by rfl
 |c::vs,j,[]=>by rfl
 |c::vs,j,z::zs=>by
  show(mw ks l es vs (j+1) zs).length+1=_;rw[bt0 vs (j+1) zs];simp
theorem cm4{A B:List AV}(hl:A.length=B.length)(h: ∀us,cj O I A us->cj O I B us)(r:VR O I (kV A) v):VR O I (kV B) v:=by
 match A,B,hl with
 | [a],[b],_=>
   have h1:=h [v] ⟨v,[],rfl,r,rfl⟩;obtain⟨u,ur,e,h2,_⟩:=h1;obtain⟨rfl,_⟩:=N7 e;exact h2
 | [],[],_=>
   omega
 |a::b::A,c::d::B,_=>
  obtain⟨xs,e,h1⟩:=r;exact⟨xs,e,h _ h1⟩
theorem cK7(c:CT){x y:Val}(h:x=y):Lh c x y=true:=by
 subst h;cases c<;>simp[Lh]
theorem bt1{r k:Val}: ∀(s:List CT) (j:Nat),(∀t,t<s.length->k.toL.getD (j+t) default=r.toL.getD (j+t) default)->zj r k s j=true
 | [],_,_=>rfl
 |c::s,j,h=>by
  show(Lh c _ _&&zj r k s (j+1))=true;rw[cK7 c (by simpa using h 0 (by simp)),bt1 s (j+1) (λt ht=>by
   have:=h (t+1) (by simp;omega);grind)]
  rfl
theorem bt2{zs:List SX}(hes:es.length=ks.length): ∀t,t<zs.length->bU I (.op .ite [ga ks (BV ks es zs l) es,.op .lget [BV ks es zs l,lG ks (BV ks es zs l) es,.ci ((ks.length+t:Nat):Int)],zs.getD t (.cb false)])=bU I (.op .ite [ga ks l es,.op .lget [l,lG ks l es,.ci ((ks.length+t:Nat):Int)],zs.getD t (.cb false)]):=by
 intro t ht;unfold BV;split
 .rename_i c l0 l1 ez;cases hc:(SX.beq c (ga ks l0 es)&&SX.beq l1 l0&&SX.beqs ez (es++zs))with
  |false=>rfl
  |true=>
   obtain⟨hc,h3⟩:=W5 hc;obtain⟨h1,h2⟩:=W5 hc;obtain rfl:=SX.beq_eq _ _ h1;obtain rfl:=SX.beq_eq _ _ h2;obtain rfl:=SX.beqs_eq _ _ h3;simp;cases hh:dB I (ga ks l1 es)with
   |true=>
    have hl:dL I (.op .ite [ga ks l1 es,l1,.op .lcat [l1,.op .row [.op .row (es++zs)]]])=dL I l1:=by
     show(bU I (.op .ite _)).toL=_;rw[rg,hh];rfl
    have hi:dI I (lG ks (.op .ite [ga ks l1 es,l1,.op .lcat [l1,.op .row [.op .row (es++zs)]]]) es)=dI I (lG ks l1 es):=by rw[Mm,Mm,hl]
    rw[rg,rg,uR,uR,hl];refine congrArg (λz=>bif _ then z else bU I (zs.getD t (.cb false))) ?_;show bZ (dL I l1) (dI I (lG ks l1 es)) _=bZ (dL I _) (dI I _) _;rw[hl,hi]
   |false=>
    have hl:dL I (.op .ite [ga ks l1 es,l1,.op .lcat [l1,.op .row [.op .row (es++zs)]]])=dL I l1++[.vl (Z6 I (es++zs))]:=by
     show(bU I (.op .ite _)).toL=_;rw[rg,hh];rfl
    have hn: ∀x∈dL I l1,gP ks x (.vl (Z6 I es))=false:=by
     rw[uR,decide_eq_false_iff_not]at hh;have:=U5.1 (Q9 List.findIdx_le_length (N9 hh));intro x hx;simpa using this x hx
    have hk:gP ks (.vl (Z6 I (es++zs))) (.vl (Z6 I es))=true:=bt1 ks 0 λt ht=>by
     show(Z6 I es).getD (0+t) default=(Z6 I (es++zs)).getD (0+t) default;have hdl:(Z6 I es).length=ks.length:=by rw[KN,hes]
     rw[show Z6 I (es++zs)=Z6 I es++Z6 I zs from KK I es zs,j9,j9,t8 (by omega)]
    have hi:(dL I l1++[Val.vl (Z6 I (es++zs))]).findIdx (λr=>gP ks r (Val.vl (Z6 I es)))=(dL I l1).length:=by
     rw[List.findIdx_append,U5.2 (λx hx=>by simpa using hn x hx)];simp[hk]
    rw[rg,hh,rg,uR,hl,hi];rw[show decide ((dL I l1).length<(dL I l1++[Val.vl (Z6 I (es++zs))]).length)=true from e9 (by simp)];show bU I (zs.getD t (.cb false))=bZ (dL I _) (dI I (lG ks _ es)) ((ks.length+t:Nat):Int);rw[Mm,hl,hi];show _=((dL I l1++[Val.vl (Z6 I (es++zs))]).getD (dL I l1).length (.vl [])).toL.getD (ks.length+t) default;rw[j9 (l:=dL I l1++_),m9 (i6 _),R0];show _=(Z6 I (es++zs)).getD (ks.length+t) default;have hdl:(Z6 I es).length=ks.length:=by rw[KN,hes]
    rw[show Z6 I (es++zs)=Z6 I es++Z6 I zs from KK I es zs,j9 (l:=Z6 I es++_),m9 (by omega),hdl,C3,<-j9,Qa I zs t ht]
 .rfl
theorem Yg{zs:List SX}(hes:es.length=ks.length)(r:VR O I (kV (mw ks l es vs ks.length zs)) v):VR O I (kV (mw ks (BV ks es zs l) es vs ks.length zs)) v:=
 cm4 (by grind[bt0]) (λus h=>Wn vs ks.length zs (bt2 hes) h) r
theorem c68(r:HR O I K w0 h w)(o:dW O I af ρ)(t:TypeId)(m k:Operand)(ok:Bool):cO E O I K w0 w h (do pure (.value (<-Instr.lookup t (ρ m) (ρ k) ok))) (Kj E.P t h (af m) (af k) ok):=by
 unfold Kj;split
 .rename_i kt et ht;split
  .rename_i b hm;split
   .rename_i cs hk;have rm:=o m _ hm;have rk:=o k _ hk;obtain⟨L,hL,em⟩:=rm;obtain⟨xs,ek,rx⟩:=rk;unfold Tn;split
    .rename_i d ks vs l z hg hz;split
     .rename_i es zs hes hzs;cases hc:(sX E.P kt ks&&Nat.ble 2 ks.length&&uL vs z)with
      |false=>trivial
      |true=>
       obtain⟨hc,hsh⟩:=W5 hc;obtain⟨hkt,h2⟩:=W5 hc;rw[Z5]at h2;obtain⟨En,c,q1,q2,q3⟩:=r.marr hg hL;obtain⟨ents,hE,hmap⟩:=Km h2 q2;have hxs:xs.toList=fD (.vl (Z6 I es)) ks 0:=by rw[qu hes rx,qR]
       have rk':VR O I (.agg (gL (.vl (Z6 I es)) ks 0)) (ρ k):=⟨xs,ek,by grind[Bm]⟩;have hko:=TE hkt (.vl (Z6 I es));rcases Ig hkt (.vl (Z6 I es)) 0 hmap with⟨a,hf⟩|⟨e,row,a1,a2,a3,hf,a5,a6⟩
       .have hhas:dB I (ga ks l es)=false:=by grind[uR]
        obtain⟨v',hv',hrun⟩:=mB hko rk' hE hf;subst hv';obtain⟨zv,z1,z2⟩:=BJ hz;have hzc:=qu hzs ((z1 O I).cells (bS3 hsh));rw[qR]at hzc;have hvr:VR O I (kV (mw ks l es vs ks.length zs)) zv:=by
         have:=EF (Zq (O:=O) hhas vs ks.length 0 zs (.vl (Z6 I zs)) (vP hzs) (λt ht=>by rw[l9];exact Qa I zs t ht));rw[<-hzc]at this;rw[VU hsh (z1 O I) (by rw[hzc,Ai])]at this;exact this
        refine cR.pureV r (u:=if ok then .tuple #[zv,.bool false]else zv) ?_ ?_
        .cases ok
         .grind[Yg,vP]
         .exact⟨_,rfl,.cons hvr (.one (by show _=Value.bool (dB I (ga ks l es));rw[hhas]))⟩
        .simp[em,Instr.lookup,Sem.run_bind,Z0 ht,Result.andThen_ok,Sem.run_pure,iw q1,lf hko rk',hrun,z2]
       .have hhas:dB I (ga ks l es)=true:=by grind[uR,decide_eq_true]
        obtain⟨v',hv',hrun⟩:=mB hko rk' hE hf;obtain⟨k2,v2,e1,e2,e3,e4,e5⟩:=hv';subst e1;rw[a6]at e5;have hv2:=db9 row vs ks.length e5;have hvr:VR O I (kV (mw ks l es vs ks.length zs)) v2:=by
         grind[EF,bs8,vP]
        refine cR.pureV r (u:=if ok then .tuple #[v2,.bool true]else v2) ?_ ?_
        .cases ok
         .grind[Yg,vP]
         .exact⟨_,rfl,.cons hvr (.one (by show _=Value.bool (dB I (ga ks l es));rw[hhas]))⟩
        .simp[em,Instr.lookup,Sem.run_bind,Z0 ht,Result.andThen_ok,Sem.run_pure,iw q1,lf hko rk',hrun]
     .trivial
    .trivial
   .trivial
  .trivial
 .trivial
theorem Us{r q:Val}: ∀(sig:List CT) (j i:Nat),(∀t,t<sig.length->r.toL.getD (j+t) default=q.toL.getD (i+t) default)->fD r sig j=fD q sig i
 | [],_,_,_=>rfl
 |c::cs,j,i,h=>by
  have h0:=h 0 (by simp);have ih:=Us cs (j+1) (i+1) (λt ht=>by
   have:=h (t+1) (by simp;omega);rw[show j+1+t=j+(t+1) by omega,show i+1+t=i+(t+1) by omega];exact this)
  simp_all[Nat.add_zero,fD]
theorem bS4{r k:Val}: ∀(sig:List CT) (j:Nat),zj r k sig j=true->fD r sig j=fD k sig j
 | [],_,_=>rfl
 |c::cs,j,h=>by
  obtain⟨h1,h2⟩:=W5 h;have:gr c (r.toL.getD j default)=gr c (k.toL.getD j default):=by
   cases c
   .have:=j6 h1;show Value.int _ _=Value.int _ _;rw[this]
   .have:=j6 h1;show Value.string _=Value.string _;rw[this]
   .have:=eq_of_beq h1;show Value.bool _=Value.bool _;rw[this]
  simp only[fD,this,bS4 cs (j+1) h2]
theorem aO6(k:Val): ∀(sig:List CT) (j:Nat),((fD k sig j).zip (fD k sig j)).all (λ(x,y)=>Instr.sameBits 9999 x y)=true
 | [],_=>rfl
 |c::cs,j=>by
  simp only[fD,List.zip_cons_cons,List.all_cons,j7];exact⟨UE (O:=λ_=>none) (I:=ax) (a:=wt c (k.toL.getD j default)) (b:=wt c (k.toL.getD j default)) 9999 (by cases c<;>simp[wt,Hu,tq,sS]) (PJ c _) (PJ c _),aO6 k cs (j+1)⟩
theorem dc0{a b:List Value}(h1:es.length=ks.length)(h2:xs.length=vs.length)(ha:a=dG ks (.vl (Z6 I es)))(hb:b=dG vs (.vl (Z6 I xs))):qi ks vs (.vl (Z6 I (es++xs)))=(kD a,kD b):=by
 rw[VF,ha,hb,qR,qR,KK];have q1:=KN I es;congr 2
 .refine Us ks 0 0 λt ht=> ?_
  show(Z6 I es++Z6 I xs).getD (0+t) default=(Z6 I es).getD (0+t) default;grind
 .refine Us vs ks.length 0 λt ht=> ?_
  show(Z6 I es++Z6 I xs).getD (ks.length+t) default=(Z6 I xs).getD (0+t) default;grind
theorem cm5{x:AV}(hs:uL vs x=true)(hv:VR O I x v){b:List Value}(hb:v.cells.toList=b)(hl:b.length=vs.length):kD b=v:=by
 grind[VU]
theorem c69{α:Type}{l:List α}{i:Nat}{e:α}{f:α->α}(h:l[i]? =some e):l.modify i f=l.set i (f e):=by
 refine O0 λj=> ?_
 grind
theorem cK8(h:dB I (ga ks l es)=true):dL I (Gm ks l es xs)=(dL I l).set ((dL I l).findIdx (λr=>gP ks r (.vl (Z6 I es)))) (.vl (Z6 I (es++xs))):=by
 show(bU I (.op .ite _)).toL=_;rw[rg,h];rfl
theorem cK9(h:dB I (ga ks l es)=false):dL I (Gm ks l es xs)=dL I l++[.vl (Z6 I (es++xs))]:=by
 show(bU I (.op .ite _)).toL=_;rw[rg,h];rfl
theorem bt3(r:HR O I K w0 h w)(o:dW O I af ρ)(t:TypeId)(m k x:Operand):cO E O I K w0 w h (do Instr.mapUpdate t (ρ m) (ρ k) (ρ x);pure .skip) (HX E.P t h (af m) (af k) (af x)):=by
 unfold HX;split
 .rename_i kt et ht;split
  .rename_i b hm;split
   .rename_i cs hk;split
    .rename_i xv hx;split
     .split
      .rename_i ks vs hks hvs;have rm:=o m _ hm;have rk:=o k _ hk;have rx:=o x _ hx;obtain⟨L,hL,em⟩:=rm;obtain⟨kx,ek,rkx⟩:=rk;unfold cf6;split
       .rename_i es xs hes hxs;cases hc:(sX E.P kt ks&&Nat.ble 2 ks.length&&uL vs xv&&Nat.ble h.wm b)with
        |false=>trivial
        |true=>
         obtain⟨hc,hwm⟩:=W5 hc;obtain⟨hc,hsh⟩:=W5 hc;obtain⟨hkt,h2⟩:=W5 hc;rw[Z5]at h2 hwm;have hkx:=qu hes rkx;have hvx:=qu hxs (rx.cells (bS3 hsh));have l1:=vP hes;have l2:=vP hxs;have hent:=dc0 (I:=I) l1 l2 hkx hvx;have hkey:kD kx.toList=ρ k:=by
          rw[ek,Jy (by rw[hkx,qR,Ai];exact h2)]
         have hval:kD (ρ x).cells.toList=ρ x:=cm5 hsh rx rfl (by rw[hvx,qR,Ai]);rw[hkey,hval]at hent;have hkc:kx.toList=fD (.vl (Z6 I es)) ks 0:=by rw[hkx,qR]
         have rk':VR O I (.agg (gL (.vl (Z6 I es)) ks 0)) (ρ k):=⟨kx,ek,by rw[hkc];exact Bm _ _ _⟩;have hko:=TE hkt (.vl (Z6 I es));split
         .rename_i d ks' vs' l hg;cases hq:(gj ks' ks&&gj vs' vs)with
          |false=>trivial
          |true=>
           obtain⟨e1,e2⟩:=W5 hq;obtain rfl:=Gb e1;obtain rfl:=Gb e2;obtain⟨En,c,q1,q2,q3⟩:=r.marr hg hL;obtain⟨ents,hE,hmap⟩:=Km h2 q2;refine cR.ofU ?_;rcases Ig hkt (.vl (Z6 I es)) 0 hmap with⟨a,hf⟩|⟨e,row,a1,a2,a3,hf,a5,a6⟩
           .have hhas:dB I (ga ks' l es)=false:=by rw[uR,a];simp
            obtain⟨v',hv',hrun⟩:=mB hko rk' hE hf;subst hv';obtain⟨p1,p2⟩:=r.set1 b _ (.marr d ks' vs' (Gm ks' l es xs)) L (.map (En.push ⟨ρ k,ρ x,c⟩) (c+1)) hg hL hwm
             ⟨_,_,rfl,by rw[J7,u9,q2,cK9 hhas,u9];simp_all,by rw[J7];exact q3.push _ _⟩
            refine⟨_,?_,p1,p2⟩;simp[em,Instr.mapUpdate,Sem.run_bind,Z0 ht,Result.andThen_ok,iw q1,lf hko rk',hrun,nS _ q1]
           .have hhas:dB I (ga ks' l es)=true:=by rw[uR];exact e9 a1
            obtain⟨v',hv',hrun⟩:=mB hko rk' hE hf;obtain⟨k2,v2,e1,e2,e3,e4,e5⟩:=hv';subst e1;rw[l9]at e2 e3;have he3:En[(dL I l).findIdx (λr=>gP ks' r (.vl (Z6 I es)))]? =some ⟨k2,v2,e.born⟩:=by simpa using e3
            have hk2:k2=ρ k:=by
             rw[a5]at e4;obtain⟨ys,ey,ry⟩:=e4;have:=Pc row ks' 0 ry;rw[bS4 ks' 0 a3,<-hkc]at this;rw[ey,ek,K0.1 this]
            have hsb:Instr.sameBits 10000 (ρ k) (ρ k)=true:=by
             rw[ek];show(kx.size==kx.size&&(kx.toList.zip kx.toList).all λ(x,y)=>Instr.sameBits 9999 x y)=true;rw[hkc,aO6];simp
            have hst: ∀w,(Instr.keyThatStays k2 (ρ k)).run E.P w= .ok (ρ k) w:=λw=>by simp[Instr.keyThatStays,hk2,hsb]
            obtain⟨p1,p2⟩:=r.set1 b _ (.marr d ks' vs' (Gm ks' l es xs)) L (.map (En.modify ((dL I l).findIdx (λr=>gP ks' r (.vl (Z6 I es)))) λx'=>{x' with key:=ρ k,val:=ρ x}) c) hg hL hwm
             ⟨_,_,rfl,by
              rw[J6,cK8 hhas,List.map_set,hent,<-q2];rw[c69 e3,List.map_set],by rw[J6];exact q3.modify _ _ (λ_=>rfl)⟩
            refine⟨_,?_,p1,p2⟩;simp[em,Instr.mapUpdate,Sem.run_bind,Z0 ht,Result.andThen_ok,iw q1,lf hko rk',hrun,l9,he3,Option.map_some,Option.getD_some,hst,nS _ q1]
         .rename_i c hg;obtain⟨En,q1,q2⟩:=r.map hg hL;have hE:En= #[]:=by
           have:En.toList=[]:=by generalize En.toList=z at q2;cases q2;rfl
           exact K0.1 this
          subst hE;refine cR.ofU ?_;have hf:lj E.P kt (.agg (gL (.vl (Z6 I es)) ks 0)) [] 0=some none:=rfl;obtain⟨v',hv',hrun⟩:=mB (O:=O) (I:=I) hko rk' (es:=[]) (m:=[]) .nil hf;subst hv';obtain⟨p1,p2⟩:=r.set1 b _ (.marr (Nat.beq c 0) ks vs (.op .row [.op .row (es++xs)])) L (.map (#[].push ⟨ρ k,ρ x,c⟩) (c+1)) hg hL hwm
           ⟨_,_,rfl,by
            show [(ρ k,ρ x)]=[qi ks vs (.vl (Z6 I (es++xs)))];rw[hent],gH.push (E:=[]) (gH.nil c) _ _⟩
          refine⟨_,?_,p1,p2⟩;simp[em,Instr.mapUpdate,Sem.run_bind,Z0 ht,Result.andThen_ok,iw q1,lf hko rk',hrun,nS _ q1]
         .trivial
       .trivial
      .trivial
     .trivial
    .trivial
   .trivial
  .trivial
 .trivial
end Go.Ev
namespace Go.Ev
open Go
variable{c:Nat}
variable{E:Env}{O:bY}{I:Opq}{K:Nat->Prop}{w0 w:World}{h h':Heap}{af:Operand->Option AV}{ρ:Operand->Value}
theorem gH.len{E:List MapEntry}(h:gH true E c):E.length=c:=by
 have:=congrArg List.length (h.2.2 rfl);grind
theorem c70(r:HR O I K w0 h w)(o:dW O I af ρ)(t:TypeId)(m k:Operand):cO E O I K w0 w h (do pure (.value (<-Instr.mapEntry t (ρ m) (ρ k)))) (YH E.P t h (af m) (af k)):=by
 trivial
theorem cm6(r:HR O I K w0 h w)(o:dW O I af ρ)(t:TypeId)(m s x:Operand):cO E O I K w0 w h (do Instr.entryStore t (ρ m) (ρ s) (ρ x);pure .skip) (VK h (af m) (af s) (af x)):=by
 trivial
theorem gH.erase{d:Bool}{E:List MapEntry}(h:gH d E c)(i:Nat):gH false (E.eraseIdx i) c:=by
 have hs:=U6 E i;exact⟨h.1.sublist (hs.map _),λe he=>h.2.1 e (hs.subset he),λhh=>by cases hh⟩
theorem WA{α γ:Type}(f:α->γ): ∀(l:List α) (i:Nat),(l.eraseIdx i).map f=(l.map f).eraseIdx i
 | [],_=>rfl
 |_::_,0=>rfl
 |a::l,i+1=>by simp[List.eraseIdx,WA f l i]
theorem dc1{ts:Array TypeId}{ty:TypeId}{m k:AV}{vm vk:Value}(r:HR O I K w0 h w)(rm:VR O I m vm)(rk:VR O I k vk):tU E.P O I K w0 w h (Builtin.delete_ ts ty #[vm,vk]) (TS E.P ((ts[0]?).bind E.P.underlying) h m k):=by
 unfold TS;split
 .rename_i kt et ht;simp[m7]at ht;obtain⟨t,h0,ht⟩:=ht;split
  .rename_i b;split
   .obtain⟨L,hL,rfl⟩:=rm;obtain⟨kx,rfl,rkx⟩:=rk;unfold du9;split
    .rename_i d ks vs l hg;split
     .rename_i es hes;cases hc:(sX E.P kt ks&&Nat.ble 2 ks.length&&Nat.ble h.wm b)with
      |false=>trivial
      |true=>
       obtain⟨hc,hwm⟩:=W5 hc;obtain⟨hkt,h2⟩:=W5 hc;rw[Z5]at h2 hwm;intro _;obtain⟨En,c,q1,q2,q3⟩:=r.marr hg hL;obtain⟨ents,hE,hmap⟩:=Km h2 q2;have hkx:=qu hes rkx;have hkc:kx.toList=fD (.vl (Z6 I es)) ks 0:=by rw[hkx,qR]
       have rk':VR O I (.agg (gL (.vl (Z6 I es)) ks 0)) (.agg kx):=⟨kx,rfl,by grind[Bm]⟩;have hko:=TE hkt (.vl (Z6 I es));have hden:dL I (.op (.mdel ks) [l,.op .row es])=(dL I l).eraseIdx ((dL I l).findIdx λr=>gP ks r (.vl (Z6 I es))):=rfl;rcases Ig hkt (.vl (Z6 I es)) 0 hmap with⟨a,hf⟩|⟨e,row,a1,a2,a3,hf,a5,a6⟩
       .obtain⟨v',hv',hrun⟩:=mB hko rk' hE hf;subst hv';obtain⟨p1,p2⟩:=r.set1 b _ (.marr false ks vs (.op (.mdel ks) [l,.op .row es])) L (.map En c) hg hL hwm
         ⟨_,_,rfl,by simp_all[List.eraseIdx_of_length_le,i6],q3.weak rfl⟩
        refine⟨O,_,_,?_,⟨_,rfl,rfl⟩,p1,p2⟩;simp[Builtin.delete_,h0,Z0 ht,iw q1,lf hko rk',hrun,nS _ q1]
       .obtain⟨v',hv',hrun⟩:=mB hko rk' hE hf;obtain⟨k2,v2,e1,e2,e3,e4,e5⟩:=hv';subst e1;have hi:(dL I l).findIdx (λr=>gP ks r (.vl (Z6 I es)))<En.size:=by
         grind
        obtain⟨p1,p2⟩:=r.set1 b _ (.marr false ks vs (.op (.mdel ks) [l,.op .row es])) L (.map (En.eraseIdxIfInBounds ((dL I l).findIdx λr=>gP ks r (.vl (Z6 I es)))) c) hg hL hwm
         ⟨_,_,rfl,by simp_all[Array.eraseIdxIfInBounds,dif_pos,Q7,WA],by rw[Array.eraseIdxIfInBounds,dif_pos hi,Q7];exact q3.erase _⟩
        refine⟨O,_,_,?_,⟨_,rfl,rfl⟩,p1,p2⟩;simp[Builtin.delete_,h0,Z0 ht,iw q1,lf hko rk',hrun,nS _ q1]
     .trivial
    .trivial
   .trivial
  .trivial
 .trivial
end Go.Ev
namespace Go.Ev
open Go
variable{n:Nat}{ts:Array TypeId}{vx:Value}{ty:TypeId}{sig:List CT}{cs:List AV}
variable{E:Env}{O:bY}{I:Opq}{K:Nat->Prop}{w0 w:World}{h:Heap}{af:Operand->Option AV}{ρ:Operand->Value}
theorem bt5(sig:List CT)(r:Val): ∀(l:List Val) (k:Nat),k<l.length->cE sig (l.set k r)=(cE sig l).take (k*sig.length)++(dG sig r++(cE sig l).drop (k*sig.length+sig.length))
 | [],k,h=>by simp at h
 |a::l,0,h=>by
  have e:cE sig (a::l)=dG sig a++cE sig l:=by simp[cE]
  have e2:cE sig ((a::l).set 0 r)=dG sig r++cE sig l:=by simp[cE]
  simp_all[lU,J5,List.take_zero,List.nil_append,l9,List.drop_append_of_le_length,O1]
 |a::l,k+1,h=>by
  have e:cE sig (a::l)=dG sig a++cE sig l:=by simp[cE]
  have e2:cE sig ((a::l).set (k+1) r)=dG sig a++cE sig (l.set k r):=by simp[cE]
  have hl:=lU sig a;have ih:=bt5 sig r l k (by simpa using h);have t1:(dG sig a++cE sig l).take (k*sig.length+sig.length)=dG sig a++(cE sig l).take (k*sig.length):=by
   rw[show k*sig.length+sig.length=(dG sig a).length+k*sig.length by omega,List.take_length_add_append]
  have t2:(dG sig a++cE sig l).drop (k*sig.length+sig.length+sig.length)=(cE sig l).drop (k*sig.length+sig.length):=by
   rw[show k*sig.length+sig.length+sig.length=(dG sig a).length+(k*sig.length+sig.length) by omega,List.drop_length_add_append]
  simp_all[s8,F7,A4]
theorem cL0{old:Val}{c0 es c1:List Val}{j:Nat}(hj:j+n<=sig.length)(h0:c0=(List.range' 0 j).map λt=>old.toL.getD t default)(hn:es.length=n)(h1:c1=(List.range' (j+n) (sig.length-(j+n))).map λt=>old.toL.getD t default):
 dG sig (.vl (c0++(es++c1)))=(dG sig old).take j++(dG ((sig.drop j).take n) (.vl es)++(dG sig old).drop (j+n)):=by
 have l0:c0.length=j:=by rw[h0];simp
 apply O0;intro i;have hsub:((sig.drop j).take n).length=n:=by simp;omega
 have hold:=lU sig old;rcases k5 i sig.length with hi|hi
 .rw[BL hi];show some (gr _ ((c0++(es++c1)).getD i default))=_;rcases k5 i j with q|q
  .rw[t8 (by rw[k8];omega),B3,e8 q,BL hi];congr 2;rw[j9,t8 (by omega),h0];simp[q]
  .rcases k5 i (j+n)with q2|q2
   .rw[m9 (by rw[k8];omega),k8,A8 (by omega)];rw[t8 (by rw[lU,hsub];omega),BL (by omega)];congr 2
    .rw[j9,j9,B3,e8 (by omega),B8,show j+(i-j)=i by omega]
    .show _=es.getD (i-j) default;rw[j9,j9,m9 (by omega),l0,t8 (by omega)]
   .rw[m9 (by rw[k8];omega),k8,A8 (by omega)];rw[m9 (by rw[lU,hsub];omega),lU,hsub,B8,show j+n+(i-j-n)=i by omega,BL hi];congr 2;rw[j9,m9 (by omega),m9 (by omega),l0,hn,h1];rw[B9,List.getElem?_range' (by omega)];simp only[Option.map_some,Option.getD_some];congr 1;omega
 grind[List.getElem?_eq_none,lU,List.length_append,List.length_take,List.length_drop]
theorem bt6(I:Opq): ∀a b:List SX,Z6 I (a++b)=Z6 I a++Z6 I b
 | [],b=>rfl
 |x::a,b=>by simp[List.cons_append,Z6,bt6 I a b]
theorem Rg(l idx:SX): ∀n j,Z6 I (kF l idx j n)=(List.range' j n).map λ(t:Nat)=>bZ (dL I l) (dI I idx) (t:Int)
 |0,j=>rfl
 |n+1,j=>by
  simp[kF,Z6,Rg l idx n (j+1),F6,m8];rfl
theorem c71{c:CT}{v:AV}{e:SX}(h:FN c v=some e):v.one=true:=by
 unfold FN at h;split at h
 .split at h
  .rename_i k' e' hs;unfold jn at hs;split at hs<;>first|rfl|cases hs
  .cases h
 .unfold lE at h;split at h<;>first|rfl|cases h
 .unfold lY at h;split at h<;>first|rfl|cases h
theorem Pw: ∀{sig:List CT} {vs:List AV} {es:List SX},iI sig vs=some es->vs.all AV.one=true/\es.length=vs.length
 | [],[],es,h=>by simp[iI,j0]at h;subst h;exact⟨rfl,rfl⟩
 | [],_::_,es,h=>by cases h
 |_::_,[],es,h=>by cases h
 |c::cs,v::vs,es,h=>by
  simp[iI]at h;split at h
  .rename_i e es' h1 h2;simp at h;subst h;obtain⟨a,b⟩:=Pw h2;simp only[List.all_cons,j7,List.length_cons];exact⟨⟨c71 h1,a⟩,by rw[b]⟩
  .cases h
theorem bS5(I:Opq): ∀l:List SX,(Z6 I l).length=l.length
 | []=>rfl
 |a::r=>by simp[Z6,List.length_cons,bS5 I r]
theorem ZA{vs:List Value}(hd: ∀(O:bY) us,cj O I cs us->us=vs)(h0: ∀O:bY,cj O I cs vs){O:bY}{us:List Value}(hu:cj O I (cs.take n) us):us=vs.take n:=by
 have h1:=hu.append ((h0 O).drop n);rw[x7]at h1;have h2:=hd O _ h1;have hl:=hu.length;have hv:=(h0 O).length;rw[<-h2];rw[k8]at hl;rcases Nat.le_total n cs.length with q|q
 .rw[R1 (by omega),I0 (by omega)]
 .have:vs.drop n=[]:=O1 (by omega);rw[this,s6,I0 (by omega)]
theorem XX{vs:List Value}(hd: ∀(O:bY) us,cj O I cs us->us=vs)(h0: ∀O:bY,cj O I cs vs){O:bY}{us:List Value}(hu:cj O I (cs.drop n) us):us=vs.drop n:=by
 have h1:=((h0 O).take n).append hu;rw[x7]at h1;have hv:=(h0 O).length;rcases Nat.le_total n cs.length with q|q
 .grind
 .have hul:=hu.length;grind
theorem cm7(hfx: ∀t,I.fix t=fC E.P t)(r:HR O I K w0 h w)(o:dW O I af ρ)(t:TypeId)(x y:Operand):cO E O I K w0 w h (do Instr.storeAt t (ρ x) (ρ y);pure .skip) (Pv E.P t h (af x) (af y)):=by
 unfold Pv;split
 .rename_i b idx j sz v n hx hy hn;unfold Zr;split
  .rename_i el sig l hg;cases hc:(Nat.beq sig.length sz&&Nat.ble (j+n) sz&&v.nt&&Nat.beq v.cells.length n&&Nat.ble h.wm b&&Nat.blt 0 n&& !(fC E.P el)&& !(Nat.beq el iD))with
   |false=>trivial
   |true=>
    obtain⟨hc,c8⟩:=W5 hc;have hne:el≠iD:=λe=>by simp_all
    obtain⟨hc,c7⟩:=W5 hc;have hnf:I.fix el=false:=by grind
    obtain⟨hc,c6⟩:=W5 hc;obtain⟨hc,c5⟩:=W5 hc;obtain⟨hc,c4⟩:=W5 hc;obtain⟨hc,c3⟩:=W5 hc;obtain⟨c1,c2⟩:=W5 hc;obtain rfl:=Z1.1 c1;rw[Z1]at c4;rw[Z5]at c2 c5;rw[dQ]at c6;simp only[cond_true];unfold VZ;split
    .rename_i es hes;intro hd;obtain⟨d1,d2⟩:=FF hd;rw[mO]at d2;have hk:(dI I idx).toNat<(dL I l).length:=by omega
     have hvx:=o x _ hx;have hvy:=o y _ hy;simp only[VR]at hvx;obtain⟨L,hL,hvx⟩:=hvx;have hb65:=Heap.get_lim h b _ hg;have eD: ∀(hh:Heap) (x:Option Blk) (z:Nat),(hh.put b x).get z=if z=b then(if b<65536 then x else none)else hh.get z:=λhh x z=>Heap.get_put _ _ _ _
     obtain⟨ocs,m1,m2,m3,m4⟩:=IZ I sig (dL I l);have m3':ocs.length=(dL I l).length*sig.length:=by rw[m3,iJ]
     have r2:HR O I K w0 (h.put b (some (.cells el 0 ocs))) w:=by
      refine HR.retell (y:= .cells el 0 ocs) r hg (.inl c5) ?_ rfl rfl (λz=>by rw[eD,e8 hb65]);intro L' hL' hbr;obtain⟨C,e',lo,hi,z1,z0,z2,z3,z4,z5⟩:=hbr;rw[z0.resolve_right hne]at z1;refine⟨C,lo,hi,cE sig (dL I l),z1,z2,by rw[m3,iJ];exact z3,qB m2,m1 O,λk hk=> ?_,λk _ hk=>z5 k hk,λhh=>by rw[hnf]at hh;cases hh⟩;grind
     have hg2:(h.put b (some (.cells el 0 ocs))).get b=some (.cells el 0 ocs):=by grind
     obtain⟨hone,helen⟩:=Pw hes;have hkk:(dI I idx).toNat*sig.length+sig.length<=(dL I l).length*sig.length:=by
      have:=A2 sig.length (show(dI I idx).toNat+1<=(dL I l).length from hk);grind
     have hst:Ef E.P t (.ptr b ((dI I idx).toNat*sig.length+j)) v (h.put b (some (.cells el 0 ocs)))=some ((h.put b (some (.cells el 0 ocs))).put b (some (.cells el 0 (jO ocs ((dI I idx).toNat*sig.length+j) v.cells)))):=by
      simp[Ef,hn,c3,c4,B4,show Nat.beq n n=true from Z1.2 rfl,cond_true];cases hcs:v.cells with
      |nil=>grind
      |cons a as=>
       simp only[putCells,hcs];rw[<-hcs,hg2];simp;rw[show(Nat.ble h.wm b&&Nat.ble 0 ((dI I idx).toNat*sig.length+j)&&Nat.ble ((dI I idx).toNat*sig.length+j+v.cells.length) ocs.length&&v.cells.all AV.one)=true by
        rw[hone,Z5.2 c5,Z5.2 (r9 _),Z5.2 (by omega)];rfl]
       rfl
     obtain⟨w',e1,e2,e3⟩:=Zp (P:=E.P) r2 hst (vx:=ρ x) (vv:=ρ y) ⟨L,hL,by grind⟩ hvy;have hrow:=qu hes (VR.cells hvy c3);have iY:dL I (.op .lset [l,idx,.op .row (kF l idx 0 j++(es++kF l idx (j+n) (sig.length-(j+n))))])=(dL I l).set (dI I idx).toNat (.vl (Z6 I (kF l idx 0 j)++(Z6 I es++Z6 I (kF l idx (j+n) (sig.length-(j+n)))))):=by
      show(dL I l).set (dI I idx).toNat (.vl (Z6 I _))=_;grind[bt6]
     have hgv: ∀c:Nat,bZ (dL I l) (dI I idx) c=((dL I l).getD (dI I idx).toNat (.vl [])).toL.getD c default:=λc=>by rfl
     have hmix:=cL0 (sig:=sig) (old:=(dL I l).getD (dI I idx).toNat (.vl [])) (c0:=Z6 I (kF l idx 0 j)) (es:=Z6 I es) (c1:=Z6 I (kF l idx (j+n) (sig.length-(j+n)))) (j:=j) (n:=n) c2
      (by grind[Rg,List.map_congr_left]) (by grind[bS5]) (by grind[Rg,List.map_congr_left])
     have hflat:cE sig (dL I (.op .lset [l,idx,.op .row (kF l idx 0 j++(es++kF l idx (j+n) (sig.length-(j+n))))]))=
      (cE sig (dL I l)).take ((dI I idx).toNat*sig.length+j)++((ρ y).cells.toList++(cE sig (dL I l)).drop ((dI I idx).toNat*sig.length+j+n)):=by
      rw[iY,bt5 sig _ _ _ hk,hmix,<-hrow];have hfl:=iJ sig (dL I l);have hold:dG sig ((dL I l).getD (dI I idx).toNat (.vl []))=((cE sig (dL I l)).drop ((dI I idx).toNat*sig.length)).take sig.length:=by
       apply O0;intro c;rcases k5 c sig.length with q|q
       .rw[BL q,B3,e8 q,B8,CU q hk]
       simp_all[t7,lU,B3,b9]
      rw[hold];generalize cE sig (dL I l)=F at hfl⊢;generalize (dI I idx).toNat*sig.length=q at hkk⊢;rw[<-hfl]at hkk;apply O0;intro c;have hcl:(ρ y).cells.toList.length=n:=by rw[<-c4];exact(VR.cells hvy c3).length
      rcases k5 c q with q1|q1
      .rw[t8 (by rw[k8];omega),t8 (by rw[k8];omega),B3,e8 q1,B3,e8 (by omega)]
      .rw[m9 (by grind),k8,A8 (by omega)];rcases k5 c (q+j)with q2|q2
       .rw[t8 (by grind),t8 (by grind),B3,e8 (by omega),B3,e8 (by omega),B8,show q+(c-q)=c by omega,
         t8 (by grind),B3,e8 q2]
       .rw[m9 (l₁:=F.take (q+j)) (by grind),k8,A8 (by omega)];rcases k5 c (q+j+n)with q3|q3
        .rw[t8 (by simp_all;omega),m9 (by simp;omega),t8 (by simp_all;omega),
          t8 (by omega)]
         congr 1;simp;omega
        .rcases k5 c (q+sig.length)with q4|q4
         .rw[t8 (by simp_all;omega),m9 (by simp;omega),m9 (by simp_all;omega),
           m9 (by omega),B8,B3,B8,B8,e8 (by simp_all;omega)]
          grind
         .rw[m9 (by simp_all;omega),m9 (l₁:=(ρ y).cells.toList) (by omega),B8,B8];congr 1;simp_all;omega
     refine⟨O,Go.undef,w',.inr ⟨rfl,by simp_all⟩,⟨#[],rfl,rfl⟩,?_,?_⟩
     .refine HR.retell (y:= .arr el sig (.op .lset [l,idx,.op .row (kF l idx 0 j++(es++kF l idx (j+n) (sig.length-(j+n))))])) e2 (b:=b) (x:= .cells el 0 (jO ocs ((dI I idx).toNat*sig.length+j) v.cells)) (by rw[eD,e8 rfl,e8 hb65]) (.inr rfl) ?_ rfl rfl (λz=> ?_)
      .intro L' hL' hbr;obtain⟨C,lo,hi,vs,q1,q2,q3,q4,q5,q6,q7,q8⟩:=hbr;have hvs:vs=cE sig (dL I (.op .lset [l,idx,.op .row (kF l idx 0 j++(es++kF l idx (j+n) (sig.length-(j+n))))])):=by
        rw[hflat];unfold jO at q5;have hdet: ∀(O:bY) us,cj O I v.cells us->us=(ρ y).cells.toList:=λO us hu=>(qu hes hu).trans hrow.symm
        have hdet1: ∀(O:bY) us,cj O I (ocs.take ((dI I idx).toNat*sig.length+j)) us->us=(cE sig (dL I l)).take ((dI I idx).toNat*sig.length+j):=λO us hu=>ZA m4 m1 hu
        have hdet2: ∀(O:bY) us,cj O I (ocs.drop ((dI I idx).toNat*sig.length+j+v.cells.length)) us->us=(cE sig (dL I l)).drop ((dI I idx).toNat*sig.length+j+v.cells.length):=λO us hu=>XX m4 m1 hu
        have t1:=q5.take (ocs.take ((dI I idx).toNat*sig.length+j)++v.cells).length;have t2:=q5.drop (ocs.take ((dI I idx).toNat*sig.length+j)++v.cells).length;rw[F9]at t1;rw[G0]at t2;have t3:=t1.take (ocs.take ((dI I idx).toNat*sig.length+j)).length;have t4:=t1.drop (ocs.take ((dI I idx).toNat*sig.length+j)).length;rw[F9]at t3;rw[G0]at t4;rw[<-x7 (ocs.take ((dI I idx).toNat*sig.length+j)++v.cells).length vs,hdet2 _ _ t2,c4];rw[<-x7 (ocs.take ((dI I idx).toNat*sig.length+j)).length (vs.take (ocs.take ((dI I idx).toNat*sig.length+j)++v.cells).length),hdet1 _ _ t3,hdet _ _ t4,A4]
       subst hvs;have hll:(jO ocs ((dI I idx).toNat*sig.length+j) v.cells).length=(dL I l).length*sig.length:=by
        rw[<-q5.length,iJ,iY,C4]
       refine⟨C,_,lo,hi,q1,.inl rfl,q2,by rw[iY,C4,<-hll];exact q3,λi v2 hi'=> ?_,λi hi'=>q7 i (r9 _) hi'⟩;rw[q6 i (by
        rcases k5 i (jO ocs ((dI I idx).toNat*sig.length+j) v.cells).length with hh|hh
        .exact hh
        .rw[t7 (by rw[q5.length];exact hh)]at hi';cases hi')]
       exact hi'
      grind
     .refine⟨i6 _,λ_ _=>rfl,λz hz hzn=> ?_,rfl⟩;grind
    .trivial
  .trivial
 .trivial
theorem HG{lo hi n:SX}(h:dB I (FI lo hi n)=true):0<=dI I lo/\dI I lo<=dI I hi/\dI I hi<=dI I n:=by
 obtain⟨h1,h2⟩:=xl h;obtain⟨h2,h3⟩:=xl h2;refine⟨?_,j6 h2,?_⟩
 .cases hc:SX.beq lo (.ci 0)with
  |true=>grind[SX.beq_eq,rN]
  |false=>rw[hc]at h1;exact j6 h1
 .cases hc:SX.beq hi n with
  |true=>grind[SX.beq_eq]
  |false=>rw[hc]at h3;exact j6 h3
theorem Wx(a b:SX):dI I (yO a b)=dI I a-dI I b:=by
 unfold yO;split
 .rw[rN];omega
 .rfl
theorem CE{x:Option (Option AV)}{d e:SX}{vx:Option Value}{k:Nat}(h:vK x d=some e)(hx: ∀y,x=some y->OR O I y vx)(h0:0<=dI I e)(hd:(dI I d).toNat=k): ∃y:Option AV,OR O I y vx/\eO y k=some (dI I e).toNat:=by
 unfold vK at h;split at h
 .simp at h;subst h;exact⟨none,hx _ rfl,by show some k=_;rw[hd]⟩
 .obtain⟨p,hp,rfl⟩:=o9.1 h;obtain⟨u,hu,ru⟩:=hx _ rfl;have:=rW (k:=p.1) (e:=p.2) hp ru;refine⟨some (.int p.1 (dI I p.2)),⟨u,hu,this⟩,?_⟩;obtain⟨m,hm⟩:=Int.eq_ofNat_of_zero_le h0;rw[hm];rfl
 .cases h
theorem Ty{P:Program}{t elem:TypeId}{s l en cap:Nat}{a:Addr}{lo hi:Option AV}{vl vh:Option Value}(ht:P.underlying t=some (.slice elem))(hs:ej P elem=some s)(rl:OR O I lo vl)(rh:OR O I hi vh)(hl:eO lo 0=some l)(he:eO hi n=some en)(h1:l<=en)(h2:en<=cap)(w:World):
 (Instr.sliceAt t (.slice (some a) n cap) vl vh none).run P w= .ok (.slice (if cap=l then some a else some (a.add (l*s))) (en-l) (cap-l)) w:=by
 have hb:=mU (P:=P) (mx:=none) (vm:=none) (cap:=cap) true rl rh rfl hl he (m:=cap) rfl h1 h2 (i6 _) (λ_=>rfl) w;simp_all[Instr.sliceAt,Sem.run_bind,Z0,Instr.slice,eC]
theorem ba7{P:Program}{t elem:TypeId}{s n:Nat}{lo hi:Option AV}{vl vh:Option Value}(ht:P.underlying t=some (.slice elem))(hs:ej P elem=some s)(rl:OR O I lo vl)(rh:OR O I hi vh)(hl:eO lo 0=some 0)(he:eO hi 0=some 0)(w:World):
 (Instr.sliceAt t (.slice none 0 0) vl vh none).run P w= .ok (.slice none 0 0) w:=by
 have hb:=mU (P:=P) (mx:=none) (vm:=none) (cap:=0) true rl rh rfl hl he (m:=0) rfl (i6 _) (i6 _) (i6 _) (λ_=>rfl) w;simp_all[Instr.sliceAt,Sem.run_bind,Z0,Instr.slice,eC]
theorem cm9(r:HR O I K w0 h w)(o:dW O I af ρ)(t:TypeId)(x:Operand)(lo hi mx:Option Operand):
 cO E O I K w0 w h (do pure (.value (<-Instr.sliceAt t (ρ x) (lo.map ρ) (hi.map ρ) (mx.map ρ)))) (Iv E.P t h (af x) (eI af lo) (eI af hi) (eI af mx)):=by
 have fin: ∀{v:AV} {u:Value},VR O I v u->(Instr.sliceAt t (ρ x) (lo.map ρ) (hi.map ρ) (mx.map ρ)).run E.P w= .ok u w->cR E O I K w0 w h (do pure (.value (<-Instr.sliceAt t (ρ x) (lo.map ρ) (hi.map ρ) (mx.map ρ)))) v h:=by
  intro v u hv hr;exact cR.pureV r hv (by simp_all)
 have hlo: ∀y,eI af lo=some y->OR O I y (lo.map ρ):=λy hy=>uY o hy
 have hhi: ∀y,eI af hi=some y->OR O I y (hi.map ρ):=λy hy=>uY o hy
 unfold Iv;split
 .rename_i a hx hm;have hmx:mx.map ρ=none:=uY o hm;have rv:=o x _ hx;split
  .rename_i ht;split
   .rename_i s hs;have hv:=yv hs rv;unfold Ot;split
    .rename_i l e h1 h2;intro hd;obtain⟨d1,d2,d3⟩:=HG hd;rw[cl0]at d3;obtain⟨y1,r1,b1⟩:=CE (k:=0) h1 hlo d1 rfl;obtain⟨y2,r2,b2⟩:=CE (k:=(dS I s).length) h2 hhi (by omega) (by rfl);have hb:=mU (P:=E.P) (mx:=none) (vm:=none) (cap:=(dS I s).length) (len:=(dS I s).length) false r1 r2 rfl b1 b2 (m:=(dS I s).length) rfl (by omega) (by omega) (i6 _) (λ_=>rfl);have hsz:(ByteArray.mk (dS I s).toArray).size=(dS I s).length:=by rfl
     refine fin (u:= .string ⟨(((dS I s).drop (dI I l).toNat).take ((dI I e).toNat-(dI I l).toNat)).toArray⟩) ?_ ?_
     .show _=Value.string ⟨(((dS I s).drop (dI I l).toNat).take (dI I e-dI I l).toNat).toArray⟩;grind
     .rw[hv,hmx];simp[Instr.sliceAt,Sem.run_bind,Z0 ht,Result.andThen_ok,Instr.slice,hsz,Option.isSome_none,n8,if_false,Sem.run_pure,hb,ByteArray.extract_mk]
    .trivial
   .trivial
  .rename_i elem ht;split
   .rename_i s b off len sz hs;cases hc:Nat.beq s sz with
    |false=>trivial
    |true=>
     obtain rfl:=Z1.1 hc;unfold RK;split
     .rename_i l e h1 h2;intro hd;obtain⟨d0,hd⟩:=xl hd;obtain⟨d1,d2,d3⟩:=HG hd;have d0:0<=dI I off:=by
       cases hq:SX.beq off (.ci 0)with
       |true=>grind[SX.beq_eq,rN]
       |false=>rw[hq]at d0;exact j6 d0
      obtain⟨y1,r1,b1⟩:=CE (k:=0) h1 hlo d1 rfl;obtain⟨y2,r2,b2⟩:=CE (k:=(dI I len).toNat) h2 hhi (by omega) rfl;have hle:dI I (yO e l)=dI I e-dI I l:=Wx _ _;have hlt:((dI I e).toNat-(dI I l).toNat)=(dI I (yO e l)).toNat:=by omega
      rcases rv with⟨L,cap,ad,hL,hv,hcap,had⟩|⟨ad,cap,hv,hac,hz⟩
      .refine fin ?_ (by rw[hv,hmx];exact Ty ht hs r1 r2 b1 b2 (by omega) (by omega) w);simp only[VR];rw[hlt];by_cases hcl:cap=(dI I l).toNat
       .rw[e8 hcl];grind
       .rw[b9 hcl];refine .inl ⟨L,_,_,hL,rfl,by omega,λhp=> ?_⟩;rw[had (by omega),io,cl4,Int.toNat_add d0 d1,s8];grind
      .rw[hz]at b2 d3;have hl0:dI I l=0:=by omega
       have he0:dI I e=0:=by omega
       rw[hl0]at b1;rw[he0]at b2;cases ad with
       |none=>
        obtain rfl:=hac rfl;refine fin ?_ (by rw[hv,hmx];exact ba7 (n:=0) ht hs r1 r2 b1 b2 w);exact .inr ⟨none,0,rfl,λ_=>rfl,by omega⟩
       |some ad=>
        refine fin ?_ (by rw[hv,hmx];exact Ty (n:=0) ht hs r1 r2 b1 b2 (i6 _) (r9 _) w);by_cases hcl:cap=(0:Int).toNat
        .rw[e8 hcl];exact .inr ⟨some ad,_,rfl,(λhh=>(by cases hh)),by omega⟩
        .rw[b9 hcl];exact .inr ⟨some _,_,rfl,(λhh=>(by cases hh)),by omega⟩
     .trivial
   .rename_i s b len sz hs;cases hc:Nat.beq s sz with
    |false=>trivial
    |true=>
     obtain rfl:=Z1.1 hc;unfold SB;split
     .rename_i l e h1 h2;have main:0<=dI I l->dI I l<=dI I e->dI I e<=dI I len-> ∀z:AV,((∀L cap,O b=some L->cap*s=L.ext->(dI I len).toNat<=cap->VR O I z (.slice (if cap=(dI I l).toNat then some ⟨L.blk,L.off,none⟩else some ⟨L.blk,L.off+(dI I l).toNat*s,none⟩) ((dI I e).toNat-(dI I l).toNat) (cap-(dI I l).toNat)))/\(dI I len=0->VR O I z (.slice none 0 0)))->
       cR E O I K w0 w h (do pure (.value (<-Instr.sliceAt t (ρ x) (lo.map ρ) (hi.map ρ) (mx.map ρ)))) z h:=by
       intro d1 d2 d3 z ⟨hz1,hz2⟩;obtain⟨y1,r1,b1⟩:=CE (k:=0) h1 hlo d1 rfl;obtain⟨y2,r2,b2⟩:=CE (k:=(dI I len).toNat) h2 hhi (by omega) rfl;rcases rv with⟨L,cap,hL,hext,hv,hcap⟩|⟨hv,hz⟩
       .grind[Ty,dI,io]
       .have hl0:dI I l=0:=by omega
        have he0:dI I e=0:=by omega
        rw[hl0]at b1;rw[he0,hz]at b2;exact fin (hz2 hz) (by rw[hv,hmx];exact ba7 (n:=0) ht hs r1 r2 b1 b2 w)
      cases hq:SX.beq l (.ci 0)with
      |true=>
       intro hd;obtain⟨d1,d2,d3⟩:=HG hd;have hl0:dI I l=0:=by rw[SX.beq_eq _ _ hq,rN]
       refine main (by omega) (by omega) d3 _ ⟨λL cap hL hext hcap=> ?_,λhz=> .inr ⟨rfl,by omega⟩⟩;refine .inl ⟨L,cap,hL,hext,?_,by omega⟩;grind
      |false=>
       intro hd;obtain⟨d1,d2,d3⟩:=HG hd;have hle:dI I (yO e l)=dI I e-dI I l:=Wx _ _;refine main d1 d2 d3 _ ⟨λL cap hL hext hcap=> ?_,λhz=> .inr ⟨none,0,rfl,λ_=>rfl,by omega⟩⟩;simp[VR];grind
     .trivial
   .trivial
  .trivial
 .trivial
theorem HR.asCells(r:HR O I K w0 h w){b el:Nat}{l:SX}(hg:h.get b=some (.arr el sig l))(hwm:h.wm<=b)(hne:el≠iD)(hnf:I.fix el=false){ocs:List AV}(m1: ∀O:bY,cj O I ocs (cE sig (dL I l)))(m2:ocs.all AV.one=true)(m3:ocs.length=(cE sig (dL I l)).length):
 HR O I K w0 (h.put b (some (.cells el 0 ocs))) w:=by
 have hb65:=Heap.get_lim h b _ hg;refine HR.retell (y:= .cells el 0 ocs) r hg (.inl hwm) ?_ rfl rfl (λz=>by rw[Heap.get_put,e8 hb65]);intro L' hL' hbr;obtain⟨C,e',lo,hi,z1,z0,z2,z3,z4,z5⟩:=hbr;rw[z0.resolve_right hne]at z1;refine⟨C,lo,hi,cE sig (dL I l),z1,z2,by rw[m3,iJ];exact z3,qB m2,m1 O,λk hk=> ?_,λk _ hk=>z5 k hk,λhh=>by rw[hnf]at hh;cases hh⟩;grind
theorem HR.asArr{b el:Nat}{l:SX}(hb65:b<65536)(r:HR O I K w0 (h.put b (some (.cells el 0 cs))) w)(hd: ∀us,cj O I cs us->us=cE sig (dL I l)):HR O I K w0 (h.put b (some (.arr el sig l))) w:=by
 have eD: ∀(hh:Heap) (x:Option Blk) (z:Nat),(hh.put b x).get z=if z=b then(if b<65536 then x else none)else hh.get z:=λhh x z=>Heap.get_put _ _ _ _
 refine HR.retell (y:= .arr el sig l) r (b:=b) (x:= .cells el 0 cs) (by rw[eD,e8 rfl,e8 hb65]) (.inr rfl) ?_ rfl rfl (λz=> ?_)
 .intro L' hL' hbr;obtain⟨C,lo,hi,vs,q1,q2,q3,q4,q5,q6,q7,q8⟩:=hbr;have hvs:=hd vs q5;subst hvs;have hll:cs.length=(dL I l).length*sig.length:=by rw[<-q5.length,iJ]
  refine⟨C,_,lo,hi,q1,.inl rfl,q2,by rw[<-hll];exact q3,λi v2 hi'=> ?_,λi hi'=>q7 i (r9 _) hi'⟩;rw[q6 i (by
   rcases k5 i cs.length with hh|hh
   .exact hh
   .rw[t7 (by rw[q5.length];exact hh)]at hi';cases hi')]
  exact hi'
 grind
theorem GK{m:Sem Value}{n:Sem Next}{res:Res}(hm: ∀h' a,Ok E.P O I K w0 w h m a h'->cR E O I K w0 w h n a h')(k:tU E.P O I K w0 w h m res):cO E O I K w0 w h n res:=by
 cases res<;>first|exact k.elim|trivial|exactλhd=>hm _ _ (k hd)
theorem cR.blt{h':Heap}{m:Sem Value}{n:Sem Next}{a:AV}(e:n=(do pure (.value (<-m))))(k:Ok E.P O I K w0 w h m a h'):cR E O I K w0 w h n a h':=by
 grind[cR.of]
theorem bG3{x:AV}(r:HR O I K w0 h w)(rx:VR O I x vx):tU E.P O I K w0 w h (Builtin.unsafeSliceData_ ts ty #[vx]) (bP6 x h):=by
 trivial
theorem c72{x y:AV}{vy:Value}(r:HR O I K w0 h w)(rx:VR O I x vx)(ry:VR O I y vy):tU E.P O I K w0 w h (Builtin.unsafeString_ ts ty #[vx,vy]) (cf3 E.P ts x y h):=by
 trivial
theorem cL1{x y:AV}{vy:Value}(r:HR O I K w0 h w)(rx:VR O I x vx)(ry:VR O I y vy):tU E.P O I K w0 w h (Builtin.copy_ ts ty #[vx,vy]) (du7 E.P ts x y h):=by
 trivial
theorem Ws(I:Opq)(z:List AV)(sig:List CT)(es:List SX)(hes:iI sig z=some es): ∀(n:Nat) (O:bY) (us:List Value),cj O I (dF n z) us->us=cE sig (List.replicate n (.vl (Z6 I es)))
 |0,O,us,h=>h
 |n+1,O,us,h=>by
  have h1:=h.take z.length;have h2:=h.drop z.length;have e1:(dF (n+1) z).take z.length=z:=by simp[dF]
  have e2:(dF (n+1) z).drop z.length=dF n z:=by simp[dF]
  rw[e1]at h1;rw[e2]at h2;rw[<-x7 z.length us,qu hes h1,Ws I z sig es hes n O _ h2];rfl
theorem cn0(z:List AV): ∀n,(dF n z).length=n*z.length
 |0=>by simp[dF]
 |n+1=>by simp[dF,cn0 z n,s8];omega
theorem bS7(z:List AV)(hz:z.all AV.one=true): ∀n,(dF n z).all AV.one=true
 |0=>rfl
 |n+1=>by simp[dF,E6,hz,bS7 z hz n,Bool.and_self]
theorem HR.sameGet{h2:Heap}(r:HR O I K w0 h w)(hn:h2.next=h.next)(hw:h2.wm=h.wm)(hg: ∀z,h.get z=h2.get z):HR O I K w0 h2 w:=
 ⟨λb x L e=>r.blk b x L (by grind),λb b' x x' L L' e e' hb hb' hne q=>r.sep b b' x x' L L' (by grind) (by grind) hb hb' hne (by grind),λb hb=>r.fresh b (by omega),λb hb=>by rw[<-hg];exact r.fget b (by omega),r.lt,r.kin,r.keep,
  λb x L e q=>r.free b x L (by grind) (by omega),r.size,r.os,r.tape,r.out,r.dr⟩
theorem Xf(sig:List CT): ∀(l:List Val) (o:Nat),(cE sig l).take (o*sig.length)=cE sig (l.take o)
 |l,0=>by simp[cE]
 | [],o+1=>by simp[cE]
 |r::l,o+1=>by
  have ih:=Xf sig l o;show((dG sig r++cE sig l).take ((o+1)*sig.length))=dG sig r++cE sig (l.take o);simp_all[List.take_append,lU,s8,F7,N1,I0]
theorem ba9(sig:List CT): ∀(l:List Val) (o:Nat),(cE sig l).drop (o*sig.length)=cE sig (l.drop o)
 |l,0=>by grind
 | [],o+1=>by simp[cE]
 |r::l,o+1=>by
  have ih:=ba9 sig l o;show((dG sig r++cE sig l).drop ((o+1)*sig.length))=cE sig (l.drop o);simp_all[N2,lU,s8,F7,N1,K4,List.nil_append]
theorem bb0(hfx: ∀t,I.fix t=fC E.P t)(r:HR O I K w0 h w){ty t elem b:Nat}{off len:SX}{sz:Nat}{z:AV}(h0:ts[0]? =some t)(ht:E.P.underlying t=some (.slice elem))(hz:il E.P elem=some z)(hfe:fC E.P elem=false)
 (rx:(∃L cap a,O b=some L/\vx= .slice (some a) (dI I len).toNat cap/\(dI I len).toNat<=cap/\(0<dI I len->a=⟨L.blk,L.off+(dI I off).toNat*sz,none⟩))\/ ∃a cap,vx= .slice a 0 cap/\(a=none->cap=0)/\dI I len=0):
 tU E.P O I K w0 w h (Builtin.clear_ ts ty #[vx]) (JC E.P b off len sz z.cells (h.get b) h):=by
 unfold JC;split
 .rename_i e sig l hg;split
  .rename_i es hes;cases hc:(Nat.beq sig.length sz&&Nat.blt 0 sz&&Nat.ble h.wm b&& !(Nat.beq e iD)&& !(fC E.P e))with
   |false=>trivial
   |true=>
    obtain⟨hc,c5⟩:=W5 hc;have hnf:I.fix e=false:=by rw[hfx];simpa using c5
    obtain⟨hc,c4⟩:=W5 hc;have hne:e≠iD:=λe2=>by rw[e2,show Nat.beq iD iD=true from rfl]at c4;cases c4
    obtain⟨hc,c3⟩:=W5 hc;obtain⟨c1,c2⟩:=W5 hc;obtain rfl:=Z1.1 c1;rw[Z5]at c3;rw[dQ]at c2;intro hd;obtain⟨d1,d2⟩:=W5 (a:=(dB I (.op (.cmp .leq) [.ci 0,off])&&dB I (.op (.cmp .leq) [.ci 0,len]))) (b:=(dB I (.op (.cmp .leq) [len,.ci oV])&&dB I (.op (.cmp .leq) [.op .iadd [off,len],.op .llen [l]]))) hd;obtain⟨d1,d3⟩:=W5 d1;obtain⟨d2,d4⟩:=W5 d2;have d1:0<=dI I off:=j6 d1;have d3:0<=dI I len:=j6 d3;have d4:dI I off+dI I len<=((dL I l).length:Int):=j6 d4;have hb65:=Heap.get_lim h b _ hg;obtain⟨o,ho⟩: ∃o:Nat,dI I off=(o:Int):=⟨(dI I off).toNat,by omega⟩;obtain⟨n,hn⟩: ∃n:Nat,dI I len=(n:Int):=⟨(dI I len).toNat,by omega⟩;have hon:o+n<=(dL I l).length:=by omega
    have iY:dL I (.op .lcat [.op .lsub [l,.ci 0,off],.op .lcat [.op .lrep [len,.op .row es],.op .lsub [l,.op .iadd [off,len],.op .llen [l]]]])=(dL I l).take o++(List.replicate n (.vl (Z6 I es))++(dL I l).drop (o+n)):=by
     show((dL I l).drop (0:Int).toNat).take (dI I off-0).toNat++(List.replicate (dI I len).toNat (.vl (Z6 I es))++((dL I l).drop (dI I off+dI I len).toNat).take (((dL I l).length:Int)-(dI I off+dI I len)).toNat)=_;rw[ho,hn,show(0:Int).toNat=0 from rfl,G9,show((o:Int)-0).toNat=o by omega,Int.toNat_natCast,show((o:Int)+(n:Int)).toNat=o+n by omega];congr 2;rw[I0 (by rw[F8];omega)]
    rcases rx with⟨L,cap,a,hL,hv,hcap,ha⟩|⟨a,cap,hv,hacap,hlen0⟩
    .rw[hn,Int.toNat_natCast]at hv;by_cases hn0:n=0
     .subst hn0;refine⟨O,.tuple #[],w,by rw[hv];cases a<;>simp[Builtin.clear_,h0,Z0 ht],⟨_,rfl,rfl⟩,?_,?_⟩
      .refine HR.retell (y:= .arr e sig (.op .lcat [.op .lsub [l,.ci 0,off],.op .lcat [.op .lrep [len,.op .row es],.op .lsub [l,.op .iadd [off,len],.op .llen [l]]]])) r hg (.inl c3) ?_ rfl rfl (λz=>by rw[Heap.get_put,e8 hb65]);intro L' hL' hbr;obtain⟨C,e',lo,hi,z1,z0,z2,z3,z4,z5⟩:=hbr;have he:dL I (.op .lcat [.op .lsub [l,.ci 0,off],.op .lcat [.op .lrep [len,.op .row es],.op .lsub [l,.op .iadd [off,len],.op .llen [l]]]])=dL I l:=by rw[iY];simp
       exact⟨C,e',lo,hi,z1,z0,z2,by rw[he];exact z3,by rw[he];exact z4,z5⟩
      .refine⟨i6 _,λ_ _=>rfl,λz hz hzn=> ?_,rfl⟩;left;rw[Heap.get_put,b9 (λhh=>by rw[hh,hL]at hzn;cases hzn)]
     .have ha:=ha (by omega);subst ha;obtain⟨ocs,m1,m2,m3,m4⟩:=IZ I sig (dL I l);have m3':ocs.length=(dL I l).length*sig.length:=by rw[m3,iJ]
      have r2:=r.asCells hg c3 hne hnf m1 m2 m3;obtain⟨hone,helen⟩:=Pw hes;have hzl:z.cells.length=sig.length:=by rw[<-helen];exact vP hes
      have hrl:=cn0 z.cells n;rw[hzl]at hrl;have hmul:o*sig.length+n*sig.length<=(dL I l).length*sig.length:=by rw[<-s8];exact A2 _ hon
      have hg2:(h.put b (some (.cells e 0 ocs))).get b=some (.cells e 0 ocs):=by rw[Heap.get_put,e8 rfl,e8 hb65]
      have hpc:putCells (h.put b (some (.cells e 0 ocs))) b (o*sig.length) (dF n z.cells)=some ((h.put b (some (.cells e 0 ocs))).put b (some (.cells e 0 (jO ocs (o*sig.length) (dF n z.cells))))):=by
       have hr0:0<n*sig.length:=Nat.mul_pos (by omega) c2;cases hcs:dF n z.cells with
       |nil=>rw[hcs]at hrl;simp at hrl;omega
       |cons a as=>
        simp only[putCells,hcs];rw[<-hcs,hg2];simp;rw[show(Nat.ble h.wm b&&Nat.ble 0 (o*sig.length)&&Nat.ble (o*sig.length+(dF n z.cells).length) ocs.length&&(dF n z.cells).all AV.one)=true by
         rw[bS7 _ hone,Z5.2 c3,Z5.2 (r9 _),Z5.2 (by rw[hrl,m3'];exact hmul)];rfl]
        rfl
      have hcl:AE E.P elem b (o*sig.length) n (h.put b (some (.cells e 0 ocs)))=some (.undef,(h.put b (some (.cells e 0 ocs))).put b (some (.cells e 0 (jO ocs (o*sig.length) (dF n z.cells))))):=by
       unfold AE;split
       .exact absurd rfl hn0
       .rw[hz];simp[hzl];rw[gO c2,cond_true,hpc];rfl
      obtain⟨ac,u,w',e1,e2,e3,e4⟩:=Tl (ty:=ty) (cap:=cap) h0 ht r2 hcl hL;have ap:HR ac I K w0 (h.put b (some (.cells e 0 (jO ocs (o*sig.length) (dF n z.cells))))) w':=by
       have: ∀q,((h.put b (some (.cells e 0 ocs))).put b (some (.cells e 0 (jO ocs (o*sig.length) (dF n z.cells))))).get q=(h.put b (some (.cells e 0 (jO ocs (o*sig.length) (dF n z.cells))))).get q:=λq=>by
        rw[Heap.get_put,Heap.get_put,Heap.get_put];by_cases hz:q=b
        .rw[e8 hz,e8 hz]
        .rw[b9 hz,b9 hz,b9 hz]
       exact e3.sameGet rfl rfl this
      refine⟨ac,u,w',by rw[hv,ho,Int.toNat_natCast];exact e1,e2,?_,?_⟩
      .refine HR.asArr hb65 ap (λus hus=> ?_);rw[iY,BK,BK];unfold jO at hus;have hdet1: ∀us,cj ac I (ocs.take (o*sig.length)) us->us=(cE sig (dL I l)).take (o*sig.length):=λus hu=>ZA m4 m1 hu
       have hdet2: ∀us,cj ac I (ocs.drop (o*sig.length+(dF n z.cells).length)) us->us=(cE sig (dL I l)).drop (o*sig.length+(dF n z.cells).length):=λus hu=>XX m4 m1 hu
       have t1:=hus.take (ocs.take (o*sig.length)++dF n z.cells).length;have t2:=hus.drop (ocs.take (o*sig.length)++dF n z.cells).length;rw[F9]at t1;rw[G0]at t2;have t3:=t1.take (ocs.take (o*sig.length)).length;have t4:=t1.drop (ocs.take (o*sig.length)).length;rw[F9]at t3;rw[G0]at t4;rw[<-x7 (ocs.take (o*sig.length)++dF n z.cells).length us,hdet2 _ t2];rw[<-x7 (ocs.take (o*sig.length)).length (us.take (ocs.take (o*sig.length)++dF n z.cells).length),hdet1 _ t3,Ws I z.cells sig es hes n ac _ t4,A4,hrl,Xf,<-s8,ba9]
      .have:=e4;refine⟨this.le,λb' hb'=>this.ext b' hb',λb' hb' hn'=> ?_,this.wm⟩;left;rw[Heap.get_put,b9 (λhh=>by rw[hh,hL]at hn';cases hn')]
    .have hn0:n=0:=by omega
     subst hn0;refine⟨O,.tuple #[],w,by rw[hv];cases a<;>simp[Builtin.clear_,h0,Z0 ht],⟨_,rfl,rfl⟩,?_,?_⟩
     .refine HR.retell (y:= .arr e sig (.op .lcat [.op .lsub [l,.ci 0,off],.op .lcat [.op .lrep [len,.op .row es],.op .lsub [l,.op .iadd [off,len],.op .llen [l]]]])) r hg (.inl c3) ?_ rfl rfl (λz=>by rw[Heap.get_put,e8 hb65]);intro L' hL' hbr;obtain⟨C,e',lo,hi,z1,z0,z2,z3,z4,z5⟩:=hbr;have he:dL I (.op .lcat [.op .lsub [l,.ci 0,off],.op .lcat [.op .lrep [len,.op .row es],.op .lsub [l,.op .iadd [off,len],.op .llen [l]]]])=dL I l:=by rw[iY];simp
      exact⟨C,e',lo,hi,z1,z0,z2,by rw[he];exact z3,by rw[he];exact z4,z5⟩
     .refine⟨i6 _,λ_ _=>rfl,λz hz hzn=> ?_,rfl⟩;by_cases e1:z=b
      .subst e1;exact .inr (.inr (.of hg))
      .left;rw[Heap.get_put,b9 e1]
  .trivial
 .trivial
theorem cn1(hfx: ∀t,I.fix t=fC E.P t){x:AV}(r:HR O I K w0 h w)(rx:VR O I x vx):tU E.P O I K w0 w h (Builtin.clear_ ts ty #[vx]) (PB E.P ((ts[0]?).bind E.P.underlying) x h):=by
 unfold PB;split
 .rename_i elem ht;simp[m7]at ht;obtain⟨t,h0,ht⟩:=ht;split
  .rename_i z hz;cases hfe:fC E.P elem with
   |true=>trivial
   |false=>
    split
    .grind[VR,bb0]
    .rename_i b len sz;refine bb0 hfx r h0 ht hz hfe ?_;rcases rx with⟨L,cap,hL,h1,h2,h3⟩|⟨h1,h2⟩
     .refine .inl ⟨L,cap,_,hL,h2,h3,λ_=> ?_⟩;rw[show(dI I (.ci 0)).toNat*sz=0 by show(0:Int).toNat*sz=0;simp];rfl
     grind
    .trivial
  .trivial
 .trivial
theorem cL2(hfx: ∀t,I.fix t=fC E.P t)(r:HR O I K w0 h w)(o:dW O I af ρ)(c:Call)(ty:TypeId):
 cO E O I K w0 w h (do let d <-resolve ρ c ty;invoke d.target d.args) (Ls E.P af c h):=by
 unfold Ls;split
 .rename_i b hb;have hrun: ∀w,(do let d <-resolve ρ c ty;invoke d.target d.args:Sem Next).run E.P w=(builtin b c.argTypes ty (c.args.map λ| .const _=>true|_=>false) (c.args.map ρ)).run E.P w:=by
   grind[resolve,Sem.run_bind,Sem.run_pure,Result.andThen_ok,invoke]
  have conv: ∀res,cO E O I K w0 w h (builtin b c.argTypes ty (c.args.map λ| .const _=>true|_=>false) (c.args.map ρ)) res->cO E O I K w0 w h (do let d <-resolve ρ c ty;invoke d.target d.args) res:=by
   intro res hh;cases res with
   |val v h1=>obtain⟨ac,u,w',q1,q2⟩:=hh;exact⟨ac,u,w',by grind,q2⟩
   |need e v h1=>intro hd;obtain⟨ac,u,w',q1,q2⟩:=hh hd;exact⟨ac,u,w',by grind,q2⟩
   |cho e v l h1=>
    refine⟨λhd=> ?_,λhd=> ?_⟩
    .obtain⟨ac,u,w',q1,q2⟩:=hh.1 hd;exact⟨ac,u,w',by grind,q2⟩
    .obtain⟨x,hx,ac,u,w',q1,q2⟩:=hh.2 hd;exact⟨x,hx,ac,u,w',by grind,q2⟩
   |enter f vs=>obtain⟨us,q1,q2⟩:=hh;exact⟨us,by grind,q2⟩
   |choice l=>obtain⟨x,hx,ac,u,w',q1,q2⟩:=hh;exact⟨x,hx,ac,u,w',by grind,q2⟩
   |yield l vs=>obtain⟨L,us,q1,q2,q3⟩:=hh;exact⟨L,us,q1,q2,by grind⟩
   |defer d=>obtain⟨dd,q1,q2⟩:=hh;exact⟨dd,by grind,q2⟩
   |bad=>trivial
  apply conv
  cases hx:evs af c.args.toList with
  |none=>trivial
  |some args=>
   have ra:=rR o hx;have harr:c.args.map ρ=(c.args.toList.map ρ).toArray:=by grind
   rw[harr];unfold HY;split
   .rename_i x hh;simp at hh;subst hh;obtain⟨v,vr,e1,p1,p2⟩:=ra;obtain rfl:vr=[]:=p2;rw[e1];split
    .grind[db7]
    .exact GK (λh' a k=>cR.blt rfl k) (bG3 r p1)
    .exact GK (λh' a k=>cR.blt rfl k) (cn1 hfx r p1)
    .trivial
   .rename_i x y hh;simp at hh;subst hh;obtain⟨v,vr,e1,p1,v2,vr2,e2,p2,p3⟩:=ra;obtain rfl:vr2=[]:=p3;rw[e1,e2];split
    .exact c66 hfx r p1 p2 _ _ _
    .exact GK (λh' a k=>cR.blt rfl k) (c72 r p1 p2)
    .exact GK (λh' a k=>cR.blt rfl k) (cL1 r p1 p2)
    .exact GK (λh' a k=>cR.blt rfl k) (dc1 r p1 p2)
    grind[dy7]
   .trivial
 .trivial
theorem cL3(hfx: ∀t,I.fix t=fC E.P t)(r:HR O I K w0 h w)(ro:dW O I af ρ)(o:Oper):cO E O I K w0 w h (execOp ρ o) (qJ E af o h):=by
 obtain⟨dst,op,ty,pos,after,guard⟩:=o;cases op with
 |binOp op t x y _=>exact cK0 r ro op t x y
 |unOp op _ x=>exact dy6 r ro op x
 |convert s d x=>exact cK4 r ro s d x
 |pick c a b=>exact cK1 r ro c a b
 |load t a=>exact cK2 r ro t a
 |indexAddr t x i=>exact bf7 r ro t x i
 |fieldAddr s x f=>exact bf6 r ro s f x
 |index t x i=>exact cl5 r ro t x i
 |store t a x=>exact cm7 hfx r ro t a x
 |slice t x lo hi mx=>exact cm9 r ro t x lo hi mx
 |lookup t m k ok=>exact c68 r ro t m k ok
 |mapUpdate t m k x=>exact bt3 r ro t m k x
 |insert t m k x=>exact bt3 r ro t m k x
 |mapEntry t m k=>exact c70 r ro t m k
 |entryStore t m s x=>exact cm6 r ro t m s x
 |call c=>exact cL2 hfx r ro c ty
 |_=>trivial
end Go.Ev
namespace Go.Ev
open Go
variable{E:Env}{O:bY}{I:Opq}{K:Nat->Prop}{w0 w:World}{h h':Heap}{af:Operand->Option AV}{ρ:Operand->Value}
theorem cL4(r:HR O I K w0 h w)(o:dW O I af ρ)(c a b:Operand):cO E O I K w0 w h (do pure (.value (if<-asBool (ρ c)then ρ a else ρ b))) (wO af a b h (af c)):=by
 unfold wO;split
 .rename_i t hc;have rc:=o c _ hc;simp[VR]at rc;cases t with
  |true=>
   cases ha:af a with
   |none=>trivial
   |some v=>exact⟨O,ρ a,w,.inl (by simp[rc,asBool]),o a v ha,r,.refl _ _⟩
  |false=>
   cases hb:af b with
   |none=>trivial
   |some v=>exact⟨O,ρ b,w,.inl (by simp[rc,asBool]),o b v hb,r,.refl _ _⟩
 .trivial
theorem cn2(r:HR O I K w0 h w)(e:TypeId):cO E O I K w0 w h (do pure (.value (<-Instr.alloc e true (.tuple #[])))) (uC e h (il E.P e)):=by
 cases hz:il E.P e with
 |none=>trivial
 |some z=>
  obtain⟨zv,z1,z2⟩:=BJ hz;refine Cn λv h' hv=> ?_
  obtain⟨ac,x,w',q1,q2,q3,q4⟩:=ba2 (P:=E.P) r hv (z1 O I);exact⟨ac,x,w',by grind[Instr.alloc,Sem.run_bind,Result.andThen_ok],q2,q3,q4⟩
theorem dc2(r:HR O I K w0 h w)(o:dW O I af ρ)(e:TypeId)(x:Operand):cO E O I K w0 w h (do pure (.value (<-Instr.box e (ρ x)))) (uC e h (af x)):=by
 cases hx:af x with
 |none=>trivial
 |some a=>exact Cn λv h' hv=>ba2 (P:=E.P) r hv (o x a hx)
theorem cn3(r:HR O I K w0 h w)(o:dW O I af ρ)(t:TypeId)(ps:Array (Nat×Operand)):cO E O I K w0 w h (do pure (.value (<-Instr.build t (ps.map λ(i,x)=>(i,ρ x))))) (LU E.P t h (iR af ps.toList)):=by
 cases hx:iR af ps.toList with
 |none=>trivial
 |some l=>
  obtain⟨q1,q2⟩:=NU o hx;refine vT r λv hv=> ?_
  obtain⟨u,g1,g2⟩:=cj8 (P:=E.P) (O:=O) (I:=I) (vparts:=ps.map λ(i,x)=>(i,ρ x)) hv (by simpa using q1) (by simpa using q2);grind
theorem b82(r:HR O I K w0 h w)(o:dW O I af ρ)(t n:Nat)(ps:Array (Nat×Operand)):
 cO E O I K w0 w h (do pure (.value (<-Instr.buildSlice t n (ps.map λ(i,x)=>(i,ρ x))))) (AW E.P t n h (iR af ps.toList)):=by
 cases hx:iR af ps.toList with
 |none=>trivial
 |some l=>
  obtain⟨q1,q2⟩:=NU o hx;exact Cn λv h' hv=>b77 (P:=E.P) r hv (by simp_all) (by simp_all)
theorem cL5(r:HR O I K w0 h w)(o:dW O I af ρ)(t:TypeId)(x:Operand):cO E O I K w0 w h (do pure (.value (<-Instr.loadAt t (ρ x)))) (OH E.P t h (af x)):=by
 cases hx:af x with
 |none=>trivial
 |some a=>exact vT r λv hv=>Wl r hv (o x a hx)
theorem cn4(r:HR O I K w0 h w)(o:dW O I af ρ)(t:TypeId)(x y:Operand):cO E O I K w0 w h (do Instr.storeAt t (ρ x) (ρ y);pure .skip) (TB E.P t h (af x) (af y)):=by
 cases hx:af x with
 |none=>trivial
 |some a=>
  cases hy:af y with
  |none=>trivial
  |some b=>exact Wk λh' hv=>Zp r hv (o x a hx) (o y b hy)
theorem dc3(hE:E.Ok I)(r:HR O I K w0 h w)(o:dW O I af ρ)(op:BinOp)(t:TypeId)(x y:Operand):
 cO E O I K w0 w h (do pure (.value (<-(do eqGuard op t x y (ρ x) (ρ y);binOp op t (ρ x) (ρ y):Sem Value)))) (Cm E op t x y h (af x) (af y)):=by
 cases hx:af x with
 |none=>trivial
 |some a=>
  cases hy:af y with
  |none=>trivial
  |some b=>
   simp only[Cm];cases hg:wX E.P op t x y a b with
   |false=>trivial
   |true=>
    refine vT r λv hv=> ?_
    have hgr:=ba0 hg (o x a hx) (o y b hy);have main: ∃u,VR O I v u/\ ∀w,(binOp op t (ρ x) (ρ y)).run E.P w= .ok u w:=by
     unfold KR at hv;split at hv
     .rename_i v' hb;simp at hv;subst hv;exact da0 hb (o x a hx) (o y b hy)
     .exact hE.bin op a b v hv O t _ _ (o x a hx) (o y b hy)
    grind[Sem.run_bind,Result.andThen_ok]
theorem dy8(hE:E.Ok I)(r:HR O I K w0 h w)(o:dW O I af ρ)(op:UnOp)(x:Operand):cO E O I K w0 w h (do pure (.value (<-Op.unary op (ρ x)))) (TX E op h (af x)):=by
 cases hx:af x with
 |none=>trivial
 |some a=>
  refine vT r λv hv=> ?_
  have main: ∃u,VR O I v u/\ ∀w,(Op.unary op (ρ x)).run E.P w= .ok u w:=by
   unfold KR at hv;split at hv
   .rename_i v' hb;simp at hv;subst hv;exact cZ5 hb (o x a hx)
   .exact hE.un op a v hv O _ (o x a hx)
  grind
theorem cL6(hE:E.Ok I)(r:HR O I K w0 h w)(o:dW O I af ρ)(s d:TypeId)(x:Operand):cO E O I K w0 w h (do pure (.value (<-convert s d (ρ x)))) (CD E s d h (af x)):=by
 cases hx:af x with
 |none=>trivial
 |some a=>
  simp[CD];cases hc:CM E.P s d a h with
  |some p=>exact .of (cJ3 hE.fix r (a:=p.1) (h':=p.2) hc (o x a hx))
  |none=>
   cases hc2:GF E.P s d a h with
   |some p=>exact⟨p,by simp,.of (cJ4 r (a:=p.1) (h':=p.2) hc2 (o x a hx))⟩
   |none=>exact vT r λv hv=>let ⟨u,u1,u2⟩:=hE.conv d a v hv O s _ (o x a hx);⟨u,u1,u2 w⟩
theorem cn5(r:HR O I K w0 h w)(o:dW O I af ρ)(t:TypeId)(x:Operand):cO E O I K w0 w h (do pure (.value (<-Instr.makeInterface t (ρ x)))) (CF E.P t h (af x)):=by
 cases hx:af x with
 |none=>trivial
 |some a=>
  simp[CF];split
  .trivial
  .refine .of ⟨O,.iface t (ρ x),w,?_,⟨_,rfl,o x a hx⟩,r,.refl _ _⟩;simp_all[Instr.makeInterface,Sem.run_bind,Z0,Result.andThen_ok]
  .trivial
theorem cL7(r:HR O I K w0 h w)(o:dW O I af ρ)(fn:Fn)(xs ys:Array Operand):
 cO E O I K w0 w h (do pure (.value (<-Instr.makeFunc fn (xs.map ρ) (ys.map ρ)))) (Bd fn h (evs af xs.toList) (evs af ys.toList)):=by
 cases hx:evs af xs.toList with
 |none=>trivial
 |some a=>
  cases hy:evs af ys.toList with
  |none=>trivial
  |some b=>
   simp[Bd];split
   .trivial
   .rename_i hn;exact .of ⟨O,.func fn (xs.map ρ) (ys.map ρ),w,rfl,⟨hn,_,_,rfl,by simpa using rR o hx,by simpa using rR o hy⟩,r,.refl _ _⟩
theorem dc4(r:HR O I K w0 h w)(o:dW O I af ρ)(t:TypeId)(x:Option Operand):cO E O I K w0 w h (do pure (.value (<-Instr.makeMap t (x.map ρ)))) (rJ E.P t h (eI af x)):=by
 unfold rJ;split
 .rename_i kt et ht;have new: ∀m:Sem Value,m.run E.P w= .ok (.map (some w.heap.size)) (w.alloc (.map #[] 0))->cR E O I K w0 w h (do pure (.value (<-m))) (.map h.next) (h.new (.map [] 0)):=by
   intro m hm;obtain⟨p1,p2⟩:=r.new (.map #[] 0) (.map [] 0) 0 0 ⟨#[],rfl,.nil⟩;exact .of ⟨_,_,_,hm,⟨_,bY.add_self _ _ _,rfl⟩,p1,p2⟩
  split
  .rename_i hx;have:=uY o hx;rw[this];exact new _ rfl
  .rename_i k n hx;obtain⟨v,hv,rv⟩:=uY o hx;subst rv;rw[hv];refine new _ ?_;simp only[Instr.makeMap,Sem.run_bind,Z0 ht,Result.andThen_ok,asInt,asIntOf,Sem.run_pure,run_newObj];rfl
  .trivial
 .trivial
theorem bg5(r:HR O I K w0 h w)(o:dW O I af ρ)(t:TypeId)(x y:Operand):cO E O I K w0 w h (do pure (.value (<-Instr.makeSlice t (ρ x) (ρ y)))) (Av E.P t h (af x) (af y)):=by
 cases hx:af x with
 |none=>trivial
 |some a=>
  cases hy:af y with
  |none=>trivial
  |some b=>exact Cn λv h' hv=>bf4 r hv (o x a hx) (o y b hy)
theorem cn6(r:HR O I K w0 h w)(o:dW O I af ρ)(t:TypeId)(x:Operand)(lo hi mx:Option Operand):
 cO E O I K w0 w h (do pure (.value (<-Instr.sliceAt t (ρ x) (lo.map ρ) (hi.map ρ) (mx.map ρ)))) (Au E t h (af x) (eI af lo) (eI af hi) (eI af mx)):=by
 cases hx:af x with
 |none=>trivial
 |some a=>
  cases h1:eI af lo with
  |none=>trivial
  |some vl=>
   cases h2:eI af hi with
   |none=>trivial
   |some vh=>
    cases h3:eI af mx with
    |none=>trivial
    |some vm=>
     simp[Au];cases hc:(vh.isNone&&vm.isSome)with
     |true=>trivial
     |false=>
      refine vT r λv hv=> ?_
      obtain⟨u,u1,u2⟩:=cj6 r hv hc (o x a hx) (uY o h1) (uY o h2) (uY o h3);grind
theorem Pp{F:AV->AV->Option AV}{G:Value->Value->Sem Value}(r:HR O I K w0 h w)(o:dW O I af ρ)(x y:Operand)
 (k: ∀a b v va vb,F a b=some v->VR O I a va->VR O I b vb-> ∃u,VR O I v u/\(G va vb).run E.P w= .ok u w):cO E O I K w0 w h (do pure (.value (<-G (ρ x) (ρ y)))) (s2 F h (af x) (af y)):=by
 cases hx:af x with
 |none=>trivial
 |some a=>
  cases hy:af y with
  |none=>trivial
  |some b=>exact vT r λv hv=>k a b v _ _ hv (o x a hx) (o y b hy)
theorem GS{F:AV->Option AV}{G:Value->Sem Value}(r:HR O I K w0 h w)(o:dW O I af ρ)(x:Operand)
 (k: ∀a v va,F a=some v->VR O I a va-> ∃u,VR O I v u/\(G va).run E.P w= .ok u w):cO E O I K w0 w h (do pure (.value (<-G (ρ x)))) (s1 F h (af x)):=by
 cases hx:af x with
 |none=>trivial
 |some a=>exact vT r λv hv=>k a v _ hv (o x a hx)
theorem Pk{F:AV->AV->AV->Option Heap}{G:Value->Value->Value->Sem Unit}(r:HR O I K w0 h w)(o:dW O I af ρ)(x y z:Operand)
 (k: ∀a b c h' va vb vc,F a b c=some h'->VR O I a va->VR O I b vb->VR O I c vc->Dt E.P O I K w0 w h (G va vb vc) h'):cO E O I K w0 w h (do G (ρ x) (ρ y) (ρ z);pure .skip) (CQ F (af x) (af y) (af z)):=by
 cases hx:af x with
 |none=>trivial
 |some a=>
  cases hy:af y with
  |none=>trivial
  |some b=>
   cases hz:af z with
   |none=>trivial
   |some c=>exact Wk λh' hv=>k a b c h' _ _ _ hv (o x a hx) (o y b hy) (o z c hz)
theorem bG4(hE:E.Ok I)(r:HR O I K w0 h w){args:List AV}{us:List Value}(ra:cj O I args us)(b:Builtin)(ts:Array TypeId)(ty:TypeId)(cs:Array Bool):
 cO E O I K w0 w h (builtin b ts ty cs us.toArray) (xL E b ts h args):=by
 unfold xL;split
 .rename_i p hp;obtain⟨ac,v,w',q1,q2,q3,q4⟩:=QH (ty:=ty) (cs:=cs) (us:=us.toArray) (a:=p.1) (h':=p.2) hE.fix r hp (by omega);exact⟨ac,v,w',.inl q1,q2,q3,q4⟩
 .have main: ∀k,(b= .len/\k=FK.len\/b= .max/\k=FK.max\/b= .min/\k=FK.min)->cO E O I K w0 w h (builtin b ts ty cs us.toArray) (ov (E.fact k args) h):=by
   intro k hk;cases hf:E.fact k args with
   |none=>trivial
   |some v=>
    obtain⟨u,u1,u2⟩:=hE.blt b k args v hk hf O ts ty cs us ra;exact⟨O,u,w,.inl (u2 w),u1,r,.refl _ _⟩
  split
  .grind
  .grind
  .grind
  .trivial
theorem cL8(hE:E.Ok I)(r:HR O I K w0 h w)(o:dW O I af ρ)(c:Call)(ty:TypeId):
 cO E O I K w0 w h (do let d <-resolve ρ c ty;invoke d.target d.args) (vL E af c h (evs af c.args.toList)):=by
 cases hx:evs af c.args.toList with
 |none=>trivial
 |some args=>
  have ra:=rR o hx;have harr:(c.args.toList.map ρ).toArray=c.args.map ρ:=by grind
  simp[vL];split
  .rename_i b hb;have:=bG4 hE r ra b c.argTypes ty (c.args.map λ| .const _=>true|_=>false);grind[resolve,invoke,builtin,Sem.run_bind,Sem.run_pure,Result.andThen_ok,xL]
  .rename_i rc name hf;cases hv:af rc with
   |none=>trivial
   |some vf=>
    have:=WD hE (name:=name) (cap:=[]) (y:= #[]) (x:= #[ρ rc]) r (first:=[vf]) ⟨ρ rc,[],rfl,o rc vf hv,rfl⟩ ra;exact this
  .rename_i f hf;cases hv:af f with
   |none=>trivial
   |some vf=>
    have:=WJ hE r (o f vf hv) ra;rw[harr]at this;have hres:resolve ρ c ty=Deferred.ofValue (ρ f) (c.args.map ρ):=by grind[resolve]
    rw[hres];exact this
theorem cL9(hE:E.Ok I)(r:HR O I K w0 h w)(ro:dW O I af ρ)(o:Oper):cO E O I K w0 w h (execOp ρ o) (nm E af o h):=by
 obtain⟨dst,op,ty,pos,after,guard⟩:=o;cases op with
 |move x=>
  show cO E O I K w0 w h (pure (.value (ρ x))) (ov (af x) h);cases hx:af x with
  |none=>trivial
  |some a=>exact⟨O,ρ x,w,.inl rfl,ro x a hx,r,.refl _ _⟩
 |assign x=>
  show cO E O I K w0 w h (pure (.value (ρ x))) (ov (af x) h);cases hx:af x with
  |none=>trivial
  |some a=>exact⟨O,ρ x,w,.inl rfl,ro x a hx,r,.refl _ _⟩
 |pick c a b=>exact cL4 r ro c a b
 |alloc e=>exact cn2 r e
 |box e x=>exact dc2 r ro e x
 |build t ps=>exact cn3 r ro t ps
 |buildSlice t n ps=>exact b82 r ro t n ps
 |load t a=>exact cL5 r ro t a
 |store t a x=>exact cn4 r ro t a x
 |nilCheck x=>
  show cO E O I K w0 w h _ (Cs E.P h (af x));unfold Cs;split
  .rename_i name first cap hx
   unfold Ik;split
   .rename_i t v rest;split
    .rename_i g hm;have rx:=ro x _ hx;refine⟨O,ρ x,w,.inl ?_,rx,r,.refl _ _⟩;obtain⟨-,p,q,e,rp,-⟩:=rx;obtain⟨u,us,hp,ru,-⟩:=rp;obtain⟨y,rfl,-⟩:=ru;have h0:p[0]? =some (.iface t y):=by rw[<-Array.getElem?_toList,hp];rfl
     have hn:(nilAhead (E.P.types.size+Made.depth) t y name).run E.P w= .ok (some false) w:=bs1 hm (E.P.types.size+99) y w;simp_all[execOp,Sem.run_bind,run_program,Result.andThen_ok]
    .trivial
   .trivial
  .rename_i a hnm hx;cases hn:HJ a with
   |none=>trivial
   |some b=>
    have rx:=ro x a hx;obtain⟨rfl,hv⟩:=bF8 rx hn;refine⟨O,ρ x,w,.inl ?_,rx,r,.refl _ _⟩;simp[execOp];generalize ρ x=v at hv;cases v with
    |pointer p=>cases p with
     |none=>cases hv
     |some p=>rfl
    |func fn a b=>cases fn<;>first|rfl|cases hv
    |nilIface=>cases hv
    |nilFunc=>cases hv
    |_=>rfl
  .trivial
 |binOp op t x y _=>exact dc3 hE r ro op t x y
 |unOp op _ x=>exact dy8 hE r ro op x
 |convert s d x=>exact cL6 hE r ro s d x
 |makeInterface t x=>exact cn5 r ro t x
 |makeFunc fn a b=>exact cL7 r ro fn a b
 |makeMap t x=>exact dc4 r ro t x
 |makeSlice t l c=>exact bg5 r ro t l c
 |slice t x lo hi mx=>exact cn6 r ro t x lo hi mx
 |fieldAddr s x f=>exact GS (F:=λa=>Lg E.P s a f) (G:=λv=>Instr.fieldAt s v f) r ro x λa v va e ra=>let ⟨u,u1,u2⟩:=bf1 e ra;⟨u,u1,u2 w⟩
 |field t x f=>exact GS (F:=λa=>MW E.P t a f) (G:=λv=>Instr.field t v f) r ro x λa v va e ra=>let ⟨u,u1,u2⟩:=cj3 e ra;⟨u,u1,u2 w⟩
 |indexAddr t x i=>exact Pp (G:=λv u=>Instr.indexAt t v u) r ro x i λa b v va vb e ra rb=>let ⟨u,u1,u2⟩:=bf2 e ra rb;⟨u,u1,u2 w⟩
 |index t x i=>exact Pp (G:=λv u=>Instr.index t v u) r ro x i λa b v va vb e ra rb=>let ⟨u,u1,u2⟩:=cj4 e ra rb;⟨u,u1,u2 w⟩
 |lookup t x i ok=>exact Pp (F:=λa i=>MI E.P t a i ok h) (G:=λv u=>Instr.lookup t v u ok) r ro x i λa b v va vb e ra rb=>c59 r e ra rb
 |mapUpdate t m k x=>exact Pk (F:=λm k v=>By E.P t m k v h) (G:=λm k v=>Instr.mapUpdate t m k v) r ro m k x λa b c h' va vb vc e ra rb rc=>aG2 r e ra rb rc
 |insert t m k x=>exact Pk (F:=λm k v=>By E.P t m k v h) (G:=λm k v=>Instr.mapUpdate t m k v) r ro m k x λa b c h' va vb vc e ra rb rc=>aG2 r e ra rb rc
 |mapEntry t m k=>
  show cO E O I K w0 w h (do pure (.value (<-Instr.mapEntry t (ρ m) (ρ k)))) (SM (λm k=>LZ E.P t m k h) (af m) (af k));cases hx:af m with
  |none=>trivial
  |some a=>
   cases hy:af k with
   |none=>trivial
   |some b=>exact Cn λv h' hv=>br4 r hv (ro m a hx) (ro k b hy)
 |entryStore t m s x=>exact Pk (F:=λm s v=>HQ m s v h) (G:=λm k v=>Instr.entryStore t m k v) r ro m s x λa b c h' va vb vc e ra rb rc=>b78 r e ra rb rc
 |range t x=>
  show cO E O I K w0 w h (do pure (.value (<-Instr.range t (ρ x)))) (NP (λa=>Ll E.P t a h) (af x));cases hx:af x with
  |none=>trivial
  |some a=>exact Cn λv h' hv=>ck2 r hv (ro x a hx)
 |next it s=>
  show cO E O I K w0 w h (do pure (.value (<-Instr.next (ρ it) s ty))) (tS (λa=>EH a s h) (af it));cases hx:af it with
  |none=>trivial
  |some a=>
   have:=cJ2 (P:=E.P) (ty:=ty) (isS:=s) r (ro it a hx);simp[tS];cases hn:EH a s h<;>rw[hn]at this
   .exact .of this
   .exact this.elim
   .exact this.elim
   .exact this.elim
   .obtain⟨x,hx,hok⟩:=this;exact⟨x,hx,.of hok⟩
   .exact this.elim
   .exact this.elim
   .trivial
 |entry it=>exact GS (F:=λa=>LA a h) (G:=λv=>Instr.entry v) r ro it λa v va e ra=>ck7 r e ra
 |typeAssert x xt t ok=>exact GS (F:=λa=>Nb E.P a t ok) (G:=λv=>Instr.typeAssert v xt t ok) r ro x λa v va e ra=>let ⟨u,u1,u2⟩:=b79 e ra;⟨u,u1,u2 w⟩
 |extract t i=>exact GS (F:=HN i) (G:=λv=>Instr.extract v i) r ro t λa v va e ra=>let ⟨u,u1,u2⟩:=bE9 e ra;⟨u,u1,u2 w⟩
 |call c=>exact cL8 hE r ro c ty
 |defer c=>
  show cO E O I K w0 w h (do pure (.defer (<-resolve ρ c ty))) (GD af c (evs af c.args.toList));cases hv:evs af c.args.toList with
  |none=>trivial
  |some args=>
   have ra:=rR ro hv;simp only[GD];split
   .rename_i f hcal;cases hf:af f with
    |none=>trivial
    |some a=>
     simp only[tS];unfold Px;split
     .rename_i g first cap
      obtain⟨-,x,y,hx,rx,ry⟩:=ro f _ hf;refine⟨{target:= .fn (.func g) y,args:=x++(c.args.map ρ)},?_,_,_,rfl,?_,ry⟩
      .grind[resolve,Deferred.ofValue,Sem.run_bind,Sem.run_pure,Result.andThen_ok]
      .rw[Array.toList_append,Array.toList_map];exact rx.append ra
     .trivial
   .trivial
 |_=>trivial
theorem bt7(hE:E.Ok I)(r:HR O I K w0 h w)(ro:dW O I af ρ)(o:Oper):cO E O I K w0 w h (execOp ρ o) (fa E af o h):=by
 have h1:=cL9 hE r ro o;have h2:=cL3 (E:=E) hE.fix r ro o;unfold fa;cases hc:nm E af o h<;>rw[hc]at h1<;>first|exact h1|exact h2
end Go.Ev
