import Derived.Test.YtgeohopencabkaaGreatE13
set_option linter.all false
noncomputable section
namespace Go.Ev
open Go
variable{t yt:zX}{op:BinOp}{x a y:AV}{v vy vx va vc zv:Zl}{e b nd ly:SX}{sig:wD}{k:IntKind}{M:Sem Zl}{n s:Nat}{i:TypeInfo}
variable{E:Env}{O:cj}{I:Opq}{K:wW}{w0 w:Ac}{h h':Heap}{af:An->EX}{ρ:An->Zl}
abbrev ax:Opq:=⟨λ_=> .nilIface,λ_=> .B false,λ_ _=> .B false,λ_=>rfl,λ_=>false,λ_=>none⟩
theorem ti(h:jm x=some (k,e))(r:VR O I x v):v= .int k (dI I e):=by unfold jm at h;split at h<;>simp only[j5,y6,reduceCtorEq]at h;obtain⟨rfl,rfl⟩:=h;exact r;obtain⟨rfl,rfl⟩:=h;exact r
theorem yp(h:mu x=some e)(r:VR O I x v):v= .string ⟨(dS I e).toArray⟩:=by unfold mu at h;split at h<;>simp only[j5,reduceCtorEq]at h;subst h;exact r;subst h;exact r
def vG(h:lu x=some e)(r:VR O I x v):v= .bool (dB I e):=by unfold lu at h;split at h<;>simp only[j5,reduceCtorEq]at h;subst h;exact r;subst h;exact r
theorem cO.pureV{m:Sem Next}{v:AV}{u:Zl}(r:HR O I K w0 h w)(hv:VR O I v u)(hr:m.run E.P w= .ok (.value u) w):cO E O I K w0 w h m v h:=
 ⟨O,u,w,.inl hr,hv,r,.refl _ _⟩
theorem MG(op:BinOp)(k:IntKind)(a b:SX):dI I (.O (.ar op k) [a,b])=cq op k (dI I a) (dI I b):=rfl
theorem Gd(op:BinOp)(a b:SX):dB I (.O (.cmp op) [a,b])=gr op (dI I a) (dI I b):=rfl
def dn3(op:BinOp)(a b:SX):dB I (.O (.scmp op) [a,b])=nZ op (dS I a) (dS I b):=rfl
theorem pF(n:Int):dI I (.C n)=n:=rfl
def dK8(a b:SX):dI I (fI a b)=dI I a+dI I b:=rfl
def XV(a:SX):dI I (.O .slen [a])=((dS I a).length:Int):=rfl
theorem kc(a:SX):dI I (.O .Y [a])=((dL I a).length:Int):=rfl
theorem tE(a b:SX):dB I (.O .and [a,b])=(dB I a&&dB I b):=rfl
def Ab{i l:SX}(h:dB I (tH i l)=true):0<=dI I i/\dI I i<dI I l:=by simp[tH,tE,Gd,gr,j8,decide_eq_true_eq]at h;exact h
def cp6{x y n:Int}(he:uP op k x y=some (.int k n))(hop:op≠ .shl/\op≠ .shr)(w:Ac):
 (binOp op t (.int k x) (.int k y)).run E.P w= .ok (.int k n) w:=by
 obtain⟨v,r1,r2⟩:=Mk (P:=E.P) (O:=λ_=>none) (I:=ax) t he hop;rw[r2,show v=_ from r1]
def dn4{x y:Int}{n:Bool}(he:uP op k x y=some (.bool n))(hop:op≠ .shl/\op≠ .shr)(w:Ac):
 (binOp op t (.int k x) (.int k y)).run E.P w= .ok (.bool n) w:=by
 obtain⟨v,r1,r2⟩:=Mk (P:=E.P) (O:=λ_=>none) (I:=ax) t he hop;rw[r2,show v=_ from r1]
def dn5{x y z:zR}(he:CN op x y=some (.str z))(w:Ac):
 (binOp op t (.string ⟨x.toArray⟩) (.string ⟨y.toArray⟩)).run E.P w= .ok (.string ⟨z.toArray⟩) w:=by
 obtain⟨v,r1,r2⟩:=OO (P:=E.P) (O:=λ_=>none) (I:=ax) t he;rw[r2,show v=_ from r1]
def dn6{x y:zR}{n:Bool}(he:CN op x y=some (.bool n))(w:Ac):
 (binOp op t (.string ⟨x.toArray⟩) (.string ⟨y.toArray⟩)).run E.P w= .ok (.bool n) w:=by
 obtain⟨v,r1,r2⟩:=OO (P:=E.P) (O:=λ_=>none) (I:=ax) t he;rw[r2,show v=_ from r1]
def dn7{k':IntKind}{a:SX}(r:HR O I K w0 h w)
 (hM: ∀u,(binOp op t (.int k (dI I a)) (.int k' (dI I b))).run E.P w= .ok u w->M.run E.P w= .ok u w):
 cN E O I K w0 w h (do pure (.value (<-M))) (LD op k k' a b h):=by
 have fin: ∀{v:AV} {u:Zl},(binOp op t (.int k (dI I a)) (.int k' (dI I b))).run E.P w= .ok u w->VR O I v u->cO E O I K w0 w h (do pure (.value (<-M))) v h:=by grind[cO.pureV,Sem.run_bind,Result.andThen_ok,Sem.run_pure]
 have nn:dB I (.O (.cmp .leq) [.C 0,b])=true-> ∃n:Nat,dI I b=n:=by intro hd;simp[Gd,gr,decide_eq_true_eq]at hd;have hd:0<=dI I b:=hd;exact⟨(dI I b).toNat,by omega⟩
 have nz:dB I (.O (.cmp .neq) [b,.C 0])=true->mR (dI I b) 0=false:=by intro hd;simp[Gd,gr,s7,decide_eq_false_iff_not]at hd;have hd: ¬dI I b=0:=hd;grind[uu]
 unfold LD;cases op<;>simp only[];case shl=>
  intro hd;obtain⟨n,hn⟩:=nn hd;exact fin (by rw[hn];rfl) (by grind[VR,MG,cq,Int.toNat_natCast])
 case shr=>
  intro hd;obtain⟨n,hn⟩:=nn hd;exact fin (by rw[hn];rfl) (by grind[VR,MG,cq,Int.toNat_natCast])
 all_goals
  split
  .rename_i hk;subst hk;first
    |(intro hd
      have hz:=nz hd;refine fin (cp6 (by simp[uP,hz,cond_false]<;>rfl) ⟨by simp,by simp⟩ w) ?_;grind[VR,MG,cq,tq])
    |(refine fin (cp6 rfl ⟨by simp,by simp⟩ w) ?_
      grind[VR,MG,cq,tq])
    |(refine fin (dn4 rfl ⟨by simp,by simp⟩ w) ?_
      simp[VR,Gd,gr,uu,ph];first|done|rfl|(congr 1;grind)|(congr 1;rw[A9];simp;omega))
  trivial
def ei8{a:SX}(hd:dB I (.O (.cmp .lss) [fI (.O .slen [a]) (.O .slen [b]),.C uR])=true):gr .lss (dI I (fI (.O .slen [a]) (.O .slen [b]))) (dI I (.C uR))=true:=by grind[Gd]
def ei9{a:SX}(hd:gr .lss (dI I (fI (.O .slen [a]) (.O .slen [b]))) (dI I (.C uR))=true):gr .lss (dI I (fI (.O .slen [a]) (.O .slen [b]))) uR=true:=by grind[pF]
def ej0{x y:Int}(hd:gr .lss x y=true):x<y:=by grind[gr]
def dn8{a:SX}(hd:dB I (.O (.cmp .lss) [fI (.O .slen [a]) (.O .slen [b]),.C uR])=true):((dS I a).length:Int)+((dS I b).length:Int)<uR:=by have h1:=ej0 (ei9 (ei8 hd));simp_all[dK8,XV]
def cS7{a:SX}(r:HR O I K w0 h w)
 (hM: ∀u,(binOp .add t (.string ⟨(dS I a).toArray⟩) (.string ⟨(dS I b).toArray⟩)).run E.P w= .ok u w->M.run E.P w= .ok u w)
 (hd:dB I (.O (.cmp .lss) [fI (.O .slen [a]) (.O .slen [b]),.C uR])=true):cO E O I K w0 w h (do pure (.value (<-M))) (.K (.O .cat [a,b])) h:=by
 replace hd:=dn8 hd;have e3:uR=(Dz:Int):=by rfl
 have hlt:Nat.blt ((dS I a).length+(dS I b).length) Dz=true:=gW (by omega);have h1:(binOp .add t (.string ⟨(dS I a).toArray⟩) (.string ⟨(dS I b).toArray⟩)).run E.P w= .ok (.string ⟨(dS I a++dS I b).toArray⟩) w:=dn5 (by simp[CN,hlt,cond_true]) w;exact cO.pureV r (u:= .string ⟨(dS I a++dS I b).toArray⟩) rfl (by simp_all)
def dn9{a:SX}(r:HR O I K w0 h w)
 (hM: ∀u,(binOp op t (.string ⟨(dS I a).toArray⟩) (.string ⟨(dS I b).toArray⟩)).run E.P w= .ok u w->M.run E.P w= .ok u w):
 cN E O I K w0 w h (do pure (.value (<-M))) (It op a b h):=by
 have fin: ∀{v:AV} {u:Zl},(binOp op t (.string ⟨(dS I a).toArray⟩) (.string ⟨(dS I b).toArray⟩)).run E.P w= .ok u w->VR O I v u->cO E O I K w0 w h (do pure (.value (<-M))) v h:=by grind[cO.pureV,Sem.run_bind,Result.andThen_ok,Sem.run_pure]
 unfold It;cases op<;>simp only[];case add=>exact cS7 r hM
 all_goals first
  |trivial
  |(refine fin (dn6 rfl w) ?_
    simp[VR,dn3,nZ,ug,kI];first|done|rfl|grind)
mutual
def dG(I:Opq):AV->AV
 | .Z k e=> .int k (dI I e)
 | .K e=> .str (dS I e)
 | .H e=> .bool (dB I e)
 | .agg cs=> .agg (rg I cs)
 |x=>x
def rg(I:Opq):zw->zw
 | []=>[]
 |x::r=>dG I x::rg I r
end
def Kw: ∀l:zw,rg I l=l.map (dG I)
 | []=>rfl
 |x::r=>by simp[rg,m8,Kw r]
mutual
theorem IC: ∀(x:AV) (v:Zl),VR O I x v->VR O I (dG I x) v
 | .Z k e,v,h=>by exact h
 | .K e,v,h=>by exact h
 | .H e,v,h=>by exact h
 | .agg cs,v,h=>by obtain⟨xs,rfl,q⟩:=h;exact⟨xs,rfl,bU3 cs _ q⟩
 | .bool _,v,h=>by grind[dG]
 | .int _ _,v,h=>by grind[dG]
 | .str _,v,h=>by grind[dG]
 | .nilp,v,h=>by grind[dG]
 | .ptr _ _,v,h=>by grind[dG]
 | .glob _,v,h=>by grind[dG]
 | .N,v,h=>by grind[dG]
 | .sl _ _ _ _,v,h=>by grind[dG]
 | .us _ _ _ _,v,h=>by grind[dG]
 | .es _ _ _,v,h=>by grind[dG]
 | .es0,v,h=>by grind[dG]
 | .nilm,v,h=>by grind[dG]
 | .map _,v,h=>by grind[dG]
 | .nilf,v,h=>by grind[dG]
 | .func _ _ _,v,h=>by grind[dG]
 | .yield _,v,h=>by grind[dG]
 | .nili,v,h=>by grind[dG]
 | .iface _ _,v,h=>by grind[dG]
 | .V _,v,h=>by grind[dG]
 | .opq _,v,h=>by grind[dG]
 | .osl _ _ _ _,v,h=>by grind[dG]
 | .optr _ _ _ _,v,h=>by grind[dG]
 | .U _ _ _,v,h=>by grind[dG]
 | .atl _,v,h=>by grind[dG]
 | .any,v,h=>by grind[dG]
theorem bU3: ∀(xs:zw) (vs:List Zl),co O I xs vs->co O I (rg I xs) vs
 | [],vs,h=>h
 |x::r,vs,h=>by obtain⟨v,vr,rfl,p,q⟩:=h;exact⟨v,vr,rfl,IC x v p,bU3 r vr q⟩
end
def bt9(h:jm x=some (k,e)):dG I x= .int k (dI I e):=by unfold jm at h;split at h<;>simp only[j5,y6,reduceCtorEq]at h;obtain⟨rfl,rfl⟩:=h;rfl;obtain⟨rfl,rfl⟩:=h;rfl
def bu0(h:mu x=some e):dG I x= .str (dS I e):=by unfold mu at h;split at h<;>simp only[j5,reduceCtorEq]at h<;>subst h<;>rfl
def WE(h:lu x=some e):dG I x= .bool (dB I e):=by unfold lu at h;split at h<;>simp only[j5,reduceCtorEq]at h<;>subst h<;>rfl
variable{P:yJ}
def TI{cs:zw}{o:Nat}(h:jK P t cs o=some a):jK P t (rg I cs) o=some (dG I a):=by unfold jK at h⊢;split at h;obtain⟨hc,h⟩:=W5 h;simp at h;subst h;rw[Kw,k7,hc];simp[cond_true,dG,Kw,List.map_take,List.map_drop];rw[Kw,B9,h];rfl;cases h
def Ov(a b:SX):dB I (gL a b)=(dB I a&&dB I b):=by have h0:dB I (.cb true)=true:=rfl;unfold gL;split;rfl;split;grind;rfl
def Ob{ihS:zX->AV->AV->aaD}{ih:zX->AV->AV->S8}(hih: ∀t a b e,ihS t a b=some e->ih t (dG I a) (dG I b)=some (dB I e)){xs ys:zw}:
 ∀{fs:abc} {e:SX},AR P ihS xs ys fs=some e->uS P ih (rg I xs) (rg I ys) fs=some (dB I e)
 | [],e,h=>by simp[AR,j5]at h;subst h;rfl
 |f::r,e,h=>by
  simp[AR]at h;simp[uS];cases hb:(f.name== "_")with
  |true=>rw[hb]at h;exact Ob hih h
  |false=>
   rw[hb]at h;simp at h⊢;split at h;rename_i a b h1 h2;split at h;rename_i e1 h3;split at h
   rename_i e2 h4;simp at h;subst h;rw[TI h1,TI h2];simp[hih _ _ _ _ h3,Ov];cases dB I e1 with
   |true=>exact Ob hih h4
   |false=>rfl
   .cases h
   cases h;cases h
def ca0{ihS:zX->AV->AV->aaD}{ih:zX->AV->AV->S8}(hih: ∀t a b e,ihS t a b=some e->ih t (dG I a) (dG I b)=some (dB I e))(h:Ve P ihS t x y=some e):
 kS P ih t (dG I x) (dG I y)=some (dB I e):=by
 unfold Ve at h;split at h;rename_i ht;split at h;rename_i a b h1 h2;simp at h;subst h;rw[WE h1,WE h2];unfold kS;simp_all;rfl;cases h;rename_i k0 ht;split at h;rename_i k a k' b h1 h2;unfold YE at h;split at h;rename_i hk;subst hk;simp at h;subst h;rw[bt9 h1,bt9 h2];unfold kS;simp[ht,if_true,uu];rfl;cases h;cases h;rename_i ht;split at h;rename_i a b h1 h2;simp at h;subst h;rw[bu0 h1,bu0 h2];unfold kS;simp[ht,ug];congr 1;show _=decide (dS I a=dS I b);grind;cases h;rename_i fields ht;split at h
 cases hs:P.stoodInHeld t with
 |true=>grind
 |false=>
  unfold kS;simp_all;exact Ob hih h
 .cases h
 cases h
def OX: ∀(n:Nat) {t:zX} {x y:AV} {e:SX},Eu P n t x y=some e->jx P n t (dG I x) (dG I y)=some (dB I e)
 |0,t,x,y,e,h=>by cases h
 |n+1,t,x,y,e,h=>ca0 (ihS:=Eu P n) (ih:=jx P n) (λt a b e h=>OX n h) h
theorem lV(sig:wD)(r:Val):(dD sig r).length=sig.length:=by simp[dD]
theorem iR(sig:wD): ∀l:U7,(Y2 sig l).length=l.length*sig.length
 | []=>by simp[Y2]
 |r::l=>by have:=iR sig l;simp[Y2]at this⊢;simp_all[A5,k9,lV,List.length_cons,x9,F9,E7]
theorem Cn{r:Val}{j:Nat}(hj:j<sig.length):(dD sig r)[j]? =some (gg (sig.getD j .bool) (r.L.getD j default)):=by simp[dD,hj]
def EH{sig:wD}{j:Nat}(hj:j<sig.length): ∀{l:U7} {i:Nat},i<l.length->(Y2 sig l)[i*sig.length+j]? =some (gg (sig.getD j .bool) ((l.getD i (.A [])).L.getD j default))
 | [],i,h=>by simp at h
 |r::l,0,h=>by simp[Y2,A5,K1,n9];grind[List.getElem?_append_left,lV,Cn]
 |r::l,i+1,h=>by simp[Y2,A5];rw[s9 (by rw[lV,x9];omega),lV];have:=EH hj (l:=l) (i:=i) (by simpa using h);grind[Y2]
theorem Bt(c:CT)(e:SX):VR O I (wg c e) (gg c (bZ I e)):=by cases c<;>rfl
def MU(sig:wD)(l idx:SX): ∀(n j:Nat),co O I (Fi sig l idx j n) ((List.range' j n).map λt=>gg (sig.getD t .bool) (Y3 (dL I l) (dI I idx) t))
 |0,j=>rfl
 |n+1,j=>by exact⟨_,_,rfl,Bt _ _,MU sig l idx n (j+1)⟩
def HR.arr{b:Nat}{e:Nat}{l:SX}{L:Loc}(r:HR O I K w0 h w)(hg:h.get b=some (.A e sig l))(hb:O b=some L):
 ∃C e' lo hi,w.heap[L.blk]? =some (.cells C e' (lo,hi))/\(e'=e\/e=iU)/\L.off+L.ext<=C.size/\(dL I l).length*sig.length<=L.ext/\
  (∀i v,(Y2 sig (dL I l))[i]? =some v->C[L.off+i]? =some v)/\(∀i,i<L.ext-> ¬(lo<=L.off+i/\L.off+i<hi)):=r.blk b _ L hg hb
def bU4{a b:Bool}(hn:0<n)(ht:P.underlying t=some .bool):jx P n t (.bool a) (.bool b)=some (a==b):=by
 cases n with
 |zero=>omega
 |succ n=>
  have h1:jx P (n+1) t (.bool a) (.bool b)=kS P (jx P n) t (.bool a) (.bool b):=rfl;rw[h1];unfold kS;grind
def TE{P:yJ}(h:xV P t=true): ∃e,P.underlying t=some (.slice e):=by grind[xV]
def bU5{P:yJ}{b o m c:Nat}(hn:0<n)(ht:xV P t=true):jx P n t (.sl b o m c) .N=some false:=by
 obtain⟨e,ht⟩:=TE ht;cases n with
 |zero=>omega
 |succ n=>
  have h1:jx P (n+1) t (.sl b o m c) .N=kS P (jx P n) t (.sl b o m c) .N:=rfl;rw[h1];unfold kS;grind[Hm]
def do0(l y:SX):dL I (qg l y)=dL I l++dL I y:=by unfold qg;split;rfl;rfl
def db0(hs:xV E.P t=true)(x:aa8)(n c:Nat)(w:Ac):(binOp .eql t (.slice x n c) (.slice none 0 0)).run E.P w= .ok (.bool x.isNone) w/\(binOp .neq t (.slice x n c) (.slice none 0 0)).run E.P w= .ok (.bool !x.isNone) w:=by
 obtain⟨e,ht⟩:=TE hs;have gen: ∀d,(Op.equalIn (d+1) t (.slice x n c) (.slice none 0 0)).run E.P w= .ok x.isNone w:=λd=>by cases x<;>simp[Op.equalIn,W8 ht]
 have key:(Op.equal t (.slice x n c) (.slice none 0 0)).run E.P w= .ok x.isNone w:=by have:=gen 9999;exact this
 rw[SE _ _ _ rfl,VQ _ _ _ rfl];simp_all
def cp8{len:SX}{b:AV}(r:HR O I K w0 h w)(rx0: ∃x n c,vx= .slice x n c)(rx:0<dI I len-> ∃b o n c,VR O I (.sl b o n c) vx)(ry:VR O I b vy)(hM: ∀u,(binOp op t vx vy).run E.P w= .ok u w->M.run E.P w= .ok u w):
 cN E O I K w0 w h (do pure (.value (<-M))) (Hp E.P op t len b h):=by
 unfold Hp;split
 cases hs:xV E.P t with
 |false=>trivial
 |true=>
  have key: ∀v:AV,0<dI I len->(∀b o n c,ut E.P op t (.sl b o n c) .N=some v)->cO E O I K w0 w h (do pure (.value (<-M))) v h:=by intro v h0 hv;obtain⟨b',o,n,c,rx⟩:=rx h0;obtain⟨u,u1,u2⟩:=Sz (hv b' o n c) rx ry (by(intros;grind)) (by(intros;grind));exact cO.pureV r u1 (by simp_all)
  obtain⟨x,n,c,rfl⟩:=rx0;subst ry;have two: ∀q:Bool,(binOp op t (.slice x n c) (.slice none 0 0)).run E.P w= .ok (.bool q) w-> ∃v∈[AV.bool true,AV.bool false],cO E O I K w0 w h (do pure (.value (<-M))) v h:=by intro q hq;refine⟨.bool q,by cases q<;>simp,cO.pureV r (u:= .bool q) rfl (by simp_all)⟩
  split;refine⟨λhd=>key _ (j7 hd) λb o n c=>by simp[ut,bU5 (by omega:0<10000) hs,Option.map_some],λ_=>two _ (db0 hs x n c w).1⟩;refine⟨λhd=>key _ (j7 hd) λb o n c=>by simp[ut,bU5 (by omega:0<10000) hs,Option.map_some,J8],λ_=>two _ (db0 hs x n c w).2⟩;trivial
 .trivial
theorem do1{b:AV}(r:HR O I K w0 h w)(rx:VR O I a vx)(ry:VR O I b vy)(hM: ∀u,(binOp op t vx vy).run E.P w= .ok u w->M.run E.P w= .ok u w):
 cN E O I K w0 w h (do pure (.value (<-M))) (JM E.P op t a b h):=by
 unfold JM;cases a<;>try trivial
 case agg cs=>
  simp;cases he:Eu E.P 10000 t (.agg cs) b with
  |none=>trivial
  |some e=>
   have h5:=OX (I:=I) 10000 he;have rx':=IC (I:=I) _ _ rx;have ry':=IC (I:=I) _ _ ry;have key: ∀(op':BinOp) (v:AV),op=op'->ut E.P op' t (dG I (.agg cs)) (dG I b)=some v-> ∃u,VR O I v u/\(do pure (.value (<-M)):Sem Next).run E.P w= .ok (.value u) w:=by
    rintro op' v rfl hv;obtain⟨u,u1,u2⟩:=Sz hv rx' ry' (by intro k n hh;simp[dG]at hh) (by intro l hh;simp[dG]at hh)
    (intros;simp_all)
   simp;split;obtain⟨u,u1,u2⟩:=key .eql (.bool (dB I e)) rfl (by simp[ut,h5,Option.map_some]);exact cO.pureV r (v:= .H e) (u:=u) u1 u2;obtain⟨u,u1,u2⟩:=key .neq (.bool (!dB I e)) rfl (by simp[ut,h5,Option.map_some]);exact cO.pureV r (v:= .H (.O .not [e])) (u:=u) u1 u2;trivial
 case osl b' off len sz=>
  refine cp8 r (by rcases rx with⟨L,cap,a,hL,rfl,_,ha⟩|⟨_,_,rfl,_,h1⟩<;>exact⟨_,_,_,rfl⟩) (λh0=> ?_) ry hM
  rcases rx with⟨L,cap,a,hL,rfl,_,ha⟩|⟨_,_,_,_,h1⟩
  exact⟨b',(dI I off).toNat*sz,_,cap,L,hL,by rw[ha h0]⟩;omega
 case U b' len sz=>
  refine cp8 r (by rcases rx with⟨L,cap,hL,_,rfl,_⟩|⟨rfl,h1⟩<;>exact⟨_,_,_,rfl⟩) (λh0=> ?_) ry hM
  rcases rx with⟨L,cap,hL,_,rfl,_⟩|⟨_,h1⟩
  exact⟨b',0,_,cap,L,hL,rfl⟩;omega
def cS8(r:HR O I K w0 h w)(o:dW O I af ρ)(op:BinOp)(t:zX)(x y:An):
 cN E O I K w0 w h (do pure (.value (<-(do eqGuard op t x y (ρ x) (ρ y);binOp op t (ρ x) (ρ y):Sem Zl)))) (Mh E.P op t x y h (af x) (af y)):=by
 cases hx:af x with
 |none=>trivial
 |some a=>
  cases hy:af y with
  |none=>trivial
  |some b=>
   simp only[Mh];cases hg:zT E.P op t x y a b with
   |false=>trivial
   |true=>
    have hgr:=WO hg (o x a hx) (o y b hy);have rx:=o x a hx;have ry:=o y b hy;have hM: ∀u,(binOp op t (ρ x) (ρ y)).run E.P w= .ok u w->(do eqGuard op t x y (ρ x) (ρ y);binOp op t (ρ x) (ρ y):Sem Zl).run E.P w= .ok u w:=by simp_all
    unfold Qq;split
    refine dn7 (t:=t) r λu hu=>hM u ?_
    grind[ti];split
    refine dn9 (t:=t) r λu hu=>hM u ?_
    grind[yp];split;rename_i ea eb h1 h2;have e1:=vG h1 rx;have e2:=vG h2 ry;unfold Uy;split
    cases hb:Cm E.P t with
    |false=>trivial
    |true=>
     have ht:E.P.underlying t=some .bool:=by unfold Cm at hb;(intros;grind)
     refine cO.pureV r (u:= .bool (dB I ea==dB I eb)) rfl ?_;have hrun:=Av (P:=E.P) (O:=O) (I:=I) 10000 (t:=t) (a:= .bool (dB I ea)) (b:= .bool (dB I eb)) (r:=dB I ea==dB I eb) (bU4 (by omega) ht) e1 e2 w;have h3:=hM (.bool (dB I ea==dB I eb)) (by rw[e1,e2,SE _ _ _ rfl];rw[e1,e2]at hrun;simp[Op.equal,Op.maxDepth,Sem.run_bind,hrun,Result.andThen_ok,Sem.run_pure]);simp_all
    .cases hb:Cm E.P t with
     |false=>trivial
     |true=>
      have ht:E.P.underlying t=some .bool:=by unfold Cm at hb;(intros;grind)
      refine cO.pureV r (u:= .bool (!(dB I ea==dB I eb))) rfl ?_;have hrun:=Av (P:=E.P) (O:=O) (I:=I) 10000 (t:=t) (a:= .bool (dB I ea)) (b:= .bool (dB I eb)) (r:=dB I ea==dB I eb) (bU4 (by omega) ht) e1 e2 w;have h3:=hM (.bool (!(dB I ea==dB I eb))) (by rw[e1,e2,VQ _ _ _ rfl];rw[e1,e2]at hrun;simp[Op.equal,Op.maxDepth,Sem.run_bind,hrun,Result.andThen_ok,Sem.run_pure]);simp_all
    trivial;grind[do1]
def dK9(r:HR O I K w0 h w)(o:dW O I af ρ)(op:UnOp)(x:An):cN E O I K w0 w h (do pure (.value (<-Op.unary op (ρ x)))) (Na op h (af x)):=by
 have key: ∀{a v:AV} {s:AV},VR O I a (ρ x)->Nl op (dG I a)=some v->(∀u,VR O I v u->VR O I s u)->cO E O I K w0 w h (do pure (.value (<-Op.unary op (ρ x)))) s h:=by intro a v s ra hv hs;obtain⟨u,u1,u2⟩:=da7 (P:=E.P) hv (IC _ _ ra);exact cO.pureV r (hs u u1) (by simp_all)
 unfold Na;split;rename_i e he;split
 exact key (o x _ he) rfl λu hu=>hu
 trivial;rename_i k e he;split
 refine key (o x _ he) rfl λu hu=> ?_
 rw[show u=_ from hu,tq];rfl
 refine key (o x _ he) rfl λu hu=> ?_
 rw[show u=_ from hu,tq];rfl;trivial;trivial
def do2(I:Opq)(e x y:SX):dB I (IN e x y)=bif dB I e then dB I x else dB I y:=by
 have gen:dB I (.O .J [e,x,y])=bif dB I e then dB I x else dB I y:=by
  show Val.Z (bif (bZ I e).Z then bZ I x else bZ I y)=_;unfold dB
  (intros;grind)
 unfold IN;split;cases dB I e<;>rfl
 ·(constructor<;>grind)
 omega
def cS9(r:HR O I K w0 h w)(o:dW O I af ρ)(c a b:An):cN E O I K w0 w h (do pure (.value (if<-asBool (ρ c)then ρ a else ρ b))) (IV h (af c) (af a) (af b)):=by
 unfold IV;split;rename_i e he;have hc:=o c _ he;unfold Rx;split
 rename_i y hx hy;intro hn;have hn:(!(dB I e))=true:=hn;have hf:dB I e=false:=by grind
 refine cO.pureV r (u:=ρ b) (o b _ hy) ?_;rw[hc,hf];rfl;intro hn;refine cO.pureV r (u:=ρ a) (o a _ ‹_›) ?_;rw[hc,hn];rfl;unfold QP;split;rename_i x y hx hy;obtain⟨a1,h1,h2⟩:=o8.1 hx;obtain⟨b1,h3,h4⟩:=o8.1 hy;have ha:=vG h2 (o a _ h1);have hb:=vG h4 (o b _ h3);refine cO.pureV r (u:= .bool (bif dB I e then dB I x else dB I y)) ?_ ?_;show _=Value.bool (dB I (IN e x y));rw[do2];rw[hc,ha,hb];cases dB I e<;>rfl;trivial;trivial
def bg9(r:HR O I K w0 h w)(o:dW O I af ρ)(s:zX)(f:Nat)(x:An):cN E O I K w0 w h (do pure (.value (<-Instr.fieldAt s (ρ x) f))) (MH E.P s f h (af x)):=by unfold MH;split;rename_i fields b idx j sz ht hx;have hv:=o x _ hx;obtain⟨L,hL,hv⟩:=hv;split;rename_i fd hf;split;rename_i n hs;refine cO.pureV r ⟨L,hL,rfl⟩ ?_;simp[hv,Instr.fieldAt,Sem.run_bind,W8 ht,Result.andThen_ok,hf,Instr.sureAddr,Sem.run_pure,fieldPlace,Y7 hs];simp[gB,A2];trivial;trivial;trivial
def cp9(a b:SX):dI I (KX a b)=dI I a+dI I b:=by unfold KX;split;rw[pF];omega;rfl
def cU0{a:SX}(h:dB I (Tl a b)=true):dB I a=true/\dB I b=true:=by unfold Tl at h;split at h;exact⟨rfl,h⟩;simp_all[tE,W4]
def bh0(r:HR O I K w0 h w)(o:dW O I af ρ)(t:zX)(x i:An):cN E O I K w0 w h (do pure (.value (<-Instr.indexAt t (ρ x) (ρ i)))) (JP E.P t h (af x) (af i)):=by
 have run: ∀{elem s:Nat} {k:IntKind} {n:Int} {a:Addr} {len:Int} {cap:Nat},E.P.underlying t=some (.slice elem)->dZ E.P elem=some s->ρ i= .int k n->ρ x= .slice (some a) len.toNat cap->0<=n->n<len->
  (do pure (.value (<-Instr.indexAt t (ρ x) (ρ i))):Sem Next).run E.P w= .ok (.value (.pointer (some (a.add (n.toNat*s))))) w:=by
  intro elem s k n a len cap ht hs hi hx h1 h2;have hc:(0:Int)<=n/\n<(len.toNat:Int):=by omega
  rw[hi,hx];simp only[Instr.indexAt,Sem.run_bind,asIntOf,Sem.run_pure,W8 ht,Result.andThen_ok,Instr.sureAddr,i6 hc,Y7 hs]
 unfold JP;split;rename_i elem ht;split;rename_i s hs;split;rename_i k i' hi;obtain⟨ai,g1,g2⟩:=o8.1 hi;have hvi:=ti g2 (o i _ g1);split
 rename_i b off len sz hx;have hv:=o x _ hx;cases hc:Nat.beq s sz with
 |false=>trivial
 |true=>
  intro hd;obtain⟨d1,d2⟩:=cU0 hd;obtain⟨e1,e2⟩:=Ab d2;have d1:0<=dI I off:=j7 d1;rcases hv with⟨L,cap,a,hL,hv,hcap,ha⟩|⟨_,_,hv,_,h0⟩
  have ha:=ha (by omega);refine cO.pureV r ⟨L,hL,?_⟩ (run ht hs hvi hv e1 e2);simp_all[gB,cp9,Int.toNat_add,x9,A2];omega
 .rename_i b len sz hx;have hv:=o x _ hx;cases hc:Nat.beq s sz with
  |false=>trivial
  |true=>
   obtain rfl:=X0.1 hc;intro hd;obtain⟨e1,e2⟩:=Ab hd;rcases hv with⟨L,cap,hL,hcap,hv,_⟩|⟨hv,h0⟩
   refine cO.pureV r ⟨L,hL,?_⟩ (run ht hs hvi hv e1 e2);rw[gB];simp;omega
 rename_i b n cap hx;obtain⟨L,hL,hv⟩:=o x _ hx;intro hd;obtain⟨e1,e2⟩:=Ab hd;refine cO.pureV r ⟨L,hL,?_⟩ (run (len:=(n:Int)) ht hs hvi (by simpa using hv) e1 (by simpa[pF]using e2));rw[gB];simp;trivial;trivial;trivial;trivial
def cq0(r:HR O I K w0 h w)(o:dW O I af ρ)(t:zX)(x i:An):cN E O I K w0 w h (do pure (.value (<-Instr.index t (ρ x) (ρ i)))) (Pw E.P t h (af x) (af i)):=by trivial
def RH{ts:Array zX}{ty:zX}{cs:aaI}{t:TypeDesc}(ht:(ts[0]?).bind E.P.underlying=some t)(hk:(t= .string/\ ∃s,v= .string s/\s.size=n)\/ ∃e a c,t= .slice e/\v= .slice a n c):
 (builtin .len ts ty cs #[v]).run E.P w= .ok (.value (.int .i64 n)) w:=by
 simp[o8]at ht;obtain⟨t0,h0,ht⟩:=ht;show(do pure (.value (<-Builtin.len_ ts ty #[v])):Sem Next).run E.P w=_;rcases hk with⟨rfl,s,rfl,rfl⟩|⟨e,a,c,rfl,rfl⟩
 simp[Builtin.len_,h0,W8 ht];rfl;simp[Builtin.len_,h0,W8 ht];rfl
theorem NX:VR O I (oO k e) v↔v= .int k (dI I e):=by unfold oO;split;exact Iff.rfl;rfl
theorem do3(r:HR O I K w0 h w)(rv:VR O I a v)(ts:Array zX)(ty:zX)(cs:aaI):
 cN E O I K w0 w h (builtin .len ts ty cs #[v]) (Jz E.P ((ts[0]?).bind E.P.underlying) h a):=by
 unfold Jz;split;rename_i ht;split;rename_i e;subst rv;exact cO.pureV r (u:= .int .i64 ((dS I e).length:Nat)) rfl (RH ht (.inl ⟨rfl,_,rfl,by rfl⟩));trivial;rename_i el ht;split;rename_i b off len sz;intro hd;have hd:0<=dI I len:=j7 hd;refine cO.pureV r (u:= .int .i64 ((dI I len).toNat:Nat)) ?_ (RH ht (.inr ?_));grind[NX]
 .rcases rv with⟨L,cap,a,_,rfl,_⟩|⟨_,_,rfl,_,h0⟩
  ·(intros;simp_all)
  simp_all
 rename_i b len sz;intro hd;have hd:0<=dI I len:=j7 hd;refine cO.pureV r (u:= .int .i64 ((dI I len).toNat:Nat)) ?_ (RH ht (.inr ?_));grind[NX]
 .rcases rv with⟨L,cap,_,_,rfl,_⟩|⟨rfl,h0⟩
  ·(intros;simp_all)
  simp_all
 trivial;trivial
theorem dL0(hfx: ∀t,I.fix t=fj E.P t)(r:HR O I K w0 h w){c:AV}(ra:VR O I a va)(rc:VR O I c vc)(b:Builtin)(ts:Array zX)(ty:zX)(cs:aaI):
 cN E O I K w0 w h (builtin b ts ty cs #[va,vc]) (NT b a c h):=by
 unfold NT;split;rename_i k ea k' ec h1 h2;have e1:=ti h1 ra;have e2:=ti h2 rc;split;obtain⟨ac,u,w',q1,q2,q3,q4⟩:=ST (P:=E.P) (b:= .max) (ts:=ts) (ty:=ty) (cs:=cs) (args:=[.int k (dI I ea),.int k' (dI I ec)]) (us:= #[va,vc]) (a:= .int k (bif gQ (dI I ea) (dI I ec)then dI I ec else dI I ea)) (h':=h) hfx r rfl ⟨va,[vc],rfl,e1,vc,[],rfl,e2,rfl⟩;obtain⟨_,_,_,p1,p2,_⟩: ∃(a b c:Unit),(builtin .max ts ty cs #[va,vc]).run E.P w= .ok (.value u) w'/\u= .int k (bif gQ (dI I ea) (dI I ec)then dI I ec else dI I ea)/\True:=⟨(),(),(),q1,q2,trivial⟩;refine⟨ac,u,w',.inl q1,?_,q3,q4⟩;show _=Value.int k (max (dI I ea) (dI I ec));grind[ph,dI];obtain⟨ac,u,w',q1,q2,q3,q4⟩:=ST (P:=E.P) (b:= .min) (ts:=ts) (ty:=ty) (cs:=cs) (args:=[.int k (dI I ea),.int k' (dI I ec)]) (us:= #[va,vc]) (a:= .int k (bif gQ (dI I ec) (dI I ea)then dI I ec else dI I ea)) (h':=h) hfx r rfl ⟨va,[vc],rfl,e1,vc,[],rfl,e2,rfl⟩;refine⟨ac,u,w',.inl q1,?_,q3,q4⟩;rw[show u=_ from q2];show _=Value.int k (min (dI I ea) (dI I ec));grind[ph,dI];trivial;trivial
def cq2{c:CT}{v:AV}{u:Zl}(h:EP c v=some e)(r:VR O I v u):u=gg c (bZ I e):=by unfold EP at h;split at h;split at h;rename_i k k' e' hs;split at h;rename_i hk;subst hk;simp at h;subst h;exact ti hs r;cases h;cases h;exact yp h r;exact vG h r
def mH: ∀{sig:wD} {vs:zw} {es:GF} {us:List Zl},gy sig vs=some es->co O I vs us->us=dD sig (.A (X4 I es))
 | [],[],es,us,h,r=>by rw[show us=[]from r];rfl
 |c::sig,v::vs,es,us,h,⟨u,ur,e,r1,r2⟩=>by simp[gy]at h;split at h;rename_i e1 e2 h1 h2;simp at h;subst h;rw[e,cq2 h1 r1,mH h2 r2];simp_all[dD,Val.L,List.length_cons,O0,m8,o9,X4];cases h
 | [],_::_,es,us,h,r=>by simp[gy]at h
 |_::_,[],es,us,h,r=>by simp[gy]at h
def uG{sig:wD}{sz:Nat}: ∀{n:Nat} {cs:zw} {rs:GF} {us:List Zl},lE sig sz n cs=some rs->cs.length=n*sz->co O I cs us->us=Y2 sig (X4 I rs)/\(X4 I rs).length=n
 |0,cs,rs,us,h,hl,r=>by
  simp[lE,j5]at h;subst h;have:us=[]:=by have:=r.length;grind
  subst this;exact⟨rfl,rfl⟩
 |n+1,cs,rs,us,h,hl,r=>by simp[lE]at h;split at h;rename_i e rs' h1 h2;simp at h;subst h;have g1:=mH h1 (r.take sz);have g2:=uG h2 (by(intros;grind)) (r.drop sz);refine⟨?_,by simp[X4,List.length_cons,g2.2]⟩;rw[<-y8 sz us,g1,g2.1];rfl;cases h
def HR.arrCells{b e sz:Nat}{l:SX}{L:Loc}(r:HR O I K w0 h w)(hg:h.get b=some (.A e sig l))(hb:O b=some L)(hsz:sig.length=sz)(o n:Nat)(hn:o+n<=(dL I l).length):
 ∀j v,(Y2 sig (((dL I l).drop o).take n))[j]? =some v->w.cell? ⟨L.blk,L.off+o*sz+j,none⟩=some v:=by
 intro j v hj;obtain⟨C,e',lo,hi,q1,q0,q2,q3,q4,q5⟩:=r.arr hg hb;rw[td q1,show L.off+o*sz+j=L.off+(o*sz+j) by omega];apply q4;have e1:dL I l=(dL I l).take o++(((dL I l).drop o).take n++((dL I l).drop o).drop n):=by rw[y8,y8]
 have e2: ∀a b:U7,Y2 sig (a++b)=Y2 sig a++Y2 sig b:=λa b=>by simp[Y2,K2]
 rw[e1,e2,e2];have hl:(Y2 sig ((dL I l).take o)).length=o*sz:=by rw[iR,n8,hsz];congr 1;omega
 rw[s9 (by omega),hl,show o*sz+j-o*sz=j by omega];grind
def bH5(l:zR):Y2 [.int .u8] (l.map λb=> .A [.D (b.toNat:Int)])=l.map λb=>Value.int .u8 (b.toNat:Int):=by
 induction l with
 |nil=>rfl
 |cons a r ih=>
  have:Y2 [.int .u8] ((a::r).map λb=> .A [.D (b.toNat:Int)])=dD [.int .u8] (.A [.D (a.toNat:Int)])++Y2 [.int .u8] (r.map λb=> .A [.D (b.toNat:Int)]):=by rfl
  rw[this,ih];rfl
def cU1(r:HR O I K w0 h w)(o:dW O I af ρ)(s d:zX)(x:An):cN E O I K w0 w h (do pure (.value (<-convert s d (ρ x)))) (JN E.P s d h (af x)):=by
 unfold JN;split;rename_i sd k hs hd;split;rename_i k' e he;have hv:=o x _ he;simp[VR]at hv;refine cO.pureV r (u:= .int k (k.wrap (dI I e))) rfl ?_;simp[hv,convert,Sem.run_bind,W8 hs,W8 hd,Result.andThen_ok];rfl;trivial
 rename_i el hs hd;cases h8:vU E.P el with
 |false=>trivial
 |true=>(constructor<;>grind)
 .rename_i el hs hd;cases h8:vU E.P el with
  |false=>trivial
  |true=>(constructor<;>grind)
 split;rename_i e he;have hv:=o x _ he;refine cO.pureV r (u:=ρ x) hv ?_;simp_all[VR,convert,Sem.run_bind,W8,Result.andThen_ok,Sem.run_pure];trivial;trivial
def Pd(sig:wD)(l:U7): ∀u∈Y2 sig l,u.oneCell'=true:=by intro u hu;simp[Y2,x7,dD,k6]at hu;obtain⟨r,_,j,_,rfl⟩:=hu;unfold gg;split<;>rfl
def zS{a:SX}(h:dB I (gL a b)=true):dB I a=true/\dB I b=true:=by simp_all[Ov,j8]
def WQ{a:SX}(h:dB I (NJ a b)=true):dI I a=dI I b:=by
 unfold NJ at h;cases hc:SX.beq a b with
 |true=>rw[SX.beq_eq _ _ hc]
 |false=>rw[hc]at h;exact j7 h
def cU2{P:yJ}{e':zX}(r:HR O I K w0 h w)(hyt:P.underlying yt=some (.slice e'))(hs:sig.length=s)(e:VB s y h=some (sig,nd,ly))(hd:dB I nd=true)(ry:VR O I y vy):
 Src P s yt vy (dL I ly).length (Y2 sig (dL I ly)) w:=by
 have mk: ∀(a:Addr) (n c:Nat),vy= .slice (some a) n c->n=(dL I ly).length->(∀j v,(Y2 sig (dL I ly))[j]? =some v->w.cell? (a.add j)=some v)->Src P s yt vy (dL I ly).length (Y2 sig (dL I ly)) w:=by intro a n c hv hn hc;refine⟨.inl ⟨_,hyt⟩,λw'=>by rw[hv,<-hn];rfl,?_,?_,by rw[iR,hs],Pd _ _⟩;grind[run_firstCells_some,iR];rw[hv,<-hn];exact run_firstCells_some w.drew s n a n c _ (by grind[iR]) hc
 have mk0:vy= .slice none 0 0->(dL I ly).length=0->Src P s yt vy (dL I ly).length (Y2 sig (dL I ly)) w:=by intro hv hn;have:dL I ly=[]:=C9 hn;rw[this];refine⟨.inl ⟨_,hyt⟩,λw'=>by rw[hv];rfl,?_,?_,by simp[Y2],by simp[Y2]⟩;rw[hv];rfl;rw[hv];rfl
 unfold VB at e;split at e
 .rename_i b len s';split at e
  .rename_i el sig' l hg;replace e:=W5 e;obtain⟨hc,e⟩:=e;obtain⟨c1,c2⟩:=W4 hc;rw[X0]at c2;cases happ:ec5 len with
   |true=>
    rw[happ]at e;obtain⟨rfl,rfl,rfl⟩:=e;obtain⟨d1,d2⟩:=W4 hd;have d2:dI I len<=((dL I l).length:Int):=j7 d2;have hll:dL I (.O .lsub [l,.C 0,len])=((dL I l).drop 0).take (dI I len).toNat:=by
     show((dL I l).drop (0:Int).toNat).take (dI I len-0).toNat=_
     (intros;grind)
    have hln:(dL I (.O .lsub [l,.C 0,len])).length=(dI I len).toNat:=by (intros;simp_all)
    rcases ry with⟨L,cap,hL,hcap,hv,_⟩|⟨hv,h0⟩
    refine mk _ _ cap hv hln.symm λj v hj=> ?_
    rw[hll]at hj;have:=r.arrCells hg hL c2 0 (dI I len).toNat (by omega) j v hj;rw[gB];simpa using this;grind
   |false=>
   rw[happ]at e;simp at e;obtain⟨rfl,rfl,rfl⟩:=e;have hlen:dI I len=((dL I l).length:Int):=by have:=WQ hd;exact this
   rcases ry with⟨L,cap,hL,hcap,hv,_⟩|⟨hv,h0⟩
   refine mk _ _ cap hv (by omega) λj v hj=> ?_
   have:=r.arrCells hg hL c2 0 (dL I l).length (by omega) j v (by simpa using hj);rw[gB];simpa using this;grind
  cases e
 rename_i b off len s';split at e
 rename_i el sig' l hg;replace e:=W5 e;obtain⟨hc,e⟩:=e;obtain⟨c1,c2⟩:=W4 hc;obtain rfl:=X0.1 c1;rw[X0]at c2;have Am:0<=dI I off/\0<=dI I len/\dI I off+dI I len<=((dL I l).length:Int)/\dL I ly=((dL I l).drop (dI I off).toNat).take (dI I len).toNat/\sig'=sig:=by
  cases hq:(SX.beq off (.C 0)&&SX.beq len (.O .Y [l]))with
  |true=>
   obtain⟨k1,k2⟩:=W4 hq;have k1:dI I off=0:=by rw[SX.beq_eq _ _ k1,pF]
   have k2:dI I len=((dL I l).length:Int):=by rw[SX.beq_eq _ _ k2,kc]
   simp_all
  |false=>
   rw[hq]at e;obtain⟨rfl,rfl,rfl⟩:=e;obtain⟨d1,d2⟩:=W4 hd;obtain⟨d2,d3⟩:=W4 d2;have d1:0<=dI I off:=j7 d1;have d2:0<=dI I len:=j7 d2;have d3:dI I off+dI I len<=((dL I l).length:Int):=j7 d3;refine⟨d1,d2,d3,?_,rfl⟩;show((dL I l).drop (dI I off).toNat).take (dI I off+dI I len-dI I off).toNat=_;grind
 obtain⟨d1,d2,d3,hll,rfl⟩:=Am;have hln:(dL I ly).length=(dI I len).toNat:=by grind
 rcases ry with⟨L,cap,a,hL,hv,hcap,ha⟩|⟨a,c,hv,hnc,h0⟩
 by_cases hz:dI I len=0;grind[dL,List.eq_nil_of_length_eq_zero,Y2]
 refine mk a _ cap hv hln.symm λj v hj=> ?_
 rw[hll]at hj;have:=r.arrCells hg hL c2 (dI I off).toNat (dI I len).toNat (by omega) j v hj;grind[gB]
 cases a with
 |none=>
  grind
 |some a=>
  grind[dL,List.eq_nil_of_length_eq_zero,Y2]
 .cases e
 rename_i b o n c;split at e;rename_i el fz cs hg;replace e:=W5 e;obtain⟨hc,e⟩:=e;obtain⟨c1,c2⟩:=W4 hc;rw[X6]at c1;split at e;split at e
 rename_i rs hrs;obtain⟨rfl,rfl,rfl⟩:=e;obtain⟨L,hL,hv⟩:=ry;obtain⟨us,u1,u2,u3⟩:=BT r hg hL c1;obtain⟨g1,g2⟩:=uG hrs (by grind) u1;refine mk _ n c hv g2.symm λj v hj=> ?_
 rw[gB];exact u3 j v (by rw[g1];exact hj);cases e;cases e;cases e;rename_i b o n s';split at e;rename_i el fz cs hg;replace e:=W5 e;obtain⟨hc,e⟩:=e;obtain⟨hc,c3⟩:=W4 hc;obtain⟨c1,c2⟩:=W4 hc;rw[X6]at c1;split at e;split at e
 rename_i rs hrs;obtain⟨rfl,rfl,rfl⟩:=e;obtain⟨L,c,hL,hcp,hv⟩:=ry;obtain⟨us,u1,u2,u3⟩:=BT r hg hL c1;obtain⟨g1,g2⟩:=uG hrs (by grind) u1;refine mk _ n c hv g2.symm λj v hj=> ?_
 rw[gB];exact u3 j v (by rw[g1];exact hj);cases e;cases e;cases e;cases e
def cq3{P:yJ}(r:HR O I K w0 h w)(hyt:P.underlying yt=some .string)(e:Yj s y=some (sig,nd,ly))(ry:VR O I y vy):
 Src P s yt vy (dL I ly).length (Y2 sig (dL I ly)) w:=by
 replace e:=W5 e;obtain⟨hs,e⟩:=e;obtain rfl:=X0.1 hs;split at e
 rename_i x hx;obtain⟨rfl,rfl,rfl⟩:=e;have hv:=yp hx ry;have hl:dL I (.O .sbytes [x])=(dS I x).map λb=> .A [.D (b.toNat:Int)]:=rfl
 have hlen:(dL I (.O .sbytes [x])).length=(dS I x).length:=by grind
 have hfl:Y2 [.int .u8] (dL I (.O .sbytes [x]))=(dS I x).map λb=>Value.int .u8 (b.toNat:Int):=by rw[hl,bH5]
 have rs:VR O I (.str (dS I x)) vy:=hv;have hn:gn (.str (dS I x))=some (dS I x).length:=rfl;obtain⟨us,u1,u2,u3⟩:=Il (P:=P) (s:=1) (n:=(dS I x).length) r (l:=(dS I x).map λb=>AV.int .u8 (b.toNat:Int)) (by simp[rR]) rs;have hus:us=(dS I x).map λb=>Value.int .u8 (b.toNat:Int):=by
  have: ∀(l:zR) (us:List Zl),co O I (l.map λb=>AV.int .u8 (b.toNat:Int)) us->us=l.map λb=>Value.int .u8 (b.toNat:Int):=by
   intro l;induction l with
   |nil=>intro us h;exact h
   |cons a q ih=>
    rintro us ⟨v,vr,rfl,h1,h2⟩;rw[show v=Value.int .u8 (a.toNat:Int)from h1,ih vr h2];rfl
  grind
 rw[hlen,hfl];refine⟨.inr hyt,λw'=>Va hn rs w',?_,?_,by simp,?_⟩;grind;rw[<-hus];exact u3 w.drew rfl;intro u hu;simp at hu;obtain⟨_,_,rfl⟩:=hu;rfl;cases e
def b84(zs:Array Zl)(hp:0<zs.size)(n:Nat):(Builtin.zeroCells zs (n+1)).toList=zs.toList++(Builtin.zeroCells zs n).toList:=by show((Array.range ((n+1)*zs.size)).map (λi=>zs[i % zs.size]!)).toList=zs.toList++((Array.range (n*zs.size)).map (λi=>zs[i % zs.size]!)).toList;simp;rw[x9,F9,E7,List.range_add,s6,o9];congr 1;apply I1 (by simp);intro i h1 h2;simp at h1;simp[Nat.mod_eq_of_lt h1,h1];simp_all
theorem YB{zs:Array Zl}{sig:wD}{r:Val}(hp:0<zs.size)(hz:zs.toList=dD sig r): ∀n,(Builtin.zeroCells zs n).toList=Y2 sig (List.replicate n r)
 |0=>by simp[Builtin.zeroCells,Y2]
 |n+1=>by rw[b84 zs hp n,YB hp hz n,List.replicate_succ,hz];rfl
def do4{P:yJ}{z:zw}(r:HR O I K w0 h w)(hs:sig.length=i.size)(hb:i.bytes<=1000)(hz:co O I z zv.cells.toList)(hzs:zv.cells.size=i.size)(hp:0<i.size)(e:Sx P yt i.size z y h=some (sig,nd,ly))(hd:dB I nd=true)(ry:VR O I y vy):
 SrcZ P i zv yt vy (dL I ly).length (Y2 sig (dL I ly)) w:=by
 unfold Sx at e;split at e;rename_i e' hyt;exact .inl (cU2 r hyt hs e hd ry);rename_i hyt;exact .inl (cq3 r hyt e ry);rename_i kn hyt;unfold d90 at e;split at e;rename_i k ex sg hk hc;split at e
 .rename_i es hes;obtain⟨rfl,rfl,rfl⟩:=e;obtain⟨d1,d2⟩:=W4 hd;have d1:0<=dI I ex:=j7 d1;have d2:dI I ex<=oE:=j7 d2;have hroom:oE=(room:Int):=by unfold oE room;simp
  have hv:=ti hk ry;have hl:dL I (.O .lrep [ex,.O .row es])=List.replicate (dI I ex).toNat (.A (X4 I es)):=rfl;have hlen:(dL I (.O .lrep [ex,.O .row es])).length=(dI I ex).toNat:=by(intros;simp_all)
  have hrow:=mH hes hz;refine .inr ⟨k,kn,hyt,?_,?_,hb,?_,by rw[iR,hs],Pd _ _⟩
  ·(intros;grind)
  omega;grind[YB]
 cases e;cases e;cases e
def SrcZ.nil_{P:yJ}{x:Zl}{news:List Zl}(h:SrcZ P i zv yt x 0 news w):news=[]:=by
 rcases h with h|⟨_,_,_,_,_,_,_,h,_⟩
 exact C9 (by simpa using h.newsLen);grind
def Src.nil_{P:yJ}{x:Zl}{news:List Zl}(h:Src P s yt x 0 news w):news=[]:=C9 (by simpa using h.newsLen)
def wX: ∀{a b:wD},fp a b=true->a=b
 | [],[],_=>rfl
 | [],_::_,h=>by cases h
 |_::_,[],h=>by cases h
 |a::x,b::y,h=>by simp[fp,j8,decide_eq_true_eq]at h;rw[h.1,wX h.2]
def HR.lay(r:HR O I K w0 h w)(x:Blk):HR O I K w0 (h.new x) w:=by
 have hn: ∀b y,(h.new x).get b=some y->O b≠none->h.get b=some y:=by
  intro b y hg hb;rw[Heap.get_new]at hg;by_cases e:b=h.next
  subst e;exact absurd (r.fresh _ (j6 _)) hb;grind
 refine⟨λb y L hg hb=>r.blk b y L (hn b y hg (by grind)) hb,λb b' y y' L L' g g' m m' hne hw=>r.sep b b' y y' L L' (hn b y g (by grind)) (hn b' y' g' (by grind)) m m' hne hw,
  λb hb=>r.fresh b (by grind[Heap.next_new]),λb hb=> ?_,r.lt,r.kin,r.keep,λb y L hg hw hb=>r.free b y L (hn b y hg (by grind)) hw hb,r.size,r.os,r.tape,r.out,r.dr⟩
 simp at hb;rw[Heap.get_new,b9 (by omega)];exact r.fget b (by omega)
def JL(I:Opq)(sig:wD)(l:U7): ∃cs:zw,(∀O:cj,co O I cs (Y2 sig l))/\cs.all AV.one=true/\cs.length=(Y2 sig l).length/\ ∀(O:cj) vs,co O I cs vs->vs=Y2 sig l:=by
 have: ∀us:List Zl,(∀u∈us,∃a:AV,(∀O:cj,VR O I a u)/\a.one=true/\ ∀(O:cj) v,VR O I a v->v=u)-> ∃cs:zw,(∀O:cj,co O I cs us)/\cs.all AV.one=true/\cs.length=us.length/\ ∀(O:cj) vs,co O I cs vs->vs=us:=by
  intro us;induction us with
  |nil=>intro _;exact⟨[],λ_=>rfl,rfl,rfl,λ_ vs h=>h⟩
  |cons u us ih=>
   intro hh;obtain⟨a,a1,a2,a3⟩:=hh u (by simp);obtain⟨cs,c1,c2,c3,c4⟩:=ih λx hx=>hh x (by simp[hx])
   refine⟨a::cs,λO=>⟨u,us,rfl,a1 O,c1 O⟩,by simp[a2,c2],by simp[c3],λO vs ⟨v,vr,e,p,q⟩=> ?_⟩;grind
 refine this _ λu hu=> ?_
 simp[Y2,x7,dD,k6]at hu;obtain⟨x,_,j,_,rfl⟩:=hu;unfold gg;split;exact⟨.int _ _,λ_=>rfl,rfl,λ_ v h=>h⟩;exact⟨.str _,λ_=>rfl,rfl,λ_ v h=>h⟩;exact⟨.bool _,λ_=>rfl,rfl,λ_ v h=>h⟩
theorem CZ(sig:wD)(a b:U7):Y2 sig (a++b)=Y2 sig a++Y2 sig b:=by simp[Y2,K2]
def TQ{P:yJ}{m:Sem Zl}{sz elem:Nat}{l:SX}{cs:zw}{h1 h2:Heap}(hsz:0<sz)(hs:sig.length=sz)(hn:(dL I l).length=n)(k:Ok P O I K w0 w h m (.us h1.next 0 n sz) (h1.new (.cells elem 0 cs)))
 (hlim:h1.next<65536) (hcs:cs.length=n*sz) (hdet: ∀(O:cj) vs,co O I cs vs->vs=Y2 sig (dL I l)) (h2n:h2.next=h1.next) (h2w:h2.wm=h1.wm) (h2g: ∀z,h2.get z=h1.get z):
 Ok P O I K w0 w h m (.U h1.next (.O .Y [l]) sz) (h2.new (.A elem sig l)):=by
 obtain⟨ac,v,w',e1,e2,e3,e4⟩:=k;obtain⟨L,cap,hL,hcap,hv⟩:=e2;have hg:(h1.new (.cells elem 0 cs)).get h1.next=some (.cells elem 0 cs):=by rw[Heap.get_new,i6 rfl,i6 hlim]
 have hbr:=e3.blk _ _ L hg hL;have hle:n<=cap:=by obtain⟨C,lo,hi,vs,q1,q2,q3,_⟩:=hbr;rw[hcs,<-show cap*sz=L.ext by omega]at q3;exact E3 q3 hsz
 refine⟨ac,v,w',e1,.inl ⟨L,cap,hL,by omega,?_,?_⟩,?_,?_⟩;rw[kc,hn];simpa using hv;rw[kc,hn];simpa using hle;refine HR.retell (y:= .A elem sig l) e3 hg (.inr rfl) ?_ (by simp[h2n]) (by simp[h2w]) (λz=> ?_)
 intro L' hL' hb;obtain⟨C,lo,hi,vs,q1,q2,q3,q4,q5,q6,q7,q8⟩:=hb;have:=hdet _ _ q5;subst this;refine⟨C,_,lo,hi,q1,.inl rfl,q2,by rw[hn,hs,<-hcs];exact q3,λi v hi'=> ?_,λi hi'=>q7 i (s8 _) hi'⟩;have hlt:i<cs.length:=by
  have:=q5.length;rw[<-this];rcases k8 i (Y2 sig (dL I l)).length with hh|hh
  exact hh;rw[v8 hh]at hi';cases hi'
 (intros;simp_all);rw[Heap.get_new,Heap.get_new,h2n,h2g]
 (split<;>simp_all)
 .refine⟨?_,e4.ext,λb hb hbn=> ?_,?_⟩;have:=e4.le;(intros;simp_all)
  .have hu:=e4.unm b hb hbn;have he:(h2.new (.A elem sig l)).get b=(h1.new (.cells elem 0 cs)).get b:=by
    rw[Heap.get_new,Heap.get_new,h2n,h2g];by_cases hz:b=h1.next
    have:=e4.ext b hb;rw[hz,hL]at this;rw[hz,<-this]at hbn;cases hbn
    (split<;>simp_all)
   rw[he];exact hu
  have:=e4.wm;(intros;simp_all)
def Cy(P:yJ)(O:cj)(I:Opq)(K:wW)(w0 w:Ac)(h:Heap)(m:Sem Zl)(r:Res):Prop:=match r with
 | .N e v h'=>dB I e=true->Ok P O I K w0 w h m v h'
 | .X=>True
 |_=>False
theorem Yq{P:yJ}(r:HR O I K w0 h w)(ra:VR O I a va){ty elem:zX}(ht:P.underlying t=some (.slice elem))(hi:P.info? elem=some i)(hzi:i.zero=some zv)
 (hzs':zv.cells.size=i.size) (c1:0<i.size) (c3:i.bytes<=1000) (c5:sig.length=i.size) (hnf:I.fix elem=false) (hs0:dB I nd=true->SrcZ P i zv yt vc (dL I ly).length (Y2 sig (dL I ly)) w):
 Cy P O I K w0 w h (Builtin.append_ #[t,yt] ty #[va,vc]) (HK elem i.size sig nd ly a h):=by
 unfold HK;obtain⟨ncs,n1,n2,n3,n4⟩:=JL I sig (dL I ly);have n3':ncs.length=(dL I ly).length*i.size:=by grind[iR]
 split
 .cases hc6:Nat.blt h.next 65536 with
  |false=>trivial
  |true=>
  have c6:=Y8.1 hc6;intro hd;obtain⟨d1,d2⟩:=zS hd;have d2:dI I (.O .Y [ly])<=dI I (.C oE):=j7 d2;rw[kc,pF]at d2;have hroom:(dL I ly).length<=room:=by grind[oE,room]
  have hs:=hs0 d1;subst ra;by_cases hn:(dL I ly).length=0;rw[hn]at hs;have hnil:=Go.Ev.SrcZ.nil_ hs;rw[hnil]at hs;refine⟨O,_,_,SrcZ.nothing ht hi hs none 0 0 (j6 _),.inr ⟨rfl,by grind[kc]⟩,r.lay _,by simp,λ_ _=>rfl,λb hb _=>by left;rw[Heap.get_new,b9 (by omega)],rfl⟩;have g:=AC (ty:=ty) (old:=[]) (olds:=[]) (sLen:=0) (sCap:=0) (base:=none) r ht hi hzi hzs' (run_firstCells_none w.drew _ _ _ _) hs (by omega) c1 (by omega) (by omega) c3 .nil rfl (by simp) (n1 O) n2 n3' 0;simp at g;exact TQ (h1:=h) (h2:=h) c1 c5 rfl g c6 n3' n4 rfl rfl (λ_=>rfl)
 .rename_i b len sz;split
  .rename_i el sig' l hg;cases hq:(Nat.beq sz i.size&&Nat.beq el elem&&fp sig' sig&&Nat.ble h.wm b&&Nat.blt h.next 65536&& !(Nat.beq el iU))with
   |false=>trivial
   |true=>
    obtain⟨hq,c7⟩:=W4 hq;have hne:el≠iU:=λe=>by simp_all
    obtain⟨hq,c6⟩:=W4 hq;rw[Y8]at c6;obtain⟨hq,q4⟩:=W4 hq;obtain⟨hq,q3⟩:=W4 hq;obtain⟨q1,q2⟩:=W4 hq;obtain rfl:=X0.1 q1;obtain rfl:=X0.1 q2;rw[X6]at q4;obtain rfl:=wX q3;intro hd;obtain⟨d1,d2⟩:=zS hd;obtain⟨d3,d2⟩:=zS d2;have d3:dI I len=dI I (.O .Y [l]):=WQ d3;have d2:dI I (.O .Y [qg l ly])<=dI I (.C oE):=j7 d2;have hcat:dL I (qg l ly)=dL I l++dL I ly:=do0 l ly;rw[kc,pF,hcat,k9]at d2;rw[kc]at d3;have hroom:(dL I l).length+(dL I ly).length<=room:=by grind[oE,room]
    have hs:=hs0 d1;have eK: ∀(hh:Heap) (x:lW) (z:Nat),(hh.put b x).get z=if z=b then(if b<65536 then x else none)else hh.get z:=λhh x z=>Heap.get_put _ _ _ _
    have hb65:=Heap.get_lim h b _ hg;rcases ra with⟨L,cap,hL,hcap,hv,hle⟩|⟨hv,h0'⟩
    .have hlen:(dI I len).toNat=(dL I l).length:=by omega
     rw[hlen]at hv hle;by_cases hn:(dL I ly).length=0
     have hly:dL I ly=[]:=C9 hn;rw[hn]at hs;have hnil:=Go.Ev.SrcZ.nil_ hs;rw[hnil]at hs;have hbr:=r.blk b _ L hg hL;obtain⟨p1,p2⟩:=HR.rename (w':=w) r b _ (.A el sig' (qg l ly)) L L hg hL q4 rfl (λ_ _=>rfl) rfl rfl rfl rfl rfl (by
      obtain⟨C,e',lo,hi,z1,z0,z2,z3,z4,z5⟩:=hbr;have hd:dL I (qg l ly)=dL I l:=by(intros;simp_all)
      exact⟨C,e',lo,hi,z1,z0,z2,by rw[hd];exact z3,by rw[hd];exact z4,z5⟩)
     subst hv;refine⟨_,_,_,SrcZ.nothing ht hi hs _ _ cap hle,.inl ⟨L,cap,cj.add_self _ _ _,hcap,?_,?_⟩,p1,p2⟩;rw[kc,hcat,hly];simp;grind[kc]
     .obtain⟨ocs,m1,m2,m3,m4⟩:=JL I sig' (dL I l);have m3':ocs.length=(dL I l).length*i.size:=by rw[m3,iR,c5]
      have r2:HR O I K w0 (h.put b (some (.cells el 0 ocs))) w:=by
       refine HR.retell (y:= .cells el 0 ocs) r hg (.inl q4) ?_ rfl rfl (λz=>by rw[eK,i6 hb65]);intro L' hL' hbr;obtain⟨C,e',lo,hi,z1,z0,z2,z3,z4,z5⟩:=hbr;rw[z0.resolve_right hne]at z1;refine⟨C,lo,hi,Y2 sig' (dL I l),z1,z2,by rw[m3,iR];exact z3,qi m2,m1 O,λk hk=> ?_,λk _ hk=>z5 k hk,λhh=>by rw[hnf]at hh;cases hh⟩
       (intros;simp_all)
      have hg2:(h.put b (some (.cells el 0 ocs))).get b=some (.cells el 0 ocs):=by(intros;simp_all)
      have g:=dK6 (ty:=ty) (o:=0) (sLen:=(dL I l).length) (sCap:=cap) (n:=(dL I ly).length) (fz:=0) r2 ht hi hzi hzs' c1 hs (by omega) hroom c3 hL hg2 q4 (by simpa using hcap) (s8 _) (by omega) (n1 O) n2 n3' (by(intros;simp_all)) 0 (s8 _);rw[show(List.drop 0 ocs).take ((dL I l).length*i.size)=ocs by(intros;grind)]at g;rw[show(⟨L.blk,L.off+0,none⟩:Addr)=⟨L.blk,L.off,none⟩ by simp,<-hv]at g;have g2:Ok P O I K w0 w h (Builtin.append_ #[t,yt] ty #[va,vc]) (.us ((h.put b (some (.cells el 0 ocs))).put b none).next 0 ((dL I l).length+(dL I ly).length) i.size) (((h.put b (some (.cells el 0 ocs))).put b none).new (.cells el 0 (ocs++ncs))):=by
       obtain⟨ac,v,w',y1,y2,y3,y4⟩:=g;refine⟨ac,v,w',y1,y2,y3,y4.le,y4.ext,λz hz hzn=> ?_,y4.wm⟩;have hu:=y4.unm z hz hzn
       (intros;grind)
      refine TQ (h1:=(h.put b (some (.cells el 0 ocs))).put b none) (h2:=h.put b none) (l:=qg l ly) c1 c5 (by(intros;simp_all)) g2 c6 ?_ ?_ rfl rfl (λz=> ?_)
      ·(intros;grind)
      intro ac vs hvs;rw[hcat,CZ];have e1:=hvs.take ocs.length;have e2:=hvs.drop ocs.length;rw[G1]at e1;rw[G2]at e2;rw[<-y8 ocs.length vs,m4 ac _ e1,n4 ac _ e2];grind
    have hl0:(dL I l).length=0:=by omega
    subst hv;obtain⟨r1,st1⟩:=r.drop b;by_cases hn:(dL I ly).length=0;rw[hn]at hs;have hnil:=Go.Ev.SrcZ.nil_ hs;rw[hnil]at hs;refine⟨O,_,_,SrcZ.nothing ht hi hs none 0 0 (j6 _),.inr ⟨rfl,by grind[kc]⟩,r1.lay _,st1.trans ⟨by simp,λ_ _=>rfl,λb hb _=>by left;rw[Heap.get_new,b9 (by omega)],rfl⟩⟩;have g:=AC (ty:=ty) (old:=[]) (olds:=[]) (sLen:=0) (sCap:=0) (base:=none) r1 ht hi hzi hzs' (run_firstCells_none w.drew _ _ _ _) hs (by omega) c1 (by omega) (by omega) c3 .nil rfl (by simp) (n1 O) n2 n3' 0;simp at g;obtain⟨ac,v,w',y1,y2,y3,y4⟩:=TQ (h1:=h.put b none) (h2:=h.put b none) (l:=qg l ly) c1 c5 (n:=(dL I ly).length) (by grind) g c6 n3' (by grind) rfl rfl (λ_=>rfl);exact⟨ac,v,w',y1,y2,y3,st1.trans y4⟩
  trivial
 trivial
def bu2{sig:wD}{l idx:SX}{j sz b:Nat}{L:Loc}{C:Array Zl}{e':zX}{lo hi:Nat}{v:Zl}(r:HR O I K w0 h w)(hL:O b=some L)(hv:v= .pointer (some ⟨L.blk,L.off+(dI I idx).toNat*sz+j,none⟩))(q1:w.heap[L.blk]? =some (.cells C e' (lo,hi)))
 (q4: ∀i v,(Y2 sig (dL I l))[i]? =some v->C[L.off+i]? =some v) (t:zX):cN E O I K w0 w h (do pure (.value (<-Instr.loadAt t v))) (GZ E.P t sig l idx j sz h):=by
 have cell: ∀(m:Nat),m<sig.length->sig.length=sz->0<=dI I idx->dI I idx<dI I (.O .Y [l])->
  w.cell? ⟨L.blk,L.off+(dI I idx).toNat*sz+m,none⟩=some (gg (sig.getD m .bool) (Y3 (dL I l) (dI I idx) m)):=by
  intro m hm hs h0 h1;rw[td q1];rw[kc]at h1;have hlt:(dI I idx).toNat<(dL I l).length:=by omega
  have:=EH (sig:=sig) (j:=m) hm hlt;grind[dI,Y3]
 unfold GZ;split
 rename_i n h1 h2;cases hc:(Nat.beq sig.length sz&&Nat.ble (j+n) sz)with
 |false=>trivial
 |true=>
  obtain⟨c1,c2⟩:=W4 hc;rw[X0]at c1;rw[X6]at c2;intro hd;obtain⟨g1,g2⟩:=Ab hd;refine cO.pureV r (u:= .agg ((List.range' j n).map λt=>gg (sig.getD t .bool) (Y3 (dL I l) (dI I idx) t)).toArray) ⟨_,rfl,MU sig l idx n j⟩ ?_;have hload:=run_loadCells_list (P:=E.P) w ⟨L.blk,L.off+(dI I idx).toNat*sz+j,none⟩ ((List.range' j n).map λt=>gg (sig.getD t .bool) (Y3 (dL I l) (dI I idx) t)) (λi v hi=>by rw[gB];grind);simp at hload;rw[hv];simp[Instr.loadAt,Instr.sureAddr,Sem.run_bind,Sem.run_pure,Result.andThen_ok,loadVar,yX h1,if_true,Y7 h2,hload]
 .rename_i n h1 h2;cases hc:(Nat.beq sig.length sz&&Nat.blt j sz)with
  |false=>trivial
  |true=>
   intro hd;obtain⟨g1,g2⟩:=Ab hd;refine cO.pureV r (Bt _ _) ?_;simp[Instr.loadAt,Instr.sureAddr,Sem.run_bind,Sem.run_pure,Result.andThen_ok,loadVar,yX h1,n7,if_false];simp_all;rfl
 trivial
def cU3(r:HR O I K w0 h w)(o:dW O I af ρ)(t:zX)(x:An):cN E O I K w0 w h (do pure (.value (<-Instr.loadAt t (ρ x)))) (ME E.P t h (af x)):=by
 unfold ME;split;rename_i b idx j sz hx;have hv:=o x _ hx;obtain⟨L,hL,hv⟩:=hv;split;rename_i el sig l hg;obtain⟨C,e',lo,hi,q1,q0,q2,q3,q4,q5⟩:=r.arr hg hL;exact bu2 r hL hv q1 q4 t;rename_i el fz cs hg;split;rename_i sig rs hl;unfold d88 at hl;split at hl;obtain⟨hc,hl⟩:=W5 hl;split at hl;rename_i rs' hrs;simp only[j5,y6]at hl;obtain⟨rfl,rfl⟩:=hl;obtain⟨C,lo,hi,vs,z1,z2,z3,z4,z5,z6,z7⟩:=r.cells hg hL;obtain⟨y1,y2⟩:=uG (I:=I) hrs (X0.1 hc) z5;refine bu2 r hL hv z1 (λi v hi=> ?_) t;have hi:(Y2 _ (X4 I rs'))[i]? =some v:=hi;rw[<-y1]at hi;rw[z6 i (by rw[<-z5.length];exact(A6.1 hi).1)];exact hi;cases hl;cases hl;trivial;rename_i cs hg;split
 rename_i k h1;cases hc:(Nat.beq sz 1&&Nat.beq j 0)with
 |false=>trivial
 |true=>
  split
  rename_i a ha;obtain⟨C,e,lo,hi,vs,q1,q2,q3⟩:=r.blk b _ L hg hL;have hk:=(A6.1 ha).1;have hC:=q3 k hk;obtain⟨u,hu,hua⟩:=co.get _ _ q2 ha;rw[hu]at hC;refine cO.pureV r hua ?_;have hcell:w.cell? ⟨L.blk,L.off+(dI I (.C (Int.ofNat k))).toNat*1+0,none⟩=some u:=by
   rw[td q1];show C[L.off+(Int.ofNat k).toNat*1+0]? =_
   (intros;simp_all)
  simp[Instr.loadAt,Instr.sureAddr,Sem.run_bind,Sem.run_pure,Result.andThen_ok,loadVar,yX h1,n7,if_false];simp_all;trivial
 .trivial
 trivial;trivial
def cq5(r:HR O I K w0 h w){elem:Nat}{x':AV}{h':Heap}(hf:I.fix elem=false)(e:Wi elem s sig x h=some (x',h'))(rx:VR O I x v):
 ∃ac,HR ac I K w0 h' w/\VR ac I x' v/\St h O h' ac:=by
 have main: ∀(b o n cap:Nat) (L:Loc) (fz:Nat) (cs:zw) (rs:GF),h.get b=some (.cells elem fz cs)->O b=some L->h.wm<=b->fz<=o->o+cap*s<=L.ext->o+n*s<=cs.length->n<=cap->sig.length=s->h.next<65536->
  lE sig s n ((cs.drop o).take (n*s))=some rs->v= .slice (some ⟨L.blk,L.off+o,none⟩) n cap->
  x'= .U h.next (.O .Y [.O .row rs]) s->h'=(h.put b none).new (.A elem sig (.O .row rs))-> ∃ac,HR ac I K w0 h' w/\VR ac I x' v/\St h O h' ac:=by
  intro b o n cap L fz cs rs hg hL hwm hfo hext hn hnc hsl hlim hrs hv hx hh;obtain⟨C,lo,hi,vs,q1,q2,q3,q4,q5,q6,q7⟩:=r.cells hg hL;obtain⟨z1,z2⟩:=uG hrs (by grind) ((q5.drop o).take (n*s));obtain⟨r1,s1⟩:=HR.rename (w':=w) r b _ (.A elem sig (.O .row rs)) L ⟨L.blk,L.off+o,cap*s⟩ hg hL hwm rfl (λ_ _=>rfl) rfl rfl rfl rfl rfl (by
   refine⟨C,_,lo,hi,q1,.inl rfl,by grind,?_,λi v hi'=> ?_,λi hi'=> ?_⟩;show(X4 I rs).length*sig.length<=cap*s;simp_all[B2];have hi':(Y2 sig (X4 I rs))[i]? =some v:=hi';grind
   (simp_all;grind))
  subst hx;subst hh;refine⟨_,r1,.inl ⟨_,cap,cj.add_self _ _ _,rfl,?_,?_⟩,s1⟩
  have hll:(dI I (.O .Y [.O .row rs])).toNat=n:=by show(((X4 I rs).length:Nat):Int).toNat=n;rw[z2];simp
  grind;show(((X4 I rs).length:Nat):Int).toNat<=cap;omega
 unfold Wi at e;split at e;rename_i b o n c;split at e;rename_i e0 fz cs hg;replace e:=W5 e;obtain⟨hc,e⟩:=e;obtain⟨hc,c7⟩:=W4 hc;obtain⟨hc,c6⟩:=W4 hc;obtain⟨hc,c5⟩:=W4 hc;obtain⟨hc,c4⟩:=W4 hc;obtain⟨hc,c3⟩:=W4 hc;obtain⟨c1,c2⟩:=W4 hc;obtain rfl:=X0.1 c1;rw[X0]at c6;rw[X6]at c2 c3 c4 c5;rw[Y8]at c7;split at e;obtain⟨L,hL,hv⟩:=rx;have hns:n*s<=c*s:=B2 _ c5;have hbr:=r.blk b _ L hg hL;obtain⟨_,_,_,_,_,_,q3,_⟩:=hbr;grind;cases e;cases e;rename_i b o n s';split at e;rename_i e0 fz cs hg;replace e:=W5 e;obtain⟨hc,e⟩:=e;obtain⟨hc,c8⟩:=W4 hc;obtain⟨hc,c7⟩:=W4 hc;obtain⟨hc,c6⟩:=W4 hc;obtain⟨hc,c5⟩:=W4 hc;obtain⟨hc,c4⟩:=W4 hc;obtain⟨hc,c3⟩:=W4 hc;obtain⟨c1,c2⟩:=W4 hc;obtain rfl:=X0.1 c1;obtain rfl:=X0.1 c5;rw[X0]at c6;rw[X6]at c2 c3 c4;rw[Y8]at c7 c8;split at e
 obtain⟨L,cap,hL,hcap,hv⟩:=rx;have hbr:=r.blk b _ L hg hL;obtain⟨_,_,_,_,_,_,q3,_⟩:=hbr;have hnc:n<=cap:=by
  have:n*s'<=cap*s':=by omega
  exact E3 this c8
 grind;cases e;cases e;rename_i b s';split at e
 rename_i e0 sg l0 hg;replace e:=W5 e;obtain⟨hc,e⟩:=e;obtain⟨hc,c6⟩:=W4 hc;obtain⟨hc,c5⟩:=W4 hc;obtain⟨hc,c4⟩:=W4 hc;obtain⟨hc,c3⟩:=W4 hc;obtain⟨c1,c2⟩:=W4 hc;obtain rfl:=X0.1 c1;obtain rfl:=wX c3;obtain rfl:=X0.1 c4;rw[X6]at c2;obtain⟨rfl,rfl⟩:=e;rcases rx with⟨L,cap,hL,hcap,hv,_⟩|⟨hv,_⟩
 obtain⟨C,e',lo,hi,q1,q0,q2,q3,q4,q5⟩:=r.arr hg hL;obtain⟨r1,s1⟩:=HR.rename (w':=w) r b _ (.A e0 sg (.O .row [])) L L hg hL c2 rfl (λ_ _=>rfl) rfl rfl rfl rfl rfl ⟨C,e',lo,hi,q1,q0,q2,by show 0*_<=_;omega,λi v hi'=>by grind[dL,bZ,X4,cD,Val.L,Y2],q5⟩;exact⟨_,r1,.inl ⟨L,cap,cj.add_self _ _ _,hcap,hv,s8 _⟩,s1⟩;obtain⟨r1,s1⟩:=r.drop b;exact⟨O,r1.lay _,.inr ⟨hv,rfl⟩,s1.trans ⟨by simp,λ_ _=>rfl,λb hb _=>by left;rw[Heap.get_new,b9 (by omega)],rfl⟩⟩;cases e;cases e
def ca2(hfx: ∀t,I.fix t=fj E.P t)(r:HR O I K w0 h w){c:AV}(ra:VR O I a va)(rc:VR O I c vc)(ts:Array zX)(ty:zX)(cs:aaI):
 cN E O I K w0 w h (builtin .append ts ty cs #[va,vc]) (Sc E.P ts a c h):=by
 have lift: ∀{x:AV} {h':Heap},Ok E.P O I K w0 w h (Builtin.append_ ts ty #[va,vc]) x h'->cO E O I K w0 w h (builtin .append ts ty cs #[va,vc]) x h':=λk=>cO.of k
 unfold Sc;split;rename_i elem yt h1 h2;split;rename_i i z hi hz;split
 rename_i sig nd ly hrows;cases hc:(Nat.blt 0 i.size&&Nat.beq z.cells.length i.size&&Nat.ble i.bytes 1000&&Nat.beq ts.size 2&&Nat.beq sig.length i.size&& !(fj E.P elem))with
 |false=>trivial
 |true=>
  obtain⟨hc,c7⟩:=W4 hc;have hnf:I.fix elem=false:=by(intros;simp_all)
  obtain⟨hc,c5⟩:=W4 hc;obtain⟨hc,c4⟩:=W4 hc;obtain⟨hc,c3⟩:=W4 hc;obtain⟨c1,c2⟩:=W4 hc;rw[Y8]at c1;rw[X0]at c2 c4 c5;rw[X6]at c3;simp[o8]at h1;obtain⟨t,h0,ht⟩:=h1;obtain rfl:=ed3 h0 h2 c4;obtain⟨i',zv,hi',hzi,hzs,hzv⟩:=bs9 hz;rw[hi]at hi';simp at hi';subst hi';have hzs':zv.cells.size=i.size:=hzs.trans c2;have hs0:dB I nd=true->SrcZ E.P i zv yt vc (dL I ly).length (Y2 sig (dL I ly)) w:=λhd=>do4 r c5 c3 (hzv _ _) hzs' c1 hrows hd rc
  have fin: ∀(res:Res),Cy E.P O I K w0 w h (Builtin.append_ #[t,yt] ty #[va,vc]) res->cN E O I K w0 w h (builtin .append #[t,yt] ty cs #[va,vc]) res:=by intro res hr;cases res<;>first|exact hr.elim|trivial|(intro hd;exact lift (hr hd))
  unfold ZV;split
  rename_i p hp;obtain⟨ac,r1,rx,s1⟩:=cq5 r hnf (x':=p.1) (h':=p.2) hp ra;have:=Yq (ty:=ty) r1 rx ht hi hzi hzs' c1 c3 c5 hnf hs0;refine fin _ ?_;revert this;cases HK elem i.size sig nd ly p.1 p.2 with
  |N e v h'=>
   intro hh hd;obtain⟨an,u,w',y1,y2,y3,y4⟩:=hh hd;exact⟨an,u,w',y1,y2,y3,s1.trans y4⟩
  |X=>intro _;trivial
  |_=>intro hh;exact hh.elim
  grind[Yq]
 .trivial
 trivial;trivial
variable{ks vs:wD}{v:Zl}{l:SX}{es xs:GF}
variable{E:Env}{O:cj}{I:Opq}{K:wW}{w0 w:Ac}{h h':Heap}{af:An->EX}{ρ:An->Zl}
def zC(c:CT)(x:Val):AV:=match c with
 | .int k=> .int k x.I
 | .str=> .str x.toS
 | .bool=> .bool x.Z
def fS(r:Val):wD->Nat->zw
 | [],_=>[]
 |c::cs,j=>zC c (r.L.getD j default)::fS r cs (j+1)
def eS(r:Val):wD->Nat->List Zl
 | [],_=>[]
 |c::cs,j=>gg c (r.L.getD j default)::eS r cs (j+1)
def OM(c:CT)(x:Val):VR O I (zC c x) (gg c x):=by cases c<;>rfl
theorem xh(r:Val): ∀(sig:wD) (j:Nat),co O I (fS r sig j) (eS r sig j)
 | [],_=>rfl
 |c::cs,j=> .cons (OM c _) (xh r cs (j+1))
def qx(r:Val): ∀(sig:wD) (j:Nat),(eS r sig j).length=sig.length
 | [],_=>rfl
 |c::cs,j=>by simp[eS,qx r cs (j+1)]
def bU6(r:Val): ∀(a b:wD) (j:Nat),eS r (a++b) j=eS r a j++eS r b (j+a.length)
 | [],b,j=>rfl
 |c::a,b,j=>by
  have:=bU6 r a b (j+1);simp[List.cons_append,eS,this,List.length_cons]
  (intros;grind)
def YY(sig:wD)(r:Val): ∀(s:wD) (j:Nat),sig.drop j=s->(List.range' j s.length).map (λt=>gg (sig.getD t .bool) (r.L.getD t default))=eS r s j
 | [],j,_=>rfl
 |c::s,j,h=>by
  have h1:sig.getD j .bool=c:=by have:=congrArg (λz:wD=>z[0]?) h;grind
  have h2:sig.drop (j+1)=s:=by grind[List.tail_drop]
  rw[List.length_cons,F8,m8,h1,YY sig r s (j+1) h2];rfl
def jY(sig:wD)(r:Val):dD sig r=eS r sig 0:=by have:=YY sig r sig 0 rfl;grind[dD,List.range_eq_range']
def Sr(ks vs:wD)(r:Val):ld ks vs r=(iw (eS r ks 0),iw (eS r vs ks.length)):=by simp_all[ld,jY,bU6,n9,qx,G1,G2]
theorem xJ: ∀{a:zw} {us:List Zl},co O I a us->VR O I (jo a) (iw us)
 | [],us,h=>by rw[show us=[]from h];exact⟨_,rfl,rfl⟩
 | [x],us,⟨v,vr,e,h1,h2⟩=>by rw[e,show vr=[]from h2];exact h1
 |x::y::r,us,⟨v,vr,e,h1,u,ur,e2,h3,h4⟩=>by rw[e,e2];exact⟨_,rfl,.cons h1 (.cons h3 h4)⟩
def EC{us:List Zl}(h:2<=us.length):iw us= .agg us.toArray:=by
 match us,h with
 |_::_::_,_=>rfl
def yu(I:Opq)(n:Nat)(k r:Val):Opq:=⟨I.v,λi=>if i<n then k.L.getD i default else r.L.getD (i-n) default,I.f,I.one,I.fix,I.gh⟩
def cq7(I:Opq)(c:CT)(e:SX):dG I (wg c e)=zC c (bZ I e):=by cases c<;>rfl
def KL{aa:Opq}{r:Val}: ∀(s:wD) (i j:Nat),(∀t,t<s.length->aa.w (i+t)=r.L.getD (j+t) default)->rg aa (rV s i)=fS r s j
 | [],_,_,_=>rfl
 |c::s,i,j,h=>by have h0:=h 0 (by simp);have ih:=KL s (i+1) (j+1) (λt ht=>by have:=h (t+1) (by simp;omega);rw[show i+1+t=i+(t+1) by omega,show j+1+t=j+(t+1) by omega];exact this);simp only[rV,rg,fS,cq7,ih];rw[show bZ aa (.V i)=aa.w i from rfl,show aa.w i=r.L.getD j default by simpa using h0]
def XY{aa:Opq}{k r:Val}: ∀(s:wD) (i j c:Nat),(∀t,t<s.length->aa.w (i+t)=k.L.getD (c+t) default)->(∀t,t<s.length->aa.w (j+t)=r.L.getD (c+t) default)->dB aa (Lx s i j)=yz r k s c
 | [],_,_,_,_,_=>rfl
 |q::s,i,j,c,h1,h2=>by
  have a:=h1 0 (by simp);have b:=h2 0 (by simp);simp at a b;have ih:=XY s (i+1) (j+1) (c+1) (λt ht=>by
   have:=h1 (t+1) (by grind);rw[show i+1+t=i+(t+1) by omega,show c+1+t=c+(t+1) by omega];exact this) (λt ht=>by
   have:=h2 (t+1) (by grind);rw[show j+1+t=j+(t+1) by omega,show c+1+t=c+(t+1) by omega];exact this)
  have hand: ∀x y:SX,dB aa (gL x y)=(dB aa x&&dB aa y):=λx y=>by unfold gL;split;rfl;split;show dB aa _=(dB aa _&&true);grind;rfl
  simp[Lx,yz,hand,ih];congr 1;cases q;show decide ((aa.w i).I=(aa.w j).I)=_;rw[a,b];rfl;show decide ((aa.w i).toS=(aa.w j).toS)=_;rw[a,b];rfl;show((aa.w i).Z==(aa.w j).Z)=_;rw[a,b];rfl
def cU4{P:yJ}{kt:zX}(hk:qZ P kt ks=true)(k r:Val):jx P 10000 kt (.agg (fS k ks 0)) (.agg (fS r ks 0))=some (eF ks r k):=by obtain⟨_,hk⟩:=W4 hk;split at hk;rename_i e he;obtain rfl:=SX.beq_eq _ _ hk;have:=OX (I:=yu ax ks.length k r) 10000 he;simp[dG]at this;rw[KL (r:=k) ks 0 0 (λt ht=>by simp[yu,ht]),KL (r:=r) ks ks.length 0 (λt ht=>by simp only[yu];(split<;>grind))]at this;rw[this,XY (k:=k) (r:=r) ks 0 ks.length 0 (λt ht=>by simp[yu,ht]) (λt ht=>by simp only[yu];(split<;>grind))];rfl;grind
def JO{P:yJ}{kt:zX}(hk:qZ P kt ks=true)(k:Val):qc P kt (.agg (fS k ks 0))=true:=by
 obtain⟨hk,_⟩:=W4 hk;have e:fS k ks 0=rg (yu ax ks.length k k) (rV ks 0):=(KL (r:=k) ks 0 0 (λt ht=>by simp[yu,ht])).symm;rw[e];unfold qc at hk⊢;split at hk
 ·(intros;grind)
 ·(intros;grind)
 ·(intros;grind)
 rename_i fields cs hu hq;cases hq;rw[hu];rw[Q8]at hk⊢;intro f hf;obtain⟨h1,h2⟩:=W4 (hk f hf);obtain⟨a,ha⟩:=Q7.1 h1;rw[TI ha,h2];rfl;grind
def ed4(ks vs:wD)(r:Val):AV×AV:=(.agg (fS r ks 0),jo (fS r vs ks.length))
def Gl{ks vs:wD}(h2:2<=ks.length): ∀{rows:U7} {m:aaC},(m.map λe=>(e.key,e.val))=rows.map (ld ks vs)-> ∃es,ERs O I es m/\(es.map λe=>(e.key,e.val))=rows.map (ed4 ks vs)
 | [],[],_=>⟨[],.nil,rfl⟩
 | [],_::_,h=>by cases h
 |_::_,[],h=>by cases h
 |r::rows,e::m,h=>by simp at h;obtain⟨es,h3,h4⟩:=Gl h2 (rows:=rows) (m:=m) h.2;rw[Sr]at h;obtain⟨k,v,b⟩:=e;have hk:k=iw (eS r ks 0):=congrArg Prod.fst h.1;refine⟨⟨.agg (fS r ks 0),jo (fS r vs ks.length),b⟩::es,.cons ?_ ?_ h3,by simp_all;rfl⟩;rw[hk,EC (by rw[qx];exact h2)];exact⟨_,rfl,xh r ks 0⟩;grind[xJ,xh]
def GC{P:yJ}{kt:zX}{ks vs:wD}(hk:qZ P kt ks=true)(k:Val): ∀{rows:U7} {es:aaJ} (i:Nat),(es.map λe=>(e.key,e.val))=rows.map (ed4 ks vs)->
 (rows.findIdx (λr=>eF ks r k)=rows.length/\kL P kt (.agg (fS k ks 0)) es i=some none)\/
 ∃e r,rows.findIdx (λr=>eF ks r k)<rows.length/\rows[rows.findIdx (λr=>eF ks r k)]? =some r/\eF ks r k=true/\kL P kt (.agg (fS k ks 0)) es i=some (some (i+rows.findIdx (λr=>eF ks r k),e))/\e.key= .agg (fS r ks 0)/\e.val=jo (fS r vs ks.length)
 | [],[],i,_=> .inl ⟨rfl,rfl⟩
 | [],_::_,i,h=>by cases h
 |_::_,[],i,h=>by cases h
 |r::rows,e::es,i,h=>by
  simp at h;have h1:e.key= .agg (fS r ks 0):=congrArg Prod.fst h.1;have h2:e.val=jo (fS r vs ks.length):=congrArg Prod.snd h.1;have hq:=cU4 hk k r;rw[List.findIdx_cons];cases hc:eF ks r k with
  |true=>
   simp_all[kL,cond_true,Nat.add_zero]
  |false=>
   rw[hc]at hq;rcases GC hk k (i+1) h.2 with⟨a,b⟩|⟨e',r',a1,a2,a3,a4,a5,a6⟩
   exact .inl ⟨by rw[a];rfl,by simp[kL,h1,hq];exact b⟩;grind[List.length_cons,Nat.succ_lt_succ,kL]
def HR.marr{b:Nat}{d:Bool}{L:Loc}(r:HR O I K w0 h w)(hg:h.get b=some (.marr d ks vs l))(hb:O b=some L):
 ∃E c,w.heap[L.blk]? =some (.map E c)/\(E.toList.map λe=>(e.key,e.val))=(dL I l).map (ld ks vs)/\fx d E.toList c:=r.blk b _ L hg hb
def fx.push{d:Bool}{E:aaC}{c:Nat}(h:fx d E c)(k x:Zl):fx d (E++[⟨k,x,c⟩]) (c+1):=by
 obtain⟨h1,h2,h3⟩:=h;refine⟨?_,?_,?_⟩
 ·(intros;grind)
 ·(intros;grind)
 intro hd;rw[s6,h3 hd,R2];rfl
def Zn{f:MapEntry->MapEntry}(hf: ∀e,(f e).born=e.born): ∀(E:aaC) (i:Nat),(E.modify i f).map (·.born)=E.map (·.born)
 | [],i=>by grind
 |e::E,0=>by grind
 |e::E,i+1=>by simpa using Zn hf E i
def fx.modify{d:Bool}{E:aaC}{c:Nat}(h:fx d E c)(i:Nat)(f:MapEntry->MapEntry)(hf: ∀e,(f e).born=e.born):fx d (E.modify i f) c:=by
 obtain⟨h1,h2,h3⟩:=h;have hm:=Zn hf E i;refine⟨by rw[hm];exact h1,λe he=> ?_,λhd=>by rw[hm];exact h3 hd⟩;have:e.born∈(E.modify i f).map (·.born):=R3 he
 (intros;grind)
def De(ks:wD)(l:SX)(es:GF):dI I (jB ks l es)=((dL I l).findIdx (λr=>eF ks r (.A (X4 I es))):Nat):=rfl
theorem tv(ks:wD)(l:SX)(es:GF):dB I (ff ks l es)=decide ((dL I l).findIdx (λr=>eF ks r (.A (X4 I es)))<(dL I l).length):=by show decide (((dL I l).findIdx (λr=>eF ks r (.A (X4 I es))):Int)<((dL I l).length:Int))=_;simp
def kN(c a b:SX):bZ I (.O .J [c,a,b])=bif dB I c then bZ I a else bZ I b:=rfl
theorem Qi{ks:wD}{l:SX}{es:GF}{r:Val}(hh:dB I (ff ks l es)=true)(hr:(dL I l)[(dL I l).findIdx (λr=>eF ks r (.A (X4 I es)))]? =some r): ∀(vs:wD) (j:Nat) (zs:GF),zs.length=vs.length->co O I (jM ks l es vs j zs) (eS r vs j)
 | [],_,_,_=>by rfl
 |c::vs,j,[],h=>by simp at h
 |c::vs,j,z::zs,h=>by
  have ih:=Qi hh hr vs (j+1) zs (by simpa using h);refine .cons ?_ ih;have e:bZ I (.O .J [ff ks l es,.O .G [l,jB ks l es,.C j],z])=r.L.getD j default:=by rw[kN,hh];show Y3 (dL I l) (dI I (jB ks l es)) (j:Int)=_;rw[De];show(((dL I l)[(dL I l).findIdx _]?).getD (.A [])).L.getD j default=_;rw[hr];rfl
  grind[Bt]
def QK{ks:wD}{l:SX}{es:GF}(hh:dB I (ff ks l es)=false): ∀(vs:wD) (j i:Nat) (zs:GF) (q:Val),zs.length=vs.length->(∀t,t<zs.length->q.L.getD (i+t) default=bZ I (zs.getD t (.cb false)))->co O I (jM ks l es vs j zs) (eS q vs i)
 | [],_,_,_,_,_,_=>by rfl
 |c::vs,j,i,[],q,h,_=>by simp at h
 |c::vs,j,i,z::zs,q,h,hq=>by
  have ih:=QK hh vs (j+1) (i+1) zs q (by simpa using h) (λt ht=>by (simp_all;grind))
  refine .cons ?_ ih;have e:bZ I (.O .J [ff ks l es,.O .G [l,jB ks l es,.C j],z])=q.L.getD i default:=by
   rw[kN,hh];have:=hq 0 (by simp)
   (intros;grind)
  grind[Bt]
theorem RY{z:AV}(hs:oW vs z=true)(hv:VR O I z v)(hl:v.cells.toList.length=vs.length):iw v.cells.toList=v:=by
 match vs,hs with
 | [c],hs=>
   have h1:=VR.one hv (show z.one=true from hs);have:v.cells= #[v]:=by cases v<;>first|rfl|grind[Value.oneCell']
   rw[this];rfl
 |_::_::_,hs=>
  cases z with
  |agg cs=>
   obtain⟨xs,rfl,_⟩:=hv;show iw xs.toList=_;have:2<=xs.toList.length:=by have:xs.toList.length=_:=hl;grind
   rw[EC this]
  |_=>cases hs
def Zx{c:CT}{x:Val}(h:VR O I (zC c x) v):v=gg c x:=by cases c<;>exact h
def Lz(r:Val): ∀(sig:wD) (j:Nat) {us:List Zl},co O I (fS r sig j) us->us=eS r sig j
 | [],_,_,h=>h
 |c::cs,j,_,⟨v,vr,e,h1,h2⟩=>by rw[e,Zx h1,Lz r cs (j+1) h2];rfl
def cq9(r:Val)(sig:wD)(j:Nat)(h:VR O I (jo (fS r sig j)) v):v=iw (eS r sig j):=by
 match sig,h with
 | [],⟨xs,e,h⟩=>rw[e];congr 1;exact I5.1 h
 | [c],h=>exact Zx h
 |c::d::s,⟨xs,e,h⟩=>
  rw[e,EC (by rw[qx];simp),<-Lz r (c::d::s) j h]
def Nf(I:Opq): ∀l:GF,(X4 I l).length=l.length
 | []=>rfl
 |_::r=>by simp[X4,Nf I r]
def NA(I:Opq): ∀(l:GF) (t:Nat),t<l.length->(X4 I l).getD t default=bZ I (l.getD t (.cb false))
 | [],t,h=>by simp at h
 |x::r,0,_=>rfl
 |x::r,t+1,h=>by have:=NA I r t (by simpa using h);grind[X4]
theorem nC: ∀{sig:wD} {vs:zw} {es:GF},gy sig vs=some es->es.length=sig.length
 | [],[],es,h=>by grind[gy,Option.some.injEq]
 | [],_::_,es,h=>by cases h
 |_::_,[],es,h=>by cases h
 |c::cs,v::vs,es,h=>by unfold gy at h;split at h;rename_i e es' h1 h2;simp at h;subst h;simp[nC h2];cases h
def JB{z:AV}(hs:oW vs z=true):z.nt=true:=by
 unfold oW at hs;split at hs;cases hs
 cases z<;>first|rfl|cases hs
 cases z<;>first|rfl|cases hs
def Mo(I:Opq): ∀a b:GF,X4 I (a++b)=X4 I a++X4 I b
 | [],_=>rfl
 |x::a,b=>by simp[X4,Mo I a b]
def ca3{c:CT}{e e':SX}{u:Zl}(h:bZ I e'=bZ I e)(r:VR O I (wg c e) u):VR O I (wg c e') u:=by
 have h1:=Bt (O:=O) (I:=I) c e';have h2:u=gg c (bZ I e):=by cases c<;>exact r
 grind
def bb4{ks:wD}{l l':SX}{es:GF}: ∀(vs:wD) (j:Nat) (zs:GF) {us:List Zl},(∀t,t<zs.length->bZ I (.O .J [ff ks l' es,.O .G [l',jB ks l' es,.C ((j+t:Nat):Int)],zs.getD t (.cb false)])=bZ I (.O .J [ff ks l es,.O .G [l,jB ks l es,.C ((j+t:Nat):Int)],zs.getD t (.cb false)]))->
 co O I (jM ks l es vs j zs) us->co O I (jM ks l' es vs j zs) us
 | [],_,_,us,_,h=>by grind[jM]
 |c::vs,j,[],us,_,h=>by grind[jM]
 |c::vs,j,z::zs,us,hq,h=>by
  obtain⟨u,ur,rfl,h1,h2⟩:=h;refine .cons (ca3 ?_ h1) (bb4 vs (j+1) zs (λt ht=> ?_) h2);grind
  (simp_all;grind)
theorem XZ{ks:wD}{l:SX}{es:GF}: ∀(vs:wD) (j:Nat) (zs:GF),(jM ks l es vs j zs).length=min vs.length zs.length
 | [],_,_=>by rfl
 |c::vs,j,[]=>by rfl
 |c::vs,j,z::zs=>by show(jM ks l es vs (j+1) zs).length+1=_;rw[XZ vs (j+1) zs];simp
def cr0{A B:zw}(hl:A.length=B.length)(h: ∀us,co O I A us->co O I B us)(r:VR O I (jo A) v):VR O I (jo B) v:=by
 match A,B,hl with
 | [a],[b],_=>
   have h1:=h [v] ⟨v,[],rfl,r,rfl⟩;obtain⟨u,ur,e,h2,_⟩:=h1;obtain⟨rfl,_⟩:=N9 e;exact h2
 | [],[],_=>
   omega
 |a::b::A,c::d::B,_=>
  obtain⟨xs,e,h1⟩:=r;exact⟨xs,e,h _ h1⟩
def cU5(c:CT){x y:Val}(h:x=y):Kv c x y=true:=by subst h;cases c<;>simp[Kv]
def bu5{r k:Val}: ∀(s:wD) (j:Nat),(∀t,t<s.length->k.L.getD (j+t) default=r.L.getD (j+t) default)->yz r k s j=true
 | [],_,_=>rfl
 |c::s,j,h=>by show(Kv c _ _&&yz r k s (j+1))=true;rw[cU5 c (by simpa using h 0 (by simp)),bu5 s (j+1) (λt ht=>by (simp_all;grind))];rfl
def bu6{zs:GF}(hes:es.length=ks.length): ∀t,t<zs.length->bZ I (.O .J [ff ks (Br ks es zs l) es,.O .G [Br ks es zs l,jB ks (Br ks es zs l) es,.C ((ks.length+t:Nat):Int)],zs.getD t (.cb false)])=bZ I (.O .J [ff ks l es,.O .G [l,jB ks l es,.C ((ks.length+t:Nat):Int)],zs.getD t (.cb false)]):=by
 intro t ht;unfold Br;split
 rename_i c l0 l1 ez;cases hc:(SX.beq c (ff ks l0 es)&&SX.beq l1 l0&&SX.beqs ez (es++zs))with
 |false=>rfl
 |true=>
  obtain⟨hc,h3⟩:=W4 hc;obtain⟨h1,h2⟩:=W4 hc;obtain rfl:=SX.beq_eq _ _ h1;obtain rfl:=SX.beq_eq _ _ h2;obtain rfl:=SX.beqs_eq _ _ h3;simp;cases hh:dB I (ff ks l1 es)with
  |true=>
   have hl:dL I (.O .J [ff ks l1 es,l1,.O .lcat [l1,.O .row [.O .row (es++zs)]]])=dL I l1:=by show(bZ I (.O .J _)).L=_;rw[kN,hh];rfl
   have hi:dI I (jB ks (.O .J [ff ks l1 es,l1,.O .lcat [l1,.O .row [.O .row (es++zs)]]]) es)=dI I (jB ks l1 es):=by rw[De,De,hl]
   rw[kN,kN,tv,tv,hl];refine congrArg (λz=>bif _ then z else bZ I (zs.getD t (.cb false))) ?_;show Y3 (dL I l1) (dI I (jB ks l1 es)) _=Y3 (dL I _) (dI I _) _;rw[hl,hi]
  |false=>
   have hl:dL I (.O .J [ff ks l1 es,l1,.O .lcat [l1,.O .row [.O .row (es++zs)]]])=dL I l1++[.A (X4 I (es++zs))]:=by show(bZ I (.O .J _)).L=_;rw[kN,hh];rfl
   have hn: ∀x∈dL I l1,eF ks x (.A (X4 I es))=false:=by
    rw[tv,decide_eq_false_iff_not]at hh
    (intros;simp_all)
   have hk:eF ks (.A (X4 I (es++zs))) (.A (X4 I es))=true:=bu5 ks 0 λt ht=>by
    show(X4 I es).getD (0+t) default=(X4 I (es++zs)).getD (0+t) default;have hdl:(X4 I es).length=ks.length:=by rw[Nf,hes]
    rw[show X4 I (es++zs)=X4 I es++X4 I zs from Mo I es zs,k5,k5,y5 (by omega)]
   have hi:(dL I l1++[Val.A (X4 I (es++zs))]).findIdx (λr=>eF ks r (Val.A (X4 I es)))=(dL I l1).length:=by (intros;grind)
   rw[kN,hh,kN,tv,hl,hi];rw[show decide ((dL I l1).length<(dL I l1++[Val.A (X4 I (es++zs))]).length)=true from j0 (by simp)];show bZ I (zs.getD t (.cb false))=Y3 (dL I _) (dI I (jB ks _ es)) ((ks.length+t:Nat):Int);rw[De,hl,hi];show _=((dL I l1++[Val.A (X4 I (es++zs))]).getD (dL I l1).length (.A [])).L.getD (ks.length+t) default;rw[k5 (l:=dL I l1++_),s9 (j6 _),F5];show _=(X4 I (es++zs)).getD (ks.length+t) default;have hdl:(X4 I es).length=ks.length:=by rw[Nf,hes]
   rw[show X4 I (es++zs)=X4 I es++X4 I zs from Mo I es zs,k5 (l:=X4 I es++_),s9 (by omega),hdl,I6,<-k5,NA I zs t ht]
 .rfl
theorem aZ2{zs:GF}(hes:es.length=ks.length)(r:VR O I (jo (jM ks l es vs ks.length zs)) v):VR O I (jo (jM ks (Br ks es zs l) es vs ks.length zs)) v:=
 cr0 (by grind[XZ]) (λus h=>bb4 vs ks.length zs (bu6 hes) h) r
def ca4(r:HR O I K w0 h w)(o:dW O I af ρ)(t:zX)(m k:An)(ok:Bool):cN E O I K w0 w h (do pure (.value (<-Instr.lookup t (ρ m) (ρ k) ok))) (MF E.P t h (af m) (af k) ok):=by
 unfold MF;split;rename_i kt et ht;split;rename_i b hm;split;rename_i cs hk;have rm:=o m _ hm;have rk:=o k _ hk;obtain⟨L,hL,em⟩:=rm;obtain⟨xs,ek,rx⟩:=rk;unfold VW;split;rename_i d ks vs l z hg hz;split
 rename_i es zs hes hzs;cases hc:(qZ E.P kt ks&&Nat.ble 2 ks.length&&oW vs z)with
 |false=>trivial
 |true=>
  obtain⟨hc,hsh⟩:=W4 hc;obtain⟨hkt,h2⟩:=W4 hc;rw[X6]at h2;obtain⟨En,c,q1,q2,q3⟩:=r.marr hg hL;obtain⟨ents,hE,hmap⟩:=Gl h2 q2;have hxs:xs.toList=eS (.A (X4 I es)) ks 0:=by rw[mH hes rx,jY]
  have rk':VR O I (.agg (fS (.A (X4 I es)) ks 0)) (ρ k):=⟨xs,ek,by grind[xh]⟩;have hko:=JO hkt (.A (X4 I es));rcases GC hkt (.A (X4 I es)) 0 hmap with⟨a,hf⟩|⟨e,row,a1,a2,a3,hf,a5,a6⟩
  have hhas:dB I (ff ks l es)=false:=by grind[tv]
  obtain⟨v',hv',hrun⟩:=jL hko rk' hE hf;subst hv';obtain⟨zv,z1,z2⟩:=xD hz;have hzc:=mH hzs ((z1 O I).cells (JB hsh));rw[jY]at hzc;have hvr:VR O I (jo (jM ks l es vs ks.length zs)) zv:=by have:=xJ (QK (O:=O) hhas vs ks.length 0 zs (.A (X4 I zs)) (nC hzs) (λt ht=>by rw[n9];exact NA I zs t ht));rw[<-hzc]at this;rw[RY hsh (z1 O I) (by rw[hzc,qx])]at this;exact this
  refine cO.pureV r (u:=if ok then .tuple #[zv,.bool false]else zv) ?_ ?_;cases ok;grind[aZ2,nC];exact⟨_,rfl,.cons hvr (.one (by show _=Value.bool (dB I (ff ks l es));rw[hhas]))⟩;simp[em,Instr.lookup,Sem.run_bind,W8 ht,Result.andThen_ok,Sem.run_pure,Y6 q1,jz hko rk',hrun,z2]
  have hhas:dB I (ff ks l es)=true:=by grind[tv,decide_eq_true]
  obtain⟨v',hv',hrun⟩:=jL hko rk' hE hf;obtain⟨k2,v2,e1,e2,e3,e4,e5⟩:=hv';subst e1;rw[a6]at e5;have hv2:=cq9 row vs ks.length e5;have hvr:VR O I (jo (jM ks l es vs ks.length zs)) v2:=by grind[xJ,Qi,nC]
  refine cO.pureV r (u:=if ok then .tuple #[v2,.bool true]else v2) ?_ ?_;cases ok;grind[aZ2,nC];exact⟨_,rfl,.cons hvr (.one (by show _=Value.bool (dB I (ff ks l es));rw[hhas]))⟩;simp[em,Instr.lookup,Sem.run_bind,W8 ht,Result.andThen_ok,Sem.run_pure,Y6 q1,jz hko rk',hrun]
 .trivial
 trivial;trivial;trivial;trivial
def MT{r q:Val}: ∀(sig:wD) (j i:Nat),(∀t,t<sig.length->r.L.getD (j+t) default=q.L.getD (i+t) default)->eS r sig j=eS q sig i
 | [],_,_,_=>rfl
 |c::cs,j,i,h=>by have h0:=h 0 (by simp);have ih:=MT cs (j+1) (i+1) (λt ht=>by have:=h (t+1) (by simp;omega);rw[show j+1+t=j+(t+1) by omega,show i+1+t=i+(t+1) by omega];exact this);simp_all[Nat.add_zero,eS]
def Tu{r k:Val}: ∀(sig:wD) (j:Nat),yz r k sig j=true->eS r sig j=eS k sig j
 | [],_,_=>rfl
 |c::cs,j,h=>by
  obtain⟨h1,h2⟩:=W4 h;have:gg c (r.L.getD j default)=gg c (k.L.getD j default):=by cases c;have:=j7 h1;show Value.int _ _=Value.int _ _;rw[this];have:=j7 h1;show Value.string _=Value.string _;rw[this];have:=eq_of_beq h1;show Value.bool _=Value.bool _;rw[this]
  simp only[eS,this,Tu cs (j+1) h2]
def QZ(k:Val): ∀(sig:wD) (j:Nat),((eS k sig j).zip (eS k sig j)).all (λ(x,y)=>Instr.sameBits 9999 x y)=true
 | [],_=>rfl
 |c::cs,j=>by simp only[eS,List.zip_cons_cons,List.all_cons,j8];exact⟨Vq (O:=λ_=>none) (I:=ax) (a:=zC c (k.L.getD j default)) (b:=zC c (k.L.getD j default)) 9999 (by cases c<;>simp[zC,Fl,uu,ug]) (OM c _) (OM c _),QZ k cs (j+1)⟩
def Vh{a b:List Zl}(h1:es.length=ks.length)(h2:xs.length=vs.length)(ha:a=dD ks (.A (X4 I es)))(hb:b=dD vs (.A (X4 I xs))):ld ks vs (.A (X4 I (es++xs)))=(iw a,iw b):=by
 rw[Sr,ha,hb,jY,jY,Mo];have q1:=Nf I es;congr 2
 refine MT ks 0 0 λt ht=> ?_
 show(X4 I es++X4 I xs).getD (0+t) default=(X4 I es).getD (0+t) default;grind
 refine MT vs ks.length 0 λt ht=> ?_
 show(X4 I es++X4 I xs).getD (ks.length+t) default=(X4 I xs).getD (0+t) default;grind
def SL{x:AV}(hs:oW vs x=true)(hv:VR O I x v){b:List Zl}(hb:v.cells.toList=b)(hl:b.length=vs.length):iw b=v:=by grind[RY]
def UC{α:Type}{l:List α}{i:Nat}{e:α}{f:α->α}(h:l[i]? =some e):l.modify i f=l.set i (f e):=by
 refine K4 λj=> ?_
 grind
def cU6(h:dB I (ff ks l es)=true):dL I (Fw ks l es xs)=(dL I l).set ((dL I l).findIdx (λr=>eF ks r (.A (X4 I es)))) (.A (X4 I (es++xs))):=by show(bZ I (.O .J _)).L=_;rw[kN,h];rfl
def cU7(h:dB I (ff ks l es)=false):dL I (Fw ks l es xs)=dL I l++[.A (X4 I (es++xs))]:=by show(bZ I (.O .J _)).L=_;rw[kN,h];rfl
def bu7(r:HR O I K w0 h w)(o:dW O I af ρ)(t:zX)(m k x:An):cN E O I K w0 w h (do Instr.mapUpdate t (ρ m) (ρ k) (ρ x);pure .skip) (Ji E.P t h (af m) (af k) (af x)):=by
 unfold Ji;split;rename_i kt et ht;split;rename_i b hm;split;rename_i cs hk;split;rename_i xv hx;split;split;rename_i ks vs hks hvs;have rm:=o m _ hm;have rk:=o k _ hk;have rx:=o x _ hx;obtain⟨L,hL,em⟩:=rm;obtain⟨kx,ek,rkx⟩:=rk;unfold ck2;split
 rename_i es xs hes hxs;cases hc:(qZ E.P kt ks&&Nat.ble 2 ks.length&&oW vs xv&&Nat.ble h.wm b)with
 |false=>trivial
 |true=>
  obtain⟨hc,hwm⟩:=W4 hc;obtain⟨hc,hsh⟩:=W4 hc;obtain⟨hkt,h2⟩:=W4 hc;rw[X6]at h2 hwm;have hkx:=mH hes rkx;have hvx:=mH hxs (rx.cells (JB hsh));have l1:=nC hes;have l2:=nC hxs;have hent:=Vh (I:=I) l1 l2 hkx hvx;have hkey:iw kx.toList=ρ k:=by rw[ek,EC (by rw[hkx,jY,qx];exact h2)]
  have hval:iw (ρ x).cells.toList=ρ x:=SL hsh rx rfl (by rw[hvx,jY,qx]);rw[hkey,hval]at hent;have hkc:kx.toList=eS (.A (X4 I es)) ks 0:=by rw[hkx,jY]
  have rk':VR O I (.agg (fS (.A (X4 I es)) ks 0)) (ρ k):=⟨kx,ek,by rw[hkc];exact xh _ _ _⟩;have hko:=JO hkt (.A (X4 I es));split
  rename_i d ks' vs' l hg;cases hq:(fp ks' ks&&fp vs' vs)with
  |false=>trivial
  |true=>
   obtain⟨e1,e2⟩:=W4 hq;obtain rfl:=wX e1;obtain rfl:=wX e2;obtain⟨En,c,q1,q2,q3⟩:=r.marr hg hL;obtain⟨ents,hE,hmap⟩:=Gl h2 q2;refine cO.ofU ?_;rcases GC hkt (.A (X4 I es)) 0 hmap with⟨a,hf⟩|⟨e,row,a1,a2,a3,hf,a5,a6⟩
   have hhas:dB I (ff ks' l es)=false:=by rw[tv,a];simp
   obtain⟨v',hv',hrun⟩:=jL hko rk' hE hf;subst hv';obtain⟨p1,p2⟩:=r.set1 b _ (.marr d ks' vs' (Fw ks' l es xs)) L (.map (En.push ⟨ρ k,ρ x,c⟩) (c+1)) hg hL hwm
    ⟨_,_,rfl,by rw[G0,s6,q2,cU7 hhas,s6];simp_all,by rw[G0];exact q3.push _ _⟩
   refine⟨_,?_,p1,p2⟩;simp[em,Instr.mapUpdate,Sem.run_bind,W8 ht,Result.andThen_ok,Y6 q1,jz hko rk',hrun,kv _ q1]
   have hhas:dB I (ff ks' l es)=true:=by rw[tv];(intros;simp_all)
   obtain⟨v',hv',hrun⟩:=jL hko rk' hE hf;obtain⟨k2,v2,e1,e2,e3,e4,e5⟩:=hv';subst e1;rw[n9]at e2 e3;have he3:En[(dL I l).findIdx (λr=>eF ks' r (.A (X4 I es)))]? =some ⟨k2,v2,e.born⟩:=by simpa using e3
   have hk2:k2=ρ k:=by rw[a5]at e4;obtain⟨ys,ey,ry⟩:=e4;have:=Lz row ks' 0 ry;rw[Tu ks' 0 a3,<-hkc]at this;rw[ey,ek,I5.1 this]
   have hsb:Instr.sameBits 10000 (ρ k) (ρ k)=true:=by rw[ek];show(kx.size==kx.size&&(kx.toList.zip kx.toList).all λ(x,y)=>Instr.sameBits 9999 x y)=true;rw[hkc,QZ];simp
   have hst: ∀w,(Instr.keyThatStays k2 (ρ k)).run E.P w= .ok (ρ k) w:=λw=>by simp[Instr.keyThatStays,hk2,hsb]
   obtain⟨p1,p2⟩:=r.set1 b _ (.marr d ks' vs' (Fw ks' l es xs)) L (.map (En.modify ((dL I l).findIdx (λr=>eF ks' r (.A (X4 I es)))) λx'=>{x' with key:=ρ k,val:=ρ x}) c) hg hL hwm
    ⟨_,_,rfl,by rw[E8,cU6 hhas,O1,hent,<-q2];rw[UC e3,O1],by rw[E8];exact q3.modify _ _ (λ_=>rfl)⟩
   refine⟨_,?_,p1,p2⟩;simp[em,Instr.mapUpdate,Sem.run_bind,W8 ht,Result.andThen_ok,Y6 q1,jz hko rk',hrun,n9,he3,Option.map_some,Option.getD_some,hst,kv _ q1]
  .rename_i c hg;obtain⟨En,q1,q2⟩:=r.map hg hL;have hE:En= #[]:=by
    have:En.toList=[]:=by generalize En.toList=z at q2;cases q2;rfl
    (intros;simp_all)
   subst hE;refine cO.ofU ?_;have hf:kL E.P kt (.agg (fS (.A (X4 I es)) ks 0)) [] 0=some none:=rfl;obtain⟨v',hv',hrun⟩:=jL (O:=O) (I:=I) hko rk' (es:=[]) (m:=[]) .nil hf;subst hv';obtain⟨p1,p2⟩:=r.set1 b _ (.marr (Nat.beq c 0) ks vs (.O .row [.O .row (es++xs)])) L (.map (#[].push ⟨ρ k,ρ x,c⟩) (c+1)) hg hL hwm
    ⟨_,_,rfl,by show [(ρ k,ρ x)]=[ld ks vs (.A (X4 I (es++xs)))];rw[hent],fx.push (E:=[]) (fx.nil c) _ _⟩
   refine⟨_,?_,p1,p2⟩;simp[em,Instr.mapUpdate,Sem.run_bind,W8 ht,Result.andThen_ok,Y6 q1,jz hko rk',hrun,kv _ q1]
  trivial
 .trivial
 trivial;trivial;trivial;trivial;trivial;trivial
variable{c:Nat}
variable{E:Env}{O:cj}{I:Opq}{K:wW}{w0 w:Ac}{h h':Heap}{af:An->EX}{ρ:An->Zl}
def cU8{ks:wD}{l:SX}{es zs:GF}(h:dB I (ff ks l es)=true):dL I (Fe ks l es zs)=dL I l:=by show(bZ I (.O .J _)).L=_;rw[kN,h];rfl
def cU9{ks:wD}{l:SX}{es zs:GF}(h:dB I (ff ks l es)=false):dL I (Fe ks l es zs)=dL I l++[.A (X4 I (es++zs))]:=by show(bZ I (.O .J _)).L=_;rw[kN,h];rfl
def fx.len{E:aaC}(h:fx true E c):E.length=c:=by have:=congrArg List.length (h.2.2 rfl);grind
def fx.at{E:aaC}{i:Nat}{e:MapEntry}(h:fx true E c)(he:E[i]? =some e):e.born=i:=by
 have h1:(E.map (·.born))[i]? =some e.born:=by rw[B9,he];rfl
 rw[h.2.2 rfl]at h1;grind
def cV0{α:Type}{l:List α}{i:Nat}{e:α}(h:l[i]? =some e):l.set i e=l:=by
 refine K4 λj=> ?_
 grind
def ca5(r:HR O I K w0 h w)(o:dW O I af ρ)(t:zX)(m k:An):cN E O I K w0 w h (do pure (.value (<-Instr.mapEntry t (ρ m) (ρ k)))) (Sk E.P t h (af m) (af k)):=by
 unfold Sk;split;rename_i kt et ht;split;rename_i b hm;split;rename_i cs hk;split;rename_i zk z hzk hz;split;rename_i ks vs hks hvs;have rm:=o m _ hm;have rk:=o k _ hk;simp only[VR]at rm;obtain⟨L,hL,em⟩:=rm;have rk0:=rk;obtain⟨kx,ek,rkx⟩:=rk;unfold WJ;split
 rename_i es zs hes hzs;cases hc:(qZ E.P kt ks&&Nat.ble 2 ks.length&&oW vs z&&Nat.ble h.wm b)with
 |false=>trivial
 |true=>
  obtain⟨hc,hwm⟩:=W4 hc;obtain⟨hc,hsh⟩:=W4 hc;obtain⟨hkt,h2⟩:=W4 hc;rw[X6]at h2 hwm;simp only[cond_true];obtain⟨zv,z1,z2⟩:=xD hz;have hkx:=mH hes rkx;have hvx:=mH hzs ((z1 O I).cells (JB hsh));have l1:=nC hes;have l2:=nC hzs;have hent:=Vh (I:=I) l1 l2 hkx hvx;have hkey:iw kx.toList=ρ k:=by rw[ek,EC (by rw[hkx,jY,qx];exact h2)]
  have hval:iw zv.cells.toList=zv:=SL hsh (z1 O I) rfl (by rw[hvx,jY,qx]);rw[hkey,hval]at hent;have hkc:kx.toList=eS (.A (X4 I es)) ks 0:=by rw[hkx,jY]
  have rk':VR O I (.agg (fS (.A (X4 I es)) ks 0)) (ρ k):=⟨kx,ek,by rw[hkc];exact xh _ _ _⟩;have hko:=JO hkt (.A (X4 I es));split
  rename_i ks' vs' l hg;cases hq:(fp ks' ks&&fp vs' vs)with
  |false=>trivial
  |true=>
   obtain⟨e1,e2⟩:=W4 hq;obtain rfl:=wX e1;obtain rfl:=wX e2;simp only[cond_true];obtain⟨En,c,q1,q2,q3⟩:=r.marr hg hL;obtain⟨ents,hE,hmap⟩:=Gl h2 q2;have hlen:En.toList.length=(dL I l).length:=by have:=congrArg List.length q2;simpa using this
   rcases GC hkt (.A (X4 I es)) 0 hmap with⟨a,hf⟩|⟨e,row,a1,a2,a3,hf,a5,a6⟩
   have hhas:dB I (ff ks' l es)=false:=by rw[tv,a];simp
   obtain⟨v',hv',hrun⟩:=jL hko rk' hE hf;simp only[FR]at hv';subst hv';have hvr:VR O I (jo (jM ks' l es vs' ks'.length zs)) zv:=by have:=xJ (QK (O:=O) hhas vs' ks'.length 0 zs (.A (X4 I zs)) (nC hzs) (λt ht=>by rw[n9];exact NA I zs t ht));rw[jY]at hvx;rw[<-hvx]at this;rw[RY hsh (z1 O I) (by rw[hvx,qx])]at this;exact this
   obtain⟨p1,p2⟩:=r.set1 b _ (.marr true ks' vs' (Fe ks' l es zs)) L (.map (En.push ⟨ρ k,zv,c⟩) (c+1)) hg hL hwm
    ⟨_,_,rfl,by rw[G0,s6,q2,cU9 hhas,s6];simp only[m8,I7,hent],by rw[G0];exact q3.push _ _⟩
   refine cO.of ⟨O,.tuple #[zv,goInt c],_,?_,⟨_,rfl,.cons hvr (.one ?_)⟩,p1,p2⟩;simp only[em,Instr.mapEntry,Sem.run_bind,W8 ht,Result.andThen_ok,Y6 q1,jz hko rk',hrun,kv _ q1,z2,Sem.run_pure];show goInt (c:Int)= .int .i64 (dI I (jB ks' l es));rw[De,a,<-hlen,q3.len];rfl
   have hhas:dB I (ff ks' l es)=true:=by rw[tv];exact j0 a1
   obtain⟨v',hv',hrun⟩:=jL hko rk' hE hf;obtain⟨k2,v2,e1,e2,e3,e4,e5⟩:=hv';subst e1;rw[n9]at e2 e3;rw[a6]at e5;have hv2:=cq9 row vs' ks'.length e5;have hvr:VR O I (jo (jM ks' l es vs' ks'.length zs)) v2:=by rw[hv2];exact xJ (Qi hhas a2 vs' ks'.length zs (nC hzs))
   have he3:En[(dL I l).findIdx (λr=>eF ks' r (.A (X4 I es)))]? =some ⟨k2,v2,e.born⟩:=by simpa using e3
   have hk2:k2=ρ k:=by rw[a5]at e4;obtain⟨ys,ey,ry⟩:=e4;have:=Lz row ks' 0 ry;rw[Tu ks' 0 a3,<-hkc]at this;rw[ey,ek,I5.1 this]
   have hsb:Instr.sameBits 10000 (ρ k) (ρ k)=true:=by rw[ek];show(kx.size==kx.size&&(kx.toList.zip kx.toList).all λ(x,y)=>Instr.sameBits 9999 x y)=true;rw[hkc,QZ];simp
   have hst: ∀w,(Instr.keyThatStays k2 (ρ k)).run E.P w= .ok (ρ k) w:=λw=>by simp[Instr.keyThatStays,hk2,hsb]
   have hmod:(En.modify ((dL I l).findIdx (λr=>eF ks' r (.A (X4 I es)))) λx'=>{x' with key:=ρ k}).toList=En.toList:=by rw[E8,UC e3];refine(congrArg (λz=>List.set En.toList _ z) ?_).trans (cV0 e3);rw[hk2]
   obtain⟨p1,p2⟩:=r.set1 b _ (.marr true ks' vs' (Fe ks' l es zs)) L (.map (En.modify ((dL I l).findIdx (λr=>eF ks' r (.A (X4 I es)))) λx'=>{x' with key:=ρ k}) c) hg hL hwm
    ⟨_,_,rfl,by rw[hmod,cU8 hhas];exact q2,by rw[hmod];exact q3⟩
   have hb:=q3.at e3;refine cO.of ⟨O,.tuple #[v2,goInt (e.born:Int)],_,?_,⟨_,rfl,.cons hvr (.one ?_)⟩,p1,p2⟩;simp only[em,Instr.mapEntry,Sem.run_bind,W8 ht,Result.andThen_ok,Y6 q1,jz hko rk',hrun,n9,he3,Option.map_some,Option.getD_some,hst,kv _ q1,Sem.run_pure];show goInt (e.born:Int)= .int .i64 (dI I (jB ks' l es));rw[De,show e.born=_ from hb];rfl
  .rename_i hg;obtain⟨En,q1,q2⟩:=r.map hg hL;have hE:En= #[]:=by
    have:En.toList=[]:=by generalize En.toList=z at q2;cases q2;rfl
    exact I5.1 this
   subst hE;have hf:kL E.P kt (.agg (fS (.A (X4 I es)) ks 0)) [] 0=some none:=rfl;obtain⟨v',hv',hrun⟩:=jL (O:=O) (I:=I) hko rk' (es:=[]) (m:=[]) .nil hf;simp only[FR]at hv';subst hv';obtain⟨p1,p2⟩:=r.set1 b _ (.marr true ks vs (.O .row [.O .row (es++zs)])) L (.map (#[].push ⟨ρ k,zv,0⟩) (0+1)) hg hL hwm
    ⟨_,_,rfl,by show [(ρ k,zv)]=[ld ks vs (.A (X4 I (es++zs)))];rw[hent],fx.push (E:=[]) (fx.nil 0) _ _⟩
   refine cO.of ⟨O,.tuple #[zv,goInt (0:Nat)],_,?_,⟨_,rfl,.cons (z1 O I) (.one rfl)⟩,p1,p2⟩;simp only[em,Instr.mapEntry,Sem.run_bind,W8 ht,Result.andThen_ok,Y6 q1,jz hko rk',hrun,kv _ q1,z2,Sem.run_pure]
  trivial
 .trivial
 trivial;trivial;trivial;trivial;trivial
def cV1{a:AV}{e:SX}{v:Zl}(h:QY a=some e)(r:VR O I a v):v= .int .i64 (dI I e):=by unfold QY at h;split at h;cases h;exact r;cases h;exact r;cases h
def cr1{E:aaC}{i:Nat}(h:fx true E c)(hi:i<E.length):E.findIdx? (λx=>(x.born:Int)==(i:Int))=some i:=by
 rw[List.findIdx?_eq_some_iff_getElem];have hb: ∀(j:Nat) (hj:j<E.length),E[j].born=j:=λj hj=>h.at (m7 hj)
 grind
def bU8{l e:SX}{row:Val}(hr:(dL I l).getD (dI I e).toNat (.A [])=row): ∀(n j t:Nat),t<n->(X4 I (gz l e j n)).getD t default=row.L.getD (j+t) default
 |0,_,_,h=>by omega
 |n+1,j,0,_=>by show Y3 (dL I l) (dI I e) (j:Int)=_;grind[Y3]
 |n+1,j,t+1,h=>by have:=bU8 hr n (j+1) t (by omega);rw[show j+1+t=j+(t+1) by omega]at this;exact this
def bU9{l e:SX}: ∀(n j:Nat),(gz l e j n).length=n
 |0,_=>rfl
 |n+1,j=>by simp[gz,bU9 n]
def cr2(r:HR O I K w0 h w)(o:dW O I af ρ)(t:zX)(m s x:An):cN E O I K w0 w h (do Instr.entryStore t (ρ m) (ρ s) (ρ x);pure .skip) (Qa h (af m) (af s) (af x)):=by
 unfold Qa;split;rename_i b sv xv hm hs hx;have rm:=o m _ hm;have rs:=o s _ hs;have rx:=o x _ hx;simp only[VR]at rm;obtain⟨L,hL,em⟩:=rm;unfold ck4;split;rename_i ks vs l e hg he;have hsv:=cV1 he rs;split
 rename_i xs hxs;cases hc:(oW vs xv&&Nat.ble h.wm b)with
 |false=>trivial
 |true=>
  obtain⟨hsh,hwm⟩:=W4 hc;rw[X6]at hwm;intro hd;obtain⟨i0,i1⟩:=Ab hd;have i1:dI I e<((dL I l).length:Int):=i1;obtain⟨En,c,q1,q2,q3⟩:=r.marr hg hL;have hlen:En.toList.length=(dL I l).length:=by have:=congrArg List.length q2;simpa using this
  generalize hi:(dI I e).toNat=i at*
  have hie:dI I e=(i:Int):=by omega
  have hlt:i<En.toList.length:=by omega
  obtain⟨ent,hent0⟩: ∃ent,En.toList[i]? =some ent:=⟨_,m7 hlt⟩;have hrow: ∃row,(dL I l)[i]? =some row:=⟨_,m7 (by omega)⟩;obtain⟨row,hrow⟩:=hrow;have hkv:(ent.key,ent.val)=ld ks vs row:=by
   have h1:(En.toList.map λe=>(e.key,e.val))[i]? =some (ent.key,ent.val):=by rw[B9,hent0];rfl
   rw[q2,B9,hrow]at h1;exact(O2 h1).symm
  have hvx:=mH hxs (rx.cells (JB hsh));have l2:=nC hxs;have hval:iw (ρ x).cells.toList=ρ x:=SL hsh rx rfl (by rw[hvx,jY,qx]);have iT:ld ks vs (.A (X4 I (gz l e 0 ks.length++xs)))=(ent.key,ρ x):=by rw[Vh (I:=I) (bU9 _ _) l2 rfl hvx,hval];rw[Sr]at hkv;refine congrArg (λz=>(z,ρ x)) ?_;rw[show ent.key=iw (eS row ks 0)from congrArg Prod.fst hkv,jY];refine congrArg iw (MT ks 0 0 λt ht=> ?_);rw[n9];have:=bU8 (I:=I) (l:=l) (e:=e) (row:=row) (by rw[hi,k5,hrow];rfl) ks.length 0 t ht;rw[n9]at this;exact this
  refine cO.ofU ?_;obtain⟨p1,p2⟩:=r.set1 b _ (.marr true ks vs (.O .lset [l,e,.O .row (gz l e 0 ks.length++xs)])) L (.map (En.modify i λx'=>{x' with val:=ρ x}) c) hg hL hwm
   ⟨_,_,rfl,by rw[E8,UC hent0,O1,q2];show _=(((dL I l).set (dI I e).toNat (.A (X4 I (gz l e 0 ks.length++xs)))).map (ld ks vs));rw[O1,iT,hi],by rw[E8];exact q3.modify _ _ (λ_=>rfl)⟩
  refine⟨_,?_,p1,p2⟩;have hfind:En.findIdx? (λx=>(x.born:Int)==(i:Int))=some i:=by have:= @U6 _ (λx:MapEntry=>(x.born:Int)==(i:Int)) En.toList;simp only[Array.toArray_toList]at this;rw[this];exact cr1 q3 hlt
  rw[hsv,hie];simp only[em,Instr.entryStore,Sem.run_bind,Y6 q1,Result.andThen_ok,asInt,asIntOf,Sem.run_pure,hfind,kv _ q1]
 .trivial
 trivial;trivial
def fx.erase{d:Bool}{E:aaC}(h:fx d E c)(i:Nat):fx false (E.eraseIdx i) c:=by have hs:=U9 E i;exact⟨h.1.sublist (hs.map _),λe he=>h.2.1 e (hs.subset he),λhh=>by cases hh⟩
def XG{α γ:Type}(f:α->γ): ∀(l:List α) (i:Nat),(l.eraseIdx i).map f=(l.map f).eraseIdx i
 | [],_=>rfl
 |_::_,0=>rfl
 |a::l,i+1=>by simp[List.eraseIdx,XG f l i]
def do5{ts:Array zX}{ty:zX}{m k:AV}{vm vk:Zl}(r:HR O I K w0 h w)(rm:VR O I m vm)(rk:VR O I k vk):Cy E.P O I K w0 w h (Builtin.delete_ ts ty #[vm,vk]) (Ue E.P ((ts[0]?).bind E.P.underlying) h m k):=by
 unfold Ue;split;rename_i kt et ht;simp[o8]at ht;obtain⟨t,h0,ht⟩:=ht;split;rename_i b;split;obtain⟨L,hL,rfl⟩:=rm;obtain⟨kx,rfl,rkx⟩:=rk;unfold dG9;split;rename_i d ks vs l hg;split
 rename_i es hes;cases hc:(qZ E.P kt ks&&Nat.ble 2 ks.length&&Nat.ble h.wm b)with
 |false=>trivial
 |true=>
  obtain⟨hc,hwm⟩:=W4 hc;obtain⟨hkt,h2⟩:=W4 hc;rw[X6]at h2 hwm;intro _;obtain⟨En,c,q1,q2,q3⟩:=r.marr hg hL;obtain⟨ents,hE,hmap⟩:=Gl h2 q2;have hkx:=mH hes rkx;have hkc:kx.toList=eS (.A (X4 I es)) ks 0:=by rw[hkx,jY]
  have rk':VR O I (.agg (fS (.A (X4 I es)) ks 0)) (.agg kx):=⟨kx,rfl,by grind[xh]⟩;have hko:=JO hkt (.A (X4 I es));have hden:dL I (.O (.mdel ks) [l,.O .row es])=(dL I l).eraseIdx ((dL I l).findIdx λr=>eF ks r (.A (X4 I es))):=rfl;rcases GC hkt (.A (X4 I es)) 0 hmap with⟨a,hf⟩|⟨e,row,a1,a2,a3,hf,a5,a6⟩
  obtain⟨v',hv',hrun⟩:=jL hko rk' hE hf;subst hv';obtain⟨p1,p2⟩:=r.set1 b _ (.marr false ks vs (.O (.mdel ks) [l,.O .row es])) L (.map En c) hg hL hwm
   ⟨_,_,rfl,by simp_all[List.eraseIdx_of_length_le,j6],q3.weak rfl⟩
  refine⟨O,_,_,?_,⟨_,rfl,rfl⟩,p1,p2⟩;simp[Builtin.delete_,h0,W8 ht,Y6 q1,jz hko rk',hrun,kv _ q1]
  obtain⟨v',hv',hrun⟩:=jL hko rk' hE hf;obtain⟨k2,v2,e1,e2,e3,e4,e5⟩:=hv';subst e1;have hi:(dL I l).findIdx (λr=>eF ks r (.A (X4 I es)))<En.size:=by grind
  obtain⟨p1,p2⟩:=r.set1 b _ (.marr false ks vs (.O (.mdel ks) [l,.O .row es])) L (.map (En.eraseIdxIfInBounds ((dL I l).findIdx λr=>eF ks r (.A (X4 I es)))) c) hg hL hwm
   ⟨_,_,rfl,by simp_all[Array.eraseIdxIfInBounds,dif_pos,R1,XG],by rw[Array.eraseIdxIfInBounds,dif_pos hi,R1];exact q3.erase _⟩
  refine⟨O,_,_,?_,⟨_,rfl,rfl⟩,p1,p2⟩;simp[Builtin.delete_,h0,W8 ht,Y6 q1,jz hko rk',hrun,kv _ q1]
 .trivial
 trivial;trivial;trivial;trivial
variable{n:Nat}{ts:Array zX}{vx:Zl}{ty:zX}{sig:wD}{cs:zw}
variable{E:Env}{O:cj}{I:Opq}{K:wW}{w0 w:Ac}{h:Heap}{af:An->EX}{ρ:An->Zl}
def Yi(sig:wD)(r:Val): ∀(l:U7) (k:Nat),k<l.length->Y2 sig (l.set k r)=(Y2 sig l).take (k*sig.length)++(dD sig r++(Y2 sig l).drop (k*sig.length+sig.length))
 | [],k,h=>by simp at h
 |a::l,0,h=>by
  have e:Y2 sig (a::l)=dD sig a++Y2 sig l:=by simp[Y2]
  have e2:Y2 sig ((a::l).set 0 r)=dD sig r++Y2 sig l:=by simp[Y2]
  simp_all[lV,K1,List.take_zero,List.nil_append,n9,List.drop_append_of_le_length,O3]
 |a::l,k+1,h=>by
  have e:Y2 sig (a::l)=dD sig a++Y2 sig l:=by simp[Y2]
  have e2:Y2 sig ((a::l).set (k+1) r)=dD sig a++Y2 sig (l.set k r):=by simp[Y2]
  have hl:=lV sig a;have ih:=Yi sig r l k (by simpa using h);have t1:(dD sig a++Y2 sig l).take (k*sig.length+sig.length)=dD sig a++(Y2 sig l).take (k*sig.length):=by (intros;grind)
  have t2:(dD sig a++Y2 sig l).drop (k*sig.length+sig.length+sig.length)=(Y2 sig l).drop (k*sig.length+sig.length):=by rw[show k*sig.length+sig.length+sig.length=(dD sig a).length+(k*sig.length+sig.length) by omega,List.drop_length_add_append]
  simp_all[x9,F9,A0]
def cV2{old:Val}{c0 es c1:U7}{j:Nat}(hj:j+n<=sig.length)(h0:c0=(List.range' 0 j).map λt=>old.L.getD t default)(hn:es.length=n)(h1:c1=(List.range' (j+n) (sig.length-(j+n))).map λt=>old.L.getD t default):
 dD sig (.A (c0++(es++c1)))=(dD sig old).take j++(dD ((sig.drop j).take n) (.A es)++(dD sig old).drop (j+n)):=by
 have l0:c0.length=j:=by rw[h0];simp
 apply K4;intro i;have hsub:((sig.drop j).take n).length=n:=by simp;omega
 have hold:=lV sig old;rcases k8 i sig.length with hi|hi
 rw[Cn hi];show some (gg _ ((c0++(es++c1)).getD i default))=_;rcases k8 i j with q|q
 rw[y5 (by rw[n8];omega),C5,i6 q,Cn hi]
 (intros;grind)
 rcases k8 i (j+n)with q2|q2
 .rw[s9 (by(intros;grind)),n8,C0 (by omega)];rw[y5 (by rw[lV,hsub];omega),Cn (by omega)];congr 2
  ·(intros;grind)
  show _=es.getD (i-j) default
  (intros;grind)
 rw[s9 (by rw[n8];omega),n8,C0 (by omega)];rw[s9 (by rw[lV,hsub];omega),lV,hsub,D6,show j+n+(i-j-n)=i by omega,Cn hi]
 (intros;grind);grind[List.getElem?_eq_none,lV,List.length_append,List.length_take,List.length_drop]
theorem bv0(I:Opq): ∀a b:GF,X4 I (a++b)=X4 I a++X4 I b
 | [],b=>rfl
 |x::a,b=>by simp[List.cons_append,X4,bv0 I a b]
theorem Wj(l idx:SX): ∀n j,X4 I (gz l idx j n)=(List.range' j n).map λ(t:Nat)=>Y3 (dL I l) (dI I idx) (t:Int)
 |0,j=>rfl
 |n+1,j=>by simp[gz,X4,Wj l idx n (j+1),F8,m8];rfl
def ca6{c:CT}{v:AV}{e:SX}(h:EP c v=some e):v.one=true:=by
 unfold EP at h;split at h;split at h
 rename_i k' e' hs;unfold jm at hs;split at hs<;>first|rfl|cases hs
 cases h
 unfold mu at h;split at h<;>first|rfl|cases h
 unfold lu at h;split at h<;>first|rfl|cases h
def Wg: ∀{sig:wD} {vs:zw} {es:GF},gy sig vs=some es->vs.all AV.one=true/\es.length=vs.length
 | [],[],es,h=>by simp[gy,j5]at h;(intros;simp_all)
 | [],_::_,es,h=>by cases h
 |_::_,[],es,h=>by cases h
 |c::cs,v::vs,es,h=>by simp[gy]at h;split at h;rename_i e es' h1 h2;simp at h;subst h;obtain⟨a,b⟩:=Wg h2;simp only[List.all_cons,j8,List.length_cons];exact⟨⟨ca6 h1,a⟩,by rw[b]⟩;cases h
theorem bV0(I:Opq): ∀l:GF,(X4 I l).length=l.length
 | []=>rfl
 |a::r=>by simp[X4,List.length_cons,bV0 I r]
def aO3{vs:List Zl}(hd: ∀(O:cj) us,co O I cs us->us=vs)(h0: ∀O:cj,co O I cs vs){O:cj}{us:List Zl}(hu:co O I (cs.take n) us):us=vs.take n:=by
 have h1:=hu.append ((h0 O).drop n);rw[y8]at h1;have h2:=hd O _ h1;have hl:=hu.length;have hv:=(h0 O).length;rw[<-h2];rw[n8]at hl;rcases Nat.le_total n cs.length with q|q
 ·(intros;grind)
 have:vs.drop n=[]:=O3 (by omega);rw[this,x5,K6 (by omega)]
def aO4{vs:List Zl}(hd: ∀(O:cj) us,co O I cs us->us=vs)(h0: ∀O:cj,co O I cs vs){O:cj}{us:List Zl}(hu:co O I (cs.drop n) us):us=vs.drop n:=by
 have h1:=((h0 O).take n).append hu;rw[y8]at h1;have hv:=(h0 O).length;rcases Nat.le_total n cs.length with q|q
 grind;have hul:=hu.length;grind
def cr3(hfx: ∀t,I.fix t=fj E.P t)(r:HR O I K w0 h w)(o:dW O I af ρ)(t:zX)(x y:An):cN E O I K w0 w h (do Instr.storeAt t (ρ x) (ρ y);pure .skip) (PK E.P t h (af x) (af y)):=by
 unfold PK;split;rename_i b idx j sz v n hx hy hn;unfold ck7;split
 rename_i el sig l hg;cases hc:(Nat.beq sig.length sz&&Nat.ble (j+n) sz&&v.nt&&Nat.beq v.cells.length n&&Nat.ble h.wm b&&Nat.blt 0 n&& !(fj E.P el)&& !(Nat.beq el iU))with
 |false=>trivial
 |true=>
  obtain⟨hc,c8⟩:=W4 hc;have hne:el≠iU:=λe=>by simp_all
  obtain⟨hc,c7⟩:=W4 hc;have hnf:I.fix el=false:=by grind
  obtain⟨hc,c6⟩:=W4 hc;obtain⟨hc,c5⟩:=W4 hc;obtain⟨hc,c4⟩:=W4 hc;obtain⟨hc,c3⟩:=W4 hc;obtain⟨c1,c2⟩:=W4 hc;obtain rfl:=X0.1 c1;rw[X0]at c4;rw[X6]at c2 c5;rw[Y8]at c6;simp only[cond_true];unfold ck6;split
  rename_i es hes;intro hd;obtain⟨d1,d2⟩:=Ab hd;rw[kc]at d2;have hk:(dI I idx).toNat<(dL I l).length:=by omega
  have hvx:=o x _ hx;have hvy:=o y _ hy;simp only[VR]at hvx;obtain⟨L,hL,hvx⟩:=hvx;have hb65:=Heap.get_lim h b _ hg;have eK: ∀(hh:Heap) (x:lW) (z:Nat),(hh.put b x).get z=if z=b then(if b<65536 then x else none)else hh.get z:=λhh x z=>Heap.get_put _ _ _ _
  obtain⟨ocs,m1,m2,m3,m4⟩:=JL I sig (dL I l);have m3':ocs.length=(dL I l).length*sig.length:=by rw[m3,iR]
  have r2:HR O I K w0 (h.put b (some (.cells el 0 ocs))) w:=by refine HR.retell (y:= .cells el 0 ocs) r hg (.inl c5) ?_ rfl rfl (λz=>by(intros;grind));intro L' hL' hbr;obtain⟨C,e',lo,hi,z1,z0,z2,z3,z4,z5⟩:=hbr;rw[z0.resolve_right hne]at z1;refine⟨C,lo,hi,Y2 sig (dL I l),z1,z2,by(intros;simp_all),qi m2,m1 O,λk hk=> ?_,λk _ hk=>z5 k hk,λhh=>by(intros;simp_all)⟩;grind
  have hg2:(h.put b (some (.cells el 0 ocs))).get b=some (.cells el 0 ocs):=by grind
  obtain⟨hone,helen⟩:=Wg hes;have hkk:(dI I idx).toNat*sig.length+sig.length<=(dL I l).length*sig.length:=by have:=B2 sig.length (show(dI I idx).toNat+1<=(dL I l).length from hk);grind
  have hst:Fz E.P t (.ptr b ((dI I idx).toNat*sig.length+j)) v (h.put b (some (.cells el 0 ocs)))=some ((h.put b (some (.cells el 0 ocs))).put b (some (.cells el 0 (jy ocs ((dI I idx).toNat*sig.length+j) v.cells)))):=by
   simp[Fz,hn,c3,c4,I2,show Nat.beq n n=true from X0.2 rfl,cond_true];cases hcs:v.cells with
   |nil=>grind
   |cons a as=>
    simp only[putCells,hcs];rw[<-hcs,hg2];simp;rw[show(Nat.ble h.wm b&&Nat.ble 0 ((dI I idx).toNat*sig.length+j)&&Nat.ble ((dI I idx).toNat*sig.length+j+v.cells.length) ocs.length&&v.cells.all AV.one)=true by (simp_all;omega)];rfl
  obtain⟨w',e1,e2,e3⟩:=bs7 (P:=E.P) r2 hst (vx:=ρ x) (vv:=ρ y) ⟨L,hL,by grind⟩ hvy;have hrow:=mH hes (VR.cells hvy c3);have iT:dL I (.O .lset [l,idx,.O .row (gz l idx 0 j++(es++gz l idx (j+n) (sig.length-(j+n))))])=(dL I l).set (dI I idx).toNat (.A (X4 I (gz l idx 0 j)++(X4 I es++X4 I (gz l idx (j+n) (sig.length-(j+n)))))):=by show(dL I l).set (dI I idx).toNat (.A (X4 I _))=_;grind[bv0]
  have hgv: ∀c:Nat,Y3 (dL I l) (dI I idx) c=((dL I l).getD (dI I idx).toNat (.A [])).L.getD c default:=λc=>by rfl
  have hmix:=cV2 (sig:=sig) (old:=(dL I l).getD (dI I idx).toNat (.A [])) (c0:=X4 I (gz l idx 0 j)) (es:=X4 I es) (c1:=X4 I (gz l idx (j+n) (sig.length-(j+n)))) (j:=j) (n:=n) c2
   (by grind[Wj,List.map_congr_left]) (by grind[bV0]) (by grind[Wj,List.map_congr_left])
  have hflat:Y2 sig (dL I (.O .lset [l,idx,.O .row (gz l idx 0 j++(es++gz l idx (j+n) (sig.length-(j+n))))]))=
   (Y2 sig (dL I l)).take ((dI I idx).toNat*sig.length+j)++((ρ y).cells.toList++(Y2 sig (dL I l)).drop ((dI I idx).toNat*sig.length+j+n)):=by
   rw[iT,Yi sig _ _ _ hk,hmix,<-hrow];have hfl:=iR sig (dL I l);have hold:dD sig ((dL I l).getD (dI I idx).toNat (.A []))=((Y2 sig (dL I l)).drop ((dI I idx).toNat*sig.length)).take sig.length:=by
    apply K4;intro c;rcases k8 c sig.length with q|q
    rw[Cn q,C5,i6 q,D6,EH q hk];simp_all[v8,lV,C5,b9]
   rw[hold];generalize Y2 sig (dL I l)=F at hfl⊢;generalize (dI I idx).toNat*sig.length=q at hkk⊢;rw[<-hfl]at hkk;apply K4;intro c;have hcl:(ρ y).cells.toList.length=n:=by rw[<-c4];exact(VR.cells hvy c3).length
   rcases k8 c q with q1|q1
   rw[y5 (by rw[n8];omega),y5 (by rw[n8];omega),C5,i6 q1,C5,i6 (by omega)]
   rw[s9 (by grind),n8,C0 (by omega)];rcases k8 c (q+j)with q2|q2
   rw[y5 (by grind),y5 (by grind),C5,i6 (by omega),C5,i6 (by omega),D6,show q+(c-q)=c by omega,
    y5 (by grind),C5,i6 q2]
   rw[s9 (l₁:=F.take (q+j)) (by grind),n8,C0 (by omega)];rcases k8 c (q+j+n)with q3|q3
   rw[y5 (by simp_all;omega),s9 (by simp;omega),y5 (by simp_all;omega),
    y5 (by omega)]
   (intros;grind)
   rcases k8 c (q+sig.length)with q4|q4
   rw[y5 (by simp_all;omega),s9 (by simp;omega),s9 (by simp_all;omega),
    s9 (by omega),D6,C5,D6,D6,i6 (by simp_all;omega)]
   grind;rw[s9 (by simp_all;omega),s9 (l₁:=(ρ y).cells.toList) (by omega),D6,D6]
   (simp_all;grind)
  refine⟨O,Go.undef,w',.inr ⟨rfl,by simp_all⟩,⟨#[],rfl,rfl⟩,?_,?_⟩;refine HR.retell (y:= .A el sig (.O .lset [l,idx,.O .row (gz l idx 0 j++(es++gz l idx (j+n) (sig.length-(j+n))))])) e2 (b:=b) (x:= .cells el 0 (jy ocs ((dI I idx).toNat*sig.length+j) v.cells)) (by(intros;simp_all)) (.inr rfl) ?_ rfl rfl (λz=> ?_)
  intro L' hL' hbr;obtain⟨C,lo,hi,vs,q1,q2,q3,q4,q5,q6,q7,q8⟩:=hbr;have hvs:vs=Y2 sig (dL I (.O .lset [l,idx,.O .row (gz l idx 0 j++(es++gz l idx (j+n) (sig.length-(j+n))))])):=by
   rw[hflat];unfold jy at q5;have hdet: ∀(O:cj) us,co O I v.cells us->us=(ρ y).cells.toList:=λO us hu=>(mH hes hu).trans hrow.symm
   have hdet1: ∀(O:cj) us,co O I (ocs.take ((dI I idx).toNat*sig.length+j)) us->us=(Y2 sig (dL I l)).take ((dI I idx).toNat*sig.length+j):=λO us hu=>aO3 m4 m1 hu
   have hdet2: ∀(O:cj) us,co O I (ocs.drop ((dI I idx).toNat*sig.length+j+v.cells.length)) us->us=(Y2 sig (dL I l)).drop ((dI I idx).toNat*sig.length+j+v.cells.length):=λO us hu=>aO4 m4 m1 hu
   have t1:=q5.take (ocs.take ((dI I idx).toNat*sig.length+j)++v.cells).length;have t2:=q5.drop (ocs.take ((dI I idx).toNat*sig.length+j)++v.cells).length;rw[G1]at t1;rw[G2]at t2;have t3:=t1.take (ocs.take ((dI I idx).toNat*sig.length+j)).length;have t4:=t1.drop (ocs.take ((dI I idx).toNat*sig.length+j)).length;rw[G1]at t3;rw[G2]at t4;rw[<-y8 (ocs.take ((dI I idx).toNat*sig.length+j)++v.cells).length vs,hdet2 _ _ t2,c4];rw[<-y8 (ocs.take ((dI I idx).toNat*sig.length+j)).length (vs.take (ocs.take ((dI I idx).toNat*sig.length+j)++v.cells).length),hdet1 _ _ t3,hdet _ _ t4,A0]
  subst hvs;have hll:(jy ocs ((dI I idx).toNat*sig.length+j) v.cells).length=(dL I l).length*sig.length:=by rw[<-q5.length,iR,iT,C6]
  refine⟨C,_,lo,hi,q1,.inl rfl,q2,by(intros;simp_all),λi v2 hi'=> ?_,λi hi'=>q7 i (s8 _) hi'⟩;rw[q6 i (by
   rcases k8 i (jy ocs ((dI I idx).toNat*sig.length+j) v.cells).length with hh|hh
   exact hh
   rw[v8 (by rw[q5.length];exact hh)]at hi';cases hi')]
  exact hi';grind;refine⟨j6 _,λ_ _=>rfl,λz hz hzn=> ?_,rfl⟩;grind;trivial
 .trivial
 trivial
def Nr{lo hi n:SX}(h:dB I (HI lo hi n)=true):0<=dI I lo/\dI I lo<=dI I hi/\dI I hi<=dI I n:=by
 obtain⟨h1,h2⟩:=zS h;obtain⟨h2,h3⟩:=zS h2;refine⟨?_,j7 h2,?_⟩
 cases hc:SX.beq lo (.C 0)with
 |true=>grind[SX.beq_eq,pF]
 |false=>rw[hc]at h1;exact j7 h1
 .cases hc:SX.beq hi n with
  |true=>grind[SX.beq_eq]
  |false=>rw[hc]at h3;exact j7 h3
def cr4(a b:SX):dI I (zO a b)=dI I a-dI I b:=by unfold zO;split;rw[pF];omega;rfl
def Dh{x:Option EX}{d e:SX}{vx:Option Zl}{k:Nat}(h:vQ x d=some e)(hx: ∀y,x=some y->OR O I y vx)(h0:0<=dI I e)(hd:(dI I d).toNat=k): ∃y:EX,OR O I y vx/\eI y k=some (dI I e).toNat:=by unfold vQ at h;split at h;simp at h;subst h;exact⟨none,hx _ rfl,by show some k=_;rw[hd]⟩;obtain⟨p,hp,rfl⟩:=u9.1 h;obtain⟨u,hu,ru⟩:=hx _ rfl;have:=ti (k:=p.1) (e:=p.2) hp ru;refine⟨some (.int p.1 (dI I p.2)),⟨u,hu,this⟩,?_⟩;obtain⟨m,hm⟩:=Int.eq_ofNat_of_zero_le h0;rw[hm];rfl;cases h
theorem SV{P:yJ}{t elem:zX}{s l en cap:Nat}{a:Addr}{lo hi:EX}{vl vh:Option Zl}(ht:P.underlying t=some (.slice elem))(hs:dZ P elem=some s)(rl:OR O I lo vl)(rh:OR O I hi vh)(hl:eI lo 0=some l)(he:eI hi n=some en)(h1:l<=en)(h2:en<=cap)(w:Ac):
 (Instr.sliceAt t (.slice (some a) n cap) vl vh none).run P w= .ok (.slice (if cap=l then some a else some (a.add (l*s))) (en-l) (cap-l)) w:=by
 have hb:=mZ (P:=P) (mx:=none) (vm:=none) (cap:=cap) true rl rh rfl hl he (m:=cap) rfl h1 h2 (j6 _) (λ_=>rfl) w;simp_all[Instr.sliceAt,Sem.run_bind,W8,Instr.slice,Y7]
def bb5{P:yJ}{t elem:zX}{s n:Nat}{lo hi:EX}{vl vh:Option Zl}(ht:P.underlying t=some (.slice elem))(hs:dZ P elem=some s)(rl:OR O I lo vl)(rh:OR O I hi vh)(hl:eI lo 0=some 0)(he:eI hi 0=some 0)(w:Ac):
 (Instr.sliceAt t (.slice none 0 0) vl vh none).run P w= .ok (.slice none 0 0) w:=by
 have hb:=mZ (P:=P) (mx:=none) (vm:=none) (cap:=0) true rl rh rfl hl he (m:=0) rfl (j6 _) (j6 _) (j6 _) (λ_=>rfl) w;simp_all[Instr.sliceAt,Sem.run_bind,W8,Instr.slice,Y7]
def cr5(r:HR O I K w0 h w)(o:dW O I af ρ)(t:zX)(x:An)(lo hi mx:Option An):
 cN E O I K w0 w h (do pure (.value (<-Instr.sliceAt t (ρ x) (lo.map ρ) (hi.map ρ) (mx.map ρ)))) (Nm E.P t h (af x) (eD af lo) (eD af hi) (eD af mx)):=by
 have fin: ∀{v:AV} {u:Zl},VR O I v u->(Instr.sliceAt t (ρ x) (lo.map ρ) (hi.map ρ) (mx.map ρ)).run E.P w= .ok u w->cO E O I K w0 w h (do pure (.value (<-Instr.sliceAt t (ρ x) (lo.map ρ) (hi.map ρ) (mx.map ρ)))) v h:=by intro v u hv hr;exact cO.pureV r hv (by simp_all)
 have hlo: ∀y,eD af lo=some y->OR O I y (lo.map ρ):=λy hy=>wp o hy
 have hhi: ∀y,eD af hi=some y->OR O I y (hi.map ρ):=λy hy=>wp o hy
 unfold Nm;split;rename_i a hx hm;have hmx:mx.map ρ=none:=wp o hm;have rv:=o x _ hx;split;rename_i ht;split;rename_i s hs;have hv:=yp hs rv;unfold RX;split
 rename_i l e h1 h2;intro hd;obtain⟨d1,d2,d3⟩:=Nr hd;rw[XV]at d3;obtain⟨y1,r1,b1⟩:=Dh (k:=0) h1 hlo d1 rfl;obtain⟨y2,r2,b2⟩:=Dh (k:=(dS I s).length) h2 hhi (by omega) (by rfl);have hb:=mZ (P:=E.P) (mx:=none) (vm:=none) (cap:=(dS I s).length) (len:=(dS I s).length) false r1 r2 rfl b1 b2 (m:=(dS I s).length) rfl (by omega) (by omega) (j6 _) (λ_=>rfl);have hsz:(ByteArray.mk (dS I s).toArray).size=(dS I s).length:=by rfl
 refine fin (u:= .string ⟨(((dS I s).drop (dI I l).toNat).take ((dI I e).toNat-(dI I l).toNat)).toArray⟩) ?_ ?_;show _=Value.string ⟨(((dS I s).drop (dI I l).toNat).take (dI I e-dI I l).toNat).toArray⟩;grind;rw[hv,hmx];simp[Instr.sliceAt,Sem.run_bind,W8 ht,Result.andThen_ok,Instr.slice,hsz,Option.isSome_none,n7,if_false,Sem.run_pure,hb,ByteArray.extract_mk];trivial;trivial;rename_i elem ht;split
 rename_i s b off len sz hs;cases hc:Nat.beq s sz with
 |false=>trivial
 |true=>
  obtain rfl:=X0.1 hc;unfold TZ;split
  rename_i l e h1 h2;intro hd;obtain⟨d0,hd⟩:=zS hd;obtain⟨d1,d2,d3⟩:=Nr hd;have d0:0<=dI I off:=by
   cases hq:SX.beq off (.C 0)with
   |true=>grind[SX.beq_eq,pF]
   |false=>rw[hq]at d0;exact j7 d0
  obtain⟨y1,r1,b1⟩:=Dh (k:=0) h1 hlo d1 rfl;obtain⟨y2,r2,b2⟩:=Dh (k:=(dI I len).toNat) h2 hhi (by omega) rfl;have hle:dI I (zO e l)=dI I e-dI I l:=cr4 _ _;have hlt:((dI I e).toNat-(dI I l).toNat)=(dI I (zO e l)).toNat:=by omega
  rcases rv with⟨L,cap,ad,hL,hv,hcap,had⟩|⟨ad,cap,hv,hac,hz⟩
  .refine fin ?_ (by rw[hv,hmx];exact SV ht hs r1 r2 b1 b2 (by omega) (by omega) w);simp only[VR];rw[hlt];by_cases hcl:cap=(dI I l).toNat
   ·(split<;>grind)
   rw[b9 hcl];refine .inl ⟨L,_,_,hL,rfl,by omega,λhp=> ?_⟩;rw[had (by omega),gB,cp9,Int.toNat_add d0 d1,x9];grind
  rw[hz]at b2 d3;have hl0:dI I l=0:=by omega
  have he0:dI I e=0:=by omega
  rw[hl0]at b1;rw[he0]at b2;cases ad with
  |none=>
   obtain rfl:=hac rfl;refine fin ?_ (by rw[hv,hmx];exact bb5 (n:=0) ht hs r1 r2 b1 b2 w);exact .inr ⟨none,0,rfl,λ_=>rfl,by omega⟩
  |some ad=>
   refine fin ?_ (by rw[hv,hmx];exact SV (n:=0) ht hs r1 r2 b1 b2 (j6 _) (s8 _) w);by_cases hcl:cap=(0:Int).toNat
   rw[i6 hcl];exact .inr ⟨some ad,_,rfl,(λhh=>(by cases hh)),by omega⟩;rw[b9 hcl];exact .inr ⟨some _,_,rfl,(λhh=>(by cases hh)),by omega⟩
  .trivial
 .rename_i s b len sz hs;cases hc:Nat.beq s sz with
  |false=>trivial
  |true=>
   obtain rfl:=X0.1 hc;unfold OH;split
   rename_i l e h1 h2;have main:0<=dI I l->dI I l<=dI I e->dI I e<=dI I len-> ∀z:AV,((∀L cap,O b=some L->cap*s=L.ext->(dI I len).toNat<=cap->VR O I z (.slice (if cap=(dI I l).toNat then some ⟨L.blk,L.off,none⟩else some ⟨L.blk,L.off+(dI I l).toNat*s,none⟩) ((dI I e).toNat-(dI I l).toNat) (cap-(dI I l).toNat)))/\(dI I len=0->VR O I z (.slice none 0 0)))->
    cO E O I K w0 w h (do pure (.value (<-Instr.sliceAt t (ρ x) (lo.map ρ) (hi.map ρ) (mx.map ρ)))) z h:=by
    intro d1 d2 d3 z ⟨hz1,hz2⟩;obtain⟨y1,r1,b1⟩:=Dh (k:=0) h1 hlo d1 rfl;obtain⟨y2,r2,b2⟩:=Dh (k:=(dI I len).toNat) h2 hhi (by omega) rfl;rcases rv with⟨L,cap,hL,hext,hv,hcap⟩|⟨hv,hz⟩
    grind[SV,dI,gB]
    have hl0:dI I l=0:=by omega
    have he0:dI I e=0:=by omega
    rw[hl0]at b1;rw[he0,hz]at b2;exact fin (hz2 hz) (by rw[hv,hmx];exact bb5 (n:=0) ht hs r1 r2 b1 b2 w)
   cases hq:SX.beq l (.C 0)with
   |true=>
    intro hd;obtain⟨d1,d2,d3⟩:=Nr hd;have hl0:dI I l=0:=by rw[SX.beq_eq _ _ hq,pF]
    refine main (by omega) (by omega) d3 _ ⟨λL cap hL hext hcap=> ?_,λhz=> .inr ⟨rfl,by omega⟩⟩;refine .inl ⟨L,cap,hL,hext,?_,by omega⟩;grind
   |false=>
    intro hd;obtain⟨d1,d2,d3⟩:=Nr hd;have hle:dI I (zO e l)=dI I e-dI I l:=cr4 _ _;refine main d1 d2 d3 _ ⟨λL cap hL hext hcap=> ?_,λhz=> .inr ⟨none,0,rfl,λ_=>rfl,by omega⟩⟩;simp[VR];grind
   .trivial
 trivial;trivial;trivial
def HR.asCells(r:HR O I K w0 h w){b el:Nat}{l:SX}(hg:h.get b=some (.A el sig l))(hwm:h.wm<=b)(hne:el≠iU)(hnf:I.fix el=false){ocs:zw}(m1: ∀O:cj,co O I ocs (Y2 sig (dL I l)))(m2:ocs.all AV.one=true)(m3:ocs.length=(Y2 sig (dL I l)).length):
 HR O I K w0 (h.put b (some (.cells el 0 ocs))) w:=by
 have hb65:=Heap.get_lim h b _ hg;refine HR.retell (y:= .cells el 0 ocs) r hg (.inl hwm) ?_ rfl rfl (λz=>by rw[Heap.get_put,i6 hb65]);intro L' hL' hbr;obtain⟨C,e',lo,hi,z1,z0,z2,z3,z4,z5⟩:=hbr;rw[z0.resolve_right hne]at z1;refine⟨C,lo,hi,Y2 sig (dL I l),z1,z2,by rw[m3,iR];exact z3,qi m2,m1 O,λk hk=> ?_,λk _ hk=>z5 k hk,λhh=>by(intros;simp_all)⟩;grind
def HR.asArr{b el:Nat}{l:SX}(hb65:b<65536)(r:HR O I K w0 (h.put b (some (.cells el 0 cs))) w)(hd: ∀us,co O I cs us->us=Y2 sig (dL I l)):HR O I K w0 (h.put b (some (.A el sig l))) w:=by
 have eK: ∀(hh:Heap) (x:lW) (z:Nat),(hh.put b x).get z=if z=b then(if b<65536 then x else none)else hh.get z:=λhh x z=>Heap.get_put _ _ _ _
 refine HR.retell (y:= .A el sig l) r (b:=b) (x:= .cells el 0 cs) (by(intros;simp_all)) (.inr rfl) ?_ rfl rfl (λz=> ?_)
 intro L' hL' hbr;obtain⟨C,lo,hi,vs,q1,q2,q3,q4,q5,q6,q7,q8⟩:=hbr;have hvs:=hd vs q5;subst hvs;have hll:cs.length=(dL I l).length*sig.length:=by rw[<-q5.length,iR]
 refine⟨C,_,lo,hi,q1,.inl rfl,q2,by(intros;grind),λi v2 hi'=> ?_,λi hi'=>q7 i (s8 _) hi'⟩;rw[q6 i (by
  rcases k8 i cs.length with hh|hh
  exact hh
  rw[v8 (by rw[q5.length];exact hh)]at hi';cases hi')]
 exact hi';grind
def Xf{m:Sem Zl}{n:Sem Next}{res:Res}(hm: ∀h' a,Ok E.P O I K w0 w h m a h'->cO E O I K w0 w h n a h')(k:Cy E.P O I K w0 w h m res):cN E O I K w0 w h n res:=by cases res<;>first|exact k.elim|trivial|exactλhd=>hm _ _ (k hd)
theorem cO.blt{h':Heap}{m:Sem Zl}{n:Sem Next}{a:AV}(e:n=(do pure (.value (<-m))))(k:Ok E.P O I K w0 w h m a h'):cO E O I K w0 w h n a h':=by grind[cO.of]
def bV1(I:Opq)(z:zw)(sig:wD)(es:GF)(hes:gy sig z=some es): ∀(n:Nat) (O:cj) (us:List Zl),co O I (dx n z) us->us=Y2 sig (List.replicate n (.A (X4 I es)))
 |0,O,us,h=>h
 |n+1,O,us,h=>by
  have h1:=h.take z.length;have h2:=h.drop z.length;have e1:(dx (n+1) z).take z.length=z:=by simp[dx]
  have e2:(dx (n+1) z).drop z.length=dx n z:=by simp[dx]
  rw[e1]at h1;rw[e2]at h2;rw[<-y8 z.length us,mH hes h1,bV1 I z sig es hes n O _ h2];rfl
def cr6(z:zw): ∀n,(dx n z).length=n*z.length
 |0=>by simp[dx]
 |n+1=>by simp[dx,cr6 z n,x9];omega
def Yp(z:zw)(hz:z.all AV.one=true): ∀n,(dx n z).all AV.one=true
 |0=>rfl
 |n+1=>by simp[dx,I0,hz,Yp z hz n,Bool.and_self]
def HR.sameGet{h2:Heap}(r:HR O I K w0 h w)(hn:h2.next=h.next)(hw:h2.wm=h.wm)(hg: ∀z,h.get z=h2.get z):HR O I K w0 h2 w:=
 ⟨λb x L e=>r.blk b x L (by grind),λb b' x x' L L' e e' hb hb' hne q=>r.sep b b' x x' L L' (by grind) (by grind) hb hb' hne (by grind),λb hb=>r.fresh b (by omega),λb hb=>by rw[<-hg];exact r.fget b (by omega),r.lt,r.kin,r.keep,
  λb x L e q=>r.free b x L (by grind) (by omega),r.size,r.os,r.tape,r.out,r.dr⟩
def WP(sig:wD): ∀(l:U7) (o:Nat),(Y2 sig l).take (o*sig.length)=Y2 sig (l.take o)
 |l,0=>by simp[Y2]
 | [],o+1=>by simp[Y2]
 |r::l,o+1=>by have ih:=WP sig l o;show((dD sig r++Y2 sig l).take ((o+1)*sig.length))=dD sig r++Y2 sig (l.take o);simp_all[List.take_append,lV,x9,F9,Q3,K6]
def XW(sig:wD): ∀(l:U7) (o:Nat),(Y2 sig l).drop (o*sig.length)=Y2 sig (l.drop o)
 |l,0=>by grind
 | [],o+1=>by simp[Y2]
 |r::l,o+1=>by have ih:=XW sig l o;show((dD sig r++Y2 sig l).drop ((o+1)*sig.length))=Y2 sig (l.drop o);simp_all[N5,lV,x9,F9,Q3,K7,List.nil_append]
theorem bb8(hfx: ∀t,I.fix t=fj E.P t)(r:HR O I K w0 h w){ty t elem b:Nat}{off len:SX}{sz:Nat}{z:AV}(h0:ts[0]? =some t)(ht:E.P.underlying t=some (.slice elem))(hz:gu E.P elem=some z)(hfe:fj E.P elem=false)
 (rx:(∃L cap a,O b=some L/\vx= .slice (some a) (dI I len).toNat cap/\(dI I len).toNat<=cap/\(0<dI I len->a=⟨L.blk,L.off+(dI I off).toNat*sz,none⟩))\/ ∃a cap,vx= .slice a 0 cap/\(a=none->cap=0)/\dI I len=0):
 Cy E.P O I K w0 w h (Builtin.clear_ ts ty #[vx]) (JT E.P b off len sz z.cells (h.get b) h):=by
 unfold JT;split;rename_i e sig l hg;split
 rename_i es hes;cases hc:(Nat.beq sig.length sz&&Nat.blt 0 sz&&Nat.ble h.wm b&& !(Nat.beq e iU)&& !(fj E.P e))with
 |false=>trivial
 |true=>
  obtain⟨hc,c5⟩:=W4 hc;have hnf:I.fix e=false:=by(intros;simp_all)
  obtain⟨hc,c4⟩:=W4 hc;have hne:e≠iU:=λe2=>by(intros;simp_all)
  obtain⟨hc,c3⟩:=W4 hc;obtain⟨c1,c2⟩:=W4 hc;obtain rfl:=X0.1 c1;rw[X6]at c3;rw[Y8]at c2;intro hd;obtain⟨d1,d2⟩:=W4 (a:=(dB I (.O (.cmp .leq) [.C 0,off])&&dB I (.O (.cmp .leq) [.C 0,len]))) (b:=(dB I (.O (.cmp .leq) [len,.C oE])&&dB I (.O (.cmp .leq) [.O .iadd [off,len],.O .Y [l]]))) hd;obtain⟨d1,d3⟩:=W4 d1;obtain⟨d2,d4⟩:=W4 d2;have d1:0<=dI I off:=j7 d1;have d3:0<=dI I len:=j7 d3;have d4:dI I off+dI I len<=((dL I l).length:Int):=j7 d4;have hb65:=Heap.get_lim h b _ hg;obtain⟨o,ho⟩: ∃o:Nat,dI I off=(o:Int):=⟨(dI I off).toNat,by omega⟩;obtain⟨n,hn⟩: ∃n:Nat,dI I len=(n:Int):=⟨(dI I len).toNat,by omega⟩;have hon:o+n<=(dL I l).length:=by omega
  have iT:dL I (.O .lcat [.O .lsub [l,.C 0,off],.O .lcat [.O .lrep [len,.O .row es],.O .lsub [l,.O .iadd [off,len],.O .Y [l]]]])=(dL I l).take o++(List.replicate n (.A (X4 I es))++(dL I l).drop (o+n)):=by show((dL I l).drop (0:Int).toNat).take (dI I off-0).toNat++(List.replicate (dI I len).toNat (.A (X4 I es))++((dL I l).drop (dI I off+dI I len).toNat).take (((dL I l).length:Int)-(dI I off+dI I len)).toNat)=_;rw[ho,hn,show(0:Int).toNat=0 from rfl,K8,show((o:Int)-0).toNat=o by omega,Int.toNat_natCast,show((o:Int)+(n:Int)).toNat=o+n by omega];congr 2;rw[K6 (by(intros;grind))]
  rcases rx with⟨L,cap,a,hL,hv,hcap,ha⟩|⟨a,cap,hv,hacap,hlen0⟩
  rw[hn,Int.toNat_natCast]at hv;by_cases hn0:n=0;subst hn0;refine⟨O,.tuple #[],w,by rw[hv];cases a<;>simp[Builtin.clear_,h0,W8 ht],⟨_,rfl,rfl⟩,?_,?_⟩
  refine HR.retell (y:= .A e sig (.O .lcat [.O .lsub [l,.C 0,off],.O .lcat [.O .lrep [len,.O .row es],.O .lsub [l,.O .iadd [off,len],.O .Y [l]]]])) r hg (.inl c3) ?_ rfl rfl (λz=>by rw[Heap.get_put,i6 hb65]);intro L' hL' hbr;obtain⟨C,e',lo,hi,z1,z0,z2,z3,z4,z5⟩:=hbr;have he:dL I (.O .lcat [.O .lsub [l,.C 0,off],.O .lcat [.O .lrep [len,.O .row es],.O .lsub [l,.O .iadd [off,len],.O .Y [l]]]])=dL I l:=by rw[iT];simp
  exact⟨C,e',lo,hi,z1,z0,z2,by rw[he];exact z3,by rw[he];exact z4,z5⟩;refine⟨j6 _,λ_ _=>rfl,λz hz hzn=> ?_,rfl⟩;left;rw[Heap.get_put,b9 (λhh=>by(intros;simp_all))]
  have ha:=ha (by omega);subst ha;obtain⟨ocs,m1,m2,m3,m4⟩:=JL I sig (dL I l);have m3':ocs.length=(dL I l).length*sig.length:=by rw[m3,iR]
  have r2:=r.asCells hg c3 hne hnf m1 m2 m3;obtain⟨hone,helen⟩:=Wg hes;have hzl:z.cells.length=sig.length:=by rw[<-helen];exact nC hes
  have hrl:=cr6 z.cells n;rw[hzl]at hrl;have hmul:o*sig.length+n*sig.length<=(dL I l).length*sig.length:=by rw[<-x9];exact B2 _ hon
  have hg2:(h.put b (some (.cells e 0 ocs))).get b=some (.cells e 0 ocs):=by rw[Heap.get_put,i6 rfl,i6 hb65]
  have hpc:putCells (h.put b (some (.cells e 0 ocs))) b (o*sig.length) (dx n z.cells)=some ((h.put b (some (.cells e 0 ocs))).put b (some (.cells e 0 (jy ocs (o*sig.length) (dx n z.cells))))):=by
   have hr0:0<n*sig.length:=Nat.mul_pos (by omega) c2;cases hcs:dx n z.cells with
   |nil=>(intros;simp_all)
   |cons a as=>
    simp only[putCells,hcs];rw[<-hcs,hg2];simp;rw[show(Nat.ble h.wm b&&Nat.ble 0 (o*sig.length)&&Nat.ble (o*sig.length+(dx n z.cells).length) ocs.length&&(dx n z.cells).all AV.one)=true by rw[Yp _ hone,X6.2 c3,X6.2 (s8 _),X6.2 (by(intros;simp_all))];rfl];rfl
  have hcl:CL E.P elem b (o*sig.length) n (h.put b (some (.cells e 0 ocs)))=some (.undef,(h.put b (some (.cells e 0 ocs))).put b (some (.cells e 0 (jy ocs (o*sig.length) (dx n z.cells))))):=by
   unfold CL
   (split<;>grind)
  obtain⟨ac,u,w',e1,e2,e3,e4⟩:=Td (ty:=ty) (cap:=cap) h0 ht r2 hcl hL;have ap:HR ac I K w0 (h.put b (some (.cells e 0 (jy ocs (o*sig.length) (dx n z.cells))))) w':=by
   have: ∀q,((h.put b (some (.cells e 0 ocs))).put b (some (.cells e 0 (jy ocs (o*sig.length) (dx n z.cells))))).get q=(h.put b (some (.cells e 0 (jy ocs (o*sig.length) (dx n z.cells))))).get q:=λq=>by
    rw[Heap.get_put,Heap.get_put,Heap.get_put]
    (split<;>simp_all)
   exact e3.sameGet rfl rfl this
  refine⟨ac,u,w',by(intros;simp_all),e2,?_,?_⟩
  refine HR.asArr hb65 ap (λus hus=> ?_);rw[iT,CZ,CZ];unfold jy at hus;have hdet1: ∀us,co ac I (ocs.take (o*sig.length)) us->us=(Y2 sig (dL I l)).take (o*sig.length):=λus hu=>aO3 m4 m1 hu
  have hdet2: ∀us,co ac I (ocs.drop (o*sig.length+(dx n z.cells).length)) us->us=(Y2 sig (dL I l)).drop (o*sig.length+(dx n z.cells).length):=λus hu=>aO4 m4 m1 hu
  have t1:=hus.take (ocs.take (o*sig.length)++dx n z.cells).length;have t2:=hus.drop (ocs.take (o*sig.length)++dx n z.cells).length;rw[G1]at t1;rw[G2]at t2;have t3:=t1.take (ocs.take (o*sig.length)).length;have t4:=t1.drop (ocs.take (o*sig.length)).length;rw[G1]at t3;rw[G2]at t4;rw[<-y8 (ocs.take (o*sig.length)++dx n z.cells).length us,hdet2 _ t2];rw[<-y8 (ocs.take (o*sig.length)).length (us.take (ocs.take (o*sig.length)++dx n z.cells).length),hdet1 _ t3,bV1 I z.cells sig es hes n ac _ t4,A0,hrl,WP,<-x9,XW];have:=e4;refine⟨this.le,λb' hb'=>this.ext b' hb',λb' hb' hn'=> ?_,this.wm⟩;left;rw[Heap.get_put,b9 (λhh=>by(intros;simp_all))]
  have hn0:n=0:=by omega
  subst hn0;refine⟨O,.tuple #[],w,by rw[hv];cases a<;>simp[Builtin.clear_,h0,W8 ht],⟨_,rfl,rfl⟩,?_,?_⟩
  refine HR.retell (y:= .A e sig (.O .lcat [.O .lsub [l,.C 0,off],.O .lcat [.O .lrep [len,.O .row es],.O .lsub [l,.O .iadd [off,len],.O .Y [l]]]])) r hg (.inl c3) ?_ rfl rfl (λz=>by rw[Heap.get_put,i6 hb65]);intro L' hL' hbr;obtain⟨C,e',lo,hi,z1,z0,z2,z3,z4,z5⟩:=hbr;have he:dL I (.O .lcat [.O .lsub [l,.C 0,off],.O .lcat [.O .lrep [len,.O .row es],.O .lsub [l,.O .iadd [off,len],.O .Y [l]]]])=dL I l:=by rw[iT];simp
  exact⟨C,e',lo,hi,z1,z0,z2,by rw[he];exact z3,by rw[he];exact z4,z5⟩;refine⟨j6 _,λ_ _=>rfl,λz hz hzn=> ?_,rfl⟩;by_cases e1:z=b;subst e1;exact .inr (.inr (.of hg));left;rw[Heap.get_put,b9 e1]
 .trivial
 trivial
def cr7(hfx: ∀t,I.fix t=fj E.P t){x:AV}(r:HR O I K w0 h w)(rx:VR O I x vx):Cy E.P O I K w0 w h (Builtin.clear_ ts ty #[vx]) (SN E.P ((ts[0]?).bind E.P.underlying) x h):=by
 unfold SN;split;rename_i elem ht;simp[o8]at ht;obtain⟨t,h0,ht⟩:=ht;split
 rename_i z hz;cases hfe:fj E.P elem with
 |true=>trivial
 |false=>
  split;grind[VR,bb8]
  rename_i b len sz;refine bb8 hfx r h0 ht hz hfe ?_;rcases rx with⟨L,cap,hL,h1,h2,h3⟩|⟨h1,h2⟩
  refine .inl ⟨L,cap,_,hL,h2,h3,λ_=> ?_⟩;rw[show(dI I (.C 0)).toNat*sz=0 by show(0:Int).toNat*sz=0;simp];rfl;grind;trivial
 .trivial
 trivial
def cV3(hfx: ∀t,I.fix t=fj E.P t)(r:HR O I K w0 h w)(o:dW O I af ρ)(c:Call)(ty:zX):
 cN E O I K w0 w h (do let d <-resolve ρ c ty;invoke d.target d.args) (Iu E.P af c h):=by
 unfold Iu;split
 rename_i b hb;have hrun: ∀w,(do let d <-resolve ρ c ty;invoke d.target d.args:Sem Next).run E.P w=(builtin b c.argTypes ty (c.args.map λ| .const _=>true|_=>false) (c.args.map ρ)).run E.P w:=by grind[resolve,Sem.run_bind,Sem.run_pure,Result.andThen_ok,invoke]
 have conv: ∀res,cN E O I K w0 w h (builtin b c.argTypes ty (c.args.map λ| .const _=>true|_=>false) (c.args.map ρ)) res->cN E O I K w0 w h (do let d <-resolve ρ c ty;invoke d.target d.args) res:=by
  intro res hh;cases res with
  |val v h1=>obtain⟨ac,u,w',q1,q2⟩:=hh;exact⟨ac,u,w',by grind,q2⟩
  |N e v h1=>intro hd;obtain⟨ac,u,w',q1,q2⟩:=hh hd;exact⟨ac,u,w',by grind,q2⟩
  |cho e v l h1=>
   refine⟨λhd=> ?_,λhd=> ?_⟩;obtain⟨ac,u,w',q1,q2⟩:=hh.1 hd;exact⟨ac,u,w',by grind,q2⟩;obtain⟨x,hx,ac,u,w',q1,q2⟩:=hh.2 hd;exact⟨x,hx,ac,u,w',by grind,q2⟩
  |enter f vs=>obtain⟨us,q1,q2⟩:=hh;exact⟨us,by grind,q2⟩
  |choice l=>obtain⟨x,hx,ac,u,w',q1,q2⟩:=hh;exact⟨x,hx,ac,u,w',by grind,q2⟩
  |yield l vs=>obtain⟨L,us,q1,q2,q3⟩:=hh;exact⟨L,us,q1,q2,by grind⟩
  |defer d=>obtain⟨dd,q1,q2⟩:=hh;exact⟨dd,by grind,q2⟩
  |X=>trivial
 apply conv
 cases hx:evs af c.args.toList with
 |none=>trivial
 |some args=>
  have ra:=yG o hx;have harr:c.args.map ρ=(c.args.toList.map ρ).toArray:=by grind
  rw[harr];unfold NL;split
  .rename_i x hh;simp at hh;subst hh;obtain⟨v,vr,e1,p1,p2⟩:=ra;obtain rfl:vr=[]:=p2;rw[e1];split;grind[do3]
   ·(constructor<;>grind)
   exact Xf (λh' a k=>cO.blt rfl k) (cr7 hfx r p1);trivial
  .rename_i x y hh;simp at hh;subst hh;obtain⟨v,vr,e1,p1,v2,vr2,e2,p2,p3⟩:=ra;obtain rfl:vr2=[]:=p3;rw[e1,e2];split;exact ca2 hfx r p1 p2 _ _ _
   ·(constructor<;>grind)
   ·(constructor<;>grind)
   exact Xf (λh' a k=>cO.blt rfl k) (do5 r p1 p2);grind[dL0]
  trivial
 .trivial
def cV4(hfx: ∀t,I.fix t=fj E.P t)(r:HR O I K w0 h w)(ro:dW O I af ρ)(o:Oper):cN E O I K w0 w h (execOp ρ o) (pW E af o h):=by
 obtain⟨dst,op,ty,pos,after,guard⟩:=o;cases op with
 |binOp op t x y _=>exact cS8 r ro op t x y
 |unOp op _ x=>exact dK9 r ro op x
 |convert s d x=>exact cU1 r ro s d x
 |pick c a b=>exact cS9 r ro c a b
 |load t a=>exact cU3 r ro t a
 |indexAddr t x i=>exact bh0 r ro t x i
 |fieldAddr s x f=>exact bg9 r ro s f x
 |index t x i=>exact cq0 r ro t x i
 |store t a x=>exact cr3 hfx r ro t a x
 |slice t x lo hi mx=>exact cr5 r ro t x lo hi mx
 |lookup t m k ok=>exact ca4 r ro t m k ok
 |mapUpdate t m k x=>exact bu7 r ro t m k x
 |insert t m k x=>exact bu7 r ro t m k x
 |mapEntry t m k=>exact ca5 r ro t m k
 |entryStore t m s x=>exact cr2 r ro t m s x
 |call c=>exact cV3 hfx r ro c ty
 |_=>trivial
variable{E:Env}{O:cj}{I:Opq}{K:wW}{w0 w:Ac}{h h':Heap}{af:An->EX}{ρ:An->Zl}
def cV5(r:HR O I K w0 h w)(o:dW O I af ρ)(c a b:An):cN E O I K w0 w h (do pure (.value (if<-asBool (ρ c)then ρ a else ρ b))) (xQ af a b h (af c)):=by
 unfold xQ;split
 rename_i t hc;have rc:=o c _ hc;simp[VR]at rc;cases t with
 |true=>
  cases ha:af a with
  |none=>trivial
  |some v=>exact⟨O,ρ a,w,.inl (by simp[rc,asBool]),o a v ha,r,.refl _ _⟩
 |false=>
  cases hb:af b with
  |none=>trivial
  |some v=>exact⟨O,ρ b,w,.inl (by simp[rc,asBool]),o b v hb,r,.refl _ _⟩
 .trivial
def cr8(r:HR O I K w0 h w)(e:zX):cN E O I K w0 w h (do pure (.value (<-Instr.alloc e true (.tuple #[])))) (wl e h (gu E.P e)):=by
 cases hz:gu E.P e with
 |none=>trivial
 |some z=>
  obtain⟨zv,z1,z2⟩:=xD hz;refine BX λv h' hv=> ?_
  obtain⟨ac,x,w',q1,q2,q3,q4⟩:=bb0 (P:=E.P) r hv (z1 O I);exact⟨ac,x,w',by grind[Instr.alloc,Sem.run_bind,Result.andThen_ok],q2,q3,q4⟩
def do6(r:HR O I K w0 h w)(o:dW O I af ρ)(e:zX)(x:An):cN E O I K w0 w h (do pure (.value (<-Instr.box e (ρ x)))) (wl e h (af x)):=by
 cases hx:af x with
 |none=>trivial
 |some a=>exact BX λv h' hv=>bb0 (P:=E.P) r hv (o x a hx)
def cr9(r:HR O I K w0 h w)(o:dW O I af ρ)(t:zX)(ps:Array (Nat×An)):cN E O I K w0 w h (do pure (.value (<-Instr.build t (ps.map λ(i,x)=>(i,ρ x))))) (Mc E.P t h (iH af ps.toList)):=by
 cases hx:iH af ps.toList with
 |none=>trivial
 |some l=>
  obtain⟨q1,q2⟩:=Qz o hx;refine wu r λv hv=> ?_
  obtain⟨u,g1,g2⟩:=co3 (P:=E.P) (O:=O) (I:=I) (vparts:=ps.map λ(i,x)=>(i,ρ x)) hv (by simpa using q1) (by simpa using q2);grind
def b85(r:HR O I K w0 h w)(o:dW O I af ρ)(t n:Nat)(ps:Array (Nat×An)):
 cN E O I K w0 w h (do pure (.value (<-Instr.buildSlice t n (ps.map λ(i,x)=>(i,ρ x))))) (Ct E.P t n h (iH af ps.toList)):=by
 cases hx:iH af ps.toList with
 |none=>trivial
 |some l=>
  obtain⟨q1,q2⟩:=Qz o hx;exact BX λv h' hv=>b81 (P:=E.P) r hv (by simp_all) (by simp_all)
def cV6(r:HR O I K w0 h w)(o:dW O I af ρ)(t:zX)(x:An):cN E O I K w0 w h (do pure (.value (<-Instr.loadAt t (ρ x)))) (Tm E.P t h (af x)):=by
 cases hx:af x with
 |none=>trivial
 |some a=>exact wu r λv hv=>Zk r hv (o x a hx)
def cs0(r:HR O I K w0 h w)(o:dW O I af ρ)(t:zX)(x y:An):cN E O I K w0 w h (do Instr.storeAt t (ρ x) (ρ y);pure .skip) (Rt E.P t h (af x) (af y)):=by
 cases hx:af x with
 |none=>trivial
 |some a=>
  cases hy:af y with
  |none=>trivial
  |some b=>exact WN λh' hv=>bs7 r hv (o x a hx) (o y b hy)
def do7(hE:E.Ok I)(r:HR O I K w0 h w)(o:dW O I af ρ)(op:BinOp)(t:zX)(x y:An):
 cN E O I K w0 w h (do pure (.value (<-(do eqGuard op t x y (ρ x) (ρ y);binOp op t (ρ x) (ρ y):Sem Zl)))) (BP E op t x y h (af x) (af y)):=by
 cases hx:af x with
 |none=>trivial
 |some a=>
  cases hy:af y with
  |none=>trivial
  |some b=>
   simp only[BP];cases hg:zT E.P op t x y a b with
   |false=>trivial
   |true=>
    refine wu r λv hv=> ?_
    have hgr:=WO hg (o x a hx) (o y b hy);have main: ∃u,VR O I v u/\ ∀w,(binOp op t (ρ x) (ρ y)).run E.P w= .ok u w:=by unfold Lu at hv;split at hv;rename_i v' hb;simp at hv;subst hv;exact dm6 hb (o x a hx) (o y b hy);exact hE.bin op a b v hv O t _ _ (o x a hx) (o y b hy)
    grind[Sem.run_bind,Result.andThen_ok]
def dL1(hE:E.Ok I)(r:HR O I K w0 h w)(o:dW O I af ρ)(op:UnOp)(x:An):cN E O I K w0 w h (do pure (.value (<-Op.unary op (ρ x)))) (UB E op h (af x)):=by
 cases hx:af x with
 |none=>trivial
 |some a=>
  refine wu r λv hv=> ?_
  have main: ∃u,VR O I v u/\ ∀w,(Op.unary op (ρ x)).run E.P w= .ok u w:=by unfold Lu at hv;split at hv;rename_i v' hb;simp at hv;subst hv;exact da7 hb (o x a hx);exact hE.un op a v hv O _ (o x a hx)
  grind
def cV7(hE:E.Ok I)(r:HR O I K w0 h w)(o:dW O I af ρ)(s d:zX)(x:An):cN E O I K w0 w h (do pure (.value (<-convert s d (ρ x)))) (BU E s d h (af x)):=by
 cases hx:af x with
 |none=>trivial
 |some a=>
  simp[BU];cases hc:Di E.P s d a h with
  |some p=>exact .of (cS1 hE.fix r (a:=p.1) (h':=p.2) hc (o x a hx))
  |none=>
   cases hc2:HM E.P s d a h with
   |some p=>exact⟨p,by simp,.of (cS2 r (a:=p.1) (h':=p.2) hc2 (o x a hx))⟩
   |none=>exact wu r λv hv=>let ⟨u,u1,u2⟩:=hE.conv d a v hv O s _ (o x a hx);⟨u,u1,u2 w⟩
def cs1(r:HR O I K w0 h w)(o:dW O I af ρ)(t:zX)(x:An):cN E O I K w0 w h (do pure (.value (<-Instr.makeInterface t (ρ x)))) (CD E.P t h (af x)):=by
 cases hx:af x with
 |none=>trivial
 |some a=>
  simp[CD];split;trivial;refine .of ⟨O,.iface t (ρ x),w,?_,⟨_,rfl,o x a hx⟩,r,.refl _ _⟩;simp_all[Instr.makeInterface,Sem.run_bind,W8,Result.andThen_ok];trivial
def cV8(r:HR O I K w0 h w)(o:dW O I af ρ)(fn:Fn)(xs ys:Array An):
 cN E O I K w0 w h (do pure (.value (<-Instr.makeFunc fn (xs.map ρ) (ys.map ρ)))) (Da fn h (evs af xs.toList) (evs af ys.toList)):=by
 cases hx:evs af xs.toList with
 |none=>trivial
 |some a=>
  cases hy:evs af ys.toList with
  |none=>trivial
  |some b=>
   simp[Da];split;trivial;rename_i hn;exact .of ⟨O,.func fn (xs.map ρ) (ys.map ρ),w,rfl,⟨hn,_,_,rfl,by simpa using yG o hx,by simpa using yG o hy⟩,r,.refl _ _⟩
def do8(r:HR O I K w0 h w)(o:dW O I af ρ)(t:zX)(x:Option An):cN E O I K w0 w h (do pure (.value (<-Instr.makeMap t (x.map ρ)))) (sK E.P t h (eD af x)):=by
 unfold sK;split
 .rename_i kt et ht;have new: ∀m:Sem Zl,m.run E.P w= .ok (.map (some w.heap.size)) (w.alloc (.map #[] 0))->cO E O I K w0 w h (do pure (.value (<-m))) (.map h.next) (h.new (.map [] 0)):=by
   intro m hm;obtain⟨p1,p2⟩:=r.new (.map #[] 0) (.map [] 0) 0 0 ⟨#[],rfl,.nil⟩;exact .of ⟨_,_,_,hm,⟨_,cj.add_self _ _ _,rfl⟩,p1,p2⟩
  split;rename_i hx;have:=wp o hx;rw[this];exact new _ rfl;rename_i k n hx;obtain⟨v,hv,rv⟩:=wp o hx;subst rv;rw[hv];refine new _ ?_;simp only[Instr.makeMap,Sem.run_bind,W8 ht,Result.andThen_ok,asInt,asIntOf,Sem.run_pure,run_newObj];rfl;trivial
 trivial
def bh4(r:HR O I K w0 h w)(o:dW O I af ρ)(t:zX)(x y:An):cN E O I K w0 w h (do pure (.value (<-Instr.makeSlice t (ρ x) (ρ y)))) (Cu E.P t h (af x) (af y)):=by
 cases hx:af x with
 |none=>trivial
 |some a=>
  cases hy:af y with
  |none=>trivial
  |some b=>exact BX λv h' hv=>bg7 r hv (o x a hx) (o y b hy)
def cs3(r:HR O I K w0 h w)(o:dW O I af ρ)(t:zX)(x:An)(lo hi mx:Option An):
 cN E O I K w0 w h (do pure (.value (<-Instr.sliceAt t (ρ x) (lo.map ρ) (hi.map ρ) (mx.map ρ)))) (CM E t h (af x) (eD af lo) (eD af hi) (eD af mx)):=by
 cases hx:af x with
 |none=>trivial
 |some a=>
  cases h1:eD af lo with
  |none=>trivial
  |some vl=>
   cases h2:eD af hi with
   |none=>trivial
   |some vh=>
    cases h3:eD af mx with
    |none=>trivial
    |some vm=>
     simp[CM];cases hc:(vh.isNone&&vm.isSome)with
     |true=>trivial
     |false=>
      refine wu r λv hv=> ?_
      obtain⟨u,u1,u2⟩:=co1 r hv hc (o x a hx) (wp o h1) (wp o h2) (wp o h3);grind
def SU{F:AV->AV->EX}{G:Zl->Zl->Sem Zl}(r:HR O I K w0 h w)(o:dW O I af ρ)(x y:An)
 (k: ∀a b v va vb,F a b=some v->VR O I a va->VR O I b vb-> ∃u,VR O I v u/\(G va vb).run E.P w= .ok u w):cN E O I K w0 w h (do pure (.value (<-G (ρ x) (ρ y)))) (s2 F h (af x) (af y)):=by
 cases hx:af x with
 |none=>trivial
 |some a=>
  cases hy:af y with
  |none=>trivial
  |some b=>exact wu r λv hv=>k a b v _ _ hv (o x a hx) (o y b hy)
def HS{F:AV->EX}{G:Zl->Sem Zl}(r:HR O I K w0 h w)(o:dW O I af ρ)(x:An)
 (k: ∀a v va,F a=some v->VR O I a va-> ∃u,VR O I v u/\(G va).run E.P w= .ok u w):cN E O I K w0 w h (do pure (.value (<-G (ρ x)))) (s1 F h (af x)):=by
 cases hx:af x with
 |none=>trivial
 |some a=>exact wu r λv hv=>k a v _ hv (o x a hx)
def Uf{F:AV->AV->AV->aaX}{G:Zl->Zl->Zl->Sem Unit}(r:HR O I K w0 h w)(o:dW O I af ρ)(x y z:An)
 (k: ∀a b c h' va vb vc,F a b c=some h'->VR O I a va->VR O I b vb->VR O I c vc->HP E.P O I K w0 w h (G va vb vc) h'):cN E O I K w0 w h (do G (ρ x) (ρ y) (ρ z);pure .skip) (Hl F (af x) (af y) (af z)):=by
 cases hx:af x with
 |none=>trivial
 |some a=>
  cases hy:af y with
  |none=>trivial
  |some b=>
   cases hz:af z with
   |none=>trivial
   |some c=>exact WN λh' hv=>k a b c h' _ _ _ hv (o x a hx) (o y b hy) (o z c hz)
def bH8(hE:E.Ok I)(r:HR O I K w0 h w){args:zw}{us:List Zl}(ra:co O I args us)(b:Builtin)(ts:Array zX)(ty:zX)(cs:aaI):
 cN E O I K w0 w h (builtin b ts ty cs us.toArray) (yi E b ts h args):=by
 unfold yi;split;rename_i p hp;obtain⟨ac,v,w',q1,q2,q3,q4⟩:=ST (ty:=ty) (cs:=cs) (us:=us.toArray) (a:=p.1) (h':=p.2) hE.fix r hp (by omega);exact⟨ac,v,w',.inl q1,q2,q3,q4⟩
 have main: ∀k,(b= .len/\k=FK.len\/b= .max/\k=FK.max\/b= .min/\k=FK.min)->cN E O I K w0 w h (builtin b ts ty cs us.toArray) (ov (E.fact k args) h):=by
  intro k hk;cases hf:E.fact k args with
  |none=>trivial
  |some v=>
   obtain⟨u,u1,u2⟩:=hE.blt b k args v hk hf O ts ty cs us ra;exact⟨O,u,w,.inl (u2 w),u1,r,.refl _ _⟩
 split;grind;grind;grind;trivial
def cV9(hE:E.Ok I)(r:HR O I K w0 h w)(o:dW O I af ρ)(c:Call)(ty:zX):
 cN E O I K w0 w h (do let d <-resolve ρ c ty;invoke d.target d.args) (vA E af c h (evs af c.args.toList)):=by
 cases hx:evs af c.args.toList with
 |none=>trivial
 |some args=>
  have ra:=yG o hx;have harr:(c.args.toList.map ρ).toArray=c.args.map ρ:=by grind
  simp[vA];split;rename_i b hb;have:=bH8 hE r ra b c.argTypes ty (c.args.map λ| .const _=>true|_=>false);grind[resolve,invoke,builtin,Sem.run_bind,Sem.run_pure,Result.andThen_ok,yi]
  rename_i rc name hf;cases hv:af rc with
  |none=>trivial
  |some vf=>
   have:=aY0 hE (name:=name) (cap:=[]) (y:= #[]) (x:= #[ρ rc]) r (first:=[vf]) ⟨ρ rc,[],rfl,o rc vf hv,rfl⟩ ra;exact this
  .rename_i f hf;cases hv:af f with
   |none=>trivial
   |some vf=>
    have:=bb3 hE r (o f vf hv) ra;rw[harr]at this;have hres:resolve ρ c ty=Deferred.ofValue (ρ f) (c.args.map ρ):=by grind[resolve]
    rw[hres];exact this
def cW0(hE:E.Ok I)(r:HR O I K w0 h w)(ro:dW O I af ρ)(o:Oper):cN E O I K w0 w h (execOp ρ o) (mS E af o h):=by
 obtain⟨dst,op,ty,pos,after,guard⟩:=o;cases op with
 |move x=>
  show cN E O I K w0 w h (pure (.value (ρ x))) (ov (af x) h);cases hx:af x with
  |none=>trivial
  |some a=>exact⟨O,ρ x,w,.inl rfl,ro x a hx,r,.refl _ _⟩
 |assign x=>
  show cN E O I K w0 w h (pure (.value (ρ x))) (ov (af x) h);cases hx:af x with
  |none=>trivial
  |some a=>exact⟨O,ρ x,w,.inl rfl,ro x a hx,r,.refl _ _⟩
 |pick c a b=>exact cV5 r ro c a b
 |alloc e=>exact cr8 r e
 |box e x=>exact do6 r ro e x
 |build t ps=>exact cr9 r ro t ps
 |buildSlice t n ps=>exact b85 r ro t n ps
 |load t a=>exact cV6 r ro t a
 |store t a x=>exact cs0 r ro t a x
 |nilCheck x=>
  show cN E O I K w0 w h _ (BQ E.P h (af x));unfold BQ;split
  rename_i name first cap hx
  unfold JU;split;rename_i t v rest;split
  rename_i g hm;have rx:=ro x _ hx;refine⟨O,ρ x,w,.inl ?_,rx,r,.refl _ _⟩;obtain⟨-,p,q,e,rp,-⟩:=rx;obtain⟨u,us,hp,ru,-⟩:=rp;obtain⟨y,rfl,-⟩:=ru;have h0:p[0]? =some (.iface t y):=by rw[<-Array.getElem?_toList,hp];rfl
  have hn:(nilAhead (E.P.types.size+Made.depth) t y name).run E.P w= .ok (some false) w:=bt7 hm (E.P.types.size+99) y w;simp_all[execOp,Sem.run_bind,run_program,Result.andThen_ok];trivial;trivial
  rename_i a hnm hx;cases hn:JW a with
  |none=>trivial
  |some b=>
   have rx:=ro x a hx;obtain⟨rfl,hv⟩:=bH2 rx hn;refine⟨O,ρ x,w,.inl ?_,rx,r,.refl _ _⟩;simp[execOp];generalize ρ x=v at hv;cases v with
   |pointer p=>cases p with
    |none=>cases hv
    |some p=>rfl
   |func fn a b=>cases fn<;>first|rfl|cases hv
   |nilIface=>cases hv
   |nilFunc=>cases hv
   |_=>rfl
  .trivial
 |binOp op t x y _=>exact do7 hE r ro op t x y
 |unOp op _ x=>exact dL1 hE r ro op x
 |convert s d x=>exact cV7 hE r ro s d x
 |makeInterface t x=>exact cs1 r ro t x
 |makeFunc fn a b=>exact cV8 r ro fn a b
 |makeMap t x=>exact do8 r ro t x
 |makeSlice t l c=>exact bh4 r ro t l c
 |slice t x lo hi mx=>exact cs3 r ro t x lo hi mx
 |fieldAddr s x f=>exact HS (F:=λa=>Nu E.P s a f) (G:=λv=>Instr.fieldAt s v f) r ro x λa v va e ra=>let ⟨u,u1,u2⟩:=bg4 e ra;⟨u,u1,u2 w⟩
 |field t x f=>exact HS (F:=λa=>MK E.P t a f) (G:=λv=>Instr.field t v f) r ro x λa v va e ra=>let ⟨u,u1,u2⟩:=cn8 e ra;⟨u,u1,u2 w⟩
 |indexAddr t x i=>exact SU (G:=λv u=>Instr.indexAt t v u) r ro x i λa b v va vb e ra rb=>let ⟨u,u1,u2⟩:=bg5 e ra rb;⟨u,u1,u2 w⟩
 |index t x i=>exact SU (G:=λv u=>Instr.index t v u) r ro x i λa b v va vb e ra rb=>let ⟨u,u1,u2⟩:=cn9 e ra rb;⟨u,u1,u2 w⟩
 |lookup t x i ok=>exact SU (F:=λa i=>MZ E.P t a i ok h) (G:=λv u=>Instr.lookup t v u ok) r ro x i λa b v va vb e ra rb=>c96 r e ra rb
 |mapUpdate t m k x=>exact Uf (F:=λm k v=>BL E.P t m k v h) (G:=λm k v=>Instr.mapUpdate t m k v) r ro m k x λa b c h' va vb vc e ra rb rc=>aG5 r e ra rb rc
 |insert t m k x=>exact Uf (F:=λm k v=>BL E.P t m k v h) (G:=λm k v=>Instr.mapUpdate t m k v) r ro m k x λa b c h' va vb vc e ra rb rc=>aG5 r e ra rb rc
 |mapEntry t m k=>
  show cN E O I K w0 w h (do pure (.value (<-Instr.mapEntry t (ρ m) (ρ k)))) (Ou (λm k=>IK E.P t m k h) (af m) (af k));cases hx:af m with
  |none=>trivial
  |some a=>
   cases hy:af k with
   |none=>trivial
   |some b=>exact BX λv h' hv=>bt0 r hv (ro m a hx) (ro k b hy)
 |entryStore t m s x=>exact Uf (F:=λm s v=>LU m s v h) (G:=λm k v=>Instr.entryStore t m k v) r ro m s x λa b c h' va vb vc e ra rb rc=>b82 r e ra rb rc
 |range t x=>
  show cN E O I K w0 w h (do pure (.value (<-Instr.range t (ρ x)))) (UD (λa=>IP E.P t a h) (af x));cases hx:af x with
  |none=>trivial
  |some a=>exact BX λv h' hv=>co7 r hv (ro x a hx)
 |next it s=>
  show cN E O I K w0 w h (do pure (.value (<-Instr.next (ρ it) s ty))) (uA (λa=>EF a s h) (af it));cases hx:af it with
  |none=>trivial
  |some a=>
   have:=cS0 (P:=E.P) (ty:=ty) (isS:=s) r (ro it a hx);simp[uA];cases hn:EF a s h<;>rw[hn]at this;exact .of this;exact this.elim;exact this.elim;exact this.elim;obtain⟨x,hx,hok⟩:=this;exact⟨x,hx,.of hok⟩;exact this.elim;exact this.elim;trivial
 |entry it=>exact HS (F:=λa=>MV a h) (G:=λv=>Instr.entry v) r ro it λa v va e ra=>cp2 r e ra
 |typeAssert x xt t ok=>exact HS (F:=λa=>NM E.P a t ok) (G:=λv=>Instr.typeAssert v xt t ok) r ro x λa v va e ra=>let ⟨u,u1,u2⟩:=b83 e ra;⟨u,u1,u2 w⟩
 |extract t i=>exact HS (F:=KT i) (G:=λv=>Instr.extract v i) r ro t λa v va e ra=>let ⟨u,u1,u2⟩:=bG3 e ra;⟨u,u1,u2 w⟩
 |call c=>exact cV9 hE r ro c ty
 |defer c=>
  show cN E O I K w0 w h (do pure (.defer (<-resolve ρ c ty))) (EO af c (evs af c.args.toList));cases hv:evs af c.args.toList with
  |none=>trivial
  |some args=>
   have ra:=yG ro hv;simp only[EO];split
   rename_i f hcal;cases hf:af f with
   |none=>trivial
   |some a=>
    simp only[uA];unfold Uu;split
    rename_i g first cap
    obtain⟨-,x,y,hx,rx,ry⟩:=ro f _ hf;refine⟨{target:= .fn (.func g) y,args:=x++(c.args.map ρ)},?_,_,_,rfl,?_,ry⟩;grind[resolve,Deferred.ofValue,Sem.run_bind,Sem.run_pure,Result.andThen_ok];rw[Array.toList_append,Array.toList_map];exact rx.append ra;trivial
   .trivial
 |_=>trivial
def Yn(hE:E.Ok I)(r:HR O I K w0 h w)(ro:dW O I af ρ)(o:Oper):cN E O I K w0 w h (execOp ρ o) (eQ E af o h):=by have h1:=cW0 hE r ro o;have h2:=cV4 (E:=E) hE.fix r ro o;unfold eQ;cases hc:mS E af o h<;>rw[hc]at h1<;>first|exact h1|exact h2
