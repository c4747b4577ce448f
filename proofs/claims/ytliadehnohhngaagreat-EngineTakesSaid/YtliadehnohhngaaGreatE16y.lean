import Derived.Test.YtliadehnohhngaaGreatE13
set_option linter.all false
noncomputable section
namespace Go.Ev
open Go
variable{t yt:Bg}{op:BinOp}{x a y:AV}{v vy vx va vc zv:AS}{e b nd ly:SX}{sig:zd}{k:IntKind}{M:Sem AS}{n s:Nat}{i:TypeInfo}
variable{E:Env}{O:cn}{I:Opq}{K:zI}{w0 w:yM}{h h':Heap}{af:vE->yU}{ρ:vE->AS}
abbrev ax:Opq:=⟨λ_=> .nilIface,λ_=> .B false,λ_ _=> .B false,λ_=>rfl,λ_=>false,λ_=>none⟩
theorem uf(h:kr x=some (k,e))(r:VR O I x v):v= .int k (dI I e):=by unfold kr at h;split at h<;>simp only[j0,y5,reduceCtorEq]at h;obtain⟨rfl,rfl⟩:=h;exact r;obtain⟨rfl,rfl⟩:=h;exact r
theorem Js(h:pI x=some e)(r:VR O I x v):v= .string ⟨(dS I e).toArray⟩:=by unfold pI at h;split at h<;>simp only[j0,reduceCtorEq]at h;subst h;exact r;subst h;exact r
def xM(h:nl x=some e)(r:VR O I x v):v= .bool (dB I e):=by unfold nl at h;split at h<;>simp only[j0,reduceCtorEq]at h;subst h;exact r;subst h;exact r
theorem dE.pureV{m:Sem Next}{v:AV}{u:AS}(r:HR O I K w0 h w)(hv:VR O I v u)(hr:m.run E.P w= .ok (.value u) w):dE E O I K w0 w h m v h:=
 ⟨O,u,w,.inl hr,hv,r,.refl _ _⟩
theorem Lb(op:BinOp)(k:IntKind)(a b:SX):dI I (.O (.ar op k) [a,b])=cr op k (dI I a) (dI I b):=rfl
def Pv(op:BinOp)(a b:SX):dB I (.O (.cmp op) [a,b])=js op (dI I a) (dI I b):=rfl
def dk8(op:BinOp)(a b:SX):dB I (.O (.scmp op) [a,b])=lC op (dS I a) (dS I b):=rfl
theorem tH(n:Int):dI I (.C n)=n:=rfl
theorem oz(a:SX):dI I (.O .Y [a])=((dL I a).length:Int):=rfl
theorem uX(a b:SX):dB I (.O .and [a,b])=(dB I a&&dB I b):=rfl
def EF{i l:SX}(h:dB I (wG i l)=true):0<=dI I i/\dI I i<dI I l:=by simp[wG,uX,Pv,js,j8,decide_eq_true_eq]at h;exact h
def cq1{x y n:Int}(he:vD op k x y=some (.int k n))(hop:op≠ .shl/\op≠ .shr)(w:yM):
 (binOp op t (.int k x) (.int k y)).run E.P w= .ok (.int k n) w:=by
 obtain⟨v,r1,r2⟩:=Kz (P:=E.P) (O:=λ_=>none) (I:=ax) t he hop;rw[r2,show v=_ from r1]
def dk9{x y:Int}{n:Bool}(he:vD op k x y=some (.bool n))(hop:op≠ .shl/\op≠ .shr)(w:yM):
 (binOp op t (.int k x) (.int k y)).run E.P w= .ok (.bool n) w:=by
 obtain⟨v,r1,r2⟩:=Kz (P:=E.P) (O:=λ_=>none) (I:=ax) t he hop;rw[r2,show v=_ from r1]
def dl0{x y:qw}{n:Bool}(he:Qv op x y=some (.bool n))(w:yM):
 (binOp op t (.string ⟨x.toArray⟩) (.string ⟨y.toArray⟩)).run E.P w= .ok (.bool n) w:=by
 obtain⟨v,r1,r2⟩:=bX3 (P:=E.P) (O:=λ_=>none) (I:=ax) t he;rw[r2,show v=_ from r1]
def dl1{k':IntKind}{a:SX}(r:HR O I K w0 h w)
 (hM: ∀u,(binOp op t (.int k (dI I a)) (.int k' (dI I b))).run E.P w= .ok u w->M.run E.P w= .ok u w):
 dt E O I K w0 w h (do pure (.value (<-M))) (Qj op k k' a b h):=by
 have fin: ∀{v:AV} {u:AS},(binOp op t (.int k (dI I a)) (.int k' (dI I b))).run E.P w= .ok u w->VR O I v u->dE E O I K w0 w h (do pure (.value (<-M))) v h:=by grind[dE.pureV,Sem.run_bind,Result.andThen_ok,Sem.run_pure]
 have nn:dB I (.O (.cmp .leq) [.C 0,b])=true-> ∃n:Nat,dI I b=n:=by intro hd;simp[Pv,js,decide_eq_true_eq]at hd;have hd:0<=dI I b:=hd;exact⟨(dI I b).toNat,by omega⟩
 have nz:dB I (.O (.cmp .neq) [b,.C 0])=true->oC (dI I b) 0=false:=by intro hd;simp[Pv,js,s8,decide_eq_false_iff_not]at hd;have hd: ¬dI I b=0:=hd;grind[vS]
 unfold Qj;cases op<;>simp only[];case shl=>
  intro hd;obtain⟨n,hn⟩:=nn hd;exact fin (by rw[hn];rfl) (by grind[VR,Lb,cr,Int.toNat_natCast])
 case shr=>
  intro hd;obtain⟨n,hn⟩:=nn hd;exact fin (by rw[hn];rfl) (by grind[VR,Lb,cr,Int.toNat_natCast])
 all_goals
  split
  .rename_i hk;subst hk;first
    |(intro hd
      have hz:=nz hd;refine fin (cq1 (by simp[vD,hz,cond_false]<;>rfl) ⟨by simp,by simp⟩ w) ?_;grind[VR,Lb,cr,wP])
    |(refine fin (cq1 rfl ⟨by simp,by simp⟩ w) ?_
      grind[VR,Lb,cr,wP])
    |(refine fin (dk9 rfl ⟨by simp,by simp⟩ w) ?_
      simp[VR,Pv,js,vS,xu];first|done|rfl|(congr 1;grind)|(congr 1;rw[D6];simp;omega))
  trivial
def ep1{a:SX}(hd:js .lss (dI I (jo (.O .slen [a]) (.O .slen [b]))) (dI I (.C eg5))=true):js .lss (dI I (jo (.O .slen [a]) (.O .slen [b]))) eg5=true:=by grind[tH]
def dl2{a:SX}(r:HR O I K w0 h w)
 (hM: ∀u,(binOp op t (.string ⟨(dS I a).toArray⟩) (.string ⟨(dS I b).toArray⟩)).run E.P w= .ok u w->M.run E.P w= .ok u w):
 dt E O I K w0 w h (do pure (.value (<-M))) (Lt op a b h):=by
 have fin: ∀{v:AV} {u:AS},(binOp op t (.string ⟨(dS I a).toArray⟩) (.string ⟨(dS I b).toArray⟩)).run E.P w= .ok u w->VR O I v u->dE E O I K w0 w h (do pure (.value (<-M))) v h:=by grind[dE.pureV,Sem.run_bind,Result.andThen_ok,Sem.run_pure]
 unfold Lt;cases op<;>simp only[];case add=>trivial
 all_goals first
  |trivial
  |(refine fin (dl0 rfl w) ?_
    simp[VR,dk8,lC,wn,gC];first|done|rfl|grind)
mutual
def dZ(I:Opq):AV->AV
 | .Z k e=> .int k (dI I e)
 | .K e=> .str (dS I e)
 | .H e=> .bool (dB I e)
 | .agg cs=> .agg (rg I cs)
 |x=>x
def rg(I:Opq):Fz->Fz
 | []=>[]
 |x::r=>dZ I x::rg I r
end
def Ls: ∀l:Fz,rg I l=l.map (dZ I)
 | []=>rfl
 |x::r=>by simp[rg,m8,Ls r]
mutual
theorem KB: ∀(x:AV) (v:AS),VR O I x v->VR O I (dZ I x) v
 | .Z k e,v,h=>by exact h
 | .K e,v,h=>by exact h
 | .H e,v,h=>by exact h
 | .agg cs,v,h=>by obtain⟨xs,rfl,q⟩:=h;exact⟨xs,rfl,bX7 cs _ q⟩
 | .bool _,v,h=>by grind[dZ]
 | .int _ _,v,h=>by grind[dZ]
 | .str _,v,h=>by grind[dZ]
 | .nilp,v,h=>by grind[dZ]
 | .ptr _ _,v,h=>by grind[dZ]
 | .glob _,v,h=>by grind[dZ]
 | .N,v,h=>by grind[dZ]
 | .sl _ _ _ _,v,h=>by grind[dZ]
 | .us _ _ _ _,v,h=>by grind[dZ]
 | .es _ _ _,v,h=>by grind[dZ]
 | .es0,v,h=>by grind[dZ]
 | .nilm,v,h=>by grind[dZ]
 | .map _,v,h=>by grind[dZ]
 | .nilf,v,h=>by grind[dZ]
 | .func _ _ _,v,h=>by grind[dZ]
 | .yield _,v,h=>by grind[dZ]
 | .nili,v,h=>by grind[dZ]
 | .iface _ _,v,h=>by grind[dZ]
 | .V _,v,h=>by grind[dZ]
 | .opq _,v,h=>by grind[dZ]
 | .S _ _ _ _,v,h=>by grind[dZ]
 | .optr _ _ _ _,v,h=>by grind[dZ]
 | .U _ _ _,v,h=>by grind[dZ]
 | .atl _,v,h=>by grind[dZ]
 | .any,v,h=>by grind[dZ]
theorem bX7: ∀(xs:Fz) (vs:List AS),ct O I xs vs->ct O I (rg I xs) vs
 | [],vs,h=>h
 |x::r,vs,h=>by obtain⟨v,vr,rfl,p,q⟩:=h;exact⟨v,vr,rfl,KB x v p,bX7 r vr q⟩
end
def by5(h:kr x=some (k,e)):dZ I x= .int k (dI I e):=by unfold kr at h;split at h<;>simp only[j0,y5,reduceCtorEq]at h;obtain⟨rfl,rfl⟩:=h;rfl;obtain⟨rfl,rfl⟩:=h;rfl
def by6(h:pI x=some e):dZ I x= .str (dS I e):=by unfold pI at h;split at h<;>simp only[j0,reduceCtorEq]at h<;>subst h<;>rfl
def by7(h:nl x=some e):dZ I x= .bool (dB I e):=by unfold nl at h;split at h<;>simp only[j0,reduceCtorEq]at h<;>subst h<;>rfl
variable{P:uV}
def Ze{cs:Fz}{o:Nat}(h:lL P t cs o=some a):lL P t (rg I cs) o=some (dZ I a):=by unfold lL at h⊢;split at h;obtain⟨hc,h⟩:=W8 h;simp at h;subst h;rw[Ls,k6,hc];simp[cond_true,dZ,Ls,List.map_take,List.map_drop];rw[Ls,D8,h];rfl;cases h
def UH(a b:SX):dB I (iC a b)=(dB I a&&dB I b):=by have h0:dB I (.cb true)=true:=rfl;unfold iC;split;rfl;split;grind;rfl
def WA{ihS:Bg->AV->AV->aaD}{ih:Bg->AV->AV->AK}(hih: ∀t a b e,ihS t a b=some e->ih t (dZ I a) (dZ I b)=some (dB I e)){xs ys:Fz}:
 ∀{fs:abc} {e:SX},CZ P ihS xs ys fs=some e->xI P ih (rg I xs) (rg I ys) fs=some (dB I e)
 | [],e,h=>by simp[CZ,j0]at h;subst h;rfl
 |f::r,e,h=>by
  simp[CZ]at h;simp[xI];cases hb:(f.name== "_")with
  |true=>rw[hb]at h;exact WA hih h
  |false=>
   rw[hb]at h;simp at h⊢;split at h;rename_i a b h1 h2;split at h;rename_i e1 h3;split at h
   rename_i e2 h4;simp at h;subst h;rw[Ze h1,Ze h2];simp[hih _ _ _ _ h3,UH];cases dB I e1 with
   |true=>exact WA hih h4
   |false=>rfl
   .cases h
   cases h;cases h
def cc3{ihS:Bg->AV->AV->aaD}{ih:Bg->AV->AV->AK}(hih: ∀t a b e,ihS t a b=some e->ih t (dZ I a) (dZ I b)=some (dB I e))(h:XX P ihS t x y=some e):
 lV P ih t (dZ I x) (dZ I y)=some (dB I e):=by
 unfold XX at h;split at h;rename_i ht;split at h;rename_i a b h1 h2;simp at h;subst h;rw[by7 h1,by7 h2];unfold lV;simp_all;rfl;cases h;rename_i k0 ht;split at h;rename_i k a k' b h1 h2;unfold d76 at h;split at h;rename_i hk;subst hk;simp at h;subst h;rw[by5 h1,by5 h2];unfold lV;simp[ht,if_true,vS];rfl;cases h;cases h;rename_i ht;split at h;rename_i a b h1 h2;simp at h;subst h;rw[by6 h1,by6 h2];unfold lV;simp[ht,wn];congr 1;show _=decide (dS I a=dS I b);grind;cases h;rename_i fields ht;split at h
 cases hs:P.stoodInHeld t with
 |true=>grind
 |false=>
  unfold lV;simp_all;exact WA hih h
 .cases h
 cases h
def Rs: ∀(n:Nat) {t:Bg} {x y:AV} {e:SX},GV P n t x y=some e->ld P n t (dZ I x) (dZ I y)=some (dB I e)
 |0,t,x,y,e,h=>by cases h
 |n+1,t,x,y,e,h=>cc3 (ihS:=GV P n) (ih:=ld P n) (λt a b e h=>Rs n h) h
theorem nm(sig:zd)(r:Val):(dV sig r).length=sig.length:=by simp[dV]
theorem jL(sig:zd): ∀l:U0,(cN sig l).length=l.length*sig.length
 | []=>by simp[cN]
 |r::l=>by have:=jL sig l;simp[cN]at this⊢;simp_all[B2,k7,nm,List.length_cons,x7,F7,E5]
theorem CU{r:Val}{j:Nat}(hj:j<sig.length):(dV sig r)[j]? =some (ig (sig.getD j .bool) (r.L.getD j default)):=by simp[dV,hj]
def GY{sig:zd}{j:Nat}(hj:j<sig.length): ∀{l:U0} {i:Nat},i<l.length->(cN sig l)[i*sig.length+j]? =some (ig (sig.getD j .bool) ((l.getD i (.A [])).L.getD j default))
 | [],i,h=>by simp at h
 |r::l,0,h=>by simp[cN,B2,R1,m9];grind[List.getElem?_append_left,nm,CU]
 |r::l,i+1,h=>by simp[cN,B2];rw[s6 (by rw[nm,x7];omega),nm];have:=GY hj (l:=l) (i:=i) (by simpa using h);grind[cN]
theorem EB(c:CT)(e:SX):VR O I (wD c e) (ig c (bZ I e)):=by cases c<;>rfl
def Qi(sig:zd)(l idx:SX): ∀(n j:Nat),ct O I (Hx sig l idx j n) ((List.range' j n).map λt=>ig (sig.getD t .bool) (ck (dL I l) (dI I idx) t))
 |0,j=>rfl
 |n+1,j=>by exact⟨_,_,rfl,EB _ _,Qi sig l idx n (j+1)⟩
def HR.arr{b:Nat}{e:Nat}{l:SX}{L:Loc}(r:HR O I K w0 h w)(hg:h.get b=some (.A e sig l))(hb:O b=some L):
 ∃C e' lo hi,w.heap[L.blk]? =some (.cells C e' (lo,hi))/\(e'=e\/e=jP)/\L.off+L.ext<=C.size/\(dL I l).length*sig.length<=L.ext/\
  (∀i v,(cN sig (dL I l))[i]? =some v->C[L.off+i]? =some v)/\(∀i,i<L.ext-> ¬(lo<=L.off+i/\L.off+i<hi)):=r.blk b _ L hg hb
def cS2{a b:Bool}(hn:0<n)(ht:P.underlying t=some .bool):ld P n t (.bool a) (.bool b)=some (a==b):=by
 cases n with
 |zero=>omega
 |succ n=>
  have h1:ld P (n+1) t (.bool a) (.bool b)=lV P (ld P n) t (.bool a) (.bool b):=rfl;rw[h1];unfold lV;grind
def VD{P:uV}(h:yi P t=true): ∃e,P.underlying t=some (.slice e):=by grind[yi]
def cS3{P:uV}{b o m c:Nat}(hn:0<n)(ht:yi P t=true):ld P n t (.sl b o m c) .N=some false:=by
 obtain⟨e,ht⟩:=VD ht;cases n with
 |zero=>omega
 |succ n=>
  have h1:ld P (n+1) t (.sl b o m c) .N=lV P (ld P n) t (.sl b o m c) .N:=rfl;rw[h1];unfold lV;grind[Ks]
def dl3(l y:SX):dL I (rP l y)=dL I l++dL I y:=by unfold rP;split;rfl;rfl
def dK9(hs:yi E.P t=true)(x:abd)(n c:Nat)(w:yM):(binOp .eql t (.slice x n c) (.slice none 0 0)).run E.P w= .ok (.bool x.isNone) w/\(binOp .neq t (.slice x n c) (.slice none 0 0)).run E.P w= .ok (.bool !x.isNone) w:=by
 obtain⟨e,ht⟩:=VD hs;have gen: ∀d,(Op.equalIn (d+1) t (.slice x n c) (.slice none 0 0)).run E.P w= .ok x.isNone w:=λd=>by cases x<;>simp[Op.equalIn,Y1 ht]
 have key:(Op.equal t (.slice x n c) (.slice none 0 0)).run E.P w= .ok x.isNone w:=by have:=gen 9999;exact this
 rw[bx3 _ _ _ rfl,QW _ _ _ rfl];simp_all
def dl4{len:SX}{b:AV}(r:HR O I K w0 h w)(rx0: ∃x n c,vx= .slice x n c)(rx:0<dI I len-> ∃b o n c,VR O I (.sl b o n c) vx)(ry:VR O I b vy)(hM: ∀u,(binOp op t vx vy).run E.P w= .ok u w->M.run E.P w= .ok u w):
 dt E O I K w0 w h (do pure (.value (<-M))) (Lf E.P op t len b h):=by
 unfold Lf;split
 cases hs:yi E.P t with
 |false=>trivial
 |true=>
  have key: ∀v:AV,0<dI I len->(∀b o n c,xG E.P op t (.sl b o n c) .N=some v)->dE E O I K w0 w h (do pure (.value (<-M))) v h:=by intro v h0 hv;obtain⟨b',o,n,c,rx⟩:=rx h0;obtain⟨u,u1,u2⟩:=Xd (hv b' o n c) rx ry (by(intros;grind)) (by(intros;grind));exact dE.pureV r u1 (by simp_all)
  obtain⟨x,n,c,rfl⟩:=rx0;subst ry;have two: ∀q:Bool,(binOp op t (.slice x n c) (.slice none 0 0)).run E.P w= .ok (.bool q) w-> ∃v∈[AV.bool true,AV.bool false],dE E O I K w0 w h (do pure (.value (<-M))) v h:=by intro q hq;refine⟨.bool q,by cases q<;>simp,dE.pureV r (u:= .bool q) rfl (by simp_all)⟩
  split;refine⟨λhd=>key _ (j6 hd) λb o n c=>by simp[xG,cS3 (by omega:0<10000) hs,Option.map_some],λ_=>two _ (dK9 hs x n c w).1⟩;trivial;trivial
 .trivial
theorem dl5{b:AV}(r:HR O I K w0 h w)(rx:VR O I a vx)(ry:VR O I b vy)(hM: ∀u,(binOp op t vx vy).run E.P w= .ok u w->M.run E.P w= .ok u w):
 dt E O I K w0 w h (do pure (.value (<-M))) (KZ E.P op t a b h):=by
 unfold KZ;cases a<;>try trivial
 case agg cs=>
  simp;cases he:GV E.P 10000 t (.agg cs) b with
  |none=>trivial
  |some e=>
   have h5:=Rs (I:=I) 10000 he;have rx':=KB (I:=I) _ _ rx;have ry':=KB (I:=I) _ _ ry;have key: ∀(op':BinOp) (v:AV),op=op'->xG E.P op' t (dZ I (.agg cs)) (dZ I b)=some v-> ∃u,VR O I v u/\(do pure (.value (<-M)):Sem Next).run E.P w= .ok (.value u) w:=by
    rintro op' v rfl hv;obtain⟨u,u1,u2⟩:=Xd hv rx' ry' (by intro k n hh;trivial) (by intro l hh;trivial)
    (intros;simp_all)
   simp;split;obtain⟨u,u1,u2⟩:=key .eql (.bool (dB I e)) rfl (by simp[xG,h5,Option.map_some]);exact dE.pureV r (v:= .H e) (u:=u) u1 u2;obtain⟨u,u1,u2⟩:=key .neq (.bool (!dB I e)) rfl (by simp[xG,h5,Option.map_some]);exact dE.pureV r (v:= .H (.O .not [e])) (u:=u) u1 u2;trivial
 case S b' off len sz=>
  refine dl4 r (by rcases rx with⟨L,cap,a,hL,rfl,_,ha⟩|⟨_,_,rfl,_,h1⟩<;>exact⟨_,_,_,rfl⟩) (λh0=> ?_) ry hM
  rcases rx with⟨L,cap,a,hL,rfl,_,ha⟩|⟨_,_,_,_,h1⟩
  exact⟨b',(dI I off).toNat*sz,_,cap,L,hL,by rw[ha h0]⟩;omega
def cS4(r:HR O I K w0 h w)(o:eN O I af ρ)(op:BinOp)(t:Bg)(x y:vE):
 dt E O I K w0 w h (do pure (.value (<-(do eqGuard op t x y (ρ x) (ρ y);binOp op t (ρ x) (ρ y):Sem AS)))) (LI E.P op t x y h (af x) (af y)):=by
 cases hx:af x with
 |none=>trivial
 |some a=>
  cases hy:af y with
  |none=>trivial
  |some b=>
   simp only[LI];cases hg:AU E.P op t x y a b with
   |false=>trivial
   |true=>
    have hgr:=be6 hg (o x a hx) (o y b hy);have rx:=o x a hx;have ry:=o y b hy;have hM: ∀u,(binOp op t (ρ x) (ρ y)).run E.P w= .ok u w->(do eqGuard op t x y (ρ x) (ρ y);binOp op t (ρ x) (ρ y):Sem AS).run E.P w= .ok u w:=by simp_all
    unfold Vc;split
    refine dl1 (t:=t) r λu hu=>hM u ?_
    grind[uf];split
    refine dl2 (t:=t) r λu hu=>hM u ?_
    grind[Js];split;rename_i ea eb h1 h2;have e1:=xM h1 rx;have e2:=xM h2 ry;unfold XK;split;trivial
    cases hb:RB E.P t with
    |false=>trivial
    |true=>
     have ht:E.P.underlying t=some .bool:=by unfold RB at hb;(intros;grind)
     refine dE.pureV r (u:= .bool (!(dB I ea==dB I eb))) rfl ?_;have hrun:=Dw (P:=E.P) (O:=O) (I:=I) 10000 (t:=t) (a:= .bool (dB I ea)) (b:= .bool (dB I eb)) (r:=dB I ea==dB I eb) (cS2 (by omega) ht) e1 e2 w;have h3:=hM (.bool (!(dB I ea==dB I eb))) (by rw[e1,e2,QW _ _ _ rfl];rw[e1,e2]at hrun;simp[Op.equal,Op.maxDepth,Sem.run_bind,hrun,Result.andThen_ok,Sem.run_pure]);simp_all
    .trivial
    grind[dl5]
def dL0(r:HR O I K w0 h w)(o:eN O I af ρ)(op:UnOp)(x:vE):dt E O I K w0 w h (do pure (.value (<-Op.unary op (ρ x)))) (Qb op h (af x)):=by
 have key: ∀{a v:AV} {s:AV},VR O I a (ρ x)->Pn op (dZ I a)=some v->(∀u,VR O I v u->VR O I s u)->dE E O I K w0 w h (do pure (.value (<-Op.unary op (ρ x)))) s h:=by intro a v s ra hv hs;obtain⟨u,u1,u2⟩:=d91 (P:=E.P) hv (KB _ _ ra);exact dE.pureV r (hs u u1) (by simp_all)
 unfold Qb;split;rename_i e he;split
 exact key (o x _ he) rfl λu hu=>hu
 trivial;trivial;trivial
def dl6(I:Opq)(e x y:SX):dB I (Qs e x y)=bif dB I e then dB I x else dB I y:=by
 have gen:dB I (.O .J [e,x,y])=bif dB I e then dB I x else dB I y:=by
  show Val.Z (bif (bZ I e).Z then bZ I x else bZ I y)=_;unfold dB
  (intros;grind)
 unfold Qs;split;cases dB I e<;>rfl;trivial;omega
def cS5(r:HR O I K w0 h w)(o:eN O I af ρ)(c a b:vE):dt E O I K w0 w h (do pure (.value (if<-asBool (ρ c)then ρ a else ρ b))) (Mj h (af c) (af a) (af b)):=by
 unfold Mj;split;rename_i e he;have hc:=o c _ he;unfold UB;split
 rename_i y hx hy;intro hn;have hn:(!(dB I e))=true:=hn;have hf:dB I e=false:=by grind
 refine dE.pureV r (u:=ρ b) (o b _ hy) ?_;rw[hc,hf];rfl;intro hn;refine dE.pureV r (u:=ρ a) (o a _ ‹_›) ?_;rw[hc,hn];rfl;unfold VW;split;rename_i x y hx hy;obtain⟨a1,h1,h2⟩:=s7.1 hx;obtain⟨b1,h3,h4⟩:=s7.1 hy;have ha:=xM h2 (o a _ h1);have hb:=xM h4 (o b _ h3);refine dE.pureV r (u:= .bool (bif dB I e then dB I x else dB I y)) ?_ ?_;show _=Value.bool (dB I (Qs e x y));rw[dl6];rw[hc,ha,hb];cases dB I e<;>rfl;trivial;trivial
def bj8(r:HR O I K w0 h w)(o:eN O I af ρ)(s:Bg)(f:Nat)(x:vE):dt E O I K w0 w h (do pure (.value (<-Instr.fieldAt s (ρ x) f))) (Ky E.P s f h (af x)):=by unfold Ky;split;rename_i fields b idx j sz ht hx;have hv:=o x _ hx;obtain⟨L,hL,hv⟩:=hv;split;rename_i fd hf;split;rename_i n hs;refine dE.pureV r ⟨L,hL,rfl⟩ ?_;simp[hv,Instr.fieldAt,Sem.run_bind,Y1 ht,Result.andThen_ok,hf,Instr.sureAddr,Sem.run_pure,fieldPlace,fj hs];simp[iO,A5];trivial;trivial;trivial
def cq3(a b:SX):dI I (LW a b)=dI I a+dI I b:=by unfold LW;split;rw[tH];omega;rfl
def cS6{a:SX}(h:dB I (XT a b)=true):dB I a=true/\dB I b=true:=by unfold XT at h;split at h;trivial;simp_all[uX,W7]
def bj9(r:HR O I K w0 h w)(o:eN O I af ρ)(t:Bg)(x i:vE):dt E O I K w0 w h (do pure (.value (<-Instr.indexAt t (ρ x) (ρ i)))) (Mn E.P t h (af x) (af i)):=by
 have run: ∀{elem s:Nat} {k:IntKind} {n:Int} {a:Addr} {len:Int} {cap:Nat},E.P.underlying t=some (.slice elem)->eO E.P elem=some s->ρ i= .int k n->ρ x= .slice (some a) len.toNat cap->0<=n->n<len->
  (do pure (.value (<-Instr.indexAt t (ρ x) (ρ i))):Sem Next).run E.P w= .ok (.value (.pointer (some (a.add (n.toNat*s))))) w:=by
  intro elem s k n a len cap ht hs hi hx h1 h2;have hc:(0:Int)<=n/\n<(len.toNat:Int):=by omega
  rw[hi,hx];simp only[Instr.indexAt,Sem.run_bind,asIntOf,Sem.run_pure,Y1 ht,Result.andThen_ok,Instr.sureAddr,c9 hc,fj hs]
 unfold Mn;split;rename_i elem ht;split;rename_i s hs;split;rename_i k i' hi;obtain⟨ai,g1,g2⟩:=s7.1 hi;have hvi:=uf g2 (o i _ g1);split
 rename_i b off len sz hx;have hv:=o x _ hx;cases hc:Nat.beq s sz with
 |false=>trivial
 |true=>
  intro hd;obtain⟨d1,d2⟩:=cS6 hd;obtain⟨e1,e2⟩:=EF d2;have d1:0<=dI I off:=j6 d1;rcases hv with⟨L,cap,a,hL,hv,hcap,ha⟩|⟨_,_,hv,_,h0⟩
  have ha:=ha (by omega);refine dE.pureV r ⟨L,hL,?_⟩ (run ht hs hvi hv e1 e2);simp_all[iO,cq3,Int.toNat_add,x7,A5];omega
 .rename_i b len sz hx;have hv:=o x _ hx;cases hc:Nat.beq s sz with
  |false=>trivial
  |true=>
   obtain rfl:=Y0.1 hc;intro hd;obtain⟨e1,e2⟩:=EF hd;rcases hv with⟨L,cap,hL,hcap,hv,_⟩|⟨hv,h0⟩
   refine dE.pureV r ⟨L,hL,?_⟩ (run ht hs hvi hv e1 e2);rw[iO];simp;omega
 rename_i b n cap hx;obtain⟨L,hL,hv⟩:=o x _ hx;intro hd;obtain⟨e1,e2⟩:=EF hd;refine dE.pureV r ⟨L,hL,?_⟩ (run (len:=(n:Int)) ht hs hvi (by trivial) e1 (by trivial));rw[iO];simp;trivial;trivial;trivial;trivial
def Ui{ts:Array Bg}{ty:Bg}{cs:aaI}{t:TypeDesc}(ht:(ts[0]?).bind E.P.underlying=some t)(hk:(t= .string/\ ∃s,v= .string s/\s.size=n)\/ ∃e a c,t= .slice e/\v= .slice a n c):
 (builtin .len ts ty cs #[v]).run E.P w= .ok (.value (.int .i64 n)) w:=by
 simp[s7]at ht;obtain⟨t0,h0,ht⟩:=ht;show(do pure (.value (<-Builtin.len_ ts ty #[v])):Sem Next).run E.P w=_;rcases hk with⟨rfl,s,rfl,rfl⟩|⟨e,a,c,rfl,rfl⟩
 simp[Builtin.len_,h0,Y1 ht];rfl;simp[Builtin.len_,h0,Y1 ht];rfl
theorem Rp:VR O I (pT k e) v↔v= .int k (dI I e):=by unfold pT;split;trivial;rfl
theorem dl7(r:HR O I K w0 h w)(rv:VR O I a v)(ts:Array Bg)(ty:Bg)(cs:aaI):
 dt E O I K w0 w h (builtin .len ts ty cs #[v]) (PT E.P ((ts[0]?).bind E.P.underlying) h a):=by
 unfold PT;split;rename_i ht;split;rename_i e;subst rv;exact dE.pureV r (u:= .int .i64 ((dS I e).length:Nat)) rfl (Ui ht (.inl ⟨rfl,_,rfl,by rfl⟩));trivial;rename_i el ht;split;rename_i b off len sz;intro hd;have hd:0<=dI I len:=j6 hd;refine dE.pureV r (u:= .int .i64 ((dI I len).toNat:Nat)) ?_ (Ui ht (.inr ?_));grind[Rp]
 .rcases rv with⟨L,cap,a,_,rfl,_⟩|⟨_,_,rfl,_,h0⟩
  ·(intros;simp_all)
  simp_all
 rename_i b len sz;intro hd;have hd:0<=dI I len:=j6 hd;refine dE.pureV r (u:= .int .i64 ((dI I len).toNat:Nat)) ?_ (Ui ht (.inr ?_));grind[Rp]
 .rcases rv with⟨L,cap,_,_,rfl,_⟩|⟨rfl,h0⟩
  ·(intros;simp_all)
  simp_all
 trivial;trivial
theorem dL1(hfx: ∀t,I.fix t=gi E.P t)(r:HR O I K w0 h w){c:AV}(ra:VR O I a va)(rc:VR O I c vc)(b:Builtin)(ts:Array Bg)(ty:Bg)(cs:aaI):
 dt E O I K w0 w h (builtin b ts ty cs #[va,vc]) (Lc b a c h):=by
 unfold Lc;split;rename_i k ea k' ec h1 h2;have e1:=uf h1 ra;have e2:=uf h2 rc;split;obtain⟨ac,u,w',q1,q2,q3,q4⟩:=YI (P:=E.P) (b:= .max) (ts:=ts) (ty:=ty) (cs:=cs) (args:=[.int k (dI I ea),.int k' (dI I ec)]) (us:= #[va,vc]) (a:= .int k (bif lT (dI I ea) (dI I ec)then dI I ec else dI I ea)) (h':=h) hfx r rfl ⟨va,[vc],rfl,e1,vc,[],rfl,e2,rfl⟩;obtain⟨_,_,_,p1,p2,_⟩: ∃(a b c:Unit),(builtin .max ts ty cs #[va,vc]).run E.P w= .ok (.value u) w'/\u= .int k (bif lT (dI I ea) (dI I ec)then dI I ec else dI I ea)/\True:=⟨(),(),(),q1,q2,trivial⟩;refine⟨ac,u,w',.inl q1,?_,q3,q4⟩;show _=Value.int k (max (dI I ea) (dI I ec));grind[xu,dI];obtain⟨ac,u,w',q1,q2,q3,q4⟩:=YI (P:=E.P) (b:= .min) (ts:=ts) (ty:=ty) (cs:=cs) (args:=[.int k (dI I ea),.int k' (dI I ec)]) (us:= #[va,vc]) (a:= .int k (bif lT (dI I ec) (dI I ea)then dI I ec else dI I ea)) (h':=h) hfx r rfl ⟨va,[vc],rfl,e1,vc,[],rfl,e2,rfl⟩;refine⟨ac,u,w',.inl q1,?_,q3,q4⟩;rw[show u=_ from q2];show _=Value.int k (min (dI I ea) (dI I ec));grind[xu,dI];trivial;trivial
def cq5{c:CT}{v:AV}{u:AS}(h:Hh c v=some e)(r:VR O I v u):u=ig c (bZ I e):=by unfold Hh at h;split at h;split at h;rename_i k k' e' hs;split at h;rename_i hk;subst hk;simp at h;subst h;exact uf hs r;cases h;cases h;exact Js h r;exact xM h r
def sW: ∀{sig:zd} {vs:Fz} {es:Jn} {us:List AS},kL sig vs=some es->ct O I vs us->us=dV sig (.A (Y6 I es))
 | [],[],es,us,h,r=>by trivial
 |c::sig,v::vs,es,us,h,⟨u,ur,e,r1,r2⟩=>by simp[kL]at h;split at h;rename_i e1 e2 h1 h2;simp at h;subst h;rw[e,cq5 h1 r1,sW h2 r2];simp_all[dV,Val.L,List.length_cons,J5,m8,o8,Y6];cases h
 | [],_::_,es,us,h,r=>by trivial
 |_::_,[],es,us,h,r=>by trivial
def BA{sig:zd}{sz:Nat}: ∀{n:Nat} {cs:Fz} {rs:Jn} {us:List AS},pB sig sz n cs=some rs->cs.length=n*sz->ct O I cs us->us=cN sig (Y6 I rs)/\(Y6 I rs).length=n
 |0,cs,rs,us,h,hl,r=>by
  simp[pB,j0]at h;subst h;have:us=[]:=by have:=r.length;grind
  trivial
 |n+1,cs,rs,us,h,hl,r=>by simp[pB]at h;split at h;rename_i e rs' h1 h2;simp at h;subst h;have g1:=sW h1 (r.take sz);have g2:=BA h2 (by(intros;grind)) (r.drop sz);refine⟨?_,by simp[Y6,List.length_cons,g2.2]⟩;rw[<-A3 sz us,g1,g2.1];rfl;cases h
def HR.arrCells{b e sz:Nat}{l:SX}{L:Loc}(r:HR O I K w0 h w)(hg:h.get b=some (.A e sig l))(hb:O b=some L)(hsz:sig.length=sz)(o n:Nat)(hn:o+n<=(dL I l).length):
 ∀j v,(cN sig (((dL I l).drop o).take n))[j]? =some v->w.cell? ⟨L.blk,L.off+o*sz+j,none⟩=some v:=by
 intro j v hj;obtain⟨C,e',lo,hi,q1,q0,q2,q3,q4,q5⟩:=r.arr hg hb;rw[wu q1,show L.off+o*sz+j=L.off+(o*sz+j) by omega];apply q4;have e1:dL I l=(dL I l).take o++(((dL I l).drop o).take n++((dL I l).drop o).drop n):=by rw[A3,A3]
 have e2: ∀a b:U0,cN sig (a++b)=cN sig a++cN sig b:=λa b=>by simp[cN,O1]
 rw[e1,e2,e2];have hl:(cN sig ((dL I l).take o)).length=o*sz:=by rw[jL,l5,hsz];congr 1;omega
 rw[s6 (by omega),hl,show o*sz+j-o*sz=j by omega];grind
def cS7(r:HR O I K w0 h w)(o:eN O I af ρ)(s d:Bg)(x:vE):dt E O I K w0 w h (do pure (.value (<-convert s d (ρ x)))) (KL E.P s d h (af x)):=by unfold KL;split;rename_i sd k hs hd;split;rename_i k' e he;have hv:=o x _ he;simp[VR]at hv;refine dE.pureV r (u:= .int k (k.wrap (dI I e))) rfl ?_;simp[hv,convert,Sem.run_bind,Y1 hs,Y1 hd,Result.andThen_ok];rfl;trivial;trivial;trivial;trivial;trivial
def Yu(sig:zd)(l:U0): ∀u∈cN sig l,u.oneCell'=true:=by intro u hu;simp[cN,A7,dV,j9]at hu;obtain⟨r,_,j,_,rfl⟩:=hu;unfold ig;split<;>rfl
def Au{a:SX}(h:dB I (iC a b)=true):dB I a=true/\dB I b=true:=by simp_all[UH,j8]
def Zy{a:SX}(h:dB I (Pb a b)=true):dI I a=dI I b:=by
 unfold Pb at h;cases hc:SX.beq a b with
 |true=>rw[SX.beq_eq _ _ hc]
 |false=>rw[hc]at h;exact j6 h
def cS8{P:uV}{e':Bg}(r:HR O I K w0 h w)(hyt:P.underlying yt=some (.slice e'))(hs:sig.length=s)(e:YZ s y h=some (sig,nd,ly))(hd:dB I nd=true)(ry:VR O I y vy):
 Src P s yt vy (dL I ly).length (cN sig (dL I ly)) w:=by
 have mk: ∀(a:Addr) (n c:Nat),vy= .slice (some a) n c->n=(dL I ly).length->(∀j v,(cN sig (dL I ly))[j]? =some v->w.cell? (a.add j)=some v)->Src P s yt vy (dL I ly).length (cN sig (dL I ly)) w:=by intro a n c hv hn hc;refine⟨.inl ⟨_,hyt⟩,λw'=>by rw[hv,<-hn];rfl,?_,?_,by rw[jL,hs],Yu _ _⟩;grind[run_firstCells_some,jL];rw[hv,<-hn];exact run_firstCells_some w.drew s n a n c _ (by grind[jL]) hc
 have mk0:vy= .slice none 0 0->(dL I ly).length=0->Src P s yt vy (dL I ly).length (cN sig (dL I ly)) w:=by intro hv hn;have:dL I ly=[]:=C7 hn;rw[this];refine⟨.inl ⟨_,hyt⟩,λw'=>by rw[hv];rfl,?_,?_,by simp[cN],by simp[cN]⟩;rw[hv];rfl;rw[hv];rfl
 unfold YZ at e;split at e
 .rename_i b len s';split at e
  .rename_i el sig' l hg;replace e:=W8 e;obtain⟨hc,e⟩:=e;obtain⟨c1,c2⟩:=W7 hc;rw[Y0]at c2;cases happ:eg6 len with
   |true=>
    rw[happ]at e;obtain⟨rfl,rfl,rfl⟩:=e;obtain⟨d1,d2⟩:=W7 hd;have d2:dI I len<=((dL I l).length:Int):=j6 d2;have hll:dL I (.O .lsub [l,.C 0,len])=((dL I l).drop 0).take (dI I len).toNat:=by
     show((dL I l).drop (0:Int).toNat).take (dI I len-0).toNat=_
     (intros;grind)
    have hln:(dL I (.O .lsub [l,.C 0,len])).length=(dI I len).toNat:=by (intros;simp_all)
    rcases ry with⟨L,cap,hL,hcap,hv,_⟩|⟨hv,h0⟩
    refine mk _ _ cap hv hln.symm λj v hj=> ?_
    rw[hll]at hj;have:=r.arrCells hg hL c2 0 (dI I len).toNat (by omega) j v hj;rw[iO];simpa using this;grind
   |false=>
   rw[happ]at e;simp at e;obtain⟨rfl,rfl,rfl⟩:=e;have hlen:dI I len=((dL I l).length:Int):=by have:=Zy hd;exact this
   rcases ry with⟨L,cap,hL,hcap,hv,_⟩|⟨hv,h0⟩
   refine mk _ _ cap hv (by omega) λj v hj=> ?_
   have:=r.arrCells hg hL c2 0 (dL I l).length (by omega) j v (by simpa using hj);rw[iO];simpa using this;grind
  cases e
 rename_i b off len s';split at e
 rename_i el sig' l hg;replace e:=W8 e;obtain⟨hc,e⟩:=e;obtain⟨c1,c2⟩:=W7 hc;obtain rfl:=Y0.1 c1;rw[Y0]at c2;have Cz:0<=dI I off/\0<=dI I len/\dI I off+dI I len<=((dL I l).length:Int)/\dL I ly=((dL I l).drop (dI I off).toNat).take (dI I len).toNat/\sig'=sig:=by
  cases hq:(SX.beq off (.C 0)&&SX.beq len (.O .Y [l]))with
  |true=>
   obtain⟨k1,k2⟩:=W7 hq;have k1:dI I off=0:=by rw[SX.beq_eq _ _ k1,tH]
   have k2:dI I len=((dL I l).length:Int):=by rw[SX.beq_eq _ _ k2,oz]
   simp_all
  |false=>
   rw[hq]at e;obtain⟨rfl,rfl,rfl⟩:=e;obtain⟨d1,d2⟩:=W7 hd;obtain⟨d2,d3⟩:=W7 d2;have d1:0<=dI I off:=j6 d1;have d2:0<=dI I len:=j6 d2;have d3:dI I off+dI I len<=((dL I l).length:Int):=j6 d3;refine⟨d1,d2,d3,?_,rfl⟩;show((dL I l).drop (dI I off).toNat).take (dI I off+dI I len-dI I off).toNat=_;grind
 obtain⟨d1,d2,d3,hll,rfl⟩:=Cz;have hln:(dL I ly).length=(dI I len).toNat:=by grind
 rcases ry with⟨L,cap,a,hL,hv,hcap,ha⟩|⟨a,c,hv,hnc,h0⟩
 by_cases hz:dI I len=0;grind[dL,List.eq_nil_of_length_eq_zero,cN]
 refine mk a _ cap hv hln.symm λj v hj=> ?_
 rw[hll]at hj;have:=r.arrCells hg hL c2 (dI I off).toNat (dI I len).toNat (by omega) j v hj;grind[iO]
 cases a with
 |none=>
  grind
 |some a=>
  grind[dL,List.eq_nil_of_length_eq_zero,cN]
 .cases e
 rename_i b o n c;split at e;rename_i el fz cs hg;replace e:=W8 e;obtain⟨hc,e⟩:=e;obtain⟨c1,c2⟩:=W7 hc;rw[cV]at c1;split at e;split at e
 rename_i rs hrs;obtain⟨rfl,rfl,rfl⟩:=e;obtain⟨L,hL,hv⟩:=ry;obtain⟨us,u1,u2,u3⟩:=JN r hg hL c1;obtain⟨g1,g2⟩:=BA hrs (by grind) u1;refine mk _ n c hv g2.symm λj v hj=> ?_
 rw[iO];exact u3 j v (by rw[g1];exact hj);cases e;cases e;cases e;rename_i b o n s';split at e;rename_i el fz cs hg;replace e:=W8 e;obtain⟨hc,e⟩:=e;obtain⟨hc,c3⟩:=W7 hc;obtain⟨c1,c2⟩:=W7 hc;rw[cV]at c1;split at e;split at e
 rename_i rs hrs;obtain⟨rfl,rfl,rfl⟩:=e;obtain⟨L,c,hL,hcp,hv⟩:=ry;obtain⟨us,u1,u2,u3⟩:=JN r hg hL c1;obtain⟨g1,g2⟩:=BA hrs (by grind) u1;refine mk _ n c hv g2.symm λj v hj=> ?_
 rw[iO];exact u3 j v (by rw[g1];exact hj);cases e;cases e;cases e;cases e
def bc7(zs:Array AS)(hp:0<zs.size)(n:Nat):(Builtin.zeroCells zs (n+1)).toList=zs.toList++(Builtin.zeroCells zs n).toList:=by show((Array.range ((n+1)*zs.size)).map (λi=>zs[i % zs.size]!)).toList=zs.toList++((Array.range (n*zs.size)).map (λi=>zs[i % zs.size]!)).toList;simp;rw[x7,F7,E5,List.range_add,r9,o8];congr 1;apply J4 (by simp);intro i h1 h2;simp at h1;simp[Nat.mod_eq_of_lt h1,h1];simp_all
theorem aI5{zs:Array AS}{sig:zd}{r:Val}(hp:0<zs.size)(hz:zs.toList=dV sig r): ∀n,(Builtin.zeroCells zs n).toList=cN sig (List.replicate n r)
 |0=>by simp[Builtin.zeroCells,cN]
 |n+1=>by rw[bc7 zs hp n,aI5 hp hz n,List.replicate_succ,hz];rfl
def dl8{P:uV}{z:Fz}(r:HR O I K w0 h w)(hs:sig.length=i.size)(hb:i.bytes<=1000)(hz:ct O I z zv.cells.toList)(hzs:zv.cells.size=i.size)(hp:0<i.size)(e:YG P yt i.size z y h=some (sig,nd,ly))(hd:dB I nd=true)(ry:VR O I y vy):
 SrcZ P i zv yt vy (dL I ly).length (cN sig (dL I ly)) w:=by
 unfold YG at e;split at e;rename_i e' hyt;exact .inl (cS8 r hyt hs e hd ry);trivial;rename_i kn hyt;unfold d78 at e;split at e;rename_i k ex sg hk hc;split at e
 .rename_i es hes;obtain⟨rfl,rfl,rfl⟩:=e;obtain⟨d1,d2⟩:=W7 hd;have d1:0<=dI I ex:=j6 d1;have d2:dI I ex<=se:=j6 d2;have hroom:se=(room:Int):=by trivial
  have hv:=uf hk ry;have hl:dL I (.O .lrep [ex,.O .row es])=List.replicate (dI I ex).toNat (.A (Y6 I es)):=rfl;have hlen:(dL I (.O .lrep [ex,.O .row es])).length=(dI I ex).toNat:=by(intros;simp_all)
  have hrow:=sW hes hz;refine .inr ⟨k,kn,hyt,?_,?_,hb,?_,by rw[jL,hs],Yu _ _⟩
  ·(intros;grind)
  omega;grind[aI5]
 cases e;cases e;cases e
def SrcZ.nil_{P:uV}{x:AS}{news:List AS}(h:SrcZ P i zv yt x 0 news w):news=[]:=by
 rcases h with h|⟨_,_,_,_,_,_,_,h,_⟩
 exact C7 (by simpa using h.newsLen);grind
def Src.nil_{P:uV}{x:AS}{news:List AS}(h:Src P s yt x 0 news w):news=[]:=C7 (by simpa using h.newsLen)
def LX: ∀{a b:zd},hZ a b=true->a=b
 | [],[],_=>rfl
 | [],_::_,h=>by cases h
 |_::_,[],h=>by cases h
 |a::x,b::y,h=>by simp[hZ,j8,decide_eq_true_eq]at h;rw[h.1,LX h.2]
def HR.lay(r:HR O I K w0 h w)(x:Blk):HR O I K w0 (h.new x) w:=by
 have hn: ∀b y,(h.new x).get b=some y->O b≠none->h.get b=some y:=by
  intro b y hg hb;rw[Heap.get_new]at hg;by_cases e:b=h.next
  subst e;exact absurd (r.fresh _ (j5 _)) hb;grind
 refine⟨λb y L hg hb=>r.blk b y L (hn b y hg (by grind)) hb,λb b' y y' L L' g g' m m' hne hw=>r.sep b b' y y' L L' (hn b y g (by grind)) (hn b' y' g' (by grind)) m m' hne hw,
  λb hb=>r.fresh b (by grind[Heap.next_new]),λb hb=> ?_,r.lt,r.kin,r.keep,λb y L hg hw hb=>r.free b y L (hn b y hg (by grind)) hw hb,r.size,r.os,r.tape,r.out,r.dr⟩
 simp at hb;rw[Heap.get_new,b9 (by omega)];exact r.fget b (by omega)
def NG(I:Opq)(sig:zd)(l:U0): ∃cs:Fz,(∀O:cn,ct O I cs (cN sig l))/\cs.all AV.one=true/\cs.length=(cN sig l).length/\ ∀(O:cn) vs,ct O I cs vs->vs=cN sig l:=by
 have: ∀us:List AS,(∀u∈us,∃a:AV,(∀O:cn,VR O I a u)/\a.one=true/\ ∀(O:cn) v,VR O I a v->v=u)-> ∃cs:Fz,(∀O:cn,ct O I cs us)/\cs.all AV.one=true/\cs.length=us.length/\ ∀(O:cn) vs,ct O I cs vs->vs=us:=by
  intro us;induction us with
  |nil=>intro _;exact⟨[],λ_=>rfl,rfl,rfl,λ_ vs h=>h⟩
  |cons u us ih=>
   intro hh;obtain⟨a,a1,a2,a3⟩:=hh u (by simp);obtain⟨cs,c1,c2,c3,c4⟩:=ih λx hx=>hh x (by simp[hx])
   refine⟨a::cs,λO=>⟨u,us,rfl,a1 O,c1 O⟩,by simp[a2,c2],by simp[c3],λO vs ⟨v,vr,e,p,q⟩=> ?_⟩;grind
 refine this _ λu hu=> ?_
 simp[cN,A7,dV,j9]at hu;obtain⟨x,_,j,_,rfl⟩:=hu;unfold ig;split;exact⟨.int _ _,λ_=>rfl,rfl,λ_ v h=>h⟩;exact⟨.str _,λ_=>rfl,rfl,λ_ v h=>h⟩;exact⟨.bool _,λ_=>rfl,rfl,λ_ v h=>h⟩
theorem Dv(sig:zd)(a b:U0):cN sig (a++b)=cN sig a++cN sig b:=by simp[cN,O1]
def UM{P:uV}{m:Sem AS}{sz elem:Nat}{l:SX}{cs:Fz}{h1 h2:Heap}(hsz:0<sz)(hs:sig.length=sz)(hn:(dL I l).length=n)(k:Ok P O I K w0 w h m (.us h1.next 0 n sz) (h1.new (.cells elem 0 cs)))
 (hlim:h1.next<65536) (hcs:cs.length=n*sz) (hdet: ∀(O:cn) vs,ct O I cs vs->vs=cN sig (dL I l)) (h2n:h2.next=h1.next) (h2w:h2.wm=h1.wm) (h2g: ∀z,h2.get z=h1.get z):
 Ok P O I K w0 w h m (.U h1.next (.O .Y [l]) sz) (h2.new (.A elem sig l)):=by
 obtain⟨ac,v,w',e1,e2,e3,e4⟩:=k;obtain⟨L,cap,hL,hcap,hv⟩:=e2;have hg:(h1.new (.cells elem 0 cs)).get h1.next=some (.cells elem 0 cs):=by rw[Heap.get_new,c9 rfl,c9 hlim]
 have hbr:=e3.blk _ _ L hg hL;have hle:n<=cap:=by obtain⟨C,lo,hi,vs,q1,q2,q3,_⟩:=hbr;rw[hcs,<-show cap*sz=L.ext by omega]at q3;exact E6 q3 hsz
 refine⟨ac,v,w',e1,.inl ⟨L,cap,hL,by omega,?_,?_⟩,?_,?_⟩;rw[oz,hn];trivial;rw[oz,hn];trivial;refine HR.retell (y:= .A elem sig l) e3 hg (.inr rfl) ?_ (by simp[h2n]) (by simp[h2w]) (λz=> ?_)
 intro L' hL' hb;obtain⟨C,lo,hi,vs,q1,q2,q3,q4,q5,q6,q7,q8⟩:=hb;have:=hdet _ _ q5;subst this;refine⟨C,_,lo,hi,q1,.inl rfl,q2,by rw[hn,hs,<-hcs];exact q3,λi v hi'=> ?_,λi hi'=>q7 i (p8 _) hi'⟩;have hlt:i<cs.length:=by
  have:=q5.length;rw[<-this];rcases k8 i (cN sig (dL I l)).length with hh|hh
  exact hh;rw[x5 hh]at hi';cases hi'
 (intros;simp_all);rw[Heap.get_new,Heap.get_new,h2n,h2g]
 (split<;>simp_all)
 .refine⟨?_,e4.ext,λb hb hbn=> ?_,?_⟩;have:=e4.le;(intros;simp_all)
  .have hu:=e4.unm b hb hbn;have he:(h2.new (.A elem sig l)).get b=(h1.new (.cells elem 0 cs)).get b:=by
    rw[Heap.get_new,Heap.get_new,h2n,h2g];by_cases hz:b=h1.next
    have:=e4.ext b hb;rw[hz,hL]at this;rw[hz,<-this]at hbn;cases hbn
    (split<;>simp_all)
   rw[he];exact hu
  have:=e4.wm;(intros;simp_all)
def Fo(P:uV)(O:cn)(I:Opq)(K:zI)(w0 w:yM)(h:Heap)(m:Sem AS)(r:Res):Prop:=match r with
 | .N e v h'=>dB I e=true->Ok P O I K w0 w h m v h'
 | .X=>True
 |_=>False
theorem cq6{P:uV}(r:HR O I K w0 h w)(ra:VR O I a va){ty elem:Bg}(ht:P.underlying t=some (.slice elem))(hi:P.info? elem=some i)(hzi:i.zero=some zv)
 (hzs':zv.cells.size=i.size) (c1:0<i.size) (c3:i.bytes<=1000) (c5:sig.length=i.size) (hnf:I.fix elem=false) (hs0:dB I nd=true->SrcZ P i zv yt vc (dL I ly).length (cN sig (dL I ly)) w):
 Fo P O I K w0 w h (Builtin.append_ #[t,yt] ty #[va,vc]) (Kc elem i.size sig nd ly a h):=by
 unfold Kc;obtain⟨ncs,n1,n2,n3,n4⟩:=NG I sig (dL I ly);have n3':ncs.length=(dL I ly).length*i.size:=by grind[jL]
 split
 .cases hc6:Nat.blt h.next 65536 with
  |false=>trivial
  |true=>
  have c6:=eH.1 hc6;intro hd;obtain⟨d1,d2⟩:=Au hd;have d2:dI I (.O .Y [ly])<=dI I (.C se):=j6 d2;rw[oz,tH]at d2;have hroom:(dL I ly).length<=room:=by grind[se,room]
  have hs:=hs0 d1;subst ra;by_cases hn:(dL I ly).length=0;rw[hn]at hs;have hnil:=Go.Ev.SrcZ.nil_ hs;rw[hnil]at hs;refine⟨O,_,_,SrcZ.nothing ht hi hs none 0 0 (j5 _),.inr ⟨rfl,by grind[oz]⟩,r.lay _,by simp,λ_ _=>rfl,λb hb _=>by left;rw[Heap.get_new,b9 (by omega)],rfl⟩;have g:=BG (ty:=ty) (old:=[]) (olds:=[]) (sLen:=0) (sCap:=0) (base:=none) r ht hi hzi hzs' (run_firstCells_none w.drew _ _ _ _) hs (by omega) c1 (by omega) (by omega) c3 .nil rfl (by simp) (n1 O) n2 n3' 0;simp at g;exact UM (h1:=h) (h2:=h) c1 c5 rfl g c6 n3' n4 rfl rfl (λ_=>rfl)
 .rename_i b len sz;split
  .rename_i el sig' l hg;cases hq:(Nat.beq sz i.size&&Nat.beq el elem&&hZ sig' sig&&Nat.ble h.wm b&&Nat.blt h.next 65536&& !(Nat.beq el jP))with
   |false=>trivial
   |true=>
    obtain⟨hq,c7⟩:=W7 hq;have hne:el≠jP:=λe=>by simp_all
    obtain⟨hq,c6⟩:=W7 hq;rw[eH]at c6;obtain⟨hq,q4⟩:=W7 hq;obtain⟨hq,q3⟩:=W7 hq;obtain⟨q1,q2⟩:=W7 hq;obtain rfl:=Y0.1 q1;obtain rfl:=Y0.1 q2;rw[cV]at q4;obtain rfl:=LX q3;intro hd;obtain⟨d1,d2⟩:=Au hd;obtain⟨d3,d2⟩:=Au d2;have d3:dI I len=dI I (.O .Y [l]):=Zy d3;have d2:dI I (.O .Y [rP l ly])<=dI I (.C se):=j6 d2;have hcat:dL I (rP l ly)=dL I l++dL I ly:=dl3 l ly;rw[oz,tH,hcat,k7]at d2;rw[oz]at d3;have hroom:(dL I l).length+(dL I ly).length<=room:=by grind[se,room]
    have hs:=hs0 d1;have fc: ∀(hh:Heap) (x:sP) (z:Nat),(hh.put b x).get z=if z=b then(if b<65536 then x else none)else hh.get z:=λhh x z=>Heap.get_put _ _ _ _
    have hb65:=Heap.get_lim h b _ hg;rcases ra with⟨L,cap,hL,hcap,hv,hle⟩|⟨hv,h0'⟩
    .have hlen:(dI I len).toNat=(dL I l).length:=by omega
     rw[hlen]at hv hle;by_cases hn:(dL I ly).length=0
     have hly:dL I ly=[]:=C7 hn;rw[hn]at hs;have hnil:=Go.Ev.SrcZ.nil_ hs;rw[hnil]at hs;have hbr:=r.blk b _ L hg hL;obtain⟨p1,p2⟩:=HR.rename (w':=w) r b _ (.A el sig' (rP l ly)) L L hg hL q4 rfl (λ_ _=>rfl) rfl rfl rfl rfl rfl (by
      obtain⟨C,e',lo,hi,z1,z0,z2,z3,z4,z5⟩:=hbr;have hd:dL I (rP l ly)=dL I l:=by(intros;simp_all)
      exact⟨C,e',lo,hi,z1,z0,z2,by rw[hd];exact z3,by rw[hd];exact z4,z5⟩)
     subst hv;refine⟨_,_,_,SrcZ.nothing ht hi hs _ _ cap hle,.inl ⟨L,cap,cn.add_self _ _ _,hcap,?_,?_⟩,p1,p2⟩;rw[oz,hcat,hly];simp;grind[oz]
     .obtain⟨ocs,m1,m2,m3,m4⟩:=NG I sig' (dL I l);have m3':ocs.length=(dL I l).length*i.size:=by rw[m3,jL,c5]
      have r2:HR O I K w0 (h.put b (some (.cells el 0 ocs))) w:=by
       refine HR.retell (y:= .cells el 0 ocs) r hg (.inl q4) ?_ rfl rfl (λz=>by rw[fc,c9 hb65]);intro L' hL' hbr;obtain⟨C,e',lo,hi,z1,z0,z2,z3,z4,z5⟩:=hbr;rw[z0.resolve_right hne]at z1;refine⟨C,lo,hi,cN sig' (dL I l),z1,z2,by rw[m3,jL];exact z3,sQ m2,m1 O,λk hk=> ?_,λk _ hk=>z5 k hk,λhh=>by rw[hnf]at hh;cases hh⟩
       (intros;simp_all)
      have hg2:(h.put b (some (.cells el 0 ocs))).get b=some (.cells el 0 ocs):=by(intros;simp_all)
      have g:=dK7 (ty:=ty) (o:=0) (sLen:=(dL I l).length) (sCap:=cap) (n:=(dL I ly).length) (fz:=0) r2 ht hi hzi hzs' c1 hs (by omega) hroom c3 hL hg2 q4 (by simpa using hcap) (p8 _) (by omega) (n1 O) n2 n3' (by trivial) 0 (p8 _);rw[show(List.drop 0 ocs).take ((dL I l).length*i.size)=ocs by(intros;grind)]at g;rw[show(⟨L.blk,L.off+0,none⟩:Addr)=⟨L.blk,L.off,none⟩ by simp,<-hv]at g;have g2:Ok P O I K w0 w h (Builtin.append_ #[t,yt] ty #[va,vc]) (.us ((h.put b (some (.cells el 0 ocs))).put b none).next 0 ((dL I l).length+(dL I ly).length) i.size) (((h.put b (some (.cells el 0 ocs))).put b none).new (.cells el 0 (ocs++ncs))):=by
       obtain⟨ac,v,w',y1,y2,y3,y4⟩:=g;refine⟨ac,v,w',y1,y2,y3,y4.le,y4.ext,λz hz hzn=> ?_,y4.wm⟩;have hu:=y4.unm z hz hzn
       (intros;grind)
      refine UM (h1:=(h.put b (some (.cells el 0 ocs))).put b none) (h2:=h.put b none) (l:=rP l ly) c1 c5 (by(intros;simp_all)) g2 c6 ?_ ?_ rfl rfl (λz=> ?_)
      ·(intros;grind)
      intro ac vs hvs;rw[hcat,Dv];have e1:=hvs.take ocs.length;have e2:=hvs.drop ocs.length;rw[F9]at e1;rw[G0]at e2;rw[<-A3 ocs.length vs,m4 ac _ e1,n4 ac _ e2];grind
    have hl0:(dL I l).length=0:=by omega
    subst hv;obtain⟨r1,st1⟩:=r.drop b;by_cases hn:(dL I ly).length=0;rw[hn]at hs;have hnil:=Go.Ev.SrcZ.nil_ hs;rw[hnil]at hs;refine⟨O,_,_,SrcZ.nothing ht hi hs none 0 0 (j5 _),.inr ⟨rfl,by grind[oz]⟩,r1.lay _,st1.trans ⟨by simp,λ_ _=>rfl,λb hb _=>by left;rw[Heap.get_new,b9 (by omega)],rfl⟩⟩;have g:=BG (ty:=ty) (old:=[]) (olds:=[]) (sLen:=0) (sCap:=0) (base:=none) r1 ht hi hzi hzs' (run_firstCells_none w.drew _ _ _ _) hs (by omega) c1 (by omega) (by omega) c3 .nil rfl (by simp) (n1 O) n2 n3' 0;simp at g;obtain⟨ac,v,w',y1,y2,y3,y4⟩:=UM (h1:=h.put b none) (h2:=h.put b none) (l:=rP l ly) c1 c5 (n:=(dL I ly).length) (by grind) g c6 n3' (by grind) rfl rfl (λ_=>rfl);exact⟨ac,v,w',y1,y2,y3,st1.trans y4⟩
  trivial
 trivial
def cq7{sig:zd}{l idx:SX}{j sz b:Nat}{L:Loc}{C:Array AS}{e':Bg}{lo hi:Nat}{v:AS}(r:HR O I K w0 h w)(hL:O b=some L)(hv:v= .pointer (some ⟨L.blk,L.off+(dI I idx).toNat*sz+j,none⟩))(q1:w.heap[L.blk]? =some (.cells C e' (lo,hi)))
 (q4: ∀i v,(cN sig (dL I l))[i]? =some v->C[L.off+i]? =some v) (t:Bg):dt E O I K w0 w h (do pure (.value (<-Instr.loadAt t v))) (MS E.P t sig l idx j sz h):=by
 have cell: ∀(m:Nat),m<sig.length->sig.length=sz->0<=dI I idx->dI I idx<dI I (.O .Y [l])->
  w.cell? ⟨L.blk,L.off+(dI I idx).toNat*sz+m,none⟩=some (ig (sig.getD m .bool) (ck (dL I l) (dI I idx) m)):=by
  intro m hm hs h0 h1;rw[wu q1];rw[oz]at h1;have hlt:(dI I idx).toNat<(dL I l).length:=by omega
  have:=GY (sig:=sig) (j:=m) hm hlt;grind[dI,ck]
 unfold MS;split
 rename_i n h1 h2;cases hc:(Nat.beq sig.length sz&&Nat.ble (j+n) sz)with
 |false=>trivial
 |true=>
  obtain⟨c1,c2⟩:=W7 hc;rw[Y0]at c1;rw[cV]at c2;intro hd;obtain⟨g1,g2⟩:=EF hd;refine dE.pureV r (u:= .agg ((List.range' j n).map λt=>ig (sig.getD t .bool) (ck (dL I l) (dI I idx) t)).toArray) ⟨_,rfl,Qi sig l idx n j⟩ ?_;have hload:=run_loadCells_list (P:=E.P) w ⟨L.blk,L.off+(dI I idx).toNat*sz+j,none⟩ ((List.range' j n).map λt=>ig (sig.getD t .bool) (ck (dL I l) (dI I idx) t)) (λi v hi=>by rw[iO];grind);simp at hload;rw[hv];simp[Instr.loadAt,Instr.sureAddr,Sem.run_bind,Sem.run_pure,Result.andThen_ok,loadVar,DC h1,if_true,fj h2,hload]
 .rename_i n h1 h2;cases hc:(Nat.beq sig.length sz&&Nat.blt j sz)with
  |false=>trivial
  |true=>
   intro hd;obtain⟨g1,g2⟩:=EF hd;refine dE.pureV r (EB _ _) ?_;simp[Instr.loadAt,Instr.sureAddr,Sem.run_bind,Sem.run_pure,Result.andThen_ok,loadVar,DC h1,n9,if_false];simp_all;rfl
 trivial
def cS9(r:HR O I K w0 h w)(o:eN O I af ρ)(t:Bg)(x:vE):dt E O I K w0 w h (do pure (.value (<-Instr.loadAt t (ρ x)))) (KX E.P t h (af x)):=by unfold KX;split;rename_i b idx j sz hx;have hv:=o x _ hx;obtain⟨L,hL,hv⟩:=hv;split;rename_i el sig l hg;obtain⟨C,e',lo,hi,q1,q0,q2,q3,q4,q5⟩:=r.arr hg hL;exact cq7 r hL hv q1 q4 t;trivial;trivial;trivial;trivial
def cq8(r:HR O I K w0 h w){elem:Nat}{x':AV}{h':Heap}(hf:I.fix elem=false)(e:UO elem s sig x h=some (x',h'))(rx:VR O I x v):
 ∃ac,HR ac I K w0 h' w/\VR ac I x' v/\St h O h' ac:=by
 have main: ∀(b o n cap:Nat) (L:Loc) (fz:Nat) (cs:Fz) (rs:Jn),h.get b=some (.cells elem fz cs)->O b=some L->h.wm<=b->fz<=o->o+cap*s<=L.ext->o+n*s<=cs.length->n<=cap->sig.length=s->h.next<65536->
  pB sig s n ((cs.drop o).take (n*s))=some rs->v= .slice (some ⟨L.blk,L.off+o,none⟩) n cap->
  x'= .U h.next (.O .Y [.O .row rs]) s->h'=(h.put b none).new (.A elem sig (.O .row rs))-> ∃ac,HR ac I K w0 h' w/\VR ac I x' v/\St h O h' ac:=by
  intro b o n cap L fz cs rs hg hL hwm hfo hext hn hnc hsl hlim hrs hv hx hh;obtain⟨C,lo,hi,vs,q1,q2,q3,q4,q5,q6,q7⟩:=r.cells hg hL;obtain⟨z1,z2⟩:=BA hrs (by grind) ((q5.drop o).take (n*s));obtain⟨r1,s1⟩:=HR.rename (w':=w) r b _ (.A elem sig (.O .row rs)) L ⟨L.blk,L.off+o,cap*s⟩ hg hL hwm rfl (λ_ _=>rfl) rfl rfl rfl rfl rfl (by
   refine⟨C,_,lo,hi,q1,.inl rfl,by grind,?_,λi v hi'=> ?_,λi hi'=> ?_⟩;show(Y6 I rs).length*sig.length<=cap*s;simp_all[B4];have hi':(cN sig (Y6 I rs))[i]? =some v:=hi';grind
   (simp_all;grind))
  subst hx;subst hh;refine⟨_,r1,.inl ⟨_,cap,cn.add_self _ _ _,rfl,?_,?_⟩,s1⟩
  have hll:(dI I (.O .Y [.O .row rs])).toNat=n:=by trivial
  grind;show(((Y6 I rs).length:Nat):Int).toNat<=cap;omega
 unfold UO at e;split at e;rename_i b o n c;split at e;rename_i e0 fz cs hg;replace e:=W8 e;obtain⟨hc,e⟩:=e;obtain⟨hc,c7⟩:=W7 hc;obtain⟨hc,c6⟩:=W7 hc;obtain⟨hc,c5⟩:=W7 hc;obtain⟨hc,c4⟩:=W7 hc;obtain⟨hc,c3⟩:=W7 hc;obtain⟨c1,c2⟩:=W7 hc;obtain rfl:=Y0.1 c1;rw[Y0]at c6;rw[cV]at c2 c3 c4 c5;rw[eH]at c7;split at e;obtain⟨L,hL,hv⟩:=rx;have hns:n*s<=c*s:=B4 _ c5;have hbr:=r.blk b _ L hg hL;obtain⟨_,_,_,_,_,_,q3,_⟩:=hbr;grind;cases e;cases e;rename_i b o n s';split at e;rename_i e0 fz cs hg;replace e:=W8 e;obtain⟨hc,e⟩:=e;obtain⟨hc,c8⟩:=W7 hc;obtain⟨hc,c7⟩:=W7 hc;obtain⟨hc,c6⟩:=W7 hc;obtain⟨hc,c5⟩:=W7 hc;obtain⟨hc,c4⟩:=W7 hc;obtain⟨hc,c3⟩:=W7 hc;obtain⟨c1,c2⟩:=W7 hc;obtain rfl:=Y0.1 c1;obtain rfl:=Y0.1 c5;rw[Y0]at c6;rw[cV]at c2 c3 c4;rw[eH]at c7 c8;split at e
 obtain⟨L,cap,hL,hcap,hv⟩:=rx;have hbr:=r.blk b _ L hg hL;obtain⟨_,_,_,_,_,_,q3,_⟩:=hbr;have hnc:n<=cap:=by
  have:n*s'<=cap*s':=by omega
  exact E6 this c8
 grind;cases e;cases e;trivial;cases e
def cc5(hfx: ∀t,I.fix t=gi E.P t)(r:HR O I K w0 h w){c:AV}(ra:VR O I a va)(rc:VR O I c vc)(ts:Array Bg)(ty:Bg)(cs:aaI):
 dt E O I K w0 w h (builtin .append ts ty cs #[va,vc]) (Tw E.P ts a c h):=by
 have lift: ∀{x:AV} {h':Heap},Ok E.P O I K w0 w h (Builtin.append_ ts ty #[va,vc]) x h'->dE E O I K w0 w h (builtin .append ts ty cs #[va,vc]) x h':=λk=>dE.of k
 unfold Tw;split;rename_i elem yt h1 h2;split;rename_i i z hi hz;split
 rename_i sig nd ly hrows;cases hc:(Nat.blt 0 i.size&&Nat.beq z.cells.length i.size&&Nat.ble i.bytes 1000&&Nat.beq ts.size 2&&Nat.beq sig.length i.size&& !(gi E.P elem))with
 |false=>trivial
 |true=>
  obtain⟨hc,c7⟩:=W7 hc;have hnf:I.fix elem=false:=by(intros;simp_all)
  obtain⟨hc,c5⟩:=W7 hc;obtain⟨hc,c4⟩:=W7 hc;obtain⟨hc,c3⟩:=W7 hc;obtain⟨c1,c2⟩:=W7 hc;rw[eH]at c1;rw[Y0]at c2 c4 c5;rw[cV]at c3;simp[s7]at h1;obtain⟨t,h0,ht⟩:=h1;obtain rfl:=eh4 h0 h2 c4;obtain⟨i',zv,hi',hzi,hzs,hzv⟩:=bx8 hz;rw[hi]at hi';simp at hi';subst hi';have hzs':zv.cells.size=i.size:=hzs.trans c2;have hs0:dB I nd=true->SrcZ E.P i zv yt vc (dL I ly).length (cN sig (dL I ly)) w:=λhd=>dl8 r c5 c3 (hzv _ _) hzs' c1 hrows hd rc
  have fin: ∀(res:Res),Fo E.P O I K w0 w h (Builtin.append_ #[t,yt] ty #[va,vc]) res->dt E O I K w0 w h (builtin .append #[t,yt] ty cs #[va,vc]) res:=by intro res hr;cases res<;>first|exact hr.elim|trivial|(intro hd;exact lift (hr hd))
  unfold Zq;split
  rename_i p hp;obtain⟨ac,r1,rx,s1⟩:=cq8 r hnf (x':=p.1) (h':=p.2) hp ra;have:=cq6 (ty:=ty) r1 rx ht hi hzi hzs' c1 c3 c5 hnf hs0;refine fin _ ?_;revert this;cases Kc elem i.size sig nd ly p.1 p.2 with
  |N e v h'=>
   intro hh hd;obtain⟨ap,u,w',y1,y2,y3,y4⟩:=hh hd;exact⟨ap,u,w',y1,y2,y3,s1.trans y4⟩
  |X=>intro _;trivial
  |_=>intro hh;trivial
  grind[cq6]
 .trivial
 trivial;trivial
variable{ks vs:zd}{v:AS}{l:SX}{es xs:Jn}
variable{E:Env}{O:cn}{I:Opq}{K:zI}{w0 w:yM}{h h':Heap}{af:vE->yU}{ρ:vE->AS}
def BN(c:CT)(x:Val):AV:=match c with
 | .int k=> .int k x.I
 | .str=> .str x.S
 | .bool=> .bool x.Z
def il(r:Val):zd->Nat->Fz
 | [],_=>[]
 |c::cs,j=>BN c (r.L.getD j default)::il r cs (j+1)
def fW(r:Val):zd->Nat->List AS
 | [],_=>[]
 |c::cs,j=>ig c (r.L.getD j default)::fW r cs (j+1)
def RG(c:CT)(x:Val):VR O I (BN c x) (ig c x):=by cases c<;>rfl
theorem EA(r:Val): ∀(sig:zd) (j:Nat),ct O I (il r sig j) (fW r sig j)
 | [],_=>rfl
 |c::cs,j=> .cons (RG c _) (EA r cs (j+1))
def CK(r:Val): ∀(sig:zd) (j:Nat),(fW r sig j).length=sig.length
 | [],_=>rfl
 |c::cs,j=>by simp[fW,CK r cs (j+1)]
def bX8(r:Val): ∀(a b:zd) (j:Nat),fW r (a++b) j=fW r a j++fW r b (j+a.length)
 | [],b,j=>rfl
 |c::a,b,j=>by
  have:=bX8 r a b (j+1);simp[List.cons_append,fW,this,List.length_cons]
  (intros;grind)
def by8(sig:zd)(r:Val): ∀(s:zd) (j:Nat),sig.drop j=s->(List.range' j s.length).map (λt=>ig (sig.getD t .bool) (r.L.getD t default))=fW r s j
 | [],j,_=>rfl
 |c::s,j,h=>by
  have h1:sig.getD j .bool=c:=by have:=congrArg (λz:zd=>z[0]?) h;grind
  have h2:sig.drop (j+1)=s:=by grind[List.tail_drop]
  rw[List.length_cons,F6,m8,h1,by8 sig r s (j+1) h2];rfl
def qV(sig:zd)(r:Val):dV sig r=fW r sig 0:=by have:=by8 sig r sig 0 rfl;grind[dV,List.range_eq_range']
def bX9(ks vs:zd)(r:Val):qS ks vs r=(lq (fW r ks 0),lq (fW r vs ks.length)):=by simp_all[qS,qV,bX8,m9,CK,F9,G0]
theorem JH: ∀{a:Fz} {us:List AS},ct O I a us->VR O I (mh a) (lq us)
 | [],us,h=>by rw[show us=[]from h];exact⟨_,rfl,rfl⟩
 | [x],us,⟨v,vr,e,h1,h2⟩=>by rw[e,show vr=[]from h2];exact h1
 |x::y::r,us,⟨v,vr,e,h1,u,ur,e2,h3,h4⟩=>by rw[e,e2];exact⟨_,rfl,.cons h1 (.cons h3 h4)⟩
def MT{us:List AS}(h:2<=us.length):lq us= .agg us.toArray:=by
 match us,h with
 |_::_::_,_=>rfl
def Ay(I:Opq)(n:Nat)(k r:Val):Opq:=⟨I.v,λi=>if i<n then k.L.getD i default else r.L.getD (i-n) default,I.f,I.one,I.fix,I.gh⟩
def cr0(I:Opq)(c:CT)(e:SX):dZ I (wD c e)=BN c (bZ I e):=by cases c<;>rfl
def Mk{aa:Opq}{r:Val}: ∀(s:zd) (i j:Nat),(∀t,t<s.length->aa.w (i+t)=r.L.getD (j+t) default)->rg aa (tS s i)=il r s j
 | [],_,_,_=>rfl
 |c::s,i,j,h=>by have h0:=h 0 (by simp);have ih:=Mk s (i+1) (j+1) (λt ht=>by have:=h (t+1) (by simp;omega);rw[show i+1+t=i+(t+1) by omega,show j+1+t=j+(t+1) by omega];exact this);simp only[tS,rg,il,cr0,ih];rw[show bZ aa (.V i)=aa.w i from rfl,show aa.w i=r.L.getD j default by trivial]
def bY0{aa:Opq}{k r:Val}: ∀(s:zd) (i j c:Nat),(∀t,t<s.length->aa.w (i+t)=k.L.getD (c+t) default)->(∀t,t<s.length->aa.w (j+t)=r.L.getD (c+t) default)->dB aa (Ni s i j)=zZ r k s c
 | [],_,_,_,_,_=>rfl
 |q::s,i,j,c,h1,h2=>by
  have a:=h1 0 (by simp);have b:=h2 0 (by simp);simp at a b;have ih:=bY0 s (i+1) (j+1) (c+1) (λt ht=>by
   have:=h1 (t+1) (by grind);rw[show i+1+t=i+(t+1) by omega,show c+1+t=c+(t+1) by omega];exact this) (λt ht=>by
   have:=h2 (t+1) (by grind);rw[show j+1+t=j+(t+1) by omega,show c+1+t=c+(t+1) by omega];exact this)
  have hand: ∀x y:SX,dB aa (iC x y)=(dB aa x&&dB aa y):=λx y=>by unfold iC;split;rfl;split;show dB aa _=(dB aa _&&true);grind;rfl
  simp[Ni,zZ,hand,ih];congr 1;cases q;show decide ((aa.w i).I=(aa.w j).I)=_;rw[a,b];rfl;show decide ((aa.w i).S=(aa.w j).S)=_;rw[a,b];rfl;show((aa.w i).Z==(aa.w j).Z)=_;rw[a,b];rfl
def cU0{P:uV}{kt:Bg}(hk:wl P kt ks=true)(k r:Val):ld P 10000 kt (.agg (il k ks 0)) (.agg (il r ks 0))=some (gV ks r k):=by obtain⟨_,hk⟩:=W7 hk;split at hk;rename_i e he;obtain rfl:=SX.beq_eq _ _ hk;have:=Rs (I:=Ay ax ks.length k r) 10000 he;simp[dZ]at this;rw[Mk (r:=k) ks 0 0 (λt ht=>by simp[Ay,ht]),Mk (r:=r) ks ks.length 0 (λt ht=>by simp only[Ay];(split<;>grind))]at this;rw[this,bY0 (k:=k) (r:=r) ks 0 ks.length 0 (λt ht=>by simp[Ay,ht]) (λt ht=>by simp only[Ay];(split<;>grind))];rfl;grind
def Wi{P:uV}{kt:Bg}(hk:wl P kt ks=true)(k:Val):ue P kt (.agg (il k ks 0))=true:=by obtain⟨hk,_⟩:=W7 hk;have e:il k ks 0=rg (Ay ax ks.length k k) (tS ks 0):=(Mk (r:=k) ks 0 0 (λt ht=>by simp[Ay,ht])).symm;rw[e];unfold ue at hk⊢;split at hk;trivial;trivial;trivial;rename_i fields cs hu hq;cases hq;rw[hu];rw[Q8]at hk⊢;intro f hf;obtain⟨h1,h2⟩:=W7 (hk f hf);obtain⟨a,ha⟩:=Q7.1 h1;rw[Ze ha,h2];rfl;grind
def eh6(ks vs:zd)(r:Val):AV×AV:=(.agg (il r ks 0),mh (il r vs ks.length))
def OQ{ks vs:zd}(h2:2<=ks.length): ∀{rows:U0} {m:aaE},(m.map λe=>(e.key,e.val))=rows.map (qS ks vs)-> ∃es,ERs O I es m/\(es.map λe=>(e.key,e.val))=rows.map (eh6 ks vs)
 | [],[],_=>⟨[],.nil,rfl⟩
 | [],_::_,h=>by cases h
 |_::_,[],h=>by cases h
 |r::rows,e::m,h=>by simp at h;obtain⟨es,h3,h4⟩:=OQ h2 (rows:=rows) (m:=m) h.2;rw[bX9]at h;obtain⟨k,v,b⟩:=e;have hk:k=lq (fW r ks 0):=congrArg Prod.fst h.1;refine⟨⟨.agg (il r ks 0),mh (il r vs ks.length),b⟩::es,.cons ?_ ?_ h3,by simp_all;rfl⟩;rw[hk,MT (by rw[CK];exact h2)];exact⟨_,rfl,EA r ks 0⟩;grind[JH,EA]
def Ox{P:uV}{kt:Bg}{ks vs:zd}(hk:wl P kt ks=true)(k:Val): ∀{rows:U0} {es:aaO} (i:Nat),(es.map λe=>(e.key,e.val))=rows.map (eh6 ks vs)->
 (rows.findIdx (λr=>gV ks r k)=rows.length/\pJ P kt (.agg (il k ks 0)) es i=some none)\/
 ∃e r,rows.findIdx (λr=>gV ks r k)<rows.length/\rows[rows.findIdx (λr=>gV ks r k)]? =some r/\gV ks r k=true/\pJ P kt (.agg (il k ks 0)) es i=some (some (i+rows.findIdx (λr=>gV ks r k),e))/\e.key= .agg (il r ks 0)/\e.val=mh (il r vs ks.length)
 | [],[],i,_=> .inl ⟨rfl,rfl⟩
 | [],_::_,i,h=>by cases h
 |_::_,[],i,h=>by cases h
 |r::rows,e::es,i,h=>by
  simp at h;have h1:e.key= .agg (il r ks 0):=congrArg Prod.fst h.1;have h2:e.val=mh (il r vs ks.length):=congrArg Prod.snd h.1;have hq:=cU0 hk k r;rw[List.findIdx_cons];cases hc:gV ks r k with
  |true=>
   simp_all[pJ,cond_true,Nat.add_zero]
  |false=>
   rw[hc]at hq;rcases Ox hk k (i+1) h.2 with⟨a,b⟩|⟨e',r',a1,a2,a3,a4,a5,a6⟩
   exact .inl ⟨by rw[a];rfl,by simp[pJ,h1,hq];exact b⟩;grind[List.length_cons,Nat.succ_lt_succ,pJ]
def HR.marr{b:Nat}{d:Bool}{L:Loc}(r:HR O I K w0 h w)(hg:h.get b=some (.marr d ks vs l))(hb:O b=some L):
 ∃E c,w.heap[L.blk]? =some (.map E c)/\(E.toList.map λe=>(e.key,e.val))=(dL I l).map (qS ks vs)/\gO d E.toList c:=r.blk b _ L hg hb
def gO.push{d:Bool}{E:aaE}{c:Nat}(h:gO d E c)(k x:AS):gO d (E++[⟨k,x,c⟩]) (c+1):=by
 obtain⟨h1,h2,h3⟩:=h;refine⟨?_,?_,?_⟩
 ·(intros;grind)
 ·(intros;grind)
 intro hd;rw[r9,h3 hd,R2];rfl
def b18{f:MapEntry->MapEntry}(hf: ∀e,(f e).born=e.born): ∀(E:aaE) (i:Nat),(E.modify i f).map (·.born)=E.map (·.born)
 | [],i=>by grind
 |e::E,0=>by grind
 |e::E,i+1=>by simpa using b18 hf E i
def gO.modify{d:Bool}{E:aaE}{c:Nat}(h:gO d E c)(i:Nat)(f:MapEntry->MapEntry)(hf: ∀e,(f e).born=e.born):gO d (E.modify i f) c:=by
 obtain⟨h1,h2,h3⟩:=h;have hm:=b18 hf E i;refine⟨by rw[hm];exact h1,λe he=> ?_,λhd=>by rw[hm];exact h3 hd⟩;have:e.born∈(E.modify i f).map (·.born):=List.mem_map_of_mem he
 (intros;grind)
def Pe(ks:zd)(l:SX)(es:Jn):dI I (nB ks l es)=((dL I l).findIdx (λr=>gV ks r (.A (Y6 I es))):Nat):=rfl
theorem xP(ks:zd)(l:SX)(es:Jn):dB I (gJ ks l es)=decide ((dL I l).findIdx (λr=>gV ks r (.A (Y6 I es)))<(dL I l).length):=by show decide (((dL I l).findIdx (λr=>gV ks r (.A (Y6 I es))):Int)<((dL I l).length:Int))=_;simp
def tO(c a b:SX):bZ I (.O .J [c,a,b])=bif dB I c then bZ I a else bZ I b:=rfl
theorem bz0{ks:zd}{l:SX}{es:Jn}{r:Val}(hh:dB I (gJ ks l es)=true)(hr:(dL I l)[(dL I l).findIdx (λr=>gV ks r (.A (Y6 I es)))]? =some r): ∀(vs:zd) (j:Nat) (zs:Jn),zs.length=vs.length->ct O I (nh ks l es vs j zs) (fW r vs j)
 | [],_,_,_=>by rfl
 |c::vs,j,[],h=>by simp at h
 |c::vs,j,z::zs,h=>by
  have ih:=bz0 hh hr vs (j+1) zs (by simpa using h);refine .cons ?_ ih;have e:bZ I (.O .J [gJ ks l es,.O .G [l,nB ks l es,.C j],z])=r.L.getD j default:=by rw[tO,hh];show ck (dL I l) (dI I (nB ks l es)) (j:Int)=_;rw[Pe];show(((dL I l)[(dL I l).findIdx _]?).getD (.A [])).L.getD j default=_;rw[hr];rfl
  grind[EB]
def bz1{ks:zd}{l:SX}{es:Jn}(hh:dB I (gJ ks l es)=false): ∀(vs:zd) (j i:Nat) (zs:Jn) (q:Val),zs.length=vs.length->(∀t,t<zs.length->q.L.getD (i+t) default=bZ I (zs.getD t (.cb false)))->ct O I (nh ks l es vs j zs) (fW q vs i)
 | [],_,_,_,_,_,_=>by rfl
 |c::vs,j,i,[],q,h,_=>by simp at h
 |c::vs,j,i,z::zs,q,h,hq=>by
  have ih:=bz1 hh vs (j+1) (i+1) zs q (by simpa using h) (λt ht=>by (simp_all;grind))
  refine .cons ?_ ih;have e:bZ I (.O .J [gJ ks l es,.O .G [l,nB ks l es,.C j],z])=q.L.getD i default:=by
   rw[tO,hh];have:=hq 0 (by simp)
   (intros;grind)
  grind[EB]
theorem b19{z:AV}(hs:wK vs z=true)(hv:VR O I z v)(hl:v.cells.toList.length=vs.length):lq v.cells.toList=v:=by
 match vs,hs with
 | [c],hs=>
   trivial
 |_::_::_,hs=>
  cases z with
  |agg cs=>
   obtain⟨xs,rfl,_⟩:=hv;show lq xs.toList=_;have:2<=xs.toList.length:=by have:xs.toList.length=_:=hl;grind
   rw[MT this]
  |_=>cases hs
def cr1{c:CT}{x:Val}(h:VR O I (BN c x) v):v=ig c x:=by cases c<;>exact h
def QY(r:Val): ∀(sig:zd) (j:Nat) {us:List AS},ct O I (il r sig j) us->us=fW r sig j
 | [],_,_,h=>h
 |c::cs,j,_,⟨v,vr,e,h1,h2⟩=>by rw[e,cr1 h1,QY r cs (j+1) h2];rfl
def dl9(r:Val)(sig:zd)(j:Nat)(h:VR O I (mh (il r sig j)) v):v=lq (fW r sig j):=by
 match sig,h with
 | [],⟨xs,e,h⟩=>rw[e];congr 1;exact O2.1 h
 | [c],h=>exact cr1 h
 |c::d::s,⟨xs,e,h⟩=>
  rw[e,MT (by rw[CK];simp),<-QY r (c::d::s) j h]
def NM(I:Opq): ∀l:Jn,(Y6 I l).length=l.length
 | []=>rfl
 |_::r=>by simp[Y6,NM I r]
def UU(I:Opq): ∀(l:Jn) (t:Nat),t<l.length->(Y6 I l).getD t default=bZ I (l.getD t (.cb false))
 | [],t,h=>by simp at h
 |x::r,0,_=>rfl
 |x::r,t+1,h=>by have:=UU I r t (by simpa using h);grind[Y6]
theorem xB: ∀{sig:zd} {vs:Fz} {es:Jn},kL sig vs=some es->es.length=sig.length
 | [],[],es,h=>by grind[kL,Option.some.injEq]
 | [],_::_,es,h=>by cases h
 |_::_,[],es,h=>by cases h
 |c::cs,v::vs,es,h=>by unfold kL at h;split at h;rename_i e es' h1 h2;simp at h;subst h;simp[xB h2];cases h
def bY1{z:AV}(hs:wK vs z=true):z.nt=true:=by unfold wK at hs;split at hs;cases hs;trivial;cases z<;>first|rfl|cases hs
def OZ(I:Opq): ∀a b:Jn,Y6 I (a++b)=Y6 I a++Y6 I b
 | [],_=>rfl
 |x::a,b=>by simp[Y6,OZ I a b]
def cc6{c:CT}{e e':SX}{u:AS}(h:bZ I e'=bZ I e)(r:VR O I (wD c e) u):VR O I (wD c e') u:=by
 have h1:=EB (O:=O) (I:=I) c e';have h2:u=ig c (bZ I e):=by cases c<;>exact r
 grind
def bf1{ks:zd}{l l':SX}{es:Jn}: ∀(vs:zd) (j:Nat) (zs:Jn) {us:List AS},(∀t,t<zs.length->bZ I (.O .J [gJ ks l' es,.O .G [l',nB ks l' es,.C ((j+t:Nat):Int)],zs.getD t (.cb false)])=bZ I (.O .J [gJ ks l es,.O .G [l,nB ks l es,.C ((j+t:Nat):Int)],zs.getD t (.cb false)]))->
 ct O I (nh ks l es vs j zs) us->ct O I (nh ks l' es vs j zs) us
 | [],_,_,us,_,h=>by grind[nh]
 |c::vs,j,[],us,_,h=>by grind[nh]
 |c::vs,j,z::zs,us,hq,h=>by
  obtain⟨u,ur,rfl,h1,h2⟩:=h;refine .cons (cc6 ?_ h1) (bf1 vs (j+1) zs (λt ht=> ?_) h2);grind
  (simp_all;grind)
theorem bz2{ks:zd}{l:SX}{es:Jn}: ∀(vs:zd) (j:Nat) (zs:Jn),(nh ks l es vs j zs).length=min vs.length zs.length
 | [],_,_=>by rfl
 |c::vs,j,[]=>by rfl
 |c::vs,j,z::zs=>by show(nh ks l es vs (j+1) zs).length+1=_;rw[bz2 vs (j+1) zs];simp
def cr2{A B:Fz}(hl:A.length=B.length)(h: ∀us,ct O I A us->ct O I B us)(r:VR O I (mh A) v):VR O I (mh B) v:=by
 match A,B,hl with
 | [a],[b],_=>
   have h1:=h [v] ⟨v,[],rfl,r,rfl⟩;obtain⟨u,ur,e,h2,_⟩:=h1;obtain⟨rfl,_⟩:=R3 e;exact h2
 | [],[],_=>
   omega
 |a::b::A,c::d::B,_=>
  obtain⟨xs,e,h1⟩:=r;exact⟨xs,e,h _ h1⟩
def cU1(c:CT){x y:Val}(h:x=y):KO c x y=true:=by subst h;cases c<;>simp[KO]
def bz3{r k:Val}: ∀(s:zd) (j:Nat),(∀t,t<s.length->k.L.getD (j+t) default=r.L.getD (j+t) default)->zZ r k s j=true
 | [],_,_=>rfl
 |c::s,j,h=>by show(KO c _ _&&zZ r k s (j+1))=true;rw[cU1 c (by simpa using h 0 (by simp)),bz3 s (j+1) (λt ht=>by (simp_all;grind))];rfl
def bz4{zs:Jn}(hes:es.length=ks.length): ∀t,t<zs.length->bZ I (.O .J [gJ ks (DT ks es zs l) es,.O .G [DT ks es zs l,nB ks (DT ks es zs l) es,.C ((ks.length+t:Nat):Int)],zs.getD t (.cb false)])=bZ I (.O .J [gJ ks l es,.O .G [l,nB ks l es,.C ((ks.length+t:Nat):Int)],zs.getD t (.cb false)]):=by
 intro t ht;unfold DT;split
 rename_i c l0 l1 ez;cases hc:(SX.beq c (gJ ks l0 es)&&SX.beq l1 l0&&SX.beqs ez (es++zs))with
 |false=>rfl
 |true=>
  obtain⟨hc,h3⟩:=W7 hc;obtain⟨h1,h2⟩:=W7 hc;obtain rfl:=SX.beq_eq _ _ h1;obtain rfl:=SX.beq_eq _ _ h2;obtain rfl:=SX.beqs_eq _ _ h3;simp;cases hh:dB I (gJ ks l1 es)with
  |true=>
   have hl:dL I (.O .J [gJ ks l1 es,l1,.O .lcat [l1,.O .row [.O .row (es++zs)]]])=dL I l1:=by show(bZ I (.O .J _)).L=_;rw[tO,hh];rfl
   have hi:dI I (nB ks (.O .J [gJ ks l1 es,l1,.O .lcat [l1,.O .row [.O .row (es++zs)]]]) es)=dI I (nB ks l1 es):=by rw[Pe,Pe,hl]
   rw[tO,tO,xP,xP,hl];refine congrArg (λz=>bif _ then z else bZ I (zs.getD t (.cb false))) ?_;show ck (dL I l1) (dI I (nB ks l1 es)) _=ck (dL I _) (dI I _) _;rw[hl,hi]
  |false=>
   have hl:dL I (.O .J [gJ ks l1 es,l1,.O .lcat [l1,.O .row [.O .row (es++zs)]]])=dL I l1++[.A (Y6 I (es++zs))]:=by show(bZ I (.O .J _)).L=_;rw[tO,hh];rfl
   have hn: ∀x∈dL I l1,gV ks x (.A (Y6 I es))=false:=by
    rw[xP,decide_eq_false_iff_not]at hh
    (intros;simp_all)
   have hk:gV ks (.A (Y6 I (es++zs))) (.A (Y6 I es))=true:=bz3 ks 0 λt ht=>by
    show(Y6 I es).getD (0+t) default=(Y6 I (es++zs)).getD (0+t) default;have hdl:(Y6 I es).length=ks.length:=by rw[NM,hes]
    rw[show Y6 I (es++zs)=Y6 I es++Y6 I zs from OZ I es zs,k5,k5,x9 (by omega)]
   have hi:(dL I l1++[Val.A (Y6 I (es++zs))]).findIdx (λr=>gV ks r (Val.A (Y6 I es)))=(dL I l1).length:=by (intros;grind)
   rw[tO,hh,tO,xP,hl,hi];rw[show decide ((dL I l1).length<(dL I l1++[Val.A (Y6 I (es++zs))]).length)=true from i6 (by simp)];show bZ I (zs.getD t (.cb false))=ck (dL I _) (dI I (nB ks _ es)) ((ks.length+t:Nat):Int);rw[Pe,hl,hi];show _=((dL I l1++[Val.A (Y6 I (es++zs))]).getD (dL I l1).length (.A [])).L.getD (ks.length+t) default;rw[k5 (l:=dL I l1++_),s6 (j5 _),J7];show _=(Y6 I (es++zs)).getD (ks.length+t) default;have hdl:(Y6 I es).length=ks.length:=by rw[NM,hes]
   rw[show Y6 I (es++zs)=Y6 I es++Y6 I zs from OZ I es zs,k5 (l:=Y6 I es++_),s6 (by omega),hdl,G9,<-k5,UU I zs t ht]
 .rfl
theorem ZE{zs:Jn}(hes:es.length=ks.length)(r:VR O I (mh (nh ks l es vs ks.length zs)) v):VR O I (mh (nh ks (DT ks es zs l) es vs ks.length zs)) v:=
 cr2 (by grind[bz2]) (λus h=>bf1 vs ks.length zs (bz4 hes) h) r
def cc7(r:HR O I K w0 h w)(o:eN O I af ρ)(t:Bg)(m k:vE)(ok:Bool):dt E O I K w0 w h (do pure (.value (<-Instr.lookup t (ρ m) (ρ k) ok))) (Mm E.P t h (af m) (af k) ok):=by
 unfold Mm;split;rename_i kt et ht;split;rename_i b hm;split;rename_i cs hk;have rm:=o m _ hm;have rk:=o k _ hk;obtain⟨L,hL,em⟩:=rm;obtain⟨xs,ek,rx⟩:=rk;unfold Ys;split;rename_i d ks vs l z hg hz;split
 rename_i es zs hes hzs;cases hc:(wl E.P kt ks&&Nat.ble 2 ks.length&&wK vs z)with
 |false=>trivial
 |true=>
  obtain⟨hc,hsh⟩:=W7 hc;obtain⟨hkt,h2⟩:=W7 hc;rw[cV]at h2;obtain⟨En,c,q1,q2,q3⟩:=r.marr hg hL;obtain⟨ents,hE,hmap⟩:=OQ h2 q2;have hxs:xs.toList=fW (.A (Y6 I es)) ks 0:=by rw[sW hes rx,qV]
  have rk':VR O I (.agg (il (.A (Y6 I es)) ks 0)) (ρ k):=⟨xs,ek,by grind[EA]⟩;have hko:=Wi hkt (.A (Y6 I es));rcases Ox hkt (.A (Y6 I es)) 0 hmap with⟨a,hf⟩|⟨e,row,a1,a2,a3,hf,a5,a6⟩
  have hhas:dB I (gJ ks l es)=false:=by grind[xP]
  obtain⟨v',hv',hrun⟩:=su hko rk' hE hf;subst hv';obtain⟨zv,z1,z2⟩:=GD hz;have hzc:=sW hzs ((z1 O I).cells (bY1 hsh));rw[qV]at hzc;have hvr:VR O I (mh (nh ks l es vs ks.length zs)) zv:=by have:=JH (bz1 (O:=O) hhas vs ks.length 0 zs (.A (Y6 I zs)) (xB hzs) (λt ht=>by rw[m9];exact UU I zs t ht));rw[<-hzc]at this;rw[b19 hsh (z1 O I) (by rw[hzc,CK])]at this;exact this
  refine dE.pureV r (u:=if ok then .tuple #[zv,.bool false]else zv) ?_ ?_;cases ok;grind[ZE,xB];exact⟨_,rfl,.cons hvr (.one (by show _=Value.bool (dB I (gJ ks l es));rw[hhas]))⟩;simp[em,Instr.lookup,Sem.run_bind,Y1 ht,Result.andThen_ok,Sem.run_pure,mr q1,sS hko rk',hrun,z2]
  have hhas:dB I (gJ ks l es)=true:=by grind[xP,decide_eq_true]
  obtain⟨v',hv',hrun⟩:=su hko rk' hE hf;obtain⟨k2,v2,e1,e2,e3,e4,e5⟩:=hv';subst e1;rw[a6]at e5;have hv2:=dl9 row vs ks.length e5;have hvr:VR O I (mh (nh ks l es vs ks.length zs)) v2:=by grind[JH,bz0,xB]
  refine dE.pureV r (u:=if ok then .tuple #[v2,.bool true]else v2) ?_ ?_;cases ok;grind[ZE,xB];exact⟨_,rfl,.cons hvr (.one (by show _=Value.bool (dB I (gJ ks l es));rw[hhas]))⟩;simp[em,Instr.lookup,Sem.run_bind,Y1 ht,Result.andThen_ok,Sem.run_pure,mr q1,sS hko rk',hrun]
 .trivial
 trivial;trivial;trivial;trivial
def VM{r q:Val}: ∀(sig:zd) (j i:Nat),(∀t,t<sig.length->r.L.getD (j+t) default=q.L.getD (i+t) default)->fW r sig j=fW q sig i
 | [],_,_,_=>rfl
 |c::cs,j,i,h=>by have h0:=h 0 (by simp);have ih:=VM cs (j+1) (i+1) (λt ht=>by have:=h (t+1) (by simp;omega);rw[show j+1+t=j+(t+1) by omega,show i+1+t=i+(t+1) by omega];exact this);simp_all[Nat.add_zero,fW]
def bY2{r k:Val}: ∀(sig:zd) (j:Nat),zZ r k sig j=true->fW r sig j=fW k sig j
 | [],_,_=>rfl
 |c::cs,j,h=>by
  obtain⟨h1,h2⟩:=W7 h;have:ig c (r.L.getD j default)=ig c (k.L.getD j default):=by cases c;have:=j6 h1;show Value.int _ _=Value.int _ _;rw[this];have:=j6 h1;show Value.string _=Value.string _;rw[this];have:=eq_of_beq h1;show Value.bool _=Value.bool _;rw[this]
  simp only[fW,this,bY2 cs (j+1) h2]
def aR8(k:Val): ∀(sig:zd) (j:Nat),((fW k sig j).zip (fW k sig j)).all (λ(x,y)=>Instr.sameBits 9999 x y)=true
 | [],_=>rfl
 |c::cs,j=>by simp only[fW,List.zip_cons_cons,List.all_cons,j8];exact⟨Sy (O:=λ_=>none) (I:=ax) (a:=BN c (k.L.getD j default)) (b:=BN c (k.L.getD j default)) 9999 (by cases c<;>simp[BN,Hd,vS,wn]) (RG c _) (RG c _),aR8 k cs (j+1)⟩
def dm0{a b:List AS}(h1:es.length=ks.length)(h2:xs.length=vs.length)(ha:a=dV ks (.A (Y6 I es)))(hb:b=dV vs (.A (Y6 I xs))):qS ks vs (.A (Y6 I (es++xs)))=(lq a,lq b):=by
 rw[bX9,ha,hb,qV,qV,OZ];have q1:=NM I es;congr 2
 refine VM ks 0 0 λt ht=> ?_
 show(Y6 I es++Y6 I xs).getD (0+t) default=(Y6 I es).getD (0+t) default;grind
 refine VM vs ks.length 0 λt ht=> ?_
 show(Y6 I es++Y6 I xs).getD (ks.length+t) default=(Y6 I xs).getD (0+t) default;grind
def cr3{x:AV}(hs:wK vs x=true)(hv:VR O I x v){b:List AS}(hb:v.cells.toList=b)(hl:b.length=vs.length):lq b=v:=by grind[b19]
def cc8{α:Type}{l:List α}{i:Nat}{e:α}{f:α->α}(h:l[i]? =some e):l.modify i f=l.set i (f e):=by
 refine O3 λj=> ?_
 grind
def cU2(h:dB I (gJ ks l es)=true):dL I (Hu ks l es xs)=(dL I l).set ((dL I l).findIdx (λr=>gV ks r (.A (Y6 I es)))) (.A (Y6 I (es++xs))):=by show(bZ I (.O .J _)).L=_;rw[tO,h];rfl
def cU3(h:dB I (gJ ks l es)=false):dL I (Hu ks l es xs)=dL I l++[.A (Y6 I (es++xs))]:=by show(bZ I (.O .J _)).L=_;rw[tO,h];rfl
def cr4(r:HR O I K w0 h w)(o:eN O I af ρ)(t:Bg)(m k x:vE):dt E O I K w0 w h (do Instr.mapUpdate t (ρ m) (ρ k) (ρ x);pure .skip) (VX E.P t h (af m) (af k) (af x)):=by
 unfold VX;split;rename_i kt et ht;split;rename_i b hm;split;rename_i cs hk;split;rename_i xv hx;split;split;rename_i ks vs hks hvs;have rm:=o m _ hm;have rk:=o k _ hk;have rx:=o x _ hx;obtain⟨L,hL,em⟩:=rm;obtain⟨kx,ek,rkx⟩:=rk;unfold cl5;split
 rename_i es xs hes hxs;cases hc:(wl E.P kt ks&&Nat.ble 2 ks.length&&wK vs xv&&Nat.ble h.wm b)with
 |false=>trivial
 |true=>
  obtain⟨hc,hwm⟩:=W7 hc;obtain⟨hc,hsh⟩:=W7 hc;obtain⟨hkt,h2⟩:=W7 hc;rw[cV]at h2 hwm;have hkx:=sW hes rkx;have hvx:=sW hxs (rx.cells (bY1 hsh));have l1:=xB hes;have l2:=xB hxs;have hent:=dm0 (I:=I) l1 l2 hkx hvx;have hkey:lq kx.toList=ρ k:=by rw[ek,MT (by rw[hkx,qV,CK];exact h2)]
  have hval:lq (ρ x).cells.toList=ρ x:=cr3 hsh rx rfl (by rw[hvx,qV,CK]);rw[hkey,hval]at hent;have hkc:kx.toList=fW (.A (Y6 I es)) ks 0:=by rw[hkx,qV]
  have rk':VR O I (.agg (il (.A (Y6 I es)) ks 0)) (ρ k):=⟨kx,ek,by rw[hkc];exact EA _ _ _⟩;have hko:=Wi hkt (.A (Y6 I es));split
  rename_i d ks' vs' l hg;cases hq:(hZ ks' ks&&hZ vs' vs)with
  |false=>trivial
  |true=>
   obtain⟨e1,e2⟩:=W7 hq;obtain rfl:=LX e1;obtain rfl:=LX e2;obtain⟨En,c,q1,q2,q3⟩:=r.marr hg hL;obtain⟨ents,hE,hmap⟩:=OQ h2 q2;refine dE.ofU ?_;rcases Ox hkt (.A (Y6 I es)) 0 hmap with⟨a,hf⟩|⟨e,row,a1,a2,a3,hf,a5,a6⟩
   have hhas:dB I (gJ ks' l es)=false:=by rw[xP,a];simp
   obtain⟨v',hv',hrun⟩:=su hko rk' hE hf;subst hv';obtain⟨p1,p2⟩:=r.set1 b _ (.marr d ks' vs' (Hu ks' l es xs)) L (.map (En.push ⟨ρ k,ρ x,c⟩) (c+1)) hg hL hwm
    ⟨_,_,rfl,by rw[N9,r9,q2,cU3 hhas,r9];simp_all,by rw[N9];exact q3.push _ _⟩
   refine⟨_,?_,p1,p2⟩;simp[em,Instr.mapUpdate,Sem.run_bind,Y1 ht,Result.andThen_ok,mr q1,sS hko rk',hrun,yh _ q1]
   have hhas:dB I (gJ ks' l es)=true:=by rw[xP];(intros;simp_all)
   obtain⟨v',hv',hrun⟩:=su hko rk' hE hf;obtain⟨k2,v2,e1,e2,e3,e4,e5⟩:=hv';subst e1;rw[m9]at e2 e3;have he3:En[(dL I l).findIdx (λr=>gV ks' r (.A (Y6 I es)))]? =some ⟨k2,v2,e.born⟩:=by simpa using e3
   have hk2:k2=ρ k:=by rw[a5]at e4;obtain⟨ys,ey,ry⟩:=e4;have:=QY row ks' 0 ry;rw[bY2 ks' 0 a3,<-hkc]at this;rw[ey,ek,O2.1 this]
   have hsb:Instr.sameBits 10000 (ρ k) (ρ k)=true:=by rw[ek];show(kx.size==kx.size&&(kx.toList.zip kx.toList).all λ(x,y)=>Instr.sameBits 9999 x y)=true;rw[hkc,aR8];simp
   have hst: ∀w,(Instr.keyThatStays k2 (ρ k)).run E.P w= .ok (ρ k) w:=λw=>by simp[Instr.keyThatStays,hk2,hsb]
   obtain⟨p1,p2⟩:=r.set1 b _ (.marr d ks' vs' (Hu ks' l es xs)) L (.map (En.modify ((dL I l).findIdx (λr=>gV ks' r (.A (Y6 I es)))) λx'=>{x' with key:=ρ k,val:=ρ x}) c) hg hL hwm
    ⟨_,_,rfl,by rw[R0,cU2 hhas,List.map_set,hent,<-q2];rw[cc8 e3,List.map_set],by rw[R0];exact q3.modify _ _ (λ_=>rfl)⟩
   refine⟨_,?_,p1,p2⟩;simp[em,Instr.mapUpdate,Sem.run_bind,Y1 ht,Result.andThen_ok,mr q1,sS hko rk',hrun,m9,he3,Option.map_some,Option.getD_some,hst,yh _ q1]
  .rename_i c hg;obtain⟨En,q1,q2⟩:=r.map hg hL;have hE:En= #[]:=by
    have:En.toList=[]:=by generalize En.toList=z at q2;cases q2;rfl
    (intros;simp_all)
   subst hE;refine dE.ofU ?_;have hf:pJ E.P kt (.agg (il (.A (Y6 I es)) ks 0)) [] 0=some none:=rfl;obtain⟨v',hv',hrun⟩:=su (O:=O) (I:=I) hko rk' (es:=[]) (m:=[]) .nil hf;subst hv';obtain⟨p1,p2⟩:=r.set1 b _ (.marr (Nat.beq c 0) ks vs (.O .row [.O .row (es++xs)])) L (.map (#[].push ⟨ρ k,ρ x,c⟩) (c+1)) hg hL hwm
    ⟨_,_,rfl,by show [(ρ k,ρ x)]=[qS ks vs (.A (Y6 I (es++xs)))];rw[hent],gO.push (E:=[]) (gO.nil c) _ _⟩
   refine⟨_,?_,p1,p2⟩;simp[em,Instr.mapUpdate,Sem.run_bind,Y1 ht,Result.andThen_ok,mr q1,sS hko rk',hrun,yh _ q1]
  trivial
 .trivial
 trivial;trivial;trivial;trivial;trivial;trivial
variable{c:Nat}
variable{E:Env}{O:cn}{I:Opq}{K:zI}{w0 w:yM}{h h':Heap}{af:vE->yU}{ρ:vE->AS}
def gO.len{E:aaE}(h:gO true E c):E.length=c:=by have:=congrArg List.length (h.2.2 rfl);grind
def gO.at{E:aaE}{i:Nat}{e:MapEntry}(h:gO true E c)(he:E[i]? =some e):e.born=i:=by
 have h1:(E.map (·.born))[i]? =some e.born:=by rw[D8,he];rfl
 rw[h.2.2 rfl]at h1;grind
def gO.erase{d:Bool}{E:aaE}(h:gO d E c)(i:Nat):gO false (E.eraseIdx i) c:=by have hs:=U3 E i;exact⟨h.1.sublist (hs.map _),λe he=>h.2.1 e (hs.subset he),λhh=>by cases hh⟩
def bz5{α γ:Type}(f:α->γ): ∀(l:List α) (i:Nat),(l.eraseIdx i).map f=(l.map f).eraseIdx i
 | [],_=>rfl
 |_::_,0=>rfl
 |a::l,i+1=>by simp[List.eraseIdx,bz5 f l i]
def dm1{ts:Array Bg}{ty:Bg}{m k:AV}{vm vk:AS}(r:HR O I K w0 h w)(rm:VR O I m vm)(rk:VR O I k vk):Fo E.P O I K w0 w h (Builtin.delete_ ts ty #[vm,vk]) (VO E.P ((ts[0]?).bind E.P.underlying) h m k):=by
 unfold VO;split;rename_i kt et ht;simp[s7]at ht;obtain⟨t,h0,ht⟩:=ht;split;rename_i b;split;obtain⟨L,hL,rfl⟩:=rm;obtain⟨kx,rfl,rkx⟩:=rk;unfold dH1;split;rename_i d ks vs l hg;split
 rename_i es hes;cases hc:(wl E.P kt ks&&Nat.ble 2 ks.length&&Nat.ble h.wm b)with
 |false=>trivial
 |true=>
  obtain⟨hc,hwm⟩:=W7 hc;obtain⟨hkt,h2⟩:=W7 hc;rw[cV]at h2 hwm;intro _;obtain⟨En,c,q1,q2,q3⟩:=r.marr hg hL;obtain⟨ents,hE,hmap⟩:=OQ h2 q2;have hkx:=sW hes rkx;have hkc:kx.toList=fW (.A (Y6 I es)) ks 0:=by rw[hkx,qV]
  have rk':VR O I (.agg (il (.A (Y6 I es)) ks 0)) (.agg kx):=⟨kx,rfl,by grind[EA]⟩;have hko:=Wi hkt (.A (Y6 I es));have hden:dL I (.O (.mdel ks) [l,.O .row es])=(dL I l).eraseIdx ((dL I l).findIdx λr=>gV ks r (.A (Y6 I es))):=rfl;rcases Ox hkt (.A (Y6 I es)) 0 hmap with⟨a,hf⟩|⟨e,row,a1,a2,a3,hf,a5,a6⟩
  obtain⟨v',hv',hrun⟩:=su hko rk' hE hf;subst hv';obtain⟨p1,p2⟩:=r.set1 b _ (.marr false ks vs (.O (.mdel ks) [l,.O .row es])) L (.map En c) hg hL hwm
   ⟨_,_,rfl,by simp_all[List.eraseIdx_of_length_le,j5],q3.weak rfl⟩
  refine⟨O,_,_,?_,⟨_,rfl,rfl⟩,p1,p2⟩;simp[Builtin.delete_,h0,Y1 ht,mr q1,sS hko rk',hrun,yh _ q1]
  obtain⟨v',hv',hrun⟩:=su hko rk' hE hf;obtain⟨k2,v2,e1,e2,e3,e4,e5⟩:=hv';subst e1;have hi:(dL I l).findIdx (λr=>gV ks r (.A (Y6 I es)))<En.size:=by grind
  obtain⟨p1,p2⟩:=r.set1 b _ (.marr false ks vs (.O (.mdel ks) [l,.O .row es])) L (.map (En.eraseIdxIfInBounds ((dL I l).findIdx λr=>gV ks r (.A (Y6 I es)))) c) hg hL hwm
   ⟨_,_,rfl,by simp_all[Array.eraseIdxIfInBounds,dif_pos,U4,bz5],by rw[Array.eraseIdxIfInBounds,dif_pos hi,U4];exact q3.erase _⟩
  refine⟨O,_,_,?_,⟨_,rfl,rfl⟩,p1,p2⟩;simp[Builtin.delete_,h0,Y1 ht,mr q1,sS hko rk',hrun,yh _ q1]
 .trivial
 trivial;trivial;trivial;trivial
variable{n:Nat}{ts:Array Bg}{vx:AS}{ty:Bg}{sig:zd}{cs:Fz}
variable{E:Env}{O:cn}{I:Opq}{K:zI}{w0 w:yM}{h:Heap}{af:vE->yU}{ρ:vE->AS}
def bz6(sig:zd)(r:Val): ∀(l:U0) (k:Nat),k<l.length->cN sig (l.set k r)=(cN sig l).take (k*sig.length)++(dV sig r++(cN sig l).drop (k*sig.length+sig.length))
 | [],k,h=>by simp at h
 |a::l,0,h=>by
  have e:cN sig (a::l)=dV sig a++cN sig l:=by simp[cN]
  have e2:cN sig ((a::l).set 0 r)=dV sig r++cN sig l:=by simp[cN]
  simp_all[nm,R1,List.take_zero,List.nil_append,m9,List.drop_append_of_le_length,O4]
 |a::l,k+1,h=>by
  have e:cN sig (a::l)=dV sig a++cN sig l:=by simp[cN]
  have e2:cN sig ((a::l).set (k+1) r)=dV sig a++cN sig (l.set k r):=by simp[cN]
  have hl:=nm sig a;have ih:=bz6 sig r l k (by simpa using h);have t1:(dV sig a++cN sig l).take (k*sig.length+sig.length)=dV sig a++(cN sig l).take (k*sig.length):=by (intros;grind)
  have t2:(dV sig a++cN sig l).drop (k*sig.length+sig.length+sig.length)=(cN sig l).drop (k*sig.length+sig.length):=by rw[show k*sig.length+sig.length+sig.length=(dV sig a).length+(k*sig.length+sig.length) by omega,List.drop_length_add_append]
  simp_all[x7,F7,A8]
def cU4{old:Val}{c0 es c1:U0}{j:Nat}(hj:j+n<=sig.length)(h0:c0=(List.range' 0 j).map λt=>old.L.getD t default)(hn:es.length=n)(h1:c1=(List.range' (j+n) (sig.length-(j+n))).map λt=>old.L.getD t default):
 dV sig (.A (c0++(es++c1)))=(dV sig old).take j++(dV ((sig.drop j).take n) (.A es)++(dV sig old).drop (j+n)):=by
 have l0:c0.length=j:=by rw[h0];simp
 apply O3;intro i;have hsub:((sig.drop j).take n).length=n:=by simp;omega
 have hold:=nm sig old;rcases k8 i sig.length with hi|hi
 rw[CU hi];show some (ig _ ((c0++(es++c1)).getD i default))=_;rcases k8 i j with q|q
 rw[x9 (by rw[l5];omega),C8,c9 q,CU hi]
 (intros;grind)
 rcases k8 i (j+n)with q2|q2
 .rw[s6 (by(intros;grind)),l5,C0 (by omega)];rw[x9 (by rw[nm,hsub];omega),CU (by omega)];congr 2
  ·(intros;grind)
  show _=es.getD (i-j) default
  (intros;grind)
 rw[s6 (by rw[l5];omega),l5,C0 (by omega)];rw[s6 (by rw[nm,hsub];omega),nm,hsub,D7,show j+n+(i-j-n)=i by omega,CU hi]
 (intros;grind);grind[List.getElem?_eq_none,nm,List.length_append,List.length_take,List.length_drop]
theorem bz7(I:Opq): ∀a b:Jn,Y6 I (a++b)=Y6 I a++Y6 I b
 | [],b=>rfl
 |x::a,b=>by simp[List.cons_append,Y6,bz7 I a b]
theorem TU(l idx:SX): ∀n j,Y6 I (lH l idx j n)=(List.range' j n).map λ(t:Nat)=>ck (dL I l) (dI I idx) (t:Int)
 |0,j=>rfl
 |n+1,j=>by simp[lH,Y6,TU l idx n (j+1),F6,m8];rfl
def cc9{c:CT}{v:AV}{e:SX}(h:Hh c v=some e):v.one=true:=by
 unfold Hh at h;split at h;split at h
 rename_i k' e' hs;unfold kr at hs;split at hs<;>first|rfl|cases hs
 cases h
 unfold pI at h;split at h<;>first|rfl|cases h
 unfold nl at h;split at h<;>first|rfl|cases h
def TE: ∀{sig:zd} {vs:Fz} {es:Jn},kL sig vs=some es->vs.all AV.one=true/\es.length=vs.length
 | [],[],es,h=>by simp[kL,j0]at h;(intros;simp_all)
 | [],_::_,es,h=>by cases h
 |_::_,[],es,h=>by cases h
 |c::cs,v::vs,es,h=>by simp[kL]at h;split at h;rename_i e es' h1 h2;simp at h;subst h;obtain⟨a,b⟩:=TE h2;simp only[List.all_cons,j8,List.length_cons];exact⟨⟨cc9 h1,a⟩,by rw[b]⟩;cases h
theorem bY3(I:Opq): ∀l:Jn,(Y6 I l).length=l.length
 | []=>rfl
 |a::r=>by simp[Y6,List.length_cons,bY3 I r]
def aR9{vs:List AS}(hd: ∀(O:cn) us,ct O I cs us->us=vs)(h0: ∀O:cn,ct O I cs vs){O:cn}{us:List AS}(hu:ct O I (cs.take n) us):us=vs.take n:=by
 have h1:=hu.append ((h0 O).drop n);rw[A3]at h1;have h2:=hd O _ h1;have hl:=hu.length;have hv:=(h0 O).length;rw[<-h2];rw[l5]at hl;rcases Nat.le_total n cs.length with q|q
 ·(intros;grind)
 have:vs.drop n=[]:=O4 (by omega);rw[this,o9,J9 (by omega)]
def aS0{vs:List AS}(hd: ∀(O:cn) us,ct O I cs us->us=vs)(h0: ∀O:cn,ct O I cs vs){O:cn}{us:List AS}(hu:ct O I (cs.drop n) us):us=vs.drop n:=by
 have h1:=((h0 O).take n).append hu;rw[A3]at h1;have hv:=(h0 O).length;rcases Nat.le_total n cs.length with q|q
 grind;have hul:=hu.length;grind
def cr5(hfx: ∀t,I.fix t=gi E.P t)(r:HR O I K w0 h w)(o:eN O I af ρ)(t:Bg)(x y:vE):dt E O I K w0 w h (do Instr.storeAt t (ρ x) (ρ y);pure .skip) (XE E.P t h (af x) (af y)):=by
 unfold XE;split;rename_i b idx j sz v n hx hy hn;unfold cl8;split
 rename_i el sig l hg;cases hc:(Nat.beq sig.length sz&&Nat.ble (j+n) sz&&v.nt&&Nat.beq v.cells.length n&&Nat.ble h.wm b&&Nat.blt 0 n&& !(gi E.P el)&& !(Nat.beq el jP))with
 |false=>trivial
 |true=>
  obtain⟨hc,c8⟩:=W7 hc;have hne:el≠jP:=λe=>by simp_all
  obtain⟨hc,c7⟩:=W7 hc;have hnf:I.fix el=false:=by grind
  obtain⟨hc,c6⟩:=W7 hc;obtain⟨hc,c5⟩:=W7 hc;obtain⟨hc,c4⟩:=W7 hc;obtain⟨hc,c3⟩:=W7 hc;obtain⟨c1,c2⟩:=W7 hc;obtain rfl:=Y0.1 c1;rw[Y0]at c4;rw[cV]at c2 c5;rw[eH]at c6;simp only[cond_true];unfold ZR;split
  rename_i es hes;intro hd;obtain⟨d1,d2⟩:=EF hd;rw[oz]at d2;have hk:(dI I idx).toNat<(dL I l).length:=by omega
  have hvx:=o x _ hx;have hvy:=o y _ hy;simp only[VR]at hvx;obtain⟨L,hL,hvx⟩:=hvx;have hb65:=Heap.get_lim h b _ hg;have fc: ∀(hh:Heap) (x:sP) (z:Nat),(hh.put b x).get z=if z=b then(if b<65536 then x else none)else hh.get z:=λhh x z=>Heap.get_put _ _ _ _
  obtain⟨ocs,m1,m2,m3,m4⟩:=NG I sig (dL I l);have m3':ocs.length=(dL I l).length*sig.length:=by rw[m3,jL]
  have r2:HR O I K w0 (h.put b (some (.cells el 0 ocs))) w:=by refine HR.retell (y:= .cells el 0 ocs) r hg (.inl c5) ?_ rfl rfl (λz=>by(intros;grind));intro L' hL' hbr;obtain⟨C,e',lo,hi,z1,z0,z2,z3,z4,z5⟩:=hbr;rw[z0.resolve_right hne]at z1;refine⟨C,lo,hi,cN sig (dL I l),z1,z2,by(intros;simp_all),sQ m2,m1 O,λk hk=> ?_,λk _ hk=>z5 k hk,λhh=>by(intros;simp_all)⟩;grind
  have hg2:(h.put b (some (.cells el 0 ocs))).get b=some (.cells el 0 ocs):=by grind
  obtain⟨hone,helen⟩:=TE hes;have hkk:(dI I idx).toNat*sig.length+sig.length<=(dL I l).length*sig.length:=by have:=B4 sig.length (show(dI I idx).toNat+1<=(dL I l).length from hk);grind
  have hst:Kh E.P t (.ptr b ((dI I idx).toNat*sig.length+j)) v (h.put b (some (.cells el 0 ocs)))=some ((h.put b (some (.cells el 0 ocs))).put b (some (.cells el 0 (lf ocs ((dI I idx).toNat*sig.length+j) v.cells)))):=by
   simp[Kh,hn,c3,c4,B0,show Nat.beq n n=true from Y0.2 rfl,cond_true];cases hcs:v.cells with
   |nil=>grind
   |cons a as=>
    simp only[putCells,hcs];rw[<-hcs,hg2];simp;rw[show(Nat.ble h.wm b&&Nat.ble 0 ((dI I idx).toNat*sig.length+j)&&Nat.ble ((dI I idx).toNat*sig.length+j+v.cells.length) ocs.length&&v.cells.all AV.one)=true by (simp_all;omega)];rfl
  obtain⟨w',e1,e2,e3⟩:=bx6 (P:=E.P) r2 hst (vx:=ρ x) (vv:=ρ y) ⟨L,hL,by grind⟩ hvy;have hrow:=sW hes (VR.cells hvy c3);have kX:dL I (.O .lset [l,idx,.O .row (lH l idx 0 j++(es++lH l idx (j+n) (sig.length-(j+n))))])=(dL I l).set (dI I idx).toNat (.A (Y6 I (lH l idx 0 j)++(Y6 I es++Y6 I (lH l idx (j+n) (sig.length-(j+n)))))):=by show(dL I l).set (dI I idx).toNat (.A (Y6 I _))=_;grind[bz7]
  have hgv: ∀c:Nat,ck (dL I l) (dI I idx) c=((dL I l).getD (dI I idx).toNat (.A [])).L.getD c default:=λc=>by rfl
  have hmix:=cU4 (sig:=sig) (old:=(dL I l).getD (dI I idx).toNat (.A [])) (c0:=Y6 I (lH l idx 0 j)) (es:=Y6 I es) (c1:=Y6 I (lH l idx (j+n) (sig.length-(j+n)))) (j:=j) (n:=n) c2
   (by grind[TU,List.map_congr_left]) (by grind[bY3]) (by grind[TU,List.map_congr_left])
  have hflat:cN sig (dL I (.O .lset [l,idx,.O .row (lH l idx 0 j++(es++lH l idx (j+n) (sig.length-(j+n))))]))=
   (cN sig (dL I l)).take ((dI I idx).toNat*sig.length+j)++((ρ y).cells.toList++(cN sig (dL I l)).drop ((dI I idx).toNat*sig.length+j+n)):=by
   rw[kX,bz6 sig _ _ _ hk,hmix,<-hrow];have hfl:=jL sig (dL I l);have hold:dV sig ((dL I l).getD (dI I idx).toNat (.A []))=((cN sig (dL I l)).drop ((dI I idx).toNat*sig.length)).take sig.length:=by
    apply O3;intro c;rcases k8 c sig.length with q|q
    rw[CU q,C8,c9 q,D7,GY q hk];simp_all[x5,nm,C8,b9]
   rw[hold];generalize cN sig (dL I l)=F at hfl⊢;generalize (dI I idx).toNat*sig.length=q at hkk⊢;rw[<-hfl]at hkk;apply O3;intro c;have hcl:(ρ y).cells.toList.length=n:=by rw[<-c4];exact(VR.cells hvy c3).length
   rcases k8 c q with q1|q1
   rw[x9 (by rw[l5];omega),x9 (by rw[l5];omega),C8,c9 q1,C8,c9 (by omega)]
   rw[s6 (by grind),l5,C0 (by omega)];rcases k8 c (q+j)with q2|q2
   rw[x9 (by grind),x9 (by grind),C8,c9 (by omega),C8,c9 (by omega),D7,show q+(c-q)=c by omega,
    x9 (by grind),C8,c9 q2]
   rw[s6 (l₁:=F.take (q+j)) (by grind),l5,C0 (by omega)];rcases k8 c (q+j+n)with q3|q3
   rw[x9 (by simp_all;omega),s6 (by simp;omega),x9 (by simp_all;omega),
    x9 (by omega)]
   (intros;grind)
   rcases k8 c (q+sig.length)with q4|q4
   rw[x9 (by simp_all;omega),s6 (by simp;omega),s6 (by simp_all;omega),
    s6 (by omega),D7,C8,D7,D7,c9 (by simp_all;omega)]
   grind;rw[s6 (by simp_all;omega),s6 (l₁:=(ρ y).cells.toList) (by omega),D7,D7]
   (simp_all;grind)
  refine⟨O,Go.undef,w',.inr ⟨rfl,by simp_all⟩,⟨#[],rfl,rfl⟩,?_,?_⟩;refine HR.retell (y:= .A el sig (.O .lset [l,idx,.O .row (lH l idx 0 j++(es++lH l idx (j+n) (sig.length-(j+n))))])) e2 (b:=b) (x:= .cells el 0 (lf ocs ((dI I idx).toNat*sig.length+j) v.cells)) (by(intros;simp_all)) (.inr rfl) ?_ rfl rfl (λz=> ?_)
  intro L' hL' hbr;obtain⟨C,lo,hi,vs,q1,q2,q3,q4,q5,q6,q7,q8⟩:=hbr;have hvs:vs=cN sig (dL I (.O .lset [l,idx,.O .row (lH l idx 0 j++(es++lH l idx (j+n) (sig.length-(j+n))))])):=by
   rw[hflat];unfold lf at q5;have hdet: ∀(O:cn) us,ct O I v.cells us->us=(ρ y).cells.toList:=λO us hu=>(sW hes hu).trans hrow.symm
   have hdet1: ∀(O:cn) us,ct O I (ocs.take ((dI I idx).toNat*sig.length+j)) us->us=(cN sig (dL I l)).take ((dI I idx).toNat*sig.length+j):=λO us hu=>aR9 m4 m1 hu
   have hdet2: ∀(O:cn) us,ct O I (ocs.drop ((dI I idx).toNat*sig.length+j+v.cells.length)) us->us=(cN sig (dL I l)).drop ((dI I idx).toNat*sig.length+j+v.cells.length):=λO us hu=>aS0 m4 m1 hu
   have t1:=q5.take (ocs.take ((dI I idx).toNat*sig.length+j)++v.cells).length;have t2:=q5.drop (ocs.take ((dI I idx).toNat*sig.length+j)++v.cells).length;rw[F9]at t1;rw[G0]at t2;have t3:=t1.take (ocs.take ((dI I idx).toNat*sig.length+j)).length;have t4:=t1.drop (ocs.take ((dI I idx).toNat*sig.length+j)).length;rw[F9]at t3;rw[G0]at t4;rw[<-A3 (ocs.take ((dI I idx).toNat*sig.length+j)++v.cells).length vs,hdet2 _ _ t2,c4];rw[<-A3 (ocs.take ((dI I idx).toNat*sig.length+j)).length (vs.take (ocs.take ((dI I idx).toNat*sig.length+j)++v.cells).length),hdet1 _ _ t3,hdet _ _ t4,A8]
  subst hvs;have hll:(lf ocs ((dI I idx).toNat*sig.length+j) v.cells).length=(dL I l).length*sig.length:=by rw[<-q5.length,jL,kX,C1]
  refine⟨C,_,lo,hi,q1,.inl rfl,q2,by(intros;simp_all),λi v2 hi'=> ?_,λi hi'=>q7 i (p8 _) hi'⟩;rw[q6 i (by
   rcases k8 i (lf ocs ((dI I idx).toNat*sig.length+j) v.cells).length with hh|hh
   exact hh
   rw[x5 (by rw[q5.length];exact hh)]at hi';cases hi')]
  exact hi';grind;refine⟨j5 _,λ_ _=>rfl,λz hz hzn=> ?_,rfl⟩;grind;trivial
 .trivial
 trivial
def SJ{lo hi n:SX}(h:dB I (Mu lo hi n)=true):0<=dI I lo/\dI I lo<=dI I hi/\dI I hi<=dI I n:=by
 obtain⟨h1,h2⟩:=Au h;obtain⟨h2,h3⟩:=Au h2;refine⟨?_,j6 h2,?_⟩
 cases hc:SX.beq lo (.C 0)with
 |true=>grind[SX.beq_eq,tH]
 |false=>rw[hc]at h1;exact j6 h1
 .cases hc:SX.beq hi n with
  |true=>grind[SX.beq_eq]
  |false=>rw[hc]at h3;exact j6 h3
def cr6(a b:SX):dI I (yG a b)=dI I a-dI I b:=by unfold yG;split;rw[tH];omega;rfl
def Pl{x:Option yU}{d e:SX}{vx:Option AS}{k:Nat}(h:EW x d=some e)(hx: ∀y,x=some y->OR O I y vx)(h0:0<=dI I e)(hd:(dI I d).toNat=k): ∃y:yU,OR O I y vx/\eV y k=some (dI I e).toNat:=by unfold EW at h;split at h;simp at h;subst h;exact⟨none,hx _ rfl,by show some k=_;rw[hd]⟩;obtain⟨p,hp,rfl⟩:=u9.1 h;obtain⟨u,hu,ru⟩:=hx _ rfl;have:=uf (k:=p.1) (e:=p.2) hp ru;refine⟨some (.int p.1 (dI I p.2)),⟨u,hu,this⟩,?_⟩;obtain⟨m,hm⟩:=Int.eq_ofNat_of_zero_le h0;rw[hm];rfl;cases h
theorem Uo{P:uV}{t elem:Bg}{s l en cap:Nat}{a:Addr}{lo hi:yU}{vl vh:Option AS}(ht:P.underlying t=some (.slice elem))(hs:eO P elem=some s)(rl:OR O I lo vl)(rh:OR O I hi vh)(hl:eV lo 0=some l)(he:eV hi n=some en)(h1:l<=en)(h2:en<=cap)(w:yM):
 (Instr.sliceAt t (.slice (some a) n cap) vl vh none).run P w= .ok (.slice (if cap=l then some a else some (a.add (l*s))) (en-l) (cap-l)) w:=by
 have hb:=pL (P:=P) (mx:=none) (vm:=none) (cap:=cap) true rl rh rfl hl he (m:=cap) rfl h1 h2 (j5 _) (λ_=>rfl) w;simp_all[Instr.sliceAt,Sem.run_bind,Y1,Instr.slice,fj]
def bf2{P:uV}{t elem:Bg}{s n:Nat}{lo hi:yU}{vl vh:Option AS}(ht:P.underlying t=some (.slice elem))(hs:eO P elem=some s)(rl:OR O I lo vl)(rh:OR O I hi vh)(hl:eV lo 0=some 0)(he:eV hi 0=some 0)(w:yM):
 (Instr.sliceAt t (.slice none 0 0) vl vh none).run P w= .ok (.slice none 0 0) w:=by
 have hb:=pL (P:=P) (mx:=none) (vm:=none) (cap:=0) true rl rh rfl hl he (m:=0) rfl (j5 _) (j5 _) (j5 _) (λ_=>rfl) w;simp_all[Instr.sliceAt,Sem.run_bind,Y1,Instr.slice,fj]
def cr7(r:HR O I K w0 h w)(o:eN O I af ρ)(t:Bg)(x:vE)(lo hi mx:Option vE):
 dt E O I K w0 w h (do pure (.value (<-Instr.sliceAt t (ρ x) (lo.map ρ) (hi.map ρ) (mx.map ρ)))) (Oq E.P t h (af x) (fe af lo) (fe af hi) (fe af mx)):=by
 have fin: ∀{v:AV} {u:AS},VR O I v u->(Instr.sliceAt t (ρ x) (lo.map ρ) (hi.map ρ) (mx.map ρ)).run E.P w= .ok u w->dE E O I K w0 w h (do pure (.value (<-Instr.sliceAt t (ρ x) (lo.map ρ) (hi.map ρ) (mx.map ρ)))) v h:=by intro v u hv hr;exact dE.pureV r hv (by simp_all)
 have hlo: ∀y,fe af lo=some y->OR O I y (lo.map ρ):=λy hy=>Ci o hy
 have hhi: ∀y,fe af hi=some y->OR O I y (hi.map ρ):=λy hy=>Ci o hy
 unfold Oq;split;rename_i a hx hm;have hmx:mx.map ρ=none:=Ci o hm;have rv:=o x _ hx;split;trivial;rename_i elem ht;split
 rename_i s b off len sz hs;cases hc:Nat.beq s sz with
 |false=>trivial
 |true=>
  obtain rfl:=Y0.1 hc;unfold Tq;split
  rename_i l e h1 h2;intro hd;obtain⟨d0,hd⟩:=Au hd;obtain⟨d1,d2,d3⟩:=SJ hd;have d0:0<=dI I off:=by
   cases hq:SX.beq off (.C 0)with
   |true=>grind[SX.beq_eq,tH]
   |false=>rw[hq]at d0;exact j6 d0
  obtain⟨y1,r1,b1⟩:=Pl (k:=0) h1 hlo d1 rfl;obtain⟨y2,r2,b2⟩:=Pl (k:=(dI I len).toNat) h2 hhi (by omega) rfl;have hle:dI I (yG e l)=dI I e-dI I l:=cr6 _ _;have hlt:((dI I e).toNat-(dI I l).toNat)=(dI I (yG e l)).toNat:=by omega
  rcases rv with⟨L,cap,ad,hL,hv,hcap,had⟩|⟨ad,cap,hv,hac,hz⟩
  .refine fin ?_ (by rw[hv,hmx];exact Uo ht hs r1 r2 b1 b2 (by omega) (by omega) w);simp only[VR];rw[hlt];by_cases hcl:cap=(dI I l).toNat
   ·(split<;>grind)
   rw[b9 hcl];refine .inl ⟨L,_,_,hL,rfl,by omega,λhp=> ?_⟩;rw[had (by omega),iO,cq3,Int.toNat_add d0 d1,x7];grind
  rw[hz]at b2 d3;have hl0:dI I l=0:=by omega
  have he0:dI I e=0:=by omega
  rw[hl0]at b1;rw[he0]at b2;cases ad with
  |none=>
   obtain rfl:=hac rfl;refine fin ?_ (by rw[hv,hmx];exact bf2 (n:=0) ht hs r1 r2 b1 b2 w);exact .inr ⟨none,0,rfl,λ_=>rfl,by omega⟩
  |some ad=>
   refine fin ?_ (by rw[hv,hmx];exact Uo (n:=0) ht hs r1 r2 b1 b2 (j5 _) (p8 _) w);by_cases hcl:cap=(0:Int).toNat
   rw[c9 hcl];exact .inr ⟨some ad,_,rfl,(λhh=>(by cases hh)),by omega⟩;rw[b9 hcl];exact .inr ⟨some _,_,rfl,(λhh=>(by cases hh)),by omega⟩
  .trivial
 .rename_i s b len sz hs;cases hc:Nat.beq s sz with
  |false=>trivial
  |true=>
   obtain rfl:=Y0.1 hc;unfold Yy;split
   rename_i l e h1 h2;have main:0<=dI I l->dI I l<=dI I e->dI I e<=dI I len-> ∀z:AV,((∀L cap,O b=some L->cap*s=L.ext->(dI I len).toNat<=cap->VR O I z (.slice (if cap=(dI I l).toNat then some ⟨L.blk,L.off,none⟩else some ⟨L.blk,L.off+(dI I l).toNat*s,none⟩) ((dI I e).toNat-(dI I l).toNat) (cap-(dI I l).toNat)))/\(dI I len=0->VR O I z (.slice none 0 0)))->
    dE E O I K w0 w h (do pure (.value (<-Instr.sliceAt t (ρ x) (lo.map ρ) (hi.map ρ) (mx.map ρ)))) z h:=by
    intro d1 d2 d3 z ⟨hz1,hz2⟩;obtain⟨y1,r1,b1⟩:=Pl (k:=0) h1 hlo d1 rfl;obtain⟨y2,r2,b2⟩:=Pl (k:=(dI I len).toNat) h2 hhi (by omega) rfl;rcases rv with⟨L,cap,hL,hext,hv,hcap⟩|⟨hv,hz⟩
    grind[Uo,dI,iO]
    have hl0:dI I l=0:=by omega
    have he0:dI I e=0:=by omega
    rw[hl0]at b1;rw[he0,hz]at b2;exact fin (hz2 hz) (by rw[hv,hmx];exact bf2 (n:=0) ht hs r1 r2 b1 b2 w)
   cases hq:SX.beq l (.C 0)with
   |true=>
    intro hd;obtain⟨d1,d2,d3⟩:=SJ hd;have hl0:dI I l=0:=by rw[SX.beq_eq _ _ hq,tH]
    refine main (by omega) (by omega) d3 _ ⟨λL cap hL hext hcap=> ?_,λhz=> .inr ⟨rfl,by omega⟩⟩;refine .inl ⟨L,cap,hL,hext,?_,by omega⟩;grind
   |false=>
    intro hd;obtain⟨d1,d2,d3⟩:=SJ hd;have hle:dI I (yG e l)=dI I e-dI I l:=cr6 _ _;refine main d1 d2 d3 _ ⟨λL cap hL hext hcap=> ?_,λhz=> .inr ⟨none,0,rfl,λ_=>rfl,by omega⟩⟩;simp[VR];grind
   .trivial
 trivial;trivial;trivial
def HR.asCells(r:HR O I K w0 h w){b el:Nat}{l:SX}(hg:h.get b=some (.A el sig l))(hwm:h.wm<=b)(hne:el≠jP)(hnf:I.fix el=false){ocs:Fz}(m1: ∀O:cn,ct O I ocs (cN sig (dL I l)))(m2:ocs.all AV.one=true)(m3:ocs.length=(cN sig (dL I l)).length):
 HR O I K w0 (h.put b (some (.cells el 0 ocs))) w:=by
 have hb65:=Heap.get_lim h b _ hg;refine HR.retell (y:= .cells el 0 ocs) r hg (.inl hwm) ?_ rfl rfl (λz=>by rw[Heap.get_put,c9 hb65]);intro L' hL' hbr;obtain⟨C,e',lo,hi,z1,z0,z2,z3,z4,z5⟩:=hbr;rw[z0.resolve_right hne]at z1;refine⟨C,lo,hi,cN sig (dL I l),z1,z2,by rw[m3,jL];exact z3,sQ m2,m1 O,λk hk=> ?_,λk _ hk=>z5 k hk,λhh=>by(intros;simp_all)⟩;grind
def HR.asArr{b el:Nat}{l:SX}(hb65:b<65536)(r:HR O I K w0 (h.put b (some (.cells el 0 cs))) w)(hd: ∀us,ct O I cs us->us=cN sig (dL I l)):HR O I K w0 (h.put b (some (.A el sig l))) w:=by
 have fc: ∀(hh:Heap) (x:sP) (z:Nat),(hh.put b x).get z=if z=b then(if b<65536 then x else none)else hh.get z:=λhh x z=>Heap.get_put _ _ _ _
 refine HR.retell (y:= .A el sig l) r (b:=b) (x:= .cells el 0 cs) (by(intros;simp_all)) (.inr rfl) ?_ rfl rfl (λz=> ?_)
 intro L' hL' hbr;obtain⟨C,lo,hi,vs,q1,q2,q3,q4,q5,q6,q7,q8⟩:=hbr;have hvs:=hd vs q5;subst hvs;have hll:cs.length=(dL I l).length*sig.length:=by rw[<-q5.length,jL]
 refine⟨C,_,lo,hi,q1,.inl rfl,q2,by(intros;grind),λi v2 hi'=> ?_,λi hi'=>q7 i (p8 _) hi'⟩;rw[q6 i (by
  rcases k8 i cs.length with hh|hh
  exact hh
  rw[x5 (by rw[q5.length];exact hh)]at hi';cases hi')]
 exact hi';grind
def b23{m:Sem AS}{n:Sem Next}{res:Res}(hm: ∀h' a,Ok E.P O I K w0 w h m a h'->dE E O I K w0 w h n a h')(k:Fo E.P O I K w0 w h m res):dt E O I K w0 w h n res:=by cases res<;>first|exact k.elim|trivial|exactλhd=>hm _ _ (k hd)
theorem dE.blt{h':Heap}{m:Sem AS}{n:Sem Next}{a:AV}(e:n=(do pure (.value (<-m))))(k:Ok E.P O I K w0 w h m a h'):dE E O I K w0 w h n a h':=by grind[dE.of]
def bY4(I:Opq)(z:Fz)(sig:zd)(es:Jn)(hes:kL sig z=some es): ∀(n:Nat) (O:cn) (us:List AS),ct O I (dP n z) us->us=cN sig (List.replicate n (.A (Y6 I es)))
 |0,O,us,h=>h
 |n+1,O,us,h=>by
  have h1:=h.take z.length;have h2:=h.drop z.length;have e1:(dP (n+1) z).take z.length=z:=by simp[dP]
  have e2:(dP (n+1) z).drop z.length=dP n z:=by simp[dP]
  rw[e1]at h1;rw[e2]at h2;rw[<-A3 z.length us,sW hes h1,bY4 I z sig es hes n O _ h2];rfl
def cr8(z:Fz): ∀n,(dP n z).length=n*z.length
 |0=>by simp[dP]
 |n+1=>by simp[dP,cr8 z n,x7];omega
def bY5(z:Fz)(hz:z.all AV.one=true): ∀n,(dP n z).all AV.one=true
 |0=>rfl
 |n+1=>by simp[dP,G7,hz,bY5 z hz n,R4]
def HR.sameGet{h2:Heap}(r:HR O I K w0 h w)(hn:h2.next=h.next)(hw:h2.wm=h.wm)(hg: ∀z,h.get z=h2.get z):HR O I K w0 h2 w:=
 ⟨λb x L e=>r.blk b x L (by grind),λb b' x x' L L' e e' hb hb' hne q=>r.sep b b' x x' L L' (by grind) (by grind) hb hb' hne (by grind),λb hb=>r.fresh b (by omega),λb hb=>by rw[<-hg];exact r.fget b (by omega),r.lt,r.kin,r.keep,
  λb x L e q=>r.free b x L (by grind) (by omega),r.size,r.os,r.tape,r.out,r.dr⟩
def bf3(sig:zd): ∀(l:U0) (o:Nat),(cN sig l).take (o*sig.length)=cN sig (l.take o)
 |l,0=>by simp[cN]
 | [],o+1=>by simp[cN]
 |r::l,o+1=>by have ih:=bf3 sig l o;show((dV sig r++cN sig l).take ((o+1)*sig.length))=dV sig r++cN sig (l.take o);simp_all[List.take_append,nm,x7,F7,Q4,J9]
def bf4(sig:zd): ∀(l:U0) (o:Nat),(cN sig l).drop (o*sig.length)=cN sig (l.drop o)
 |l,0=>by grind
 | [],o+1=>by simp[cN]
 |r::l,o+1=>by have ih:=bf4 sig l o;show((dV sig r++cN sig l).drop ((o+1)*sig.length))=cN sig (l.drop o);simp_all[N4,nm,x7,F7,Q4,K0,List.nil_append]
theorem cd0(hfx: ∀t,I.fix t=gi E.P t)(r:HR O I K w0 h w){ty t elem b:Nat}{off len:SX}{sz:Nat}{z:AV}(h0:ts[0]? =some t)(ht:E.P.underlying t=some (.slice elem))(hz:ju E.P elem=some z)(hfe:gi E.P elem=false)
 (rx:(∃L cap a,O b=some L/\vx= .slice (some a) (dI I len).toNat cap/\(dI I len).toNat<=cap/\(0<dI I len->a=⟨L.blk,L.off+(dI I off).toNat*sz,none⟩))\/ ∃a cap,vx= .slice a 0 cap/\(a=none->cap=0)/\dI I len=0):
 Fo E.P O I K w0 w h (Builtin.clear_ ts ty #[vx]) (UF E.P b off len sz z.cells (h.get b) h):=by
 unfold UF;split;rename_i e sig l hg;split
 rename_i es hes;cases hc:(Nat.beq sig.length sz&&Nat.blt 0 sz&&Nat.ble h.wm b&& !(Nat.beq e jP)&& !(gi E.P e))with
 |false=>trivial
 |true=>
  obtain⟨hc,c5⟩:=W7 hc;have hnf:I.fix e=false:=by(intros;simp_all)
  obtain⟨hc,c4⟩:=W7 hc;have hne:e≠jP:=λe2=>by(intros;simp_all)
  obtain⟨hc,c3⟩:=W7 hc;obtain⟨c1,c2⟩:=W7 hc;obtain rfl:=Y0.1 c1;rw[cV]at c3;rw[eH]at c2;intro hd;obtain⟨d1,d2⟩:=W7 (a:=(dB I (.O (.cmp .leq) [.C 0,off])&&dB I (.O (.cmp .leq) [.C 0,len]))) (b:=(dB I (.O (.cmp .leq) [len,.C se])&&dB I (.O (.cmp .leq) [.O .iadd [off,len],.O .Y [l]]))) hd;obtain⟨d1,d3⟩:=W7 d1;obtain⟨d2,d4⟩:=W7 d2;have d1:0<=dI I off:=j6 d1;have d3:0<=dI I len:=j6 d3;have d4:dI I off+dI I len<=((dL I l).length:Int):=j6 d4;have hb65:=Heap.get_lim h b _ hg;obtain⟨o,ho⟩: ∃o:Nat,dI I off=(o:Int):=⟨(dI I off).toNat,by omega⟩;obtain⟨n,hn⟩: ∃n:Nat,dI I len=(n:Int):=⟨(dI I len).toNat,by omega⟩;have hon:o+n<=(dL I l).length:=by omega
  have kX:dL I (.O .lcat [.O .lsub [l,.C 0,off],.O .lcat [.O .lrep [len,.O .row es],.O .lsub [l,.O .iadd [off,len],.O .Y [l]]]])=(dL I l).take o++(List.replicate n (.A (Y6 I es))++(dL I l).drop (o+n)):=by show((dL I l).drop (0:Int).toNat).take (dI I off-0).toNat++(List.replicate (dI I len).toNat (.A (Y6 I es))++((dL I l).drop (dI I off+dI I len).toNat).take (((dL I l).length:Int)-(dI I off+dI I len)).toNat)=_;rw[ho,hn,show(0:Int).toNat=0 from rfl,G1,show((o:Int)-0).toNat=o by omega,Int.toNat_natCast,show((o:Int)+(n:Int)).toNat=o+n by omega];congr 2;rw[J9 (by(intros;grind))]
  rcases rx with⟨L,cap,a,hL,hv,hcap,ha⟩|⟨a,cap,hv,hacap,hlen0⟩
  rw[hn,Int.toNat_natCast]at hv;by_cases hn0:n=0;subst hn0;refine⟨O,.tuple #[],w,by rw[hv];cases a<;>simp[Builtin.clear_,h0,Y1 ht],⟨_,rfl,rfl⟩,?_,?_⟩
  refine HR.retell (y:= .A e sig (.O .lcat [.O .lsub [l,.C 0,off],.O .lcat [.O .lrep [len,.O .row es],.O .lsub [l,.O .iadd [off,len],.O .Y [l]]]])) r hg (.inl c3) ?_ rfl rfl (λz=>by rw[Heap.get_put,c9 hb65]);intro L' hL' hbr;obtain⟨C,e',lo,hi,z1,z0,z2,z3,z4,z5⟩:=hbr;have he:dL I (.O .lcat [.O .lsub [l,.C 0,off],.O .lcat [.O .lrep [len,.O .row es],.O .lsub [l,.O .iadd [off,len],.O .Y [l]]]])=dL I l:=by rw[kX];simp
  exact⟨C,e',lo,hi,z1,z0,z2,by rw[he];exact z3,by rw[he];exact z4,z5⟩;refine⟨j5 _,λ_ _=>rfl,λz hz hzn=> ?_,rfl⟩;left;rw[Heap.get_put,b9 (λhh=>by(intros;simp_all))]
  have ha:=ha (by omega);subst ha;obtain⟨ocs,m1,m2,m3,m4⟩:=NG I sig (dL I l);have m3':ocs.length=(dL I l).length*sig.length:=by rw[m3,jL]
  have r2:=r.asCells hg c3 hne hnf m1 m2 m3;obtain⟨hone,helen⟩:=TE hes;have hzl:z.cells.length=sig.length:=by rw[<-helen];exact xB hes
  have hrl:=cr8 z.cells n;rw[hzl]at hrl;have hmul:o*sig.length+n*sig.length<=(dL I l).length*sig.length:=by rw[<-x7];exact B4 _ hon
  have hg2:(h.put b (some (.cells e 0 ocs))).get b=some (.cells e 0 ocs):=by rw[Heap.get_put,c9 rfl,c9 hb65]
  have hpc:putCells (h.put b (some (.cells e 0 ocs))) b (o*sig.length) (dP n z.cells)=some ((h.put b (some (.cells e 0 ocs))).put b (some (.cells e 0 (lf ocs (o*sig.length) (dP n z.cells))))):=by
   have hr0:0<n*sig.length:=Nat.mul_pos (by omega) c2;cases hcs:dP n z.cells with
   |nil=>(intros;simp_all)
   |cons a as=>
    simp only[putCells,hcs];rw[<-hcs,hg2];simp;rw[show(Nat.ble h.wm b&&Nat.ble 0 (o*sig.length)&&Nat.ble (o*sig.length+(dP n z.cells).length) ocs.length&&(dP n z.cells).all AV.one)=true by rw[bY5 _ hone,cV.2 c3,cV.2 (p8 _),cV.2 (by(intros;simp_all))];rfl];rfl
  have hcl:GG E.P elem b (o*sig.length) n (h.put b (some (.cells e 0 ocs)))=some (.undef,(h.put b (some (.cells e 0 ocs))).put b (some (.cells e 0 (lf ocs (o*sig.length) (dP n z.cells))))):=by
   unfold GG
   (split<;>grind)
  obtain⟨ac,u,w',e1,e2,e3,e4⟩:=by2 (ty:=ty) (cap:=cap) h0 ht r2 hcl hL;have ao:HR ac I K w0 (h.put b (some (.cells e 0 (lf ocs (o*sig.length) (dP n z.cells))))) w':=by
   have: ∀q,((h.put b (some (.cells e 0 ocs))).put b (some (.cells e 0 (lf ocs (o*sig.length) (dP n z.cells))))).get q=(h.put b (some (.cells e 0 (lf ocs (o*sig.length) (dP n z.cells))))).get q:=λq=>by
    rw[Heap.get_put,Heap.get_put,Heap.get_put]
    (split<;>simp_all)
   exact e3.sameGet rfl rfl this
  refine⟨ac,u,w',by(intros;simp_all),e2,?_,?_⟩
  refine HR.asArr hb65 ao (λus hus=> ?_);rw[kX,Dv,Dv];unfold lf at hus;have hdet1: ∀us,ct ac I (ocs.take (o*sig.length)) us->us=(cN sig (dL I l)).take (o*sig.length):=λus hu=>aR9 m4 m1 hu
  have hdet2: ∀us,ct ac I (ocs.drop (o*sig.length+(dP n z.cells).length)) us->us=(cN sig (dL I l)).drop (o*sig.length+(dP n z.cells).length):=λus hu=>aS0 m4 m1 hu
  have t1:=hus.take (ocs.take (o*sig.length)++dP n z.cells).length;have t2:=hus.drop (ocs.take (o*sig.length)++dP n z.cells).length;rw[F9]at t1;rw[G0]at t2;have t3:=t1.take (ocs.take (o*sig.length)).length;have t4:=t1.drop (ocs.take (o*sig.length)).length;rw[F9]at t3;rw[G0]at t4;rw[<-A3 (ocs.take (o*sig.length)++dP n z.cells).length us,hdet2 _ t2];rw[<-A3 (ocs.take (o*sig.length)).length (us.take (ocs.take (o*sig.length)++dP n z.cells).length),hdet1 _ t3,bY4 I z.cells sig es hes n ac _ t4,A8,hrl,bf3,<-x7,bf4];have:=e4;refine⟨this.le,λb' hb'=>this.ext b' hb',λb' hb' hn'=> ?_,this.wm⟩;left;rw[Heap.get_put,b9 (λhh=>by(intros;simp_all))]
  have hn0:n=0:=by omega
  subst hn0;refine⟨O,.tuple #[],w,by rw[hv];cases a<;>simp[Builtin.clear_,h0,Y1 ht],⟨_,rfl,rfl⟩,?_,?_⟩
  refine HR.retell (y:= .A e sig (.O .lcat [.O .lsub [l,.C 0,off],.O .lcat [.O .lrep [len,.O .row es],.O .lsub [l,.O .iadd [off,len],.O .Y [l]]]])) r hg (.inl c3) ?_ rfl rfl (λz=>by rw[Heap.get_put,c9 hb65]);intro L' hL' hbr;obtain⟨C,e',lo,hi,z1,z0,z2,z3,z4,z5⟩:=hbr;have he:dL I (.O .lcat [.O .lsub [l,.C 0,off],.O .lcat [.O .lrep [len,.O .row es],.O .lsub [l,.O .iadd [off,len],.O .Y [l]]]])=dL I l:=by rw[kX];simp
  exact⟨C,e',lo,hi,z1,z0,z2,by rw[he];exact z3,by rw[he];exact z4,z5⟩;refine⟨j5 _,λ_ _=>rfl,λz hz hzn=> ?_,rfl⟩;by_cases e1:z=b;subst e1;exact .inr (.inr (.of hg));left;rw[Heap.get_put,b9 e1]
 .trivial
 trivial
def cr9(hfx: ∀t,I.fix t=gi E.P t){x:AV}(r:HR O I K w0 h w)(rx:VR O I x vx):Fo E.P O I K w0 w h (Builtin.clear_ ts ty #[vx]) (Ul E.P ((ts[0]?).bind E.P.underlying) x h):=by
 unfold Ul;split;rename_i elem ht;simp[s7]at ht;obtain⟨t,h0,ht⟩:=ht;split
 rename_i z hz;cases hfe:gi E.P elem with
 |true=>trivial
 |false=>
  split;grind[VR,cd0];trivial;trivial
 .trivial
 trivial
def cU5(hfx: ∀t,I.fix t=gi E.P t)(r:HR O I K w0 h w)(o:eN O I af ρ)(c:Call)(ty:Bg):
 dt E O I K w0 w h (do let d <-resolve ρ c ty;invoke d.target d.args) (PB E.P af c h):=by
 unfold PB;split
 rename_i b hb;have hrun: ∀w,(do let d <-resolve ρ c ty;invoke d.target d.args:Sem Next).run E.P w=(builtin b c.argTypes ty (c.args.map λ| .const _=>true|_=>false) (c.args.map ρ)).run E.P w:=by grind[resolve,Sem.run_bind,Sem.run_pure,Result.andThen_ok,invoke]
 have conv: ∀res,dt E O I K w0 w h (builtin b c.argTypes ty (c.args.map λ| .const _=>true|_=>false) (c.args.map ρ)) res->dt E O I K w0 w h (do let d <-resolve ρ c ty;invoke d.target d.args) res:=by
  intro res hh;cases res with
  |val v h1=>obtain⟨ac,u,w',q1,q2⟩:=hh;exact⟨ac,u,w',by grind,q2⟩
  |N e v h1=>intro hd;obtain⟨ac,u,w',q1,q2⟩:=hh hd;exact⟨ac,u,w',by grind,q2⟩
  |cho e v l h1=>
   refine⟨λhd=> ?_,λhd=> ?_⟩;obtain⟨ac,u,w',q1,q2⟩:=hh.1 hd;exact⟨ac,u,w',by grind,q2⟩;obtain⟨x,hx,ac,u,w',q1,q2⟩:=hh.2 hd;exact⟨x,hx,ac,u,w',by grind,q2⟩
  |enter f vs=>obtain⟨us,q1,q2⟩:=hh;exact⟨us,by grind,q2⟩
  |choice l=>obtain⟨x,hx,ac,u,w',q1,q2⟩:=hh;exact⟨x,hx,ac,u,w',by grind,q2⟩
  |yield l vs=>obtain⟨L,us,q1,q2,q3⟩:=hh;exact⟨L,us,q1,q2,by grind⟩
  |defer d=>obtain⟨dd,q1,q2⟩:=hh;exact⟨dd,by grind,q2⟩
  |X=>trivial
 apply conv
 cases hx:evs af c.args.toList with
 |none=>trivial
 |some args=>
  have ra:=xn o hx;have harr:c.args.map ρ=(c.args.toList.map ρ).toArray:=by grind
  rw[harr];unfold LC;split;rename_i x hh;simp at hh;subst hh;obtain⟨v,vr,e1,p1,p2⟩:=ra;obtain rfl:vr=[]:=p2;rw[e1];split;grind[dl7];trivial;exact b23 (λh' a k=>dE.blt rfl k) (cr9 hfx r p1);trivial;rename_i x y hh;simp at hh;subst hh;obtain⟨v,vr,e1,p1,v2,vr2,e2,p2,p3⟩:=ra;obtain rfl:vr2=[]:=p3;rw[e1,e2];split;exact cc5 hfx r p1 p2 _ _ _;trivial;trivial;exact b23 (λh' a k=>dE.blt rfl k) (dm1 r p1 p2);grind[dL1];trivial
 .trivial
def cU6(hfx: ∀t,I.fix t=gi E.P t)(r:HR O I K w0 h w)(ro:eN O I af ρ)(o:Oper):dt E O I K w0 w h (execOp ρ o) (qQ E af o h):=by
 obtain⟨dst,op,ty,pos,after,guard⟩:=o;cases op with
 |binOp op t x y _=>exact cS4 r ro op t x y
 |unOp op _ x=>exact dL0 r ro op x
 |convert s d x=>exact cS7 r ro s d x
 |pick c a b=>exact cS5 r ro c a b
 |load t a=>exact cS9 r ro t a
 |indexAddr t x i=>exact bj9 r ro t x i
 |fieldAddr s x f=>exact bj8 r ro s f x
 |index t x i=>trivial
 |store t a x=>exact cr5 hfx r ro t a x
 |slice t x lo hi mx=>exact cr7 r ro t x lo hi mx
 |lookup t m k ok=>exact cc7 r ro t m k ok
 |mapUpdate t m k x=>exact cr4 r ro t m k x
 |insert t m k x=>trivial
 |mapEntry t m k=>trivial
 |entryStore t m s x=>trivial
 |call c=>exact cU5 hfx r ro c ty
 |_=>trivial
variable{E:Env}{O:cn}{I:Opq}{K:zI}{w0 w:yM}{h h':Heap}{af:vE->yU}{ρ:vE->AS}
def cU7(r:HR O I K w0 h w)(o:eN O I af ρ)(c a b:vE):dt E O I K w0 w h (do pure (.value (if<-asBool (ρ c)then ρ a else ρ b))) (Ca af a b h (af c)):=by
 unfold Ca;split
 rename_i t hc;have rc:=o c _ hc;simp[VR]at rc;cases t with
 |true=>
  cases ha:af a with
  |none=>trivial
  |some v=>exact⟨O,ρ a,w,.inl (by simp[rc,asBool]),o a v ha,r,.refl _ _⟩
 |false=>
  cases hb:af b with
  |none=>trivial
  |some v=>exact⟨O,ρ b,w,.inl (by simp[rc,asBool]),o b v hb,r,.refl _ _⟩
 .trivial
def cs0(r:HR O I K w0 h w)(e:Bg):dt E O I K w0 w h (do pure (.value (<-Instr.alloc e true (.tuple #[])))) (wv e h (ju E.P e)):=by
 cases hz:ju E.P e with
 |none=>trivial
 |some z=>
  obtain⟨zv,z1,z2⟩:=GD hz;refine Oj λv h' hv=> ?_
  obtain⟨ac,x,w',q1,q2,q3,q4⟩:=be8 (P:=E.P) r hv (z1 O I);exact⟨ac,x,w',by grind[Instr.alloc,Sem.run_bind,Result.andThen_ok],q2,q3,q4⟩
def dm2(r:HR O I K w0 h w)(o:eN O I af ρ)(e:Bg)(x:vE):dt E O I K w0 w h (do pure (.value (<-Instr.box e (ρ x)))) (wv e h (af x)):=by
 cases hx:af x with
 |none=>trivial
 |some a=>exact Oj λv h' hv=>be8 (P:=E.P) r hv (o x a hx)
def cs1(r:HR O I K w0 h w)(o:eN O I af ρ)(t:Bg)(ps:Array (Nat×vE)):dt E O I K w0 w h (do pure (.value (<-Instr.build t (ps.map λ(i,x)=>(i,ρ x))))) (Qn E.P t h (jy af ps.toList)):=by
 cases hx:jy af ps.toList with
 |none=>trivial
 |some l=>
  obtain⟨q1,q2⟩:=Wr o hx;refine wN r λv hv=> ?_
  obtain⟨u,g1,g2⟩:=cp1 (P:=E.P) (O:=O) (I:=I) (vparts:=ps.map λ(i,x)=>(i,ρ x)) hv (by simpa using q1) (by simpa using q2);grind
def bc8(r:HR O I K w0 h w)(o:eN O I af ρ)(t n:Nat)(ps:Array (Nat×vE)):
 dt E O I K w0 w h (do pure (.value (<-Instr.buildSlice t n (ps.map λ(i,x)=>(i,ρ x))))) (Eu E.P t n h (jy af ps.toList)):=by
 cases hx:jy af ps.toList with
 |none=>trivial
 |some l=>
  obtain⟨q1,q2⟩:=Wr o hx;exact Oj λv h' hv=>bc4 (P:=E.P) r hv (by simp_all) (by simp_all)
def cU8(r:HR O I K w0 h w)(o:eN O I af ρ)(t:Bg)(x:vE):dt E O I K w0 w h (do pure (.value (<-Instr.loadAt t (ρ x)))) (VA E.P t h (af x)):=by
 cases hx:af x with
 |none=>trivial
 |some a=>exact wN r λv hv=>bX4 r hv (o x a hx)
def cs3(r:HR O I K w0 h w)(o:eN O I af ρ)(t:Bg)(x y:vE):dt E O I K w0 w h (do Instr.storeAt t (ρ x) (ρ y);pure .skip) (Rz E.P t h (af x) (af y)):=by
 cases hx:af x with
 |none=>trivial
 |some a=>
  cases hy:af y with
  |none=>trivial
  |some b=>exact dK8 λh' hv=>bx6 r hv (o x a hx) (o y b hy)
def dm3(hE:E.Ok I)(r:HR O I K w0 h w)(o:eN O I af ρ)(op:BinOp)(t:Bg)(x y:vE):
 dt E O I K w0 w h (do pure (.value (<-(do eqGuard op t x y (ρ x) (ρ y);binOp op t (ρ x) (ρ y):Sem AS)))) (EC E op t x y h (af x) (af y)):=by
 cases hx:af x with
 |none=>trivial
 |some a=>
  cases hy:af y with
  |none=>trivial
  |some b=>
   simp only[EC];cases hg:AU E.P op t x y a b with
   |false=>trivial
   |true=>
    refine wN r λv hv=> ?_
    have hgr:=be6 hg (o x a hx) (o y b hy);have main: ∃u,VR O I v u/\ ∀w,(binOp op t (ρ x) (ρ y)).run E.P w= .ok u w:=by unfold MJ at hv;split at hv;rename_i v' hb;simp at hv;subst hv;exact dk2 hb (o x a hx) (o y b hy);exact hE.bin op a b v hv O t _ _ (o x a hx) (o y b hy)
    grind[Sem.run_bind,Result.andThen_ok]
def dL2(hE:E.Ok I)(r:HR O I K w0 h w)(o:eN O I af ρ)(op:UnOp)(x:vE):dt E O I K w0 w h (do pure (.value (<-Op.unary op (ρ x)))) (Yf E op h (af x)):=by
 cases hx:af x with
 |none=>trivial
 |some a=>
  refine wN r λv hv=> ?_
  have main: ∃u,VR O I v u/\ ∀w,(Op.unary op (ρ x)).run E.P w= .ok u w:=by unfold MJ at hv;split at hv;rename_i v' hb;simp at hv;subst hv;exact d91 hb (o x a hx);exact hE.un op a v hv O _ (o x a hx)
  grind
def cU9(hE:E.Ok I)(r:HR O I K w0 h w)(o:eN O I af ρ)(s d:Bg)(x:vE):dt E O I K w0 w h (do pure (.value (<-convert s d (ρ x)))) (EI E s d h (af x)):=by
 cases hx:af x with
 |none=>trivial
 |some a=>
  simp[EI];cases hc:EL E.P s d a h with
  |some p=>exact .of (cR6 hE.fix r (a:=p.1) (h':=p.2) hc (o x a hx))
  |none=>
   cases hc2:XO E.P s d a h with
   |some p=>trivial
   |none=>exact wN r λv hv=>let ⟨u,u1,u2⟩:=hE.conv d a v hv O s _ (o x a hx);⟨u,u1,u2 w⟩
def cs4(r:HR O I K w0 h w)(o:eN O I af ρ)(t:Bg)(x:vE):dt E O I K w0 w h (do pure (.value (<-Instr.makeInterface t (ρ x)))) (EK E.P t h (af x)):=by
 cases hx:af x with
 |none=>trivial
 |some a=>
  simp[EK];split;trivial;refine .of ⟨O,.iface t (ρ x),w,?_,⟨_,rfl,o x a hx⟩,r,.refl _ _⟩;simp_all[Instr.makeInterface,Sem.run_bind,Y1,Result.andThen_ok];trivial
def cV0(r:HR O I K w0 h w)(o:eN O I af ρ)(fn:Fn)(xs ys:Array vE):
 dt E O I K w0 w h (do pure (.value (<-Instr.makeFunc fn (xs.map ρ) (ys.map ρ)))) (EJ fn h (evs af xs.toList) (evs af ys.toList)):=by
 cases hx:evs af xs.toList with
 |none=>trivial
 |some a=>
  cases hy:evs af ys.toList with
  |none=>trivial
  |some b=>
   simp[EJ];split;trivial;rename_i hn;exact .of ⟨O,.func fn (xs.map ρ) (ys.map ρ),w,rfl,⟨hn,_,_,rfl,by simpa using xn o hx,by simpa using xn o hy⟩,r,.refl _ _⟩
def dm4(r:HR O I K w0 h w)(o:eN O I af ρ)(t:Bg)(x:Option vE):dt E O I K w0 w h (do pure (.value (<-Instr.makeMap t (x.map ρ)))) (wL E.P t h (fe af x)):=by
 unfold wL;split
 .rename_i kt et ht;have new: ∀m:Sem AS,m.run E.P w= .ok (.map (some w.heap.size)) (w.alloc (.map #[] 0))->dE E O I K w0 w h (do pure (.value (<-m))) (.map h.next) (h.new (.map [] 0)):=by
   intro m hm;obtain⟨p1,p2⟩:=r.new (.map #[] 0) (.map [] 0) 0 0 ⟨#[],rfl,.nil⟩;exact .of ⟨_,_,_,hm,⟨_,cn.add_self _ _ _,rfl⟩,p1,p2⟩
  split;rename_i hx;have:=Ci o hx;rw[this];exact new _ rfl;trivial;trivial
 trivial
def cs5(r:HR O I K w0 h w)(o:eN O I af ρ)(t:Bg)(x:vE)(lo hi mx:Option vE):
 dt E O I K w0 w h (do pure (.value (<-Instr.sliceAt t (ρ x) (lo.map ρ) (hi.map ρ) (mx.map ρ)))) (DW E t h (af x) (fe af lo) (fe af hi) (fe af mx)):=by
 cases hx:af x with
 |none=>trivial
 |some a=>
  cases h1:fe af lo with
  |none=>trivial
  |some vl=>
   cases h2:fe af hi with
   |none=>trivial
   |some vh=>
    cases h3:fe af mx with
    |none=>trivial
    |some vm=>
     simp[DW];cases hc:(vh.isNone&&vm.isSome)with
     |true=>trivial
     |false=>
      refine wN r λv hv=> ?_
      obtain⟨u,u1,u2⟩:=co9 r hv hc (o x a hx) (Ci o h1) (Ci o h2) (Ci o h3);grind
def TQ{F:AV->AV->yU}{G:AS->AS->Sem AS}(r:HR O I K w0 h w)(o:eN O I af ρ)(x y:vE)
 (k: ∀a b v va vb,F a b=some v->VR O I a va->VR O I b vb-> ∃u,VR O I v u/\(G va vb).run E.P w= .ok u w):dt E O I K w0 w h (do pure (.value (<-G (ρ x) (ρ y)))) (s2 F h (af x) (af y)):=by
 cases hx:af x with
 |none=>trivial
 |some a=>
  cases hy:af y with
  |none=>trivial
  |some b=>exact wN r λv hv=>k a b v _ _ hv (o x a hx) (o y b hy)
def PA{F:AV->yU}{G:AS->Sem AS}(r:HR O I K w0 h w)(o:eN O I af ρ)(x:vE)
 (k: ∀a v va,F a=some v->VR O I a va-> ∃u,VR O I v u/\(G va).run E.P w= .ok u w):dt E O I K w0 w h (do pure (.value (<-G (ρ x)))) (s1 F h (af x)):=by
 cases hx:af x with
 |none=>trivial
 |some a=>exact wN r λv hv=>k a v _ hv (o x a hx)
def dL3{F:AV->AV->AV->aaY}{G:AS->AS->AS->Sem Unit}(r:HR O I K w0 h w)(o:eN O I af ρ)(x y z:vE)
 (k: ∀a b c h' va vb vc,F a b c=some h'->VR O I a va->VR O I b vb->VR O I c vc->Ny E.P O I K w0 w h (G va vb vc) h'):dt E O I K w0 w h (do G (ρ x) (ρ y) (ρ z);pure .skip) (WL F (af x) (af y) (af z)):=by
 cases hx:af x with
 |none=>trivial
 |some a=>
  cases hy:af y with
  |none=>trivial
  |some b=>
   cases hz:af z with
   |none=>trivial
   |some c=>exact dK8 λh' hv=>k a b c h' _ _ _ hv (o x a hx) (o y b hy) (o z c hz)
def bL9(hE:E.Ok I)(r:HR O I K w0 h w){args:Fz}{us:List AS}(ra:ct O I args us)(b:Builtin)(ts:Array Bg)(ty:Bg)(cs:aaI):
 dt E O I K w0 w h (builtin b ts ty cs us.toArray) (Ck E b ts h args):=by
 unfold Ck;split;rename_i p hp;obtain⟨ac,v,w',q1,q2,q3,q4⟩:=YI (ty:=ty) (cs:=cs) (us:=us.toArray) (a:=p.1) (h':=p.2) hE.fix r hp (by omega);exact⟨ac,v,w',.inl q1,q2,q3,q4⟩
 have main: ∀k,(b= .len/\k=FK.len\/b= .max/\k=FK.max\/b= .min/\k=FK.min)->dt E O I K w0 w h (builtin b ts ty cs us.toArray) (ov (E.fact k args) h):=by
  intro k hk;cases hf:E.fact k args with
  |none=>trivial
  |some v=>
   obtain⟨u,u1,u2⟩:=hE.blt b k args v hk hf O ts ty cs us ra;exact⟨O,u,w,.inl (u2 w),u1,r,.refl _ _⟩
 split;grind;grind;grind;trivial
def cV2(hE:E.Ok I)(r:HR O I K w0 h w)(o:eN O I af ρ)(c:Call)(ty:Bg):
 dt E O I K w0 w h (do let d <-resolve ρ c ty;invoke d.target d.args) (wV E af c h (evs af c.args.toList)):=by
 cases hx:evs af c.args.toList with
 |none=>trivial
 |some args=>
  have ra:=xn o hx;have harr:(c.args.toList.map ρ).toArray=c.args.map ρ:=by grind
  simp[wV];split;rename_i b hb;have:=bL9 hE r ra b c.argTypes ty (c.args.map λ| .const _=>true|_=>false);grind[resolve,invoke,builtin,Sem.run_bind,Sem.run_pure,Result.andThen_ok,Ck];trivial
  rename_i f hf;cases hv:af f with
  |none=>trivial
  |some vf=>
   have:=cc2 hE r (o f vf hv) ra;rw[harr]at this;have hres:resolve ρ c ty=Deferred.ofValue (ρ f) (c.args.map ρ):=by grind[resolve]
   rw[hres];exact this
def cV3(hE:E.Ok I)(r:HR O I K w0 h w)(ro:eN O I af ρ)(o:Oper):dt E O I K w0 w h (execOp ρ o) (oE E af o h):=by
 obtain⟨dst,op,ty,pos,after,guard⟩:=o;cases op with
 |move x=>
  show dt E O I K w0 w h (pure (.value (ρ x))) (ov (af x) h);cases hx:af x with
  |none=>trivial
  |some a=>exact⟨O,ρ x,w,.inl rfl,ro x a hx,r,.refl _ _⟩
 |assign x=>
  show dt E O I K w0 w h (pure (.value (ρ x))) (ov (af x) h);cases hx:af x with
  |none=>trivial
  |some a=>exact⟨O,ρ x,w,.inl rfl,ro x a hx,r,.refl _ _⟩
 |pick c a b=>exact cU7 r ro c a b
 |alloc e=>exact cs0 r e
 |box e x=>exact dm2 r ro e x
 |build t ps=>exact cs1 r ro t ps
 |buildSlice t n ps=>exact bc8 r ro t n ps
 |load t a=>exact cU8 r ro t a
 |store t a x=>exact cs3 r ro t a x
 |nilCheck x=>
  show dt E O I K w0 w h _ (Ea E.P h (af x));unfold Ea;split;trivial
  rename_i a hnm hx;cases hn:LZ a with
  |none=>trivial
  |some b=>
   have rx:=ro x a hx;obtain⟨rfl,hv⟩:=bL4 rx hn;refine⟨O,ρ x,w,.inl ?_,rx,r,.refl _ _⟩;simp[execOp];generalize ρ x=v at hv;cases v with
   |pointer p=>cases p with
    |none=>cases hv
    |some p=>rfl
   |func fn a b=>cases fn<;>first|rfl|cases hv
   |nilIface=>cases hv
   |nilFunc=>cases hv
   |_=>rfl
  .trivial
 |binOp op t x y _=>exact dm3 hE r ro op t x y
 |unOp op _ x=>exact dL2 hE r ro op x
 |convert s d x=>exact cU9 hE r ro s d x
 |makeInterface t x=>exact cs4 r ro t x
 |makeFunc fn a b=>exact cV0 r ro fn a b
 |makeMap t x=>exact dm4 r ro t x
 |makeSlice t l c=>trivial
 |slice t x lo hi mx=>exact cs5 r ro t x lo hi mx
 |fieldAddr s x f=>exact PA (F:=λa=>QE E.P s a f) (G:=λv=>Instr.fieldAt s v f) r ro x λa v va e ra=>let ⟨u,u1,u2⟩:=bj3 e ra;⟨u,u1,u2 w⟩
 |field t x f=>trivial
 |indexAddr t x i=>exact TQ (G:=λv u=>Instr.indexAt t v u) r ro x i λa b v va vb e ra rb=>let ⟨u,u1,u2⟩:=bj4 e ra rb;⟨u,u1,u2 w⟩
 |index t x i=>exact TQ (G:=λv u=>Instr.index t v u) r ro x i λa b v va vb e ra rb=>let ⟨u,u1,u2⟩:=co7 e ra rb;⟨u,u1,u2 w⟩
 |lookup t x i ok=>exact TQ (F:=λa i=>ON E.P t a i ok h) (G:=λv u=>Instr.lookup t v u ok) r ro x i λa b v va vb e ra rb=>cc0 r e ra rb
 |mapUpdate t m k x=>exact dL3 (F:=λm k v=>Nh E.P t m k v h) (G:=λm k v=>Instr.mapUpdate t m k v) r ro m k x λa b c h' va vb vc e ra rb rc=>bj6 r e ra rb rc
 |insert t m k x=>trivial
 |mapEntry t m k=>
  trivial
 |entryStore t m s x=>trivial
 |range t x=>
  show dt E O I K w0 w h (do pure (.value (<-Instr.range t (ρ x)))) (Yx (λa=>MN E.P t a h) (af x));cases hx:af x with
  |none=>trivial
  |some a=>exact Oj λv h' hv=>cp7 r hv (ro x a hx)
 |next it s=>
  show dt E O I K w0 w h (do pure (.value (<-Instr.next (ρ it) s ty))) (Gj (λa=>Hz a s h) (af it));cases hx:af it with
  |none=>trivial
  |some a=>
   have:=cR5 (P:=E.P) (ty:=ty) (isS:=s) r (ro it a hx);simp[Gj];cases hn:Hz a s h<;>rw[hn]at this;exact .of this;trivial;trivial;trivial;obtain⟨x,hx,hok⟩:=this;exact⟨x,hx,.of hok⟩;trivial;trivial;trivial
 |entry it=>exact PA (F:=λa=>Ob a h) (G:=λv=>Instr.entry v) r ro it λa v va e ra=>cp8 r e ra
 |typeAssert x xt t ok=>exact PA (F:=λa=>Ma E.P a t ok) (G:=λv=>Instr.typeAssert v xt t ok) r ro x λa v va e ra=>let ⟨u,u1,u2⟩:=bc5 e ra;⟨u,u1,u2 w⟩
 |extract t i=>exact PA (F:=MI i) (G:=λv=>Instr.extract v i) r ro t λa v va e ra=>let ⟨u,u1,u2⟩:=bK8 e ra;⟨u,u1,u2 w⟩
 |call c=>exact cV2 hE r ro c ty
 |defer c=>
  trivial
 |_=>trivial
def Zu(hE:E.Ok I)(r:HR O I K w0 h w)(ro:eN O I af ρ)(o:Oper):dt E O I K w0 w h (execOp ρ o) (fE E af o h):=by have h1:=cV3 hE r ro o;have h2:=cU6 (E:=E) hE.fix r ro o;unfold fE;cases hc:oE E af o h<;>rw[hc]at h1<;>first|exact h1|exact h2
