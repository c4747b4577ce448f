import Derived.Test.YtbfbcanipfnfeaaE15
set_option linter.unusedVariables false
set_option linter.unusedSimpArgs false
namespace Go.Ev
open Go
variable{E:Env}{β:Bij}{ω:Opq}{K:Nat→Prop}{w0 w:World}{h h':Heap}{ρA:Operand→Option AV}{ρ:Operand→Value}
abbrev ω0:Opq:=⟨fun _=> .nilIface,fun _=> .vb false,fun _ _=> .vb false,fun _=>rfl,fun _=>false,fun _=>none⟩
theorem a10{x:AV}{v:Value}{k:IntKind}{e:SX}(h:aS2 x=some (k,e))(r:VR β ω x v):v= .int k (dI ω e):=by
 unfold aS2 at h
 split at h<;>simp only[a8,d7,reduceCtorEq]at h
 ·obtain⟨rfl,rfl⟩:=h;exact r
 ·obtain⟨rfl,rfl⟩:=h;exact r
theorem ad0{x:AV}{v:Value}{e:SX}(h:bi2 x=some e)(r:VR β ω x v):v= .string ⟨(dS ω e).toArray⟩:=by
 unfold bi2 at h
 split at h<;>simp only[a8,reduceCtorEq]at h
 ·subst h;exact r
 ·subst h;exact r
theorem af8{x:AV}{v:Value}{e:SX}(h:bj1 x=some e)(r:VR β ω x v):v= .bool (dB ω e):=by
 unfold bj1 at h
 split at h<;>simp only[a8,reduceCtorEq]at h
 ·subst h;exact r
 ·subst h;exact r
theorem W2.pureV{m:Sem Next}{v:AV}{u:Value}(r:HR β ω K w0 h w)(hv:VR β ω v u)(hr:m.run E.P w= .ok (.value u) w):W2 E β ω K w0 w h m v h:=
 ⟨β,u,w,.inl hr,hv,r,.refl _ _⟩
theorem cf2(op:BinOp)(k:IntKind)(a b:SX):dI ω (.op (.ar op k) [a,b])=arI op k (dI ω a) (dI ω b):=rfl
theorem bb4(op:BinOp)(a b:SX):dB ω (.op (.cmp op) [a,b])=b02 op (dI ω a) (dI ω b):=rfl
theorem cA3(op:BinOp)(a b:SX):dB ω (.op (.scmp op) [a,b])=bH4 op (dS ω a) (dS ω b):=rfl
theorem aI7(n:Int):dI ω (.ci n)=n:=rfl
theorem cV1(a b:SX):dI ω (cp4 a b)=dI ω a+dI ω b:=rfl
theorem aI8(a:SX):dI ω (.op .slen [a])=((dS ω a).length:Int):=rfl
theorem S9(a:SX):dI ω (.op .llen [a])=((dL ω a).length:Int):=rfl
theorem ae3(a b:SX):dB ω (.op .and [a,b])=(dB ω a&&dB ω b):=rfl
theorem ad1{i l:SX}(h:dB ω (aY8 i l)=true):0≤dI ω i∧dI ω i<dI ω l:=by
 simp only[aY8,ae3,bb4,b02,d6,decide_eq_true_eq]at h
 exact h
theorem cr7{op:BinOp}{t:TypeId}{x y a:AV}{vx vy:Value}(he:d27 E.P op t x y=some a)(rx:VR (fun _=>none) ω x vx)(ry:VR (fun _=>none) ω y vy)(w:World):
 ∃v,VR (fun _=>none) ω a v∧(binOp op t vx vy).run E.P w= .ok v w:=
 let ⟨v,r,hv⟩:=bU5 (P:=E.P) he rx ry
 ⟨v,r,hv w⟩
theorem bI5(m n:Nat)(k:Nat):(Int.ofNat m).fdiv (2^k)=Int.ofNat (m/2^k):=by
 have h2:((2:Int)^k)=((2^k:Nat):Int):=by simp
 rw[h2]
 show((m:Int)).fdiv ((2^k:Nat):Int)=((m/2^k:Nat):Int)
 rw[J1 _ (Int.natCast_nonneg _)]
 simp
theorem cV2(t:TypeId)(k k':IntKind)(x:Int)(n:Nat)(w:World):(binOp .shr t (.int k x) (.int k' (n:Int))).run E.P w= .ok (.int k (x.fdiv (2^min n k.bits))) w:=by
 have hs:aT6 .shr k x (n:Int)=some (.int k (match x with| .ofNat m=> .ofNat (m/2^(min n k.bits))| .negSucc m=>(Int.negSucc m).fdiv (2^(min n k.bits)))):=rfl
 obtain⟨v,r1,r2⟩:=cr7 (E:=E) (ω:=ω0) (op:= .shr) (t:=t) (x:= .int k x) (y:= .int k' (n:Int)) hs rfl rfl w
 rw[r2,show v=_ from r1]
 cases x with
 |ofNat m=>rw[bI5 m n]
 |negSucc m=>rfl
theorem cV3(t:TypeId)(k k':IntKind)(x:Int)(n:Nat)(w:World):(binOp .shl t (.int k x) (.int k' (n:Int))).run E.P w= .ok (.int k (k.wrap (x*2^min n k.bits))) w:=by
 have hs:aT6 .shl k x (n:Int)=some (.int k (al3 k (x*2^min n k.bits))):=rfl
 obtain⟨v,r1,r2⟩:=cr7 (E:=E) (ω:=ω0) (op:= .shl) (t:=t) (x:= .int k x) (y:= .int k' (n:Int)) hs rfl rfl w
 rw[r2,show v=_ from r1,W7]
theorem bW5{op:BinOp}{t:TypeId}{k:IntKind}{x y n:Int}(he:aS0 op k x y=some (.int k n))(hop:op≠ .shl∧op≠ .shr)(w:World):
 (binOp op t (.int k x) (.int k y)).run E.P w= .ok (.int k n) w:=by
 obtain⟨v,r1,r2⟩:=aC6 (P:=E.P) (β:=fun _=>none) (ω:=ω0) t he hop
 rw[r2,show v=_ from r1]
theorem cA4{op:BinOp}{t:TypeId}{k:IntKind}{x y:Int}{n:Bool}(he:aS0 op k x y=some (.bool n))(hop:op≠ .shl∧op≠ .shr)(w:World):
 (binOp op t (.int k x) (.int k y)).run E.P w= .ok (.bool n) w:=by
 obtain⟨v,r1,r2⟩:=aC6 (P:=E.P) (β:=fun _=>none) (ω:=ω0) t he hop
 rw[r2,show v=_ from r1]
theorem cA5{op:BinOp}{t:TypeId}{x y z:List UInt8}(he:bF9 op x y=some (.str z))(w:World):
 (binOp op t (.string ⟨x.toArray⟩) (.string ⟨y.toArray⟩)).run E.P w= .ok (.string ⟨z.toArray⟩) w:=by
 obtain⟨v,r1,r2⟩:=b03 (P:=E.P) (β:=fun _=>none) (ω:=ω0) t he
 rw[r2,show v=_ from r1]
theorem cA6{op:BinOp}{t:TypeId}{x y:List UInt8}{n:Bool}(he:bF9 op x y=some (.bool n))(w:World):
 (binOp op t (.string ⟨x.toArray⟩) (.string ⟨y.toArray⟩)).run E.P w= .ok (.bool n) w:=by
 obtain⟨v,r1,r2⟩:=b03 (P:=E.P) (β:=fun _=>none) (ω:=ω0) t he
 rw[r2,show v=_ from r1]
theorem cA7{op:BinOp}{t:TypeId}{k k':IntKind}{a b:SX}(r:HR β ω K w0 h w){M:Sem Value}
 (hM: ∀u,(binOp op t (.int k (dI ω a)) (.int k' (dI ω b))).run E.P w= .ok u w→M.run E.P w= .ok u w):
 SOk E β ω K w0 w h (do pure (.value (←M))) (d30 op k k' a b h):=by
 have fin: ∀{v:AV} {u:Value},(binOp op t (.int k (dI ω a)) (.int k' (dI ω b))).run E.P w= .ok u w→VR β ω v u→W2 E β ω K w0 w h (do pure (.value (←M))) v h:=by
  intro v u hr hv
  exact W2.pureV r hv (by simp only[Sem.run_bind,hM u hr,Result.andThen_ok,Sem.run_pure])
 have nn:dB ω (.op (.cmp .leq) [.ci 0,b])=true→ ∃n:Nat,dI ω b=n:=by
  intro hd
  simp only[bb4,b02,decide_eq_true_eq]at hd
  have hd:0≤dI ω b:=hd
  exact⟨(dI ω b).toNat,by omega⟩
 have nz:dB ω (.op (.cmp .neq) [b,.ci 0])=true→b76 (dI ω b) 0=false:=by
  intro hd
  simp only[bb4,b02,m6,decide_eq_false_iff_not]at hd
  have hd: ¬dI ω b=0:=hd
  rw[a09];simpa using hd
 unfold d30
 cases op<;>simp only[]
 case shl=>
  intro hd
  obtain⟨n,hn⟩:=nn hd
  exact fin (by rw[hn];exact cV3 t k k' _ n w) (by simp only[VR,cf2,arI,hn,Int.toNat_natCast])
 case shr=>
  intro hd
  obtain⟨n,hn⟩:=nn hd
  exact fin (by rw[hn];exact cV2 t k k' _ n w) (by simp only[VR,cf2,arI,hn,Int.toNat_natCast])
 all_goals
  split
  ·rename_i hk;subst hk
   first
    |(intro hd
      have hz:=nz hd
      refine fin (bW5 (by simp only[aS0,hz,cond_false]<;>rfl) ⟨by simp,by simp⟩ w) ?_
      simp only[VR,cf2,arI,W7]
      done)
    |(refine fin (bW5 rfl ⟨by simp,by simp⟩ w) ?_
      simp only[VR,cf2,arI,W7]
      done)
    |(refine fin (cA4 rfl ⟨by simp,by simp⟩ w) ?_
      simp only[VR,bb4,b02,a09,a69]
      first|done|rfl|(congr 1;rw[m9];simp;done)|(congr 1;rw[m9];simp;omega))
  ·trivial
theorem di6{a b:SX}(hd:dB ω (.op (.cmp .lss) [cp4 (.op .slen [a]) (.op .slen [b]),.ci cb6])=true):b02 .lss (dI ω (cp4 (.op .slen [a]) (.op .slen [b]))) (dI ω (.ci cb6))=true:=by
 rw[bb4]at hd;exact hd
theorem di7{a b:SX}(hd:b02 .lss (dI ω (cp4 (.op .slen [a]) (.op .slen [b]))) (dI ω (.ci cb6))=true):b02 .lss (dI ω (cp4 (.op .slen [a]) (.op .slen [b]))) cb6=true:=by
 rw[aI7]at hd;exact hd
theorem di8{x y:Int}(hd:b02 .lss x y=true):x<y:=by
 simpa[b02]using hd
theorem cA8{a b:SX}(hd:dB ω (.op (.cmp .lss) [cp4 (.op .slen [a]) (.op .slen [b]),.ci cb6])=true):((dS ω a).length:Int)+((dS ω b).length:Int)<cb6:=by
 have h1:=di8 (di7 (di6 hd))
 rw[cV1,aI8,aI8]at h1
 exact h1
theorem cf3{t:TypeId}{a b:SX}(r:HR β ω K w0 h w){M:Sem Value}
 (hM: ∀u,(binOp .add t (.string ⟨(dS ω a).toArray⟩) (.string ⟨(dS ω b).toArray⟩)).run E.P w= .ok u w→M.run E.P w= .ok u w)
 (hd:dB ω (.op (.cmp .lss) [cp4 (.op .slen [a]) (.op .slen [b]),.ci cb6])=true):W2 E β ω K w0 w h (do pure (.value (←M))) (.ostr (.op .cat [a,b])) h:=by
 replace hd:=cA8 hd
 have e3:cb6=(aT7:Int):=by unfold cb6 aT7;simp
 rw[e3]at hd
 have hlt:Nat.blt ((dS ω a).length+(dS ω b).length) aT7=true:=a40 (by omega)
 have h1:(binOp .add t (.string ⟨(dS ω a).toArray⟩) (.string ⟨(dS ω b).toArray⟩)).run E.P w= .ok (.string ⟨(dS ω a++dS ω b).toArray⟩) w:=cA5 (by simp only[bF9,hlt,cond_true]) w
 exact W2.pureV r (u:= .string ⟨(dS ω a++dS ω b).toArray⟩) rfl (by simp only[Sem.run_bind,hM _ h1,Result.andThen_ok,Sem.run_pure])
theorem cA9{op:BinOp}{t:TypeId}{a b:SX}(r:HR β ω K w0 h w){M:Sem Value}
 (hM: ∀u,(binOp op t (.string ⟨(dS ω a).toArray⟩) (.string ⟨(dS ω b).toArray⟩)).run E.P w= .ok u w→M.run E.P w= .ok u w):
 SOk E β ω K w0 w h (do pure (.value (←M))) (d31 op a b h):=by
 have fin: ∀{v:AV} {u:Value},(binOp op t (.string ⟨(dS ω a).toArray⟩) (.string ⟨(dS ω b).toArray⟩)).run E.P w= .ok u w→VR β ω v u→W2 E β ω K w0 w h (do pure (.value (←M))) v h:=by
  intro v u hr hv
  exact W2.pureV r hv (by simp only[Sem.run_bind,hM u hr,Result.andThen_ok,Sem.run_pure])
 unfold d31
 cases op<;>simp only[]
 case add=>exact cf3 r hM
 all_goals first
  |trivial
  |(refine fin (cA6 rfl w) ?_
    simp only[VR,cA3,bH4,ac8,R0]
    first|done|rfl|(congr 1;rw[m9];simp))
mutual
noncomputable def a30(ω:Opq):AV→AV
 | .oint k e=> .int k (dI ω e)
 | .ostr e=> .str (dS ω e)
 | .obool e=> .bool (dB ω e)
 | .agg cs=> .agg (aI9 ω cs)
 |x=>x
noncomputable def aI9(ω:Opq):List AV→List AV
 | []=>[]
 |x::r=>a30 ω x::aI9 ω r
end
theorem ar3: ∀l:List AV,aI9 ω l=l.map (a30 ω)
 | []=>rfl
 |x::r=>by simp only[aI9,j9,ar3 r]
mutual
theorem b10: ∀(x:AV) (v:Value),VR β ω x v→VR β ω (a30 ω x) v
 | .oint k e,v,h=>by simp only[a30];exact h
 | .ostr e,v,h=>by simp only[a30];exact h
 | .obool e,v,h=>by simp only[a30];exact h
 | .agg cs,v,h=>by
   obtain⟨xs,rfl,q⟩:=h
   simp only[a30]
   exact⟨xs,rfl,bw4 cs _ q⟩
 | .bool _,v,h=>by simp only[a30];exact h
 | .int _ _,v,h=>by simp only[a30];exact h
 | .str _,v,h=>by simp only[a30];exact h
 | .nilp,v,h=>by simp only[a30];exact h
 | .ptr _ _,v,h=>by simp only[a30];exact h
 | .glob _,v,h=>by simp only[a30];exact h
 | .nils,v,h=>by simp only[a30];exact h
 | .sl _ _ _ _,v,h=>by simp only[a30];exact h
 | .us _ _ _ _,v,h=>by simp only[a30];exact h
 | .es _ _ _,v,h=>by simp only[a30];exact h
 | .es0,v,h=>by simp only[a30];exact h
 | .nilm,v,h=>by simp only[a30];exact h
 | .map _,v,h=>by simp only[a30];exact h
 | .nilf,v,h=>by simp only[a30];exact h
 | .func _ _ _,v,h=>by simp only[a30];exact h
 | .yield _,v,h=>by simp only[a30];exact h
 | .nili,v,h=>by simp only[a30];exact h
 | .iface _ _,v,h=>by simp only[a30];exact h
 | .tup _,v,h=>by simp only[a30];exact h
 | .opq _,v,h=>by simp only[a30];exact h
 | .osl _ _ _ _,v,h=>by simp only[a30];exact h
 | .optr _ _ _ _,v,h=>by simp only[a30];exact h
 | .ous _ _ _,v,h=>by simp only[a30];exact h
 | .atl _,v,h=>by simp only[a30];exact h
 | .any,v,h=>by simp only[a30];exact h
theorem bw4: ∀(xs:List AV) (vs:List Value),VRs β ω xs vs→VRs β ω (aI9 ω xs) vs
 | [],vs,h=>h
 |x::r,vs,h=>by
  obtain⟨v,vr,rfl,p,q⟩:=h
  exact⟨v,vr,rfl,b10 x v p,bw4 r vr q⟩
end
theorem bb5{x:AV}{k:IntKind}{e:SX}(h:aS2 x=some (k,e)):a30 ω x= .int k (dI ω e):=by
 unfold aS2 at h
 split at h<;>simp only[a8,d7,reduceCtorEq]at h
 ·obtain⟨rfl,rfl⟩:=h;rfl
 ·obtain⟨rfl,rfl⟩:=h;rfl
theorem bb6{x:AV}{e:SX}(h:bi2 x=some e):a30 ω x= .str (dS ω e):=by
 unfold bi2 at h
 split at h<;>simp only[a8,reduceCtorEq]at h<;>subst h<;>rfl
theorem bb7{x:AV}{e:SX}(h:bj1 x=some e):a30 ω x= .bool (dB ω e):=by
 unfold bj1 at h
 split at h<;>simp only[a8,reduceCtorEq]at h<;>subst h<;>rfl
variable{P:Program}
theorem aw5{t:TypeId}{cs:List AV}{o:Nat}{a:AV}(h:ae8 P t cs o=some a):ae8 P t (aI9 ω cs) o=some (a30 ω a):=by
 unfold ae8 at h⊢
 split at h
 ·rename_i n h1 h2
  obtain⟨hc,h⟩:=M7 h
  simp only[a8]at h;subst h
  rw[ar3,m5,hc]
  simp only[cond_true,a30,ar3,List.map_take,List.map_drop]
 ·rename_i n h1 h2
  rw[ar3,r5,h];rfl
 ·cases h
theorem bm3(a b:SX):dB ω (aG1 a b)=(dB ω a&&dB ω b):=by
 have h0:dB ω (.cb true)=true:=rfl
 unfold aG1
 split
 ·rw[h0];simp
 ·split
  ·rw[h0];simp
  ·rfl
theorem af9{ihS:TypeId→AV→AV→Option SX}{ih:TypeId→AV→AV→Option Bool}(hih: ∀t a b e,ihS t a b=some e→ih t (a30 ω a) (a30 ω b)=some (dB ω e)){xs ys:List AV}:
 ∀{fs:List Field} {e:SX},aa9 P ihS xs ys fs=some e→a91 P ih (aI9 ω xs) (aI9 ω ys) fs=some (dB ω e)
 | [],e,h=>by simp only[aa9,a8]at h;subst h;rfl
 |f::r,e,h=>by
  simp only[aa9]at h
  simp only[a91]
  cases hb:(f.name== "_")with
  |true=>rw[hb]at h;exact af9 hih h
  |false=>
   rw[hb]at h
   simp only[cond_false]at h⊢
   split at h
   ·rename_i a b h1 h2
    split at h
    ·rename_i e1 h3
     split at h
     ·rename_i e2 h4
      simp only[a8]at h;subst h
      rw[aw5 h1,aw5 h2]
      simp only[hih _ _ _ _ h3,bm3]
      cases dB ω e1 with
      |true=>simp only[A6];exact af9 hih h4
      |false=>rfl
     ·cases h
    ·cases h
   ·cases h
theorem bI6{ihS:TypeId→AV→AV→Option SX}{ih:TypeId→AV→AV→Option Bool}(hih: ∀t a b e,ihS t a b=some e→ih t (a30 ω a) (a30 ω b)=some (dB ω e)){t:TypeId}{x y:AV}{e:SX}(h:bj2 P ihS t x y=some e):
 a44 P ih t (a30 ω x) (a30 ω y)=some (dB ω e):=by
 unfold bj2 at h
 split at h
 ·rename_i ht
  split at h
  ·rename_i a b h1 h2
   simp only[a8]at h;subst h
   rw[bb7 h1,bb7 h2]
   unfold a44
   simp only[ht]
   rfl
  ·cases h
 ·rename_i k0 ht
  split at h
  ·rename_i k a k' b h1 h2
   unfold cp5 at h
   split at h
   ·rename_i hk;subst hk
    simp only[a8]at h;subst h
    rw[bb5 h1,bb5 h2]
    unfold a44
    simp only[ht,if_true,a09]
    rfl
   ·cases h
  ·cases h
 ·rename_i ht
  split at h
  ·rename_i a b h1 h2
   simp only[a8]at h;subst h
   rw[bb6 h1,bb6 h2]
   unfold a44
   simp only[ht,ac8]
   congr 1
   show _=decide (dS ω a=dS ω b)
   rw[m9];simp
  ·cases h
 ·rename_i fields ht
  split at h
  ·rename_i xs ys
   cases hs:P.stoodInHeld t with
   |true=>rw[hs]at h;cases h
   |false=>
    rw[hs]at h
    simp only[cond_false]at h
    simp only[a30]
    unfold a44
    simp only[ht,hs,cond_false]
    exact af9 hih h
  ·cases h
 ·cases h
theorem bW6: ∀(n:Nat) {t:TypeId} {x y:AV} {e:SX},eqS P n t x y=some e→eqE P n t (a30 ω x) (a30 ω y)=some (dB ω e)
 |0,t,x,y,e,h=>by cases h
 |n+1,t,x,y,e,h=>bI6 (ihS:=eqS P n) (ih:=eqE P n) (fun t a b e h=>bW6 n h) h
theorem P4(sig:List CT)(r:Val):(a27 sig r).length=sig.length:=by simp[a27]
theorem O3(sig:List CT): ∀l:List Val,(N7 sig l).length=l.length*sig.length
 | []=>by simp[N7]
 |r::l=>by
  have:=O3 sig l
  simp only[N7]at this⊢
  rw[z8,e8,P4,this,List.length_cons,l7,A5,y6]
theorem aj6{sig:List CT}{r:Val}{j:Nat}(hj:j<sig.length):(a27 sig r)[j]? =some (a26 (sig.getD j .bool) (r.toL.getD j default)):=by
 simp[a27,hj]
theorem ag0{sig:List CT}{j:Nat}(hj:j<sig.length): ∀{l:List Val} {i:Nat},i<l.length→(N7 sig l)[i*sig.length+j]? =some (a26 (sig.getD j .bool) ((l.getD i (.vl [])).toL.getD j default))
 | [],i,h=>by simp at h
 |r::l,0,h=>by
  simp only[N7,z8,B5,i3]
  rw[j5 (by rw[P4];exact hj),aj6 hj]
  simp
 |r::l,i+1,h=>by
  simp only[N7,z8]
  rw[j3 (by rw[P4,l7];omega),P4]
  rw[show(i+1)*sig.length+j-sig.length=i*sig.length+j by rw[l7];omega]
  have:=ag0 hj (l:=l) (i:=i) (by simpa using h)
  simp only[N7]at this
  rw[this]
  simp
theorem aj7(c:CT)(e:SX):VR β ω (b84 c e) (a26 c (den ω e)):=by cases c<;>rfl
theorem aC8(sig:List CT)(l idx:SX): ∀(n j:Nat),VRs β ω (bG7 sig l idx j n) ((List.range' j n).map fun t=>a26 (sig.getD t .bool) (Q5 (dL ω l) (dI ω idx) t))
 |0,j=>rfl
 |n+1,j=>by
  simp only[bG7,B1,j9]
  exact⟨_,_,rfl,aj7 _ _,aC8 sig l idx n (j+1)⟩
theorem HR.arr{b:Nat}{e:Nat}{sig:List CT}{l:SX}{L:Loc}(r:HR β ω K w0 h w)(hg:h.get b=some (.arr e sig l))(hb:β b=some L):
 ∃C e' lo hi,w.heap[L.blk]? =some (.cells C e' (lo,hi))∧(e'=e∨e=an1)∧L.off+L.ext≤C.size∧(dL ω l).length*sig.length≤L.ext∧
  (∀i v,(N7 sig (dL ω l))[i]? =some v→C[L.off+i]? =some v)∧(∀i,i<L.ext→ ¬(lo≤L.off+i∧L.off+i<hi)):=r.blk b _ L hg hb
theorem bw5{n:Nat}{t:TypeId}{a b:Bool}(hn:0<n)(ht:P.underlying t=some .bool):eqE P n t (.bool a) (.bool b)=some (a==b):=by
 cases n with
 |zero=>omega
 |succ n=>
  have h1:eqE P (n+1) t (.bool a) (.bool b)=a44 P (eqE P n) t (.bool a) (.bool b):=rfl
  rw[h1]
  unfold a44;simp only[ht]
theorem aJ0{P:Program}{t:TypeId}(h:aG2 P t=true): ∃e,P.underlying t=some (.slice e):=by
 unfold aG2 at h
 split at h
 ·exact⟨_,by assumption⟩
 ·cases h
theorem bw6{n:Nat}{P:Program}{t:TypeId}{b o m c:Nat}(hn:0<n)(ht:aG2 P t=true):eqE P n t (.sl b o m c) .nils=some false:=by
 obtain⟨e,ht⟩:=aJ0 ht
 cases n with
 |zero=>omega
 |succ n=>
  have h1:eqE P (n+1) t (.sl b o m c) .nils=a44 P (eqE P n) t (.sl b o m c) .nils:=rfl
  rw[h1]
  unfold a44;simp only[ht,b77]
theorem cB0(l y:SX):dL ω (bP9 l y)=dL ω l++dL ω y:=by
 unfold bP9
 split
 ·rfl
 ·rfl
theorem cr8{t:TypeId}(hs:aG2 E.P t=true)(x:Option Addr)(n c:Nat)(w:World):(binOp .eql t (.slice x n c) (.slice none 0 0)).run E.P w= .ok (.bool x.isNone) w∧(binOp .neq t (.slice x n c) (.slice none 0 0)).run E.P w= .ok (.bool !x.isNone) w:=by
 obtain⟨e,ht⟩:=aJ0 hs
 have gen: ∀d,(Op.equalIn (d+1) t (.slice x n c) (.slice none 0 0)).run E.P w= .ok x.isNone w:=fun d=>by
  cases x<;>simp[Op.equalIn,M9 ht]
 have key:(Op.equal t (.slice x n c) (.slice none 0 0)).run E.P w= .ok x.isNone w:=by
  have:=gen 9999
  simp only[Op.equal,Op.maxDepth];exact this
 rw[aH4 _ _ _ rfl,aH5 _ _ _ rfl]
 simp only[Sem.run_bind,key,Result.andThen_ok,Sem.run_pure]
 exact⟨trivial,trivial⟩
theorem bW7{op:BinOp}{t:TypeId}{len:SX}{b:AV}{vx vy:Value}(r:HR β ω K w0 h w)(rx0: ∃x n c,vx= .slice x n c)(rx:0<dI ω len→ ∃b o n c,VR β ω (.sl b o n c) vx)(ry:VR β ω b vy){M:Sem Value}(hM: ∀u,(binOp op t vx vy).run E.P w= .ok u w→M.run E.P w= .ok u w):
 SOk E β ω K w0 w h (do pure (.value (←M))) (cR2 E.P op t len b h):=by
 unfold cR2
 split
 ·cases hs:aG2 E.P t with
  |false=>trivial
  |true=>
   simp only[cond_true]
   have key: ∀v:AV,0<dI ω len→(∀b o n c,cc5 E.P op t (.sl b o n c) .nils=some v)→W2 E β ω K w0 w h (do pure (.value (←M))) v h:=by
    intro v h0 hv
    obtain⟨b',o,n,c,rx⟩:=rx h0
    obtain⟨u,u1,u2⟩:=bl1 (hv b' o n c) rx ry (by intro k n hh;cases hh) (by intro l hh;cases hh)
    exact W2.pureV r u1 (by simp only[Sem.run_bind,hM u (u2 w),Result.andThen_ok,Sem.run_pure])
   obtain⟨x,n,c,rfl⟩:=rx0
   have ry:vy= .slice none 0 0:=ry
   subst ry
   have two: ∀q:Bool,(binOp op t (.slice x n c) (.slice none 0 0)).run E.P w= .ok (.bool q) w→ ∃v∈[AV.bool true,AV.bool false],W2 E β ω K w0 w h (do pure (.value (←M))) v h:=by
    intro q hq
    refine⟨.bool q,by cases q<;>simp,W2.pureV r (u:= .bool q) rfl (by simp only[Sem.run_bind,hM _ hq,Result.andThen_ok,Sem.run_pure])⟩
   split
   ·refine⟨fun hd=>key _ (of_decide_eq_true hd) fun b o n c=>by simp only[cc5,bw6 (by omega:0<10000) hs,Option.map_some],fun _=>two _ (cr8 hs x n c w).1⟩
   ·refine⟨fun hd=>key _ (of_decide_eq_true hd) fun b o n c=>by simp only[cc5,bw6 (by omega:0<10000) hs,Option.map_some,A2],fun _=>two _ (cr8 hs x n c w).2⟩
   ·trivial
 ·trivial
theorem cB1{op:BinOp}{t:TypeId}{a b:AV}{vx vy:Value}(r:HR β ω K w0 h w)(rx:VR β ω a vx)(ry:VR β ω b vy){M:Sem Value}(hM: ∀u,(binOp op t vx vy).run E.P w= .ok u w→M.run E.P w= .ok u w):
 SOk E β ω K w0 w h (do pure (.value (←M))) (d32 E.P op t a b h):=by
 unfold d32
 cases a<;>try trivial
 case agg cs=>
  simp only[]
  cases he:eqS E.P 10000 t (.agg cs) b with
  |none=>trivial
  |some e=>
   have h5:=bW6 (ω:=ω) 10000 he
   have rx':=b10 (ω:=ω) _ _ rx
   have ry':=b10 (ω:=ω) _ _ ry
   have key: ∀(op':BinOp) (v:AV),op=op'→cc5 E.P op' t (a30 ω (.agg cs)) (a30 ω b)=some v→ ∃u,VR β ω v u∧(do pure (.value (←M)):Sem Next).run E.P w= .ok (.value u) w:=by
    rintro op' v rfl hv
    obtain⟨u,u1,u2⟩:=bl1 hv rx' ry' (by intro k n hh;simp[a30]at hh) (by intro l hh;simp[a30]at hh)
    exact⟨u,u1,by simp only[Sem.run_bind,hM u (u2 w),Result.andThen_ok,Sem.run_pure]⟩
   simp only[]
   split
   ·obtain⟨u,u1,u2⟩:=key .eql (.bool (dB ω e)) rfl (by simp only[cc5,h5,Option.map_some])
    exact W2.pureV r (v:= .obool e) (u:=u) u1 u2
   ·obtain⟨u,u1,u2⟩:=key .neq (.bool (!dB ω e)) rfl (by simp only[cc5,h5,Option.map_some])
    exact W2.pureV r (v:= .obool (.op .not [e])) (u:=u) u1 u2
   ·trivial
 case osl b' off len sz=>
  refine bW7 r (by
   simp only[VR]at rx
   rcases rx with⟨L,cap,a,hL,rfl,_,ha⟩|⟨_,_,rfl,_,h1⟩<;>exact⟨_,_,_,rfl⟩) (fun h0=> ?_) ry hM
  simp only[VR]at rx
  rcases rx with⟨L,cap,a,hL,rfl,_,ha⟩|⟨_,_,_,_,h1⟩
  ·exact⟨b',(dI ω off).toNat*sz,_,cap,L,hL,by rw[ha h0]⟩
  ·omega
 case ous b' len sz=>
  refine bW7 r (by
   simp only[VR]at rx
   rcases rx with⟨L,cap,hL,_,rfl,_⟩|⟨rfl,h1⟩<;>exact⟨_,_,_,rfl⟩) (fun h0=> ?_) ry hM
  simp only[VR]at rx
  rcases rx with⟨L,cap,hL,_,rfl,_⟩|⟨_,h1⟩
  ·exact⟨b',0,_,cap,L,hL,rfl⟩
  ·omega
theorem cf4(r:HR β ω K w0 h w)(o:OpR β ω ρA ρ)(op:BinOp)(t:TypeId)(x y:Operand):
 SOk E β ω K w0 w h (do pure (.value (←(do eqGuard op t x y (ρ x) (ρ y);binOp op t (ρ x) (ρ y):Sem Value)))) (cc7 E.P op t x y h (ρA x) (ρA y)):=by
 cases hx:ρA x with
 |none=>trivial
 |some a=>
  cases hy:ρA y with
  |none=>trivial
  |some b=>
   simp only[cc7]
   cases hg:an2 E.P op t x y a b with
   |false=>trivial
   |true=>
    have hgr:=aU5 hg (o x a hx) (o y b hy)
    have rx:=o x a hx
    have ry:=o y b hy
    have hM: ∀u,(binOp op t (ρ x) (ρ y)).run E.P w= .ok u w→(do eqGuard op t x y (ρ x) (ρ y);binOp op t (ρ x) (ρ y):Sem Value).run E.P w= .ok u w:=by
     intro u hu;simp only[Sem.run_bind,hgr,Result.andThen_ok,hu]
    simp only[cond_true]
    unfold d76
    split
    ·rename_i k ea k' eb h1 h2
     refine cA7 (t:=t) r fun u hu=>hM u ?_
     rw[a10 h1 rx,a10 h2 ry];exact hu
    ·split
     ·rename_i ea eb h1 h2
      refine cA9 (t:=t) r fun u hu=>hM u ?_
      rw[ad0 h1 rx,ad0 h2 ry];exact hu
     ·split
      ·rename_i ea eb h1 h2
       have e1:=af8 h1 rx
       have e2:=af8 h2 ry
       have hbt: ∀{c:Bool} {s:Res},(bif c then s else .bad)=s∨(bif c then s else .bad)= .bad:=by intro c s;cases c<;>simp
       unfold cw5
       split
       ·cases hb:bG6 E.P t with
        |false=>trivial
        |true=>
         have ht:E.P.underlying t=some .bool:=by
          unfold bG6 at hb;split at hb
          ·assumption
          ·cases hb
         refine W2.pureV r (u:= .bool (dB ω ea==dB ω eb)) rfl ?_
         have hrun:=aH3 (P:=E.P) (β:=β) (ω:=ω) 10000 (t:=t) (a:= .bool (dB ω ea)) (b:= .bool (dB ω eb)) (r:=dB ω ea==dB ω eb) (bw5 (by omega) ht) e1 e2 w
         have h3:=hM (.bool (dB ω ea==dB ω eb)) (by
          rw[e1,e2,aH4 _ _ _ rfl]
          rw[e1,e2]at hrun
          simp only[Op.equal,Op.maxDepth,Sem.run_bind,hrun,Result.andThen_ok,Sem.run_pure])
         simp only[Sem.run_bind,Result.andThen_ok,Sem.run_pure]at h3⊢
         simp only[h3,Result.andThen_ok]
       ·cases hb:bG6 E.P t with
        |false=>trivial
        |true=>
         have ht:E.P.underlying t=some .bool:=by
          unfold bG6 at hb;split at hb
          ·assumption
          ·cases hb
         refine W2.pureV r (u:= .bool (!(dB ω ea==dB ω eb))) rfl ?_
         have hrun:=aH3 (P:=E.P) (β:=β) (ω:=ω) 10000 (t:=t) (a:= .bool (dB ω ea)) (b:= .bool (dB ω eb)) (r:=dB ω ea==dB ω eb) (bw5 (by omega) ht) e1 e2 w
         have h3:=hM (.bool (!(dB ω ea==dB ω eb))) (by
          rw[e1,e2,aH5 _ _ _ rfl]
          rw[e1,e2]at hrun
          simp only[Op.equal,Op.maxDepth,Sem.run_bind,hrun,Result.andThen_ok,Sem.run_pure])
         simp only[Sem.run_bind,Result.andThen_ok,Sem.run_pure]at h3⊢
         simp only[h3,Result.andThen_ok]
       ·trivial
      ·exact cB1 r rx ry hM
theorem cV4(r:HR β ω K w0 h w)(o:OpR β ω ρA ρ)(op:UnOp)(x:Operand):SOk E β ω K w0 w h (do pure (.value (←Op.unary op (ρ x)))) (yUn op h (ρA x)):=by
 have key: ∀{a v:AV} {s:AV},VR β ω a (ρ x)→unE op (a30 ω a)=some v→(∀u,VR β ω v u→VR β ω s u)→W2 E β ω K w0 w h (do pure (.value (←Op.unary op (ρ x)))) s h:=by
  intro a v s ra hv hs
  obtain⟨u,u1,u2⟩:=cr5 (P:=E.P) hv (b10 _ _ ra)
  exact W2.pureV r (hs u u1) (by simp only[Sem.run_bind,u2,Result.andThen_ok,Sem.run_pure])
 unfold yUn
 split
 ·rename_i e he
  split
  ·exact key (o x _ he) rfl fun u hu=>hu
  ·trivial
 ·rename_i k e he
  split
  ·refine key (o x _ he) rfl fun u hu=> ?_
   rw[show u=_ from hu,W7];rfl
  ·refine key (o x _ he) rfl fun u hu=> ?_
   rw[show u=_ from hu,W7];rfl
  ·trivial
 ·trivial
theorem cB2(ω:Opq)(e x y:SX):dB ω (d33 e x y)=bif dB ω e then dB ω x else dB ω y:=by
 have gen:dB ω (.op .ite [e,x,y])=bif dB ω e then dB ω x else dB ω y:=by
  show Val.toB (bif (den ω e).toB then den ω x else den ω y)=_
  unfold dB
  cases (den ω e).toB<;>rfl
 unfold d33
 split
 ·show _=bif dB ω e then true else false
  cases dB ω e<;>rfl
 ·show(!(dB ω e))=bif dB ω e then false else true
  cases dB ω e<;>rfl
 ·exact gen
theorem cf5(r:HR β ω K w0 h w)(o:OpR β ω ρA ρ)(c a b:Operand):SOk E β ω K w0 w h (do pure (.value (if←asBool (ρ c)then ρ a else ρ b))) (cc8 h (ρA c) (ρA a) (ρA b)):=by
 unfold cc8
 split
 ·rename_i e he
  have hc:=o c _ he
  simp only[VR]at hc
  unfold bP6
  split
  ·rename_i y hx hy
   intro hn
   have hn:(!(dB ω e))=true:=hn
   have hf:dB ω e=false:=by simpa using hn
   refine W2.pureV r (u:=ρ b) (o b _ hy) ?_
   rw[hc,hf];rfl
  ·rename_i x _ hx hy _
   intro hn
   refine W2.pureV r (u:=ρ a) (o a _ ‹_›) ?_
   rw[hc,hn];rfl
  ·unfold bP5
   split
   ·rename_i x y hx hy
    obtain⟨a1,h1,h2⟩:=j6.1 hx
    obtain⟨b1,h3,h4⟩:=j6.1 hy
    have ha:=af8 h2 (o a _ h1)
    have hb:=af8 h4 (o b _ h3)
    refine W2.pureV r (u:= .bool (bif dB ω e then dB ω x else dB ω y)) ?_ ?_
    ·show _=Value.bool (dB ω (d33 e x y))
     rw[cB2]
    ·rw[hc,ha,hb]
     cases dB ω e<;>rfl
   ·trivial
 ·trivial
theorem cf6(r:HR β ω K w0 h w)(o:OpR β ω ρA ρ)(t:TypeId)(x:Operand):SOk E β ω K w0 w h (do pure (.value (←Instr.loadAt t (ρ x)))) (cc9 E.P t h (ρA x)):=by
 unfold cc9
 split
 ·rename_i b idx j sz hx
  have hv:=o x _ hx
  simp only[VR]at hv
  obtain⟨L,hL,hv⟩:=hv
  split
  ·rename_i el sig l hg
   obtain⟨C,e',lo,hi,q1,q0,q2,q3,q4,q5⟩:=r.arr hg hL
   have cell: ∀(m:Nat),m<sig.length→sig.length=sz→0≤dI ω idx→dI ω idx<dI ω (.op .llen [l])→
    w.cell? ⟨L.blk,L.off+(dI ω idx).toNat*sz+m,none⟩=some (a26 (sig.getD m .bool) (Q5 (dL ω l) (dI ω idx) m)):=by
    intro m hm hs h0 h1
    rw[a41 q1]
    rw[S9]at h1
    have hlt:(dI ω idx).toNat<(dL ω l).length:=by omega
    have:=ag0 (sig:=sig) (j:=m) hm hlt
    rw[hs]at this
    have:=q4 _ _ this
    rw[show L.off+(dI ω idx).toNat*sz+m=L.off+((dI ω idx).toNat*sz+m) by omega,this]
    simp[Q5]
   split
   ·rename_i n h1 h2
    cases hc:(Nat.beq sig.length sz&&Nat.ble (j+n) sz)with
    |false=>trivial
    |true=>
     obtain⟨c1,c2⟩:=M6 hc
     rw[M8]at c1
     rw[N1]at c2
     intro hd
     obtain⟨g1,g2⟩:=ad1 hd
     refine W2.pureV r (u:= .agg ((List.range' j n).map fun t=>a26 (sig.getD t .bool) (Q5 (dL ω l) (dI ω idx) t)).toArray) ⟨_,rfl,aC8 sig l idx n j⟩ ?_
     have hload:=run_loadCells_list (P:=E.P) w ⟨L.blk,L.off+(dI ω idx).toNat*sz+j,none⟩ ((List.range' j n).map fun t=>a26 (sig.getD t .bool) (Q5 (dL ω l) (dI ω idx) t)) (fun i v hi=>by
      rw[U7]
      rw[r5]at hi
      have hin:i<n:=by
       rcases d8 i n with hh|hh
       ·exact hh
       ·rw[j7 (by simpa using hh)]at hi;cases hi
      rw[List.getElem?_range' hin]at hi
      simp only[Option.map_some,a8]at hi
      rw[←hi,show L.off+(dI ω idx).toNat*sz+j+i=L.off+(dI ω idx).toNat*sz+(j+1*i) by omega]
      exact cell (j+1*i) (by omega) c1 g1 g2)
     simp only[m5,List.length_range']at hload
     rw[hv]
     simp only[Instr.loadAt,Instr.sureAddr,Sem.run_bind,Sem.run_pure,Result.andThen_ok,loadVar,ac7 h1,if_true,O2 h2,hload]
   ·rename_i n h1 h2
    cases hc:(Nat.beq sig.length sz&&Nat.blt j sz)with
    |false=>trivial
    |true=>
     obtain⟨c1,c2⟩:=M6 hc
     rw[M8]at c1
     rw[N9]at c2
     intro hd
     obtain⟨g1,g2⟩:=ad1 hd
     refine W2.pureV r (aj7 _ _) ?_
     rw[hv]
     have:=cell j (by omega) c1 g1 g2
     simp only[Instr.loadAt,Instr.sureAddr,Sem.run_bind,Sem.run_pure,Result.andThen_ok,loadVar,ac7 h1,i4,if_false]
     simp only[run_load,this,Result.andThen_ok,Sem.run_pure]
     rfl
   ·trivial
  ·rename_i cs hg
   split
   ·rename_i k h1
    cases hc:(Nat.beq sz 1&&Nat.beq j 0)with
    |false=>trivial
    |true=>
     obtain⟨c1,c2⟩:=M6 hc
     obtain rfl:=M8.1 c1
     obtain rfl:=M8.1 c2
     simp only[cond_true]
     split
     ·rename_i a ha
      obtain⟨C,e,lo,hi,vs,q1,q2,q3⟩:=r.blk b _ L hg hL
      have hk:=(k6.1 ha).1
      have hC:=q3 k hk
      have hl:=q2.length
      obtain⟨u,hu,hua⟩:=VRs.get _ _ q2 ha
      rw[hu]at hC
      refine W2.pureV r hua ?_
      rw[hv]
      have hcell:w.cell? ⟨L.blk,L.off+(dI ω (.ci (Int.ofNat k))).toNat*1+0,none⟩=some u:=by
       rw[a41 q1]
       show C[L.off+(Int.ofNat k).toNat*1+0]? =_
       rw[show L.off+(Int.ofNat k).toNat*1+0=L.off+k by simp]
       exact hC
      simp only[Instr.loadAt,Instr.sureAddr,Sem.run_bind,Sem.run_pure,Result.andThen_ok,loadVar,ac7 h1,i4,if_false]
      simp only[run_load,hcell,Result.andThen_ok,Sem.run_pure]
     ·trivial
   ·trivial
  ·trivial
 ·trivial
theorem b11(r:HR β ω K w0 h w)(o:OpR β ω ρA ρ)(s:TypeId)(f:Nat)(x:Operand):SOk E β ω K w0 w h (do pure (.value (←Instr.fieldAt s (ρ x) f))) (aj0 E.P s f h (ρA x)):=by
 unfold aj0
 split
 ·rename_i fields b idx j sz ht hx
  have hv:=o x _ hx
  simp only[VR]at hv
  obtain⟨L,hL,hv⟩:=hv
  split
  ·rename_i fd hf
   split
   ·rename_i n hs
    refine W2.pureV r ⟨L,hL,rfl⟩ ?_
    simp only[hv,Instr.fieldAt,Sem.run_bind,M9 ht,Result.andThen_ok,hf,Instr.sureAddr,Sem.run_pure,fieldPlace,O2 hs]
    simp[U7,l8]
   ·trivial
  ·trivial
 ·trivial
theorem bW8(a b:SX):dI ω (d34 a b)=dI ω a+dI ω b:=by
 unfold d34
 split
 ·rw[aI7];omega
 ·rfl
theorem cf7{a b:SX}(h:dB ω (cw6 a b)=true):dB ω a=true∧dB ω b=true:=by
 unfold cw6 at h
 split at h
 ·exact⟨rfl,h⟩
 ·rw[ae3]at h;exact M6 h
theorem b12(r:HR β ω K w0 h w)(o:OpR β ω ρA ρ)(t:TypeId)(x i:Operand):SOk E β ω K w0 w h (do pure (.value (←Instr.indexAt t (ρ x) (ρ i)))) (ai9 E.P t h (ρA x) (ρA i)):=by
 have run: ∀{elem s:Nat} {k:IntKind} {n:Int} {a:Addr} {len:Int} {cap:Nat},E.P.underlying t=some (.slice elem)→a90 E.P elem=some s→ρ i= .int k n→ρ x= .slice (some a) len.toNat cap→0≤n→n<len→
  (do pure (.value (←Instr.indexAt t (ρ x) (ρ i))):Sem Next).run E.P w= .ok (.value (.pointer (some (a.add (n.toNat*s))))) w:=by
  intro elem s k n a len cap ht hs hi hx h1 h2
  have hc:(0:Int)≤n∧n<(len.toNat:Int):=by omega
  rw[hi,hx]
  simp only[Instr.indexAt,Sem.run_bind,asIntOf,Sem.run_pure,M9 ht,Result.andThen_ok,Instr.sureAddr,if_pos hc,O2 hs]
 unfold ai9
 split
 ·rename_i elem ht
  split
  ·rename_i s hs
   split
   ·rename_i k i' hi
    obtain⟨ai,g1,g2⟩:=j6.1 hi
    have hvi:=a10 g2 (o i _ g1)
    split
    ·rename_i b off len sz hx
     have hv:=o x _ hx
     cases hc:Nat.beq s sz with
     |false=>trivial
     |true=>
      obtain rfl:=M8.1 hc
      intro hd
      obtain⟨d1,d2⟩:=cf7 hd
      obtain⟨e1,e2⟩:=ad1 d2
      have d1:0≤dI ω off:=of_decide_eq_true d1
      simp only[VR]at hv
      rcases hv with⟨L,cap,a,hL,hv,hcap,ha⟩|⟨_,_,hv,_,h0⟩
      ·have ha:=ha (by omega)
       refine W2.pureV r ⟨L,hL,?_⟩ (run ht hs hvi hv e1 e2)
       rw[ha,U7,bW8,Int.toNat_add d1 e1,l7]
       simp[l8]
      ·omega
    ·rename_i b len sz hx
     have hv:=o x _ hx
     cases hc:Nat.beq s sz with
     |false=>trivial
     |true=>
      obtain rfl:=M8.1 hc
      intro hd
      obtain⟨e1,e2⟩:=ad1 hd
      simp only[VR]at hv
      rcases hv with⟨L,cap,hL,hcap,hv,_⟩|⟨hv,h0⟩
      ·refine W2.pureV r ⟨L,hL,?_⟩ (run ht hs hvi hv e1 e2)
       rw[U7];simp
      ·omega
    ·trivial
   ·trivial
  ·trivial
 ·trivial
theorem bI7(m:Nat):a51 (m:Int)=some m:=rfl
theorem bW9(r:HR β ω K w0 h w)(o:OpR β ω ρA ρ)(t:TypeId)(x i:Operand):SOk E β ω K w0 w h (do pure (.value (←Instr.index t (ρ x) (ρ i)))) (bu7 E.P t h (ρA x) (ρA i)):=by
 unfold bu7
 split
 ·rename_i s k i' ht hx hi
  obtain⟨ax,g3,g4⟩:=j6.1 hx
  obtain⟨ai,g1,g2⟩:=j6.1 hi
  have hvi:=a10 g2 (o i _ g1)
  have hvx:=ad0 g4 (o x _ g3)
  intro hd
  obtain⟨e1,e2⟩:=ad1 hd
  rw[aI8]at e2
  obtain⟨m,hm⟩: ∃m:Nat,dI ω i'=m:=⟨(dI ω i').toNat,by omega⟩
  have hlt:m<(dS ω s).length:=by omega
  obtain⟨u,u1,u2⟩:=ba3 (P:=E.P) (β:=β) (ω:=ω) (t:=t) (x:= .str (dS ω s)) (i:= .int k (m:Int)) (a:= .int .u8 ((dS ω s)[m].toNat:Int)) (by
   unfold bu0
   simp only[bI7,ht,j0 hlt,Option.map_some]) (vx:= .string ⟨(dS ω s).toArray⟩) (vi:= .int k (m:Int)) rfl rfl
  refine W2.pureV r (u:=u) ?_ (by rw[hvx,hvi,hm];simp only[Sem.run_bind,u2,Result.andThen_ok,Sem.run_pure])
  rw[show u=_ from u1]
  show _=Value.int .u8 _
  congr 1
  show _=(((dS ω s).getD (dI ω i').toNat 0).toNat:Int)
  rw[hm]
  simp[d9,j0 hlt]
 ·trivial
theorem bX0{ts:Array TypeId}{ty:TypeId}{cs:Array Bool}{v:Value}{n:Nat}{t:TypeDesc}(ht:(ts[0]?).bind E.P.underlying=some t)(hk:(t= .string∧ ∃s,v= .string s∧s.size=n)∨ ∃e a c,t= .slice e∧v= .slice a n c):
 (builtin .len ts ty cs #[v]).run E.P w= .ok (.value (.int .i64 n)) w:=by
 simp only[j6]at ht
 obtain⟨t0,h0,ht⟩:=ht
 show(do pure (.value (←Builtin.len_ ts ty #[v])):Sem Next).run E.P w=_
 rcases hk with⟨rfl,s,rfl,rfl⟩|⟨e,a,c,rfl,rfl⟩
 ·simp[Builtin.len_,h0,M9 ht]
  rfl
 ·simp[Builtin.len_,h0,M9 ht]
  rfl
theorem bm4{k:IntKind}{e:SX}{v:Value}:VR β ω (bM9 k e) v↔v= .int k (dI ω e):=by
 unfold bM9
 split
 ·exact Iff.rfl
 ·exact Iff.rfl
theorem cB3(r:HR β ω K w0 h w){a:AV}{v:Value}(rv:VR β ω a v)(ts:Array TypeId)(ty:TypeId)(cs:Array Bool):
 SOk E β ω K w0 w h (builtin .len ts ty cs #[v]) (d35 E.P ((ts[0]?).bind E.P.underlying) h a):=by
 unfold d35
 split
 ·rename_i ht
  split
  ·rename_i e
   simp only[VR]at rv;subst rv
   exact W2.pureV r (u:= .int .i64 ((dS ω e).length:Nat)) rfl (bX0 ht (.inl ⟨rfl,_,rfl,by simp[ByteArray.size]⟩))
  ·trivial
 ·rename_i el ht
  split
  ·rename_i b off len sz
   intro hd
   have hd:0≤dI ω len:=of_decide_eq_true hd
   refine W2.pureV r (u:= .int .i64 ((dI ω len).toNat:Nat)) ?_ (bX0 ht (.inr ?_))
   ·refine bm4.2 ?_
    congr 1;omega
   ·simp only[VR]at rv
    rcases rv with⟨L,cap,a,_,rfl,_⟩|⟨_,_,rfl,_,h0⟩
    ·exact⟨_,_,_,rfl,rfl⟩
    ·rw[h0];exact⟨_,_,_,rfl,rfl⟩
  ·rename_i b len sz
   intro hd
   have hd:0≤dI ω len:=of_decide_eq_true hd
   refine W2.pureV r (u:= .int .i64 ((dI ω len).toNat:Nat)) ?_ (bX0 ht (.inr ?_))
   ·refine bm4.2 ?_
    congr 1;omega
   ·simp only[VR]at rv
    rcases rv with⟨L,cap,_,_,rfl,_⟩|⟨rfl,h0⟩
    ·exact⟨_,_,_,rfl,rfl⟩
    ·rw[h0];exact⟨_,_,_,rfl,rfl⟩
  ·trivial
 ·trivial
theorem cV5(hfx: ∀t,ω.fix t=aq0 E.P t)(r:HR β ω K w0 h w){a c:AV}{va vc:Value}(ra:VR β ω a va)(rc:VR β ω c vc)(b:Builtin)(ts:Array TypeId)(ty:TypeId)(cs:Array Bool):
 SOk E β ω K w0 w h (builtin b ts ty cs #[va,vc]) (yMM b a c h):=by
 unfold yMM
 split
 ·rename_i k ea k' ec h1 h2
  have e1:=a10 h1 ra
  have e2:=a10 h2 rc
  split
  ·obtain⟨β',u,w',q1,q2,q3,q4⟩:=ao1 (P:=E.P) (b:= .max) (ts:=ts) (ty:=ty) (cs:=cs) (args:=[.int k (dI ω ea),.int k' (dI ω ec)]) (us:= #[va,vc]) (a:= .int k (bif aF5 (dI ω ea) (dI ω ec)then dI ω ec else dI ω ea)) (h':=h) hfx r rfl ⟨va,[vc],rfl,e1,vc,[],rfl,e2,rfl⟩
   obtain⟨_,_,_,p1,p2,_⟩: ∃(a b c:Unit),(builtin .max ts ty cs #[va,vc]).run E.P w= .ok (.value u) w'∧u= .int k (bif aF5 (dI ω ea) (dI ω ec)then dI ω ec else dI ω ea)∧True:=⟨(),(),(),q1,q2,trivial⟩
   refine⟨β',u,w',.inl q1,?_,q3,q4⟩
   rw[p2]
   show _=Value.int k (max (dI ω ea) (dI ω ec))
   rw[a69]
   by_cases hh:dI ω ea<dI ω ec
   ·simp[hh];omega
   ·simp[hh];omega
  ·obtain⟨β',u,w',q1,q2,q3,q4⟩:=ao1 (P:=E.P) (b:= .min) (ts:=ts) (ty:=ty) (cs:=cs) (args:=[.int k (dI ω ea),.int k' (dI ω ec)]) (us:= #[va,vc]) (a:= .int k (bif aF5 (dI ω ec) (dI ω ea)then dI ω ec else dI ω ea)) (h':=h) hfx r rfl ⟨va,[vc],rfl,e1,vc,[],rfl,e2,rfl⟩
   refine⟨β',u,w',.inl q1,?_,q3,q4⟩
   rw[show u=_ from q2]
   show _=Value.int k (min (dI ω ea) (dI ω ec))
   rw[a69]
   by_cases hh:dI ω ec<dI ω ea
   ·simp[hh];omega
   ·simp[hh];omega
  ·trivial
 ·trivial
theorem bX1{c:CT}{v:AV}{e:SX}{u:Value}(h:b85 c v=some e)(r:VR β ω v u):u=a26 c (den ω e):=by
 unfold b85 at h
 split at h
 ·split at h
  ·rename_i k k' e' hs
   split at h
   ·rename_i hk;subst hk
    simp only[a8]at h;subst h
    exact a10 hs r
   ·cases h
  ·cases h
 ·exact ad0 h r
 ·exact af8 h r
theorem R7: ∀{sig:List CT} {vs:List AV} {es:List SX} {us:List Value},R8 sig vs=some es→VRs β ω vs us→us=a27 sig (.vl (N2 ω es))
 | [],[],es,us,h,r=>by
   simp only[R8,a8]at h;subst h
   rw[show us=[]from r];rfl
 |c::sig,v::vs,es,us,h,⟨u,ur,e,r1,r2⟩=>by
  simp only[R8]at h
  split at h
  ·rename_i e1 e2 h1 h2
   simp only[a8]at h;subst h
   rw[e,bX1 h1 r1,R7 h2 r2]
   simp only[a27,Val.toL,List.length_cons,G4,j9,B3,N2]
   congr 1
  ·cases h
 | [],_::_,es,us,h,r=>by simp[R8]at h
 |_::_,[],es,us,h,r=>by simp[R8]at h
theorem a57{sig:List CT}{sz:Nat}: ∀{n:Nat} {cs:List AV} {rs:List SX} {us:List Value},an3 sig sz n cs=some rs→cs.length=n*sz→VRs β ω cs us→us=N7 sig (N2 ω rs)∧(N2 ω rs).length=n
 |0,cs,rs,us,h,hl,r=>by
  simp only[an3,a8]at h;subst h
  have:us=[]:=by have:=r.length;rw[hl]at this;simpa using this
  subst this;exact⟨rfl,rfl⟩
 |n+1,cs,rs,us,h,hl,r=>by
  simp only[an3]at h
  split at h
  ·rename_i e rs' h1 h2
   simp only[a8]at h;subst h
   have g1:=R7 h1 (r.take sz)
   have g2:=a57 h2 (by rw[l6,hl,l7];omega) (r.drop sz)
   refine⟨?_,by simp only[N2,List.length_cons,g2.2]⟩
   rw[←p8 sz us,g1,g2.1]
   simp only[N2,N7,z8]
   rfl
  ·cases h
theorem HR.arrCells{b e sz:Nat}{sig:List CT}{l:SX}{L:Loc}(r:HR β ω K w0 h w)(hg:h.get b=some (.arr e sig l))(hb:β b=some L)(hsz:sig.length=sz)(o n:Nat)(hn:o+n≤(dL ω l).length):
 ∀j v,(N7 sig (((dL ω l).drop o).take n))[j]? =some v→w.cell? ⟨L.blk,L.off+o*sz+j,none⟩=some v:=by
 intro j v hj
 obtain⟨C,e',lo,hi,q1,q0,q2,q3,q4,q5⟩:=r.arr hg hb
 rw[a41 q1,show L.off+o*sz+j=L.off+(o*sz+j) by omega]
 apply q4
 have e1:dL ω l=(dL ω l).take o++(((dL ω l).drop o).take n++((dL ω l).drop o).drop n):=by
  rw[p8,p8]
 have e2: ∀a b:List Val,N7 sig (a++b)=N7 sig a++N7 sig b:=fun a b=>by simp[N7,G5]
 rw[e1,e2,e2]
 have hl:(N7 sig ((dL ω l).take o)).length=o*sz:=by rw[O3,e9,hsz];congr 1;omega
 rw[j3 (by omega),hl,show o*sz+j-o*sz=j by omega]
 rw[j5]
 ·exact hj
 ·rcases d8 j (N7 sig (((dL ω l).drop o).take n)).length with hh|hh
  ·exact hh
  ·rw[j7 hh]at hj;cases hj
theorem aw6{l:List Val}(h:(l.all fun r=>decide (0≤(r.toL.getD 0 default).toI)&&decide ((r.toL.getD 0 default).toI<256))=true):N7 [.int .u8] l=(l.map fun r=>UInt8.ofNat (r.toL.getD 0 default).toI.toNat).map fun b=>Value.int .u8 (b.toNat:Int):=by
  induction l with
  |nil=>rfl
  |cons a l ih=>
   simp only[List.all_cons,d6,decide_eq_true_eq]at h
   have h1:N7 [.int .u8] (a::l)=a27 [.int .u8] a++N7 [.int .u8] l:=by simp[N7]
   rw[h1,ih (by simpa using h.2)]
   simp only[j9]
   have h2:a27 [.int .u8] a=[Value.int .u8 (a.toL.getD 0 default).toI]:=rfl
   rw[h2,UInt8.toNat_ofNat_of_lt' (by show _<256;omega)]
   rw[show(((a.toL.getD 0 default).toI.toNat:Nat):Int)=(a.toL.getD 0 default).toI by omega]
   rfl
theorem aJ1(r:HR β ω K w0 h w)(s d el:TypeId){off len:SX}{sz b:Nat}{v:Value}(hs:E.P.underlying s=some (.slice el))(hd:E.P.underlying d=some .string)(h8:E.P.underlying el=some (.int .u8))
 (rv:(∃L cap a,β b=some L∧v= .slice (some a) (dI ω len).toNat cap∧(dI ω len).toNat≤cap∧(0<dI ω len→a=⟨L.blk,L.off+(dI ω off).toNat*sz,none⟩))∨ ∃a cap,v= .slice a 0 cap∧(a=none→cap=0)∧dI ω len=0):
 SOk E β ω K w0 w h (do pure (.value (←convert s d v))) (aq5 off len sz (h.get b) h):=by
 unfold aq5
 split
 ·rename_i e l hg
  cases hz:Nat.beq sz 1 with
  |false=>trivial
  |true=>
   have hz:=M8.1 hz
   subst hz
   simp only[cond_true]
   intro hd'
   obtain⟨c1,c2⟩:=M6 (a:=(dB ω (.op (.cmp .leq) [.ci 0,off])&&dB ω (.op (.cmp .leq) [.ci 0,len]))) (b:=(dB ω (.op (.cmp .leq) [.op .iadd [off,len],.op .llen [l]])&&dB ω (.op .bok [.op .lsub [l,off,.op .iadd [off,len]]]))) hd'
   obtain⟨c1,c3⟩:=M6 c1
   obtain⟨c2,c4⟩:=M6 c2
   have c1:0≤dI ω off:=of_decide_eq_true c1
   have c3:0≤dI ω len:=of_decide_eq_true c3
   have c2:dI ω off+dI ω len≤((dL ω l).length:Int):=of_decide_eq_true c2
   have hsub:dL ω (.op .lsub [l,off,.op .iadd [off,len]])=((dL ω l).drop (dI ω off).toNat).take (dI ω len).toNat:=by
    show((dL ω l).drop (dI ω off).toNat).take (dI ω off+dI ω len-dI ω off).toNat=_
    rw[show dI ω off+dI ω len-dI ω off=dI ω len by omega]
   have c4:((dL ω (.op .lsub [l,off,.op .iadd [off,len]])).all fun r=>decide (0≤(r.toL.getD 0 default).toI)&&decide ((r.toL.getD 0 default).toI<256))=true:=c4
   have hst:dS ω (.op .bstr [.op .lsub [l,off,.op .iadd [off,len]]])=(dL ω (.op .lsub [l,off,.op .iadd [off,len]])).map fun r=>UInt8.ofNat (r.toL.getD 0 default).toI.toNat:=rfl
   refine W2.pureV r (u:= .string ⟨(dS ω (.op .bstr [.op .lsub [l,off,.op .iadd [off,len]]])).toArray⟩) rfl ?_
   have hf:=aw6 c4
   rw[←hst,hsub]at hf
   have hll:(dS ω (.op .bstr [.op .lsub [l,off,.op .iadd [off,len]]])).length=(dI ω len).toNat:=by
    rw[hst,m5,hsub,e9,l6];omega
   have hr:(convert s d v).run E.P w= .ok (.string ⟨(dS ω (.op .bstr [.op .lsub [l,off,.op .iadd [off,len]]])).toArray⟩) w:=by
    rcases rv with⟨L,cap,a,hL,rfl,_,ha⟩|⟨a,cap,rfl,_,h0⟩
    ·by_cases h0:0<dI ω len
     ·rw[ha h0,←hll]
      refine run_convert_bytes_back w s d el _ cap _ hs h8 hd (fun j hj=> ?_)
      have:=HR.arrCells r hg hL rfl (dI ω off).toNat (dI ω len).toNat (by omega) j (.int .u8 ((dS ω (.op .bstr [.op .lsub [l,off,.op .iadd [off,len]]]))[j].toNat:Int)) (by
        rw[hf,r5,j0 hj];rfl)
      rw[U7]
      simpa using this
     ·have hz:(dI ω len).toNat=0:=by omega
      have hnil:dS ω (.op .bstr [.op .lsub [l,off,.op .iadd [off,len]]])=[]:=r9.1 (by rw[hll,hz])
      rw[hnil,hz]
      exact run_convert_bytes_back w s d el a cap [] hs h8 hd (fun j hj=>by simp at hj)
    ·have hz:(dI ω len).toNat=0:=by omega
     have hnil:dS ω (.op .bstr [.op .lsub [l,off,.op .iadd [off,len]]])=[]:=r9.1 (by rw[hll,hz])
     rw[hnil]
     cases a with
     |none=>exact run_convert_bytes_nil w s el hs h8 0 cap d hd
     |some a=>exact run_convert_bytes_back w s d el a cap [] hs h8 hd (fun j hj=>by simp at hj)
   simp only[Sem.run_bind,hr,Result.andThen_ok,Sem.run_pure]
 ·trivial
theorem aJ2(r:HR β ω K w0 h w)(s d el:TypeId){b o n c:Nat}{L:Loc}(hs:E.P.underlying s=some (.slice el))(hd:E.P.underlying d=some .string)(h8:E.P.underlying el=some (.int .u8))(hL:β b=some L):
 SOk E β ω K w0 w h (do pure (.value (←convert s d (.slice (some ⟨L.blk,L.off+o,none⟩) n c)))) (aq6 o n (h.get b) h):=by
 unfold aq6
 split
 ·rename_i e fz cs hg
  cases hc:Nat.ble (o+n) cs.length with
  |false=>trivial
  |true=>
   have hc:=N1.1 hc
   simp only[cond_true]
   split
   ·rename_i rs hrs
    intro hd'
    have c4:((N2 ω rs).all fun r=>decide (0≤(r.toL.getD 0 default).toI)&&decide ((r.toL.getD 0 default).toI<256))=true:=hd'
    obtain⟨us,u1,u2,u3⟩:=W8 r hg hL hc
    obtain⟨q1,q2⟩:=a57 hrs (by rw[e9,l6];omega) u1
    have hf:=aw6 c4
    rw[←q1]at hf
    have hst:dS ω (.op .bstr [.op .row rs])=(N2 ω rs).map fun r=>UInt8.ofNat (r.toL.getD 0 default).toI.toNat:=rfl
    rw[←hst]at hf
    have hll:(dS ω (.op .bstr [.op .row rs])).length=n:=by rw[hst,m5,q2]
    refine W2.pureV r (u:= .string ⟨(dS ω (.op .bstr [.op .row rs])).toArray⟩) rfl ?_
    have hr:(convert s d (.slice (some ⟨L.blk,L.off+o,none⟩) n c)).run E.P w= .ok (.string ⟨(dS ω (.op .bstr [.op .row rs])).toArray⟩) w:=by
     conv=>lhs;rw[←hll]
     refine run_convert_bytes_back w s d el _ c _ hs h8 hd (fun j hj=> ?_)
     rw[U7]
     refine u3 j _ ?_
     rw[hf];simp[j0 hj]
    simp only[Sem.run_bind,hr,Result.andThen_ok,Sem.run_pure]
   ·trivial
 ·trivial
theorem bI8(r:HR β ω K w0 h w)(o:OpR β ω ρA ρ)(s d:TypeId)(x:Operand){el:TypeId}(hs:E.P.underlying s=some (.slice el))(hd:E.P.underlying d=some .string)(h8:E.P.underlying el=some (.int .u8)):
 SOk E β ω K w0 w h (do pure (.value (←convert s d (ρ x)))) (aY9 (ρA x) h):=by
 unfold aY9
 split
 ·rename_i b off len sz he
  have rv:=o x _ he
  simp only[VR]at rv
  exact aJ1 r s d el hs hd h8 rv
 ·rename_i b len sz he
  have rv:=o x _ he
  simp only[VR]at rv
  refine aJ1 r s d el hs hd h8 ?_
  rcases rv with⟨L,cap,hL,h1,h2,h3⟩|⟨h1,h2⟩
  ·refine .inl ⟨L,cap,_,hL,h2,h3,fun _=> ?_⟩
   rw[show(dI ω (.ci 0)).toNat*sz=0 by show(0:Int).toNat*sz=0;simp];rfl
  ·exact .inr ⟨none,0,h1,fun _=>rfl,h2⟩
 ·rename_i b o' n c he
  have rv:=o x _ he
  simp only[VR]at rv
  obtain⟨L,hL,rv⟩:=rv
  rw[rv];exact aJ2 r s d el hs hd h8 hL
 ·rename_i b o' n c he
  have rv:=o x _ he
  simp only[VR]at rv
  obtain⟨L,cap,hL,_,rv⟩:=rv
  rw[rv];exact aJ2 r s d el hs hd h8 hL
 ·trivial
theorem aJ3(l:List UInt8):N7 [.int .u8] (l.map fun b=> .vl [.vi (b.toNat:Int)])=l.map fun b=>Value.int .u8 (b.toNat:Int):=by
 induction l with
 |nil=>rfl
 |cons a r ih=>
  have:N7 [.int .u8] ((a::r).map fun b=> .vl [.vi (b.toNat:Int)])=a27 [.int .u8] (.vl [.vi (a.toNat:Int)])++N7 [.int .u8] (r.map fun b=> .vl [.vi (b.toNat:Int)]):=by simp[N7]
  rw[this,ih];rfl
theorem bI9(r:HR β ω K w0 h w)(s d el:TypeId){a:Option AV}{v:Value}(ha: ∀x,a=some x→VR β ω x v)(hs:E.P.underlying s=some .string)(hd:E.P.underlying d=some (.slice el))(h8:E.P.underlying el=some (.int .u8)):
 SOk E β ω K w0 w h (do pure (.value (←convert s d v))) (aZ0 el a h):=by
 unfold aZ0
 split
 ·rename_i e
  have hv:=ha _ rfl
  have hv:v= .string ⟨(dS ω e).toArray⟩:=hv
  subst hv
  cases hb:Nat.blt h.next 65536 with
  |false=>trivial
  |true=>
   refine⟨_,s8.2 rfl,?_⟩
   obtain⟨l,hl⟩: ∃l,l=dS ω e:=⟨_,rfl⟩
   have hdl:dL ω (.op .sbytes [e])=l.map fun b=> .vl [.vi (b.toNat:Int)]:=by rw[hl];rfl
   rw[←hl]
   have hrun:=run_bytes_of_string (P:=E.P) w s d el ⟨l.toArray⟩ hs hd h8
   have hsz:(⟨l.toArray⟩:ByteArray).size=l.length:=by simp[ByteArray.size]
   rw[hsz]at hrun
   have hge:=grownCap_ge w l.length 0 el
   have hbs:(bytesRow ⟨l.toArray⟩ (grownCap w l.length 0 el)).size=grownCap w l.length 0 el:=by
    simp only[bytesRow,G3,Array.size_map,J9,hsz,w6]
    omega
   rw[hbs]at hrun
   obtain⟨p1,p2⟩:=r.drew.new (.cells (bytesRow ⟨l.toArray⟩ (grownCap w l.length 0 el)) el (grownCap w l.length 0 el,grownCap w l.length 0 el+1)) (.arr el [.int .u8] (.op .sbytes [e])) 0 (grownCap w l.length 0 el)
    ⟨_,el,_,_,rfl,.inl rfl,by rw[hbs];show 0+grownCap w l.length 0 el≤grownCap w l.length 0 el;omega,by rw[hdl,m5];show l.length*1≤grownCap w l.length 0 el;simpa using hge,fun i v hv=>by
      rw[hdl,aJ3]at hv
      have hi:i<l.length:=by simpa using(k6.1 hv).1
      simp only[i3,bytesRow]
      rw[D8 (by simpa using hi)]
      rw[←hv];simp,fun i hi=>by have hi:i<grownCap w l.length 0 el:=hi;show¬(_≤0+i∧0+i<_);omega⟩
   refine W2.of ⟨_,_,_,hrun,?_,p1,p2⟩
   have hlen:dI ω (.op .llen [.op .sbytes [e]])=(l.length:Int):=by
    show((dL ω (.op .sbytes [e])).length:Int)=_
    rw[hdl,m5]
   refine .inl ⟨⟨w.heap.size,0,grownCap w l.length 0 el⟩,grownCap w l.length 0 el,Bij.add_self _ _ _,by simp,by rw[hlen];rfl,by rw[hlen];simpa using hge⟩
 ·trivial
theorem cf8(r:HR β ω K w0 h w)(o:OpR β ω ρA ρ)(s d:TypeId)(x:Operand):SOk E β ω K w0 w h (do pure (.value (←convert s d (ρ x)))) (cd0 E.P s d h (ρA x)):=by
 unfold cd0
 split
 ·rename_i sd k hs hd
  split
  ·rename_i k' e he
   have hv:=o x _ he
   simp only[VR]at hv
   refine W2.pureV r (u:= .int k (k.wrap (dI ω e))) rfl ?_
   simp only[hv,convert,Sem.run_bind,M9 hs,M9 hd,Result.andThen_ok]
   rfl
  ·trivial
 ·rename_i el hs hd
  cases h8:u8T E.P el with
  |false=>trivial
  |true=>exact bI8 r o s d x hs hd (bw2 h8)
 ·rename_i el hs hd
  cases h8:u8T E.P el with
  |false=>trivial
  |true=>exact bI9 r s d el (o x) hs hd (bw2 h8)
 ·rename_i sd _ _ hs hd
  split
  ·rename_i e he
   have hv:=o x _ he
   refine W2.pureV r (u:=ρ x) hv ?_
   simp only[VR]at hv
   simp only[hv,convert,Sem.run_bind,M9 hs,M9 hd,Result.andThen_ok,Sem.run_pure]
  ·trivial
 ·trivial
theorem aJ4(sig:List CT)(l:List Val): ∀u∈N7 sig l,u.oneCell'=true:=by
 intro u hu
 simp only[N7,u5,a27,k9]at hu
 obtain⟨r,_,j,_,rfl⟩:=hu
 unfold a26
 split<;>rfl
theorem ao2{a b:SX}(h:dB ω (aG1 a b)=true):dB ω a=true∧dB ω b=true:=by
 rw[bm3,d6]at h;exact h
theorem cr9{a b:SX}(h:dB ω (eqN a b)=true):dI ω a=dI ω b:=by
 unfold eqN at h
 cases hc:SX.beq a b with
 |true=>rw[SX.beq_eq _ _ hc]
 |false=>rw[hc]at h;exact of_decide_eq_true h
theorem cf9{P:Program}{s:Nat}{y:AV}{sig:List CT}{nd ly:SX}{vy:Value}{yt e':TypeId}(r:HR β ω K w0 h w)(hyt:P.underlying yt=some (.slice e'))(hs:sig.length=s)(e:cw8 s y h=some (sig,nd,ly))(hd:dB ω nd=true)(ry:VR β ω y vy):
 Src P s yt vy (dL ω ly).length (N7 sig (dL ω ly)) w:=by
 have mk: ∀(a:Addr) (n c:Nat),vy= .slice (some a) n c→n=(dL ω ly).length→(∀j v,(N7 sig (dL ω ly))[j]? =some v→w.cell? (a.add j)=some v)→Src P s yt vy (dL ω ly).length (N7 sig (dL ω ly)) w:=by
  intro a n c hv hn hc
  refine⟨.inl ⟨_,hyt⟩,fun w'=>by rw[hv,←hn];rfl,?_,?_,by rw[O3,hs],aJ4 _ _⟩
  ·rw[hv,←hn]
   exact run_firstCells_some w s n a n c _ (by rw[O3,hs,hn]) hc
  ·rw[hv,←hn]
   exact run_firstCells_some w.drew s n a n c _ (by rw[O3,hs,hn]) hc
 have mk0:vy= .slice none 0 0→(dL ω ly).length=0→Src P s yt vy (dL ω ly).length (N7 sig (dL ω ly)) w:=by
  intro hv hn
  have:dL ω ly=[]:=v8 hn
  rw[this]
  refine⟨.inl ⟨_,hyt⟩,fun w'=>by rw[hv];rfl,?_,?_,by simp[N7],by simp[N7]⟩
  ·rw[hv];exact run_firstCells_none w _ _ _ _
  ·rw[hv];exact run_firstCells_none w.drew _ _ _ _
 unfold cw8 at e
 split at e
 ·rename_i b len s'
  split at e
  ·rename_i el sig' l hg
   replace e:=M7 e
   obtain⟨hc,e⟩:=e
   obtain⟨c1,c2⟩:=M6 hc
   obtain rfl:=M8.1 c1
   rw[M8]at c2
   simp only[a8,d7]at e
   obtain⟨rfl,rfl,rfl⟩:=e
   have hlen:dI ω len=((dL ω l).length:Int):=by
    have:=cr9 hd
    rw[S9]at this;exact this
   simp only[VR]at ry
   rcases ry with⟨L,cap,hL,hcap,hv,_⟩|⟨hv,h0⟩
   ·refine mk _ _ cap hv (by omega) fun j v hj=> ?_
    have:=r.arrCells hg hL c2 0 (dL ω l).length (by omega) j v (by simpa using hj)
    rw[U7];simpa using this
   ·exact mk0 hv (by omega)
  ·cases e
 ·rename_i b off len s'
  split at e
  ·rename_i el sig' l hg
   replace e:=M7 e
   obtain⟨hc,e⟩:=e
   obtain⟨c1,c2⟩:=M6 hc
   obtain rfl:=M8.1 c1
   rw[M8]at c2
   have b89:0≤dI ω off∧0≤dI ω len∧dI ω off+dI ω len≤((dL ω l).length:Int)∧dL ω ly=((dL ω l).drop (dI ω off).toNat).take (dI ω len).toNat∧sig'=sig:=by
    cases hq:(SX.beq off (.ci 0)&&SX.beq len (.op .llen [l]))with
    |true=>
     rw[hq]at e
     simp only[cond_true,a8,d7]at e
     obtain⟨rfl,rfl,rfl⟩:=e
     obtain⟨k1,k2⟩:=M6 hq
     have k1:dI ω off=0:=by rw[SX.beq_eq _ _ k1,aI7]
     have k2:dI ω len=((dL ω l).length:Int):=by rw[SX.beq_eq _ _ k2,S9]
     refine⟨by omega,by omega,by omega,?_,rfl⟩
     rw[k1,k2];simp
    |false=>
     rw[hq]at e
     simp only[cond_false,a8,d7]at e
     obtain⟨rfl,rfl,rfl⟩:=e
     rw[ae3,ae3]at hd
     obtain⟨d1,d2⟩:=M6 hd
     obtain⟨d2,d3⟩:=M6 d2
     have d1:0≤dI ω off:=of_decide_eq_true d1
     have d2:0≤dI ω len:=of_decide_eq_true d2
     have d3:dI ω off+dI ω len≤((dL ω l).length:Int):=of_decide_eq_true d3
     refine⟨d1,d2,d3,?_,rfl⟩
     show((dL ω l).drop (dI ω off).toNat).take (dI ω off+dI ω len-dI ω off).toNat=_
     congr 2;omega
   obtain⟨d1,d2,d3,hll,rfl⟩:=b89
   have hln:(dL ω ly).length=(dI ω len).toNat:=by
    rw[hll,e9,l6];omega
   simp only[VR]at ry
   rcases ry with⟨L,cap,a,hL,hv,hcap,ha⟩|⟨a,c,hv,hnc,h0⟩
   ·by_cases hz:dI ω len=0
    ·refine mk a _ cap hv hln.symm fun j v hj=> ?_
     have hnil:dL ω ly=[]:=v8 (by rw[hln];omega)
     rw[hnil]at hj;simp[N7]at hj
    ·have ha:=ha (by omega)
     refine mk a _ cap hv hln.symm fun j v hj=> ?_
     rw[hll]at hj
     have:=r.arrCells hg hL c2 (dI ω off).toNat (dI ω len).toNat (by omega) j v hj
     rw[ha,U7];exact this
   ·cases a with
    |none=>
     obtain rfl:=hnc rfl
     exact mk0 hv (by rw[hln];omega)
    |some a=>
     refine mk a 0 c hv (by rw[hln];omega) fun j v hj=> ?_
     have hnil:dL ω ly=[]:=v8 (by rw[hln];omega)
     rw[hnil]at hj;simp[N7]at hj
  ·cases e
 ·rename_i b o n c
  split at e
  ·rename_i el fz cs hg
   replace e:=M7 e
   obtain⟨hc,e⟩:=e
   obtain⟨c1,c2⟩:=M6 hc
   rw[N1]at c1
   split at e
   ·rename_i sig' hsig
    split at e
    ·rename_i rs hrs
     simp only[a8,d7]at e
     obtain⟨rfl,rfl,rfl⟩:=e
     simp only[VR]at ry
     obtain⟨L,hL,hv⟩:=ry
     obtain⟨us,u1,u2,u3⟩:=W8 r hg hL c1
     obtain⟨g1,g2⟩:=a57 hrs (by simp;omega) u1
     refine mk _ n c hv g2.symm fun j v hj=> ?_
     rw[U7]
     exact u3 j v (by rw[g1];exact hj)
    ·cases e
   ·cases e
  ·cases e
 ·rename_i b o n s'
  split at e
  ·rename_i el fz cs hg
   replace e:=M7 e
   obtain⟨hc,e⟩:=e
   obtain⟨hc,c3⟩:=M6 hc
   obtain⟨c1,c2⟩:=M6 hc
   rw[N1]at c1
   split at e
   ·rename_i sig' hsig
    split at e
    ·rename_i rs hrs
     simp only[a8,d7]at e
     obtain⟨rfl,rfl,rfl⟩:=e
     simp only[VR]at ry
     obtain⟨L,c,hL,hcp,hv⟩:=ry
     obtain⟨us,u1,u2,u3⟩:=W8 r hg hL c1
     obtain⟨g1,g2⟩:=a57 hrs (by simp;omega) u1
     refine mk _ n c hv g2.symm fun j v hj=> ?_
     rw[U7]
     exact u3 j v (by rw[g1];exact hj)
    ·cases e
   ·cases e
  ·cases e
 ·cases e
theorem bX2{P:Program}{s:Nat}{y:AV}{sig:List CT}{nd ly:SX}{vy:Value}{yt:TypeId}(r:HR β ω K w0 h w)(hyt:P.underlying yt=some .string)(e:bP7 s y=some (sig,nd,ly))(ry:VR β ω y vy):
 Src P s yt vy (dL ω ly).length (N7 sig (dL ω ly)) w:=by
 unfold bP7 at e
 replace e:=M7 e
 obtain⟨hs,e⟩:=e
 obtain rfl:=M8.1 hs
 split at e
 ·rename_i x hx
  simp only[a8,d7]at e
  obtain⟨rfl,rfl,rfl⟩:=e
  have hv:=ad0 hx ry
  have hl:dL ω (.op .sbytes [x])=(dS ω x).map fun b=> .vl [.vi (b.toNat:Int)]:=rfl
  have hlen:(dL ω (.op .sbytes [x])).length=(dS ω x).length:=by rw[hl,m5]
  have hfl:N7 [.int .u8] (dL ω (.op .sbytes [x]))=(dS ω x).map fun b=>Value.int .u8 (b.toNat:Int):=by rw[hl,aJ3]
  have rs:VR β ω (.str (dS ω x)) vy:=hv
  have hn:ay9 (.str (dS ω x))=some (dS ω x).length:=rfl
  obtain⟨us,u1,u2,u3⟩:=af7 (P:=P) (s:=1) (n:=(dS ω x).length) r (l:=(dS ω x).map fun b=>AV.int .u8 (b.toNat:Int)) (by simp[a92]) rs
  have hus:us=(dS ω x).map fun b=>Value.int .u8 (b.toNat:Int):=by
   have: ∀(l:List UInt8) (us:List Value),VRs β ω (l.map fun b=>AV.int .u8 (b.toNat:Int)) us→us=l.map fun b=>Value.int .u8 (b.toNat:Int):=by
    intro l
    induction l with
    |nil=>intro us h;exact h
    |cons a q ih=>
     rintro us ⟨v,vr,rfl,h1,h2⟩
     rw[show v=Value.int .u8 (a.toNat:Int)from h1,ih vr h2];rfl
   exact this _ _ u1
  rw[hlen,hfl]
  refine⟨.inr hyt,fun w'=>b06 hn rs w',?_,?_,by simp,?_⟩
  ·rw[←hus];exact u3 w rfl
  ·rw[←hus];exact u3 w.drew rfl
  ·intro u hu
   simp only[k9]at hu
   obtain⟨_,_,rfl⟩:=hu
   rfl
 ·cases e
theorem aT0(zs:Array Value)(hp:0<zs.size)(n:Nat):(Builtin.zeroCells zs (n+1)).toList=zs.toList++(Builtin.zeroCells zs n).toList:=by
 show((Array.range ((n+1)*zs.size)).map (fun i=>zs[i % zs.size]!)).toList=zs.toList++((Array.range (n*zs.size)).map (fun i=>zs[i % zs.size]!)).toList
 simp only[J7,Array.toList_range]
 rw[l7,A5,y6,List.range_add,r8,B3]
 congr 1
 ·apply G0 (by simp)
  intro i h1 h2
  simp only[m5,E1]at h1
  simp[Nat.mod_eq_of_lt h1,h1]
 ·apply B4
  intro i _
  simp
theorem ar4{zs:Array Value}{sig:List CT}{r:Val}(hp:0<zs.size)(hz:zs.toList=a27 sig r): ∀n,(Builtin.zeroCells zs n).toList=N7 sig (List.replicate n r)
 |0=>by simp[Builtin.zeroCells,N7]
 |n+1=>by
  rw[aT0 zs hp n,ar4 hp hz n,List.replicate_succ,hz]
  simp[N7]
theorem cB4{P:Program}{i:TypeInfo}{zv:Value}{z:List AV}{y:AV}{sig:List CT}{nd ly:SX}{vy:Value}{yt:TypeId}(r:HR β ω K w0 h w)(hs:sig.length=i.size)(hb:i.bytes≤1000)(hz:VRs β ω z zv.cells.toList)(hzs:zv.cells.size=i.size)(hp:0<i.size)(e:d77 P yt i.size z y h=some (sig,nd,ly))(hd:dB ω nd=true)(ry:VR β ω y vy):
 SrcZ P i zv yt vy (dL ω ly).length (N7 sig (dL ω ly)) w:=by
 unfold d77 at e
 split at e
 ·rename_i e' hyt;exact .inl (cf9 r hyt hs e hd ry)
 ·rename_i hyt;exact .inl (bX2 r hyt e ry)
 ·rename_i kn hyt
  unfold cp6 at e
  split at e
  ·rename_i k ex sg hk hc
   split at e
   ·rename_i es hes
    simp only[a8,d7]at e
    obtain⟨rfl,rfl,rfl⟩:=e
    rw[ae3]at hd
    obtain⟨d1,d2⟩:=M6 hd
    have d1:0≤dI ω ex:=of_decide_eq_true d1
    have d2:dI ω ex≤al5:=of_decide_eq_true d2
    have hroom:al5=(room:Int):=by unfold al5 room;simp
    have hv:=a10 hk ry
    have hl:dL ω (.op .lrep [ex,.op .row es])=List.replicate (dI ω ex).toNat (.vl (N2 ω es)):=rfl
    have hlen:(dL ω (.op .lrep [ex,.op .row es])).length=(dI ω ex).toNat:=by rw[hl,List.length_replicate]
    have hrow:=R7 hes hz
    refine .inr ⟨k,kn,hyt,?_,?_,hb,?_,by rw[O3,hs],aJ4 _ _⟩
    ·rw[hlen,hv];congr 1;omega
    ·rw[hlen];omega
    ·rw[hlen,hl]
     exact(ar4 (by omega) hrow _).symm
   ·cases e
  ·cases e
 ·cases e
theorem SrcZ.nil_{P:Program}{i:TypeInfo}{zv:Value}{yt:TypeId}{x:Value}{news:List Value}(h:SrcZ P i zv yt x 0 news w):news=[]:=by
 rcases h with h|⟨_,_,_,_,_,_,_,h,_⟩
 ·exact v8 (by simpa using h.newsLen)
 ·exact v8 (by simpa using h)
theorem Src.nil_{P:Program}{s:Nat}{yt:TypeId}{x:Value}{news:List Value}(h:Src P s yt x 0 news w):news=[]:=v8 (by simpa using h.newsLen)
theorem a11: ∀{a b:List CT},T8 a b=true→a=b
 | [],[],_=>rfl
 | [],_::_,h=>by cases h
 |_::_,[],h=>by cases h
 |a::x,b::y,h=>by
  simp only[T8,d6,decide_eq_true_eq]at h
  rw[h.1,a11 h.2]
theorem HR.lay(r:HR β ω K w0 h w)(x:Blk):HR β ω K w0 (h.new x) w:=by
 have hn: ∀b y,(h.new x).get b=some y→β b≠none→h.get b=some y:=by
  intro b y hg hb
  rw[Heap.get_new]at hg
  by_cases e:b=h.next
  ·subst e;exact absurd (r.fresh _ (b9 _)) hb
  ·rw[if_neg e]at hg;exact hg
 refine⟨fun b y L hg hb=>r.blk b y L (hn b y hg (by rw[hb];simp)) hb,fun b b' y y' L L' g g' m m' hne hw=>r.sep b b' y y' L L' (hn b y g (by rw[m];simp)) (hn b' y' g' (by rw[m'];simp)) m m' hne hw,
   fun b hb=>r.fresh b (by simp only[Heap.next_new]at hb;omega),fun b hb=> ?_,r.lt,r.kin,r.keep,fun b y L hg hw hb=>r.free b y L (hn b y hg (by rw[hb];simp)) hw hb,r.size,r.os,r.tape,r.out,r.dr⟩
 simp only[Heap.next_new]at hb
 rw[Heap.get_new,if_neg (by omega)];exact r.fget b (by omega)
theorem avs(ω:Opq)(sig:List CT)(l:List Val): ∃cs:List AV,(∀β:Bij,VRs β ω cs (N7 sig l))∧cs.all AV.one=true∧cs.length=(N7 sig l).length∧ ∀(β:Bij) vs,VRs β ω cs vs→vs=N7 sig l:=by
 have: ∀us:List Value,(∀u∈us,∃a:AV,(∀β:Bij,VR β ω a u)∧a.one=true∧ ∀(β:Bij) v,VR β ω a v→v=u)→ ∃cs:List AV,(∀β:Bij,VRs β ω cs us)∧cs.all AV.one=true∧cs.length=us.length∧ ∀(β:Bij) vs,VRs β ω cs vs→vs=us:=by
  intro us
  induction us with
  |nil=>intro _;exact⟨[],fun _=>rfl,rfl,rfl,fun _ vs h=>h⟩
  |cons u us ih=>
   intro hh
   obtain⟨a,a1,a2,a3⟩:=hh u (by simp)
   obtain⟨cs,c1,c2,c3,c4⟩:=ih fun x hx=>hh x (by simp[hx])
   refine⟨a::cs,fun β=>⟨u,us,rfl,a1 β,c1 β⟩,by simp[a2,c2],by simp[c3],fun β vs ⟨v,vr,e,p,q⟩=> ?_⟩
   rw[e,a3 β v p,c4 β vr q]
 refine this _ fun u hu=> ?_
 simp only[N7,u5,a27,k9]at hu
 obtain⟨x,_,j,_,rfl⟩:=hu
 unfold a26
 split
 ·exact⟨.int _ _,fun _=>rfl,rfl,fun _ v h=>h⟩
 ·exact⟨.str _,fun _=>rfl,rfl,fun _ v h=>h⟩
 ·exact⟨.bool _,fun _=>rfl,rfl,fun _ v h=>h⟩
theorem ab2(sig:List CT)(a b:List Val):N7 sig (a++b)=N7 sig a++N7 sig b:=by simp[N7,G5]
theorem aJ5{P:Program}{m:Sem Value}{n sz elem:Nat}{sig:List CT}{l:SX}{cs:List AV}{h1 h2:Heap}(hsz:0<sz)(hs:sig.length=sz)(hn:(dL ω l).length=n)(k:Ok P β ω K w0 w h m (.us h1.next 0 n sz) (h1.new (.cells elem 0 cs)))
 (hlim:h1.next<65536) (hcs:cs.length=n*sz) (hdet: ∀(β:Bij) vs,VRs β ω cs vs→vs=N7 sig (dL ω l)) (h2n:h2.next=h1.next) (h2w:h2.wm=h1.wm) (h2g: ∀z,h2.get z=h1.get z):
 Ok P β ω K w0 w h m (.ous h1.next (.op .llen [l]) sz) (h2.new (.arr elem sig l)):=by
 obtain⟨β',v,w',e1,e2,e3,e4⟩:=k
 simp only[VR]at e2
 obtain⟨L,cap,hL,hcap,hv⟩:=e2
 have hg:(h1.new (.cells elem 0 cs)).get h1.next=some (.cells elem 0 cs):=by rw[Heap.get_new,if_pos rfl,if_pos hlim]
 have hbr:=e3.blk _ _ L hg hL
 have hle:n≤cap:=by
  obtain⟨C,lo,hi,vs,q1,q2,q3,_⟩:=hbr
  rw[hcs,←show cap*sz=L.ext by omega]at q3
  exact A1 q3 hsz
 refine⟨β',v,w',e1,.inl ⟨L,cap,hL,by omega,?_,?_⟩,?_,?_⟩
 ·rw[S9,hn];simpa using hv
 ·rw[S9,hn];simpa using hle
 ·refine HR.retell (y:= .arr elem sig l) e3 hg (.inr rfl) ?_ (by simp[h2n]) (by simp[h2w]) (fun z=> ?_)
  ·intro L' hL' hb
   obtain⟨C,lo,hi,vs,q1,q2,q3,q4,q5,q6,q7,q8⟩:=hb
   have:=hdet _ _ q5
   subst this
   refine⟨C,_,lo,hi,q1,.inl rfl,q2,by rw[hn,hs,←hcs];exact q3,fun i v hi'=> ?_,fun i hi'=>q7 i (k8 _) hi'⟩
   have hlt:i<cs.length:=by
    have:=q5.length
    rw[←this]
    rcases d8 i (N7 sig (dL ω l)).length with hh|hh
    ·exact hh
    ·rw[j7 hh]at hi';cases hi'
   rw[q6 i hlt];exact hi'
  ·rw[Heap.get_new,Heap.get_new,h2n,h2g]
   by_cases hz:z=h1.next
   ·rw[if_pos hz,if_pos hz,if_pos hlim]
   ·rw[if_neg hz,if_neg hz,if_neg hz]
 ·refine⟨?_,e4.ext,fun b hb hbn=> ?_,?_⟩
  ·have:=e4.le;simp only[Heap.next_new]at this⊢;rw[h2n];exact this
  ·have hu:=e4.unm b hb hbn
   have he:(h2.new (.arr elem sig l)).get b=(h1.new (.cells elem 0 cs)).get b:=by
    rw[Heap.get_new,Heap.get_new,h2n,h2g]
    by_cases hz:b=h1.next
    ·exfalso
     have:=e4.ext b hb
     rw[hz,hL]at this
     rw[hz,←this]at hbn;cases hbn
    ·rw[if_neg hz,if_neg hz]
   rw[he];exact hu
  ·have:=e4.wm;simp only[Heap.wm_new]at this⊢;rw[h2w];exact this
def b13(P:Program)(β:Bij)(ω:Opq)(K:Nat→Prop)(w0 w:World)(h:Heap)(m:Sem Value)(r:Res):Prop:=match r with
 | .need e v h'=>dB ω e=true→Ok P β ω K w0 w h m v h'
 | .bad=>True
 |_=>False
theorem bX3{P:Program}(r:HR β ω K w0 h w){a:AV}{va vc:Value}(ra:VR β ω a va){t yt ty elem:TypeId}{i:TypeInfo}{zv:Value}{sig:List CT}{nd ly:SX}(ht:P.underlying t=some (.slice elem))(hi:P.info? elem=some i)(hzi:i.zero=some zv)
 (hzs':zv.cells.size=i.size) (c1:0<i.size) (c3:i.bytes≤1000) (c5:sig.length=i.size) (hnf:ω.fix elem=false) (hs0:dB ω nd=true→SrcZ P i zv yt vc (dL ω ly).length (N7 sig (dL ω ly)) w):
 b13 P β ω K w0 w h (Builtin.append_ #[t,yt] ty #[va,vc]) (cR3 elem i.size sig nd ly a h):=by
 unfold cR3
 obtain⟨ncs,n1,n2,n3,n4⟩:=avs ω sig (dL ω ly)
 have n3':ncs.length=(dL ω ly).length*i.size:=by rw[n3,O3,c5]
 split
 ·cases hc6:Nat.blt h.next 65536 with
  |false=>trivial
  |true=>
  have c6:=N9.1 hc6
  intro hd
  obtain⟨d1,d2⟩:=ao2 hd
  have d2:dI ω (.op .llen [ly])≤dI ω (.ci al5):=of_decide_eq_true d2
  rw[S9,aI7]at d2
  have hroom:(dL ω ly).length≤room:=by
   have:al5=(room:Int):=by unfold al5 room;simp
   rw[this]at d2;omega
  have hs:=hs0 d1
  simp only[VR]at ra;subst ra
  by_cases hn:(dL ω ly).length=0
  ·rw[hn]at hs
   have hnil:=Go.Ev.SrcZ.nil_ hs
   rw[hnil]at hs
   refine⟨β,_,_,SrcZ.nothing ht hi hs none 0 0 (b9 _),.inr ⟨rfl,by rw[S9,hn];rfl⟩,r.lay _,by simp,fun _ _=>rfl,fun b hb _=>by left;rw[Heap.get_new,if_neg (by omega)],rfl⟩
  ·have g:=an8 (ty:=ty) (old:=[]) (olds:=[]) (sLen:=0) (sCap:=0) (base:=none) r ht hi hzi hzs' (run_firstCells_none w.drew _ _ _ _) hs (by omega) c1 (by omega) (by simpa using hroom) c3 .nil rfl (by simp) (n1 β) n2 n3' 0
   simp only[i3,List.nil_append]at g
   exact aJ5 (h1:=h) (h2:=h) c1 c5 rfl g c6 n3' n4 rfl rfl (fun _=>rfl)
 ·rename_i b len sz
  split
  ·rename_i el sig' l hg
   cases hq:(Nat.beq sz i.size&&Nat.beq el elem&&T8 sig' sig&&Nat.ble h.wm b&&Nat.blt h.next 65536&& !(Nat.beq el an1))with
   |false=>trivial
   |true=>
    obtain⟨hq,c7⟩:=M6 hq
    have hne:el≠an1:=fun e=>by rw[e,show Nat.beq an1 an1=true from rfl]at c7;cases c7
    obtain⟨hq,c6⟩:=M6 hq
    rw[N9]at c6
    obtain⟨hq,q4⟩:=M6 hq
    obtain⟨hq,q3⟩:=M6 hq
    obtain⟨q1,q2⟩:=M6 hq
    obtain rfl:=M8.1 q1
    obtain rfl:=M8.1 q2
    rw[N1]at q4
    obtain rfl:=a11 q3
    intro hd
    obtain⟨d1,d2⟩:=ao2 hd
    obtain⟨d3,d2⟩:=ao2 d2
    have d3:dI ω len=dI ω (.op .llen [l]):=cr9 d3
    have d2:dI ω (.op .llen [bP9 l ly])≤dI ω (.ci al5):=of_decide_eq_true d2
    have hcat:dL ω (bP9 l ly)=dL ω l++dL ω ly:=cB0 l ly
    rw[S9,aI7,hcat,e8]at d2
    rw[S9]at d3
    have hroom:(dL ω l).length+(dL ω ly).length≤room:=by
     have:al5=(room:Int):=by unfold al5 room;simp
     rw[this]at d2;omega
    have hs:=hs0 d1
    have a35: ∀(hh:Heap) (x:Option Blk) (z:Nat),(hh.put b x).get z=if z=b then(if b<65536 then x else none)else hh.get z:=fun hh x z=>Heap.get_put _ _ _ _
    have hb65:=Heap.get_lim h b _ hg
    simp only[VR]at ra
    rcases ra with⟨L,cap,hL,hcap,hv,hle⟩|⟨hv,h0'⟩
    ·have hlen:(dI ω len).toNat=(dL ω l).length:=by omega
     rw[hlen]at hv hle
     by_cases hn:(dL ω ly).length=0
     ·have hly:dL ω ly=[]:=v8 hn
      rw[hn]at hs
      have hnil:=Go.Ev.SrcZ.nil_ hs
      rw[hnil]at hs
      have hbr:=r.blk b _ L hg hL
      obtain⟨p1,p2⟩:=HR.rename (w':=w) r b _ (.arr el sig' (bP9 l ly)) L L hg hL q4 rfl (fun _ _=>rfl) rfl rfl rfl rfl rfl (by
       obtain⟨C,e',lo,hi,z1,z0,z2,z3,z4,z5⟩:=hbr
       have hd:dL ω (bP9 l ly)=dL ω l:=by rw[hcat,hly,n9]
       exact⟨C,e',lo,hi,z1,z0,z2,by rw[hd];exact z3,by rw[hd];exact z4,z5⟩)
      subst hv
      refine⟨_,_,_,SrcZ.nothing ht hi hs _ _ cap hle,.inl ⟨L,cap,Bij.add_self _ _ _,hcap,?_,?_⟩,p1,p2⟩
      ·rw[S9,hcat,hly];simp
      ·rw[S9,hcat,hly];simpa using hle
     ·obtain⟨ocs,m1,m2,m3,m4⟩:=avs ω sig' (dL ω l)
      have m3':ocs.length=(dL ω l).length*i.size:=by rw[m3,O3,c5]
      have r2:HR β ω K w0 (h.put b (some (.cells el 0 ocs))) w:=by
       refine HR.retell (y:= .cells el 0 ocs) r hg (.inl q4) ?_ rfl rfl (fun z=>by rw[a35,if_pos hb65])
       intro L' hL' hbr
       obtain⟨C,e',lo,hi,z1,z0,z2,z3,z4,z5⟩:=hbr
       rw[z0.resolve_right hne]at z1
       refine⟨C,lo,hi,N7 sig' (dL ω l),z1,z2,by rw[m3,O3];exact z3,aG9 m2,m1 β,fun k hk=> ?_,fun k _ hk=>z5 k hk,fun hh=>by rw[hnf]at hh;cases hh⟩
       have hk':k<(N7 sig' (dL ω l)).length:=by rw[←m3];exact hk
       rw[j0 hk']
       exact z4 k _ (j0 hk')
      have hg2:(h.put b (some (.cells el 0 ocs))).get b=some (.cells el 0 ocs):=by rw[a35,if_pos rfl,if_pos hb65]
      have g:=cU9 (ty:=ty) (o:=0) (sLen:=(dL ω l).length) (sCap:=cap) (n:=(dL ω ly).length) (fz:=0) r2 ht hi hzi hzs' c1 hs (by omega) hroom c3 hL hg2 q4 (by simpa using hcap) (k8 _) (by rw[m3'];omega) (n1 β) n2 n3' (by first|exact hnf|(rw[←hel];exact hnf)) 0 (k8 _)
      rw[show(List.drop 0 ocs).take ((dL ω l).length*i.size)=ocs by rw[B8,←m3',C7]]at g
      rw[show(⟨L.blk,L.off+0,none⟩:Addr)=⟨L.blk,L.off,none⟩ by simp,←hv]at g
      have g2:Ok P β ω K w0 w h (Builtin.append_ #[t,yt] ty #[va,vc]) (.us ((h.put b (some (.cells el 0 ocs))).put b none).next 0 ((dL ω l).length+(dL ω ly).length) i.size) (((h.put b (some (.cells el 0 ocs))).put b none).new (.cells el 0 (ocs++ncs))):=by
       obtain⟨β',v,w',y1,y2,y3,y4⟩:=g
       refine⟨β',v,w',y1,y2,y3,y4.le,y4.ext,fun z hz hzn=> ?_,y4.wm⟩
       have hu:=y4.unm z hz hzn
       rw[a35,if_neg (fun hzb=>by rw[hzb,hL]at hzn;cases hzn)]at hu
       exact hu
      refine aJ5 (h1:=(h.put b (some (.cells el 0 ocs))).put b none) (h2:=h.put b none) (l:=bP9 l ly) c1 c5 (by rw[hcat,e8]) g2 c6 ?_ ?_ rfl rfl (fun z=> ?_)
      ·rw[e8,m3',n3',l7]
      ·intro β' vs hvs
       rw[hcat,ab2]
       have e1:=hvs.take ocs.length
       have e2:=hvs.drop ocs.length
       rw[C8]at e1
       rw[C9]at e2
       rw[←p8 ocs.length vs,m4 β' _ e1,n4 β' _ e2]
      ·rw[a35,a35,a35]
       by_cases hzb:z=b
       ·rw[if_pos hzb,if_pos hzb]
       ·rw[if_neg hzb,if_neg hzb,if_neg hzb]
    ·have hl0:(dL ω l).length=0:=by omega
     have hlnil:dL ω l=[]:=v8 hl0
     subst hv
     obtain⟨r1,st1⟩:=r.drop b
     by_cases hn:(dL ω ly).length=0
     ·have hly:dL ω ly=[]:=v8 hn
      rw[hn]at hs
      have hnil:=Go.Ev.SrcZ.nil_ hs
      rw[hnil]at hs
      refine⟨β,_,_,SrcZ.nothing ht hi hs none 0 0 (b9 _),.inr ⟨rfl,by rw[S9,hcat,hly,hlnil];rfl⟩,r1.lay _,st1.trans ⟨by simp,fun _ _=>rfl,fun b hb _=>by left;rw[Heap.get_new,if_neg (by omega)],rfl⟩⟩
     ·have g:=an8 (ty:=ty) (old:=[]) (olds:=[]) (sLen:=0) (sCap:=0) (base:=none) r1 ht hi hzi hzs' (run_firstCells_none w.drew _ _ _ _) hs (by omega) c1 (by omega) (by simpa[hl0]using hroom) c3 .nil rfl (by simp) (n1 β) n2 n3' 0
      simp only[i3,List.nil_append]at g
      obtain⟨β',v,w',y1,y2,y3,y4⟩:=aJ5 (h1:=h.put b none) (h2:=h.put b none) (l:=bP9 l ly) c1 c5 (n:=(dL ω ly).length) (by rw[hcat,hlnil];rfl) g c6 n3' (by rw[hcat,hlnil];exact n4) rfl rfl (fun _=>rfl)
      exact⟨β',v,w',y1,y2,y3,st1.trans y4⟩
  ·trivial
 ·trivial
theorem bX4(r:HR β ω K w0 h w){elem s:Nat}{sig:List CT}{x x':AV}{h':Heap}{v:Value}(hf:ω.fix elem=false)(e:bP8 elem s sig x h=some (x',h'))(rx:VR β ω x v):
 ∃β',HR β' ω K w0 h' w∧VR β' ω x' v∧St h β h' β':=by
 have main: ∀(b o n cap:Nat) (L:Loc) (fz:Nat) (cs:List AV) (rs:List SX),h.get b=some (.cells elem fz cs)→β b=some L→h.wm≤b→fz≤o→o+cap*s≤L.ext→o+n*s≤cs.length→n≤cap→sig.length=s→h.next<65536→
  an3 sig s n ((cs.drop o).take (n*s))=some rs→v= .slice (some ⟨L.blk,L.off+o,none⟩) n cap→
  x'= .ous h.next (.op .llen [.op .row rs]) s→h'=(h.put b none).new (.arr elem sig (.op .row rs))→ ∃β',HR β' ω K w0 h' w∧VR β' ω x' v∧St h β h' β':=by
  intro b o n cap L fz cs rs hg hL hwm hfo hext hn hnc hsl hlim hrs hv hx hh
  obtain⟨C,lo,hi,vs,q1,q2,q3,q4,q5,q6,q7⟩:=r.cells hg hL
  obtain⟨us,u1,u2,u3⟩:=W8 r hg hL hn
  obtain⟨z1,z2⟩:=a57 hrs (by simp;omega) ((q5.drop o).take (n*s))
  have hvl:=q5.length
  obtain⟨r1,s1⟩:=HR.rename (w':=w) r b _ (.arr elem sig (.op .row rs)) L ⟨L.blk,L.off+o,cap*s⟩ hg hL hwm rfl (fun _ _=>rfl) rfl rfl rfl rfl rfl (by
   refine⟨C,_,lo,hi,q1,.inl rfl,by show L.off+o+cap*s≤C.size;omega,?_,fun i v hi'=> ?_,fun i hi'=> ?_⟩
   ·show(N2 ω rs).length*sig.length≤cap*s
    rw[z2,hsl];exact t8 _ hnc
   ·show C[L.off+o+i]? =some v
    have hi':(N7 sig (N2 ω rs))[i]? =some v:=hi'
    rw[←z1]at hi'
    have hlt:i<n*s:=by
     rcases d8 i (n*s)with hh|hh
     ·exact hh
     ·rw[j7 (by simp;omega)]at hi';cases hi'
    rw[show L.off+o+i=L.off+(o+i) by omega,q6 (o+i) (by omega)]
    rw[n8,if_pos hlt,o9]at hi'
    exact hi'
   ·have hi':i<cap*s:=hi'
    have:=q7 (o+i) (by omega) (by omega)
    show¬(lo≤L.off+o+i∧L.off+o+i<hi)
    rw[show L.off+o+i=L.off+(o+i) by omega];exact this)
  subst hx;subst hh
  refine⟨_,r1,.inl ⟨_,cap,Bij.add_self _ _ _,rfl,?_,?_⟩,s1⟩
  ·have hll:(dI ω (.op .llen [.op .row rs])).toNat=n:=by
    rw[S9]
    show(((N2 ω rs).length:Nat):Int).toNat=n
    rw[z2];simp
   rw[hll];exact hv
  ·rw[S9]
   show(((N2 ω rs).length:Nat):Int).toNat≤cap
   rw[z2];simpa using hnc
 unfold bP8 at e
 split at e
 ·rename_i b o n c
  split at e
  ·rename_i e0 fz cs hg
   replace e:=M7 e
   obtain⟨hc,e⟩:=e
   obtain⟨hc,c7⟩:=M6 hc
   obtain⟨hc,c6⟩:=M6 hc
   obtain⟨hc,c5⟩:=M6 hc
   obtain⟨hc,c4⟩:=M6 hc
   obtain⟨hc,c3⟩:=M6 hc
   obtain⟨c1,c2⟩:=M6 hc
   obtain rfl:=M8.1 c1
   rw[M8]at c6
   rw[N1]at c2 c3 c4 c5
   rw[N9]at c7
   split at e
   ·rename_i rs hrs
    simp only[a8,d7]at e
    simp only[VR]at rx
    obtain⟨L,hL,hv⟩:=rx
    have hns:n*s≤c*s:=t8 _ c5
    have hbr:=r.blk b _ L hg hL
    obtain⟨_,_,_,_,_,_,q3,_⟩:=hbr
    exact main b o n c L fz cs rs hg hL c2 c3 (by omega) (by omega) c5 c6 c7 hrs hv e.1.symm e.2.symm
   ·cases e
  ·cases e
 ·rename_i b o n s'
  split at e
  ·rename_i e0 fz cs hg
   replace e:=M7 e
   obtain⟨hc,e⟩:=e
   obtain⟨hc,c8⟩:=M6 hc
   obtain⟨hc,c7⟩:=M6 hc
   obtain⟨hc,c6⟩:=M6 hc
   obtain⟨hc,c5⟩:=M6 hc
   obtain⟨hc,c4⟩:=M6 hc
   obtain⟨hc,c3⟩:=M6 hc
   obtain⟨c1,c2⟩:=M6 hc
   obtain rfl:=M8.1 c1
   obtain rfl:=M8.1 c5
   rw[M8]at c6
   rw[N1]at c2 c3 c4
   rw[N9]at c7 c8
   split at e
   ·rename_i rs hrs
    simp only[a8,d7]at e
    simp only[VR]at rx
    obtain⟨L,cap,hL,hcap,hv⟩:=rx
    have hbr:=r.blk b _ L hg hL
    obtain⟨_,_,_,_,_,_,q3,_⟩:=hbr
    have hnc:n≤cap:=by
     have:n*s'≤cap*s':=by omega
     exact A1 this c8
    exact main b o n cap L fz cs rs hg hL c2 c3 (by omega) c4 hnc c6 c7 hrs hv e.1.symm e.2.symm
   ·cases e
  ·cases e
 ·rename_i b s'
  split at e
  ·rename_i e0 sg l0 hg
   replace e:=M7 e
   obtain⟨hc,e⟩:=e
   obtain⟨hc,c6⟩:=M6 hc
   obtain⟨hc,c5⟩:=M6 hc
   obtain⟨hc,c4⟩:=M6 hc
   obtain⟨hc,c3⟩:=M6 hc
   obtain⟨c1,c2⟩:=M6 hc
   obtain rfl:=M8.1 c1
   obtain rfl:=a11 c3
   obtain rfl:=M8.1 c4
   rw[M8]at c5
   rw[N1]at c2
   rw[N9]at c6
   simp only[a8,d7]at e
   obtain⟨rfl,rfl⟩:=e
   simp only[VR]at rx
   rcases rx with⟨L,cap,hL,hcap,hv,_⟩|⟨hv,_⟩
   ·obtain⟨C,e',lo,hi,q1,q0,q2,q3,q4,q5⟩:=r.arr hg hL
    obtain⟨r1,s1⟩:=HR.rename (w':=w) r b _ (.arr e0 sg (.op .row [])) L L hg hL c2 rfl (fun _ _=>rfl) rfl rfl rfl rfl rfl ⟨C,e',lo,hi,q1,q0,q2,by show 0*_≤_;omega,fun i v hi'=>by simp[dL,den,N2,Q9,Val.toL,N7]at hi',q5⟩
    exact⟨_,r1,.inl ⟨L,cap,Bij.add_self _ _ _,hcap,hv,k8 _⟩,s1⟩
   ·obtain⟨r1,s1⟩:=r.drop b
    exact⟨β,r1.lay _,.inr ⟨hv,rfl⟩,s1.trans ⟨by simp,fun _ _=>rfl,fun b hb _=>by left;rw[Heap.get_new,if_neg (by omega)],rfl⟩⟩
  ·cases e
 ·cases e
theorem bJ0(hfx: ∀t,ω.fix t=aq0 E.P t)(r:HR β ω K w0 h w){a c:AV}{va vc:Value}(ra:VR β ω a va)(rc:VR β ω c vc)(ts:Array TypeId)(ty:TypeId)(cs:Array Bool):
 SOk E β ω K w0 w h (builtin .append ts ty cs #[va,vc]) (bj3 E.P ts a c h):=by
 have lift: ∀{x:AV} {h':Heap},Ok E.P β ω K w0 w h (Builtin.append_ ts ty #[va,vc]) x h'→W2 E β ω K w0 w h (builtin .append ts ty cs #[va,vc]) x h':=fun k=>W2.of k
 unfold bj3
 split
 ·rename_i elem yt h1 h2
  split
  ·rename_i i z hi hz
   split
   ·rename_i sig nd ly hrows
    cases hc:(Nat.blt 0 i.size&&Nat.beq z.cells.length i.size&&Nat.ble i.bytes 1000&&Nat.beq ts.size 2&&Nat.beq sig.length i.size&& !(aq0 E.P elem))with
    |false=>trivial
    |true=>
     obtain⟨hc,c7⟩:=M6 hc
     have hnf:ω.fix elem=false:=by rw[hfx];simpa using c7
     obtain⟨hc,c5⟩:=M6 hc
     obtain⟨hc,c4⟩:=M6 hc
     obtain⟨hc,c3⟩:=M6 hc
     obtain⟨c1,c2⟩:=M6 hc
     rw[N9]at c1
     rw[M8]at c2 c4 c5
     rw[N1]at c3
     simp only[j6]at h1
     obtain⟨t,h0,ht⟩:=h1
     obtain rfl:=dd5 h0 h2 c4
     obtain⟨i',zv,hi',hzi,hzs,hzv⟩:=ba6 hz
     rw[hi]at hi';simp only[a8]at hi';subst hi'
     have hzs':zv.cells.size=i.size:=hzs.trans c2
     simp only[cond_true]
     have hs0:dB ω nd=true→SrcZ E.P i zv yt vc (dL ω ly).length (N7 sig (dL ω ly)) w:=fun hd=>cB4 r c5 c3 (hzv _ _) hzs' c1 hrows hd rc
     have fin: ∀(res:Res),b13 E.P β ω K w0 w h (Builtin.append_ #[t,yt] ty #[va,vc]) res→SOk E β ω K w0 w h (builtin .append #[t,yt] ty cs #[va,vc]) res:=by
      intro res hr
      cases res<;>first|exact hr.elim|trivial|(intro hd;exact lift (hr hd))
     unfold cR4
     split
     ·rename_i p hp
      obtain⟨β',r1,rx,s1⟩:=bX4 r hnf (x':=p.1) (h':=p.2) hp ra
      have:=bX3 (ty:=ty) r1 rx ht hi hzi hzs' c1 c3 c5 hnf hs0
      refine fin _ ?_
      revert this
      cases cR3 elem i.size sig nd ly p.1 p.2 with
      |need e v h'=>
       intro hh hd
       obtain⟨β2,u,w',y1,y2,y3,y4⟩:=hh hd
       exact⟨β2,u,w',y1,y2,y3,s1.trans y4⟩
      |bad=>intro _;trivial
      |_=>intro hh;exact hh.elim
     ·exact fin _ (bX3 (ty:=ty) r ra ht hi hzi hzs' c1 c3 c5 hnf hs0)
   ·trivial
  ·trivial
 ·trivial
end Go.Ev
