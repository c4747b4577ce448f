/- The evaluator: operations on symbols. -/
import Derived.Test.YtnfimpnakkngbadGreatDoorE15
set_option linter.unusedVariables false
set_option linter.unusedSimpArgs false
namespace Go.Ev
open Go

variable {E : Env} {β : Bij} {ω : Opq} {K : Nat → Prop} {w0 w : World} {h h' : Heap} {ρA : Operand → Option AV} {ρ : Operand → Value}

abbrev ω0 : Opq := ⟨fun _ => .nilIface, fun _ => .vb false, fun _ _ => .vb false, fun _ => rfl, fun _ => false⟩
theorem symI_ok {x : AV} {v : Value} {k : IntKind} {e : SX} (h : symI x = some (k, e)) (r : VR β ω x v) : v = .int k (dI ω e) := by
  unfold symI at h
  split at h <;> simp only [Option.some.injEq, Prod.mk.injEq, reduceCtorEq] at h
  · obtain ⟨rfl, rfl⟩ := h; exact r
  · obtain ⟨rfl, rfl⟩ := h; exact r
theorem symS_ok {x : AV} {v : Value} {e : SX} (h : symS x = some e) (r : VR β ω x v) : v = .string ⟨(dS ω e).toArray⟩ := by
  unfold symS at h
  split at h <;> simp only [Option.some.injEq, reduceCtorEq] at h
  · subst h; exact r
  · subst h; exact r
theorem symB_ok {x : AV} {v : Value} {e : SX} (h : symB x = some e) (r : VR β ω x v) : v = .bool (dB ω e) := by
  unfold symB at h
  split at h <;> simp only [Option.some.injEq, reduceCtorEq] at h
  · subst h; exact r
  · subst h; exact r

theorem SVal.pureV {m : Sem Next} {v : AV} {u : Value} (r : HR β ω K w0 h w) (hv : VR β ω v u) (hr : m.run E.P w = .ok (.value u) w) : SVal E β ω K w0 w h m v h :=
  ⟨β, u, w, .inl hr, hv, r, .refl _ _⟩

theorem dI_ar (op : BinOp) (k : IntKind) (a b : SX) : dI ω (.op (.ar op k) [a, b]) = arI op k (dI ω a) (dI ω b) := rfl
theorem dB_cmp (op : BinOp) (a b : SX) : dB ω (.op (.cmp op) [a, b]) = cmpI op (dI ω a) (dI ω b) := rfl
theorem dB_scmp (op : BinOp) (a b : SX) : dB ω (.op (.scmp op) [a, b]) = cmpS op (dS ω a) (dS ω b) := rfl
theorem dI_ci (n : Int) : dI ω (.ci n) = n := rfl
theorem dI_sum (a b : SX) : dI ω (sumL a b) = dI ω a + dI ω b := rfl
theorem dI_slen (a : SX) : dI ω (.op .slen [a]) = ((dS ω a).length : Int) := rfl
theorem dI_llen (a : SX) : dI ω (.op .llen [a]) = ((dL ω a).length : Int) := rfl
theorem dB_and (a b : SX) : dB ω (.op .and [a, b]) = (dB ω a && dB ω b) := rfl
theorem dB_not (a : SX) : dB ω (.op .not [a]) = !dB ω a := rfl
theorem idxIn_ok {i l : SX} (h : dB ω (idxIn i l) = true) : 0 ≤ dI ω i ∧ dI ω i < dI ω l := by
  simp only [idxIn, dB_and, dB_cmp, cmpI, Bool.and_eq_true, decide_eq_true_eq] at h
  exact h

/-- What concrete operands give. -/
theorem binRun {op : BinOp} {t : TypeId} {x y a : AV} {vx vy : Value} (he : binE E.P op t x y = some a) (rx : VR (fun _ => none) ω x vx) (ry : VR (fun _ => none) ω y vy) (w : World) :
    ∃ v, VR (fun _ => none) ω a v ∧ (binOp op t vx vy).run E.P w = .ok v w :=
  let ⟨v, r, hv⟩ := binE_ok (P := E.P) he rx ry
  ⟨v, r, hv w⟩
theorem intRun {op : BinOp} {t : TypeId} {k : IntKind} {x y : Int} {a : AV} (he : binI op k k x y = some a) (w : World) :
    ∃ v, VR (fun _ => none) ω a v ∧ (binOp op t (.int k x) (.int k y)).run E.P w = .ok v w :=
  binRun (x := .int k x) (y := .int k y) he rfl rfl w
theorem strRun {op : BinOp} {t : TypeId} {x y : List UInt8} {a : AV} (he : strOp op x y = some a) (w : World) :
    ∃ v, VR (fun _ => none) ω a v ∧ (binOp op t (.string ⟨x.toArray⟩) (.string ⟨y.toArray⟩)).run E.P w = .ok v w :=
  binRun (x := .str x) (y := .str y) he rfl rfl w

theorem fdiv_ofNat (m n : Nat) (k : Nat) : (Int.ofNat m).fdiv (2 ^ k) = Int.ofNat (m / 2 ^ k) := by
  have h2 : ((2 : Int) ^ k) = ((2 ^ k : Nat) : Int) := by simp
  rw [h2]
  show ((m : Int)).fdiv ((2 ^ k : Nat) : Int) = ((m / 2 ^ k : Nat) : Int)
  rw [Int.fdiv_eq_ediv_of_nonneg _ (Int.natCast_nonneg _)]
  simp
theorem shrRun (t : TypeId) (k k' : IntKind) (x : Int) (n : Nat) (w : World) : (binOp .shr t (.int k x) (.int k' (n : Int))).run E.P w = .ok (.int k (x.fdiv (2 ^ min n k.bits))) w := by
  have hs : shiftE .shr k x (n : Int) = some (.int k (match x with | .ofNat m => .ofNat (m / 2 ^ (min n k.bits)) | .negSucc m => (Int.negSucc m).fdiv (2 ^ (min n k.bits)))) := rfl
  obtain ⟨v, r1, r2⟩ := binRun (E := E) (ω := ω0) (op := .shr) (t := t) (x := .int k x) (y := .int k' (n : Int)) hs rfl rfl w
  rw [r2, show v = _ from r1]
  cases x with
  | ofNat m => rw [fdiv_ofNat m n]
  | negSucc m => rfl
theorem shlRun (t : TypeId) (k k' : IntKind) (x : Int) (n : Nat) (w : World) : (binOp .shl t (.int k x) (.int k' (n : Int))).run E.P w = .ok (.int k (k.wrap (x * 2 ^ min n k.bits))) w := by
  have hs : shiftE .shl k x (n : Int) = some (.int k (wrapE k (x * 2 ^ min n k.bits))) := rfl
  obtain ⟨v, r1, r2⟩ := binRun (E := E) (ω := ω0) (op := .shl) (t := t) (x := .int k x) (y := .int k' (n : Int)) hs rfl rfl w
  rw [r2, show v = _ from r1, wrapE_eq]
theorem intRunI {op : BinOp} {t : TypeId} {k : IntKind} {x y n : Int} (he : arith op k x y = some (.int k n)) (hop : op ≠ .shl ∧ op ≠ .shr) (w : World) :
    (binOp op t (.int k x) (.int k y)).run E.P w = .ok (.int k n) w := by
  obtain ⟨v, r1, r2⟩ := arith_ok (P := E.P) (β := fun _ => none) (ω := ω0) t he hop
  rw [r2, show v = _ from r1]
theorem intRunB {op : BinOp} {t : TypeId} {k : IntKind} {x y : Int} {n : Bool} (he : arith op k x y = some (.bool n)) (hop : op ≠ .shl ∧ op ≠ .shr) (w : World) :
    (binOp op t (.int k x) (.int k y)).run E.P w = .ok (.bool n) w := by
  obtain ⟨v, r1, r2⟩ := arith_ok (P := E.P) (β := fun _ => none) (ω := ω0) t he hop
  rw [r2, show v = _ from r1]
theorem strRunS {op : BinOp} {t : TypeId} {x y z : List UInt8} (he : strOp op x y = some (.str z)) (w : World) :
    (binOp op t (.string ⟨x.toArray⟩) (.string ⟨y.toArray⟩)).run E.P w = .ok (.string ⟨z.toArray⟩) w := by
  obtain ⟨v, r1, r2⟩ := strOp_ok (P := E.P) (β := fun _ => none) (ω := ω0) t he
  rw [r2, show v = _ from r1]
theorem strRunB {op : BinOp} {t : TypeId} {x y : List UInt8} {n : Bool} (he : strOp op x y = some (.bool n)) (w : World) :
    (binOp op t (.string ⟨x.toArray⟩) (.string ⟨y.toArray⟩)).run E.P w = .ok (.bool n) w := by
  obtain ⟨v, r1, r2⟩ := strOp_ok (P := E.P) (β := fun _ => none) (ω := ω0) t he
  rw [r2, show v = _ from r1]

theorem yInt_ok {op : BinOp} {t : TypeId} {k k' : IntKind} {a b : SX} (r : HR β ω K w0 h w) {M : Sem Value}
    (hM : ∀ u, (binOp op t (.int k (dI ω a)) (.int k' (dI ω b))).run E.P w = .ok u w → M.run E.P w = .ok u w) :
    SOk E β ω K w0 w h (do pure (.value (← M))) (yInt op k k' a b h) := by
  have fin : ∀ {v : AV} {u : Value}, (binOp op t (.int k (dI ω a)) (.int k' (dI ω b))).run E.P w = .ok u w → VR β ω v u → SVal E β ω K w0 w h (do pure (.value (← M))) v h := by
    intro v u hr hv
    exact SVal.pureV r hv (by simp only [Sem.run_bind, hM u hr, Result.andThen_ok, Sem.run_pure])
  have nn : dB ω (.op (.cmp .leq) [.ci 0, b]) = true → ∃ n : Nat, dI ω b = n := by
    intro hd
    simp only [dB_cmp, cmpI, decide_eq_true_eq] at hd
    have hd : 0 ≤ dI ω b := hd
    exact ⟨(dI ω b).toNat, by omega⟩
  have nz : dB ω (.op (.cmp .neq) [b, .ci 0]) = true → ieqb (dI ω b) 0 = false := by
    intro hd
    simp only [dB_cmp, cmpI, Bool.not_eq_true', decide_eq_false_iff_not] at hd
    have hd : ¬ dI ω b = 0 := hd
    rw [ieqb_eq]; simpa using hd
  unfold yInt
  cases op <;> simp only []
  case shl =>
    intro hd
    obtain ⟨n, hn⟩ := nn hd
    exact fin (by rw [hn]; exact shlRun t k k' _ n w) (by simp only [VR, dI_ar, arI, hn, Int.toNat_natCast])
  case shr =>
    intro hd
    obtain ⟨n, hn⟩ := nn hd
    exact fin (by rw [hn]; exact shrRun t k k' _ n w) (by simp only [VR, dI_ar, arI, hn, Int.toNat_natCast])
  all_goals
    split
    · rename_i hk; subst hk
      first
        | (intro hd
           have hz := nz hd
           refine fin (intRunI (by simp only [arith, hz, cond_false] <;> rfl) ⟨by simp, by simp⟩ w) ?_
           simp only [VR, dI_ar, arI, wrapE_eq]
           done)
        | (refine fin (intRunI rfl ⟨by simp, by simp⟩ w) ?_
           simp only [VR, dI_ar, arI, wrapE_eq]
           done)
        | (refine fin (intRunB rfl ⟨by simp, by simp⟩ w) ?_
           simp only [VR, dB_cmp, cmpI, ieqb_eq, iltb_eq]
           first | done | rfl | (congr 1; rw [Bool.eq_iff_iff]; simp; done) | (congr 1; rw [Bool.eq_iff_iff]; simp; omega))
    · trivial

theorem lim1 {a b : SX} (hd : dB ω (.op (.cmp .lss) [sumL (.op .slen [a]) (.op .slen [b]), .ci limI]) = true) : cmpI .lss (dI ω (sumL (.op .slen [a]) (.op .slen [b]))) (dI ω (.ci limI)) = true := by
  rw [dB_cmp] at hd; exact hd
theorem lim2 {a b : SX} (hd : cmpI .lss (dI ω (sumL (.op .slen [a]) (.op .slen [b]))) (dI ω (.ci limI)) = true) : cmpI .lss (dI ω (sumL (.op .slen [a]) (.op .slen [b]))) limI = true := by
  rw [dI_ci] at hd; exact hd
theorem lim3 {x y : Int} (hd : cmpI .lss x y = true) : x < y := by
  simpa [cmpI] using hd
theorem sum_lim {a b : SX} (hd : dB ω (.op (.cmp .lss) [sumL (.op .slen [a]) (.op .slen [b]), .ci limI]) = true) : ((dS ω a).length : Int) + ((dS ω b).length : Int) < limI := by
  have h1 := lim3 (lim2 (lim1 hd))
  rw [dI_sum, dI_slen, dI_slen] at h1
  exact h1
theorem yStr_add {t : TypeId} {a b : SX} (r : HR β ω K w0 h w) {M : Sem Value}
    (hM : ∀ u, (binOp .add t (.string ⟨(dS ω a).toArray⟩) (.string ⟨(dS ω b).toArray⟩)).run E.P w = .ok u w → M.run E.P w = .ok u w) 
    (hd : dB ω (.op (.cmp .lss) [sumL (.op .slen [a]) (.op .slen [b]), .ci limI]) = true) : SVal E β ω K w0 w h (do pure (.value (← M))) (.ostr (.op .cat [a, b])) h := by
  replace hd := sum_lim hd
  have e3 : limI = (lenLim : Int) := by unfold limI lenLim; simp
  rw [e3] at hd
  have hlt : Nat.blt ((dS ω a).length + (dS ω b).length) lenLim = true := blt_t (by omega)
  have h1 : (binOp .add t (.string ⟨(dS ω a).toArray⟩) (.string ⟨(dS ω b).toArray⟩)).run E.P w = .ok (.string ⟨(dS ω a ++ dS ω b).toArray⟩) w := strRunS (by simp only [strOp, hlt, cond_true]) w
  exact SVal.pureV r (u := .string ⟨(dS ω a ++ dS ω b).toArray⟩) rfl (by simp only [Sem.run_bind, hM _ h1, Result.andThen_ok, Sem.run_pure])
theorem yStr_ok {op : BinOp} {t : TypeId} {a b : SX} (r : HR β ω K w0 h w) {M : Sem Value}
    (hM : ∀ u, (binOp op t (.string ⟨(dS ω a).toArray⟩) (.string ⟨(dS ω b).toArray⟩)).run E.P w = .ok u w → M.run E.P w = .ok u w) :
    SOk E β ω K w0 w h (do pure (.value (← M))) (yStr op a b h) := by
  have fin : ∀ {v : AV} {u : Value}, (binOp op t (.string ⟨(dS ω a).toArray⟩) (.string ⟨(dS ω b).toArray⟩)).run E.P w = .ok u w → VR β ω v u → SVal E β ω K w0 w h (do pure (.value (← M))) v h := by
    intro v u hr hv
    exact SVal.pureV r hv (by simp only [Sem.run_bind, hM u hr, Result.andThen_ok, Sem.run_pure])
  unfold yStr
  cases op <;> simp only []
  case add => exact yStr_add r hM
  all_goals first
    | trivial
    | (refine fin (strRunB rfl w) ?_
       simp only [VR, dB_scmp, cmpS, beqB_eq, ltBytes]
       first | done | rfl | (congr 1; rw [Bool.eq_iff_iff]; simp))

/-! ### Equality -/
mutual
noncomputable def conc (ω : Opq) : AV → AV
  | .oint k e => .int k (dI ω e)
  | .ostr e => .str (dS ω e)
  | .obool e => .bool (dB ω e)
  | .agg cs => .agg (concs ω cs)
  | x => x
noncomputable def concs (ω : Opq) : List AV → List AV
  | [] => []
  | x :: r => conc ω x :: concs ω r
end
theorem concs_map : ∀ l : List AV, concs ω l = l.map (conc ω)
  | [] => rfl
  | x :: r => by simp only [concs, List.map_cons, concs_map r]
mutual
theorem VR_conc : ∀ (x : AV) (v : Value), VR β ω x v → VR β ω (conc ω x) v
  | .oint k e, v, h => by simp only [conc]; exact h
  | .ostr e, v, h => by simp only [conc]; exact h
  | .obool e, v, h => by simp only [conc]; exact h
  | .agg cs, v, h => by
    obtain ⟨xs, rfl, q⟩ := h
    simp only [conc]
    exact ⟨xs, rfl, VRs_conc cs _ q⟩
  | .bool _, v, h => by simp only [conc]; exact h
  | .int _ _, v, h => by simp only [conc]; exact h
  | .str _, v, h => by simp only [conc]; exact h
  | .nilp, v, h => by simp only [conc]; exact h
  | .ptr _ _, v, h => by simp only [conc]; exact h
  | .glob _, v, h => by simp only [conc]; exact h
  | .nils, v, h => by simp only [conc]; exact h
  | .sl _ _ _ _, v, h => by simp only [conc]; exact h
  | .us _ _ _ _, v, h => by simp only [conc]; exact h
  | .es _ _ _, v, h => by simp only [conc]; exact h
  | .es0, v, h => by simp only [conc]; exact h
  | .nilm, v, h => by simp only [conc]; exact h
  | .map _, v, h => by simp only [conc]; exact h
  | .nilf, v, h => by simp only [conc]; exact h
  | .func _ _ _, v, h => by simp only [conc]; exact h
  | .yield _, v, h => by simp only [conc]; exact h
  | .nili, v, h => by simp only [conc]; exact h
  | .iface _ _, v, h => by simp only [conc]; exact h
  | .tup _, v, h => by simp only [conc]; exact h
  | .opq _, v, h => by simp only [conc]; exact h
  | .osl _ _ _ _, v, h => by simp only [conc]; exact h
  | .optr _ _ _ _, v, h => by simp only [conc]; exact h
  | .ous _ _ _, v, h => by simp only [conc]; exact h
  | .atl _, v, h => by simp only [conc]; exact h
  | .any, v, h => by simp only [conc]; exact h
theorem VRs_conc : ∀ (xs : List AV) (vs : List Value), VRs β ω xs vs → VRs β ω (concs ω xs) vs
  | [], vs, h => h
  | x :: r, vs, h => by
    obtain ⟨v, vr, rfl, p, q⟩ := h
    exact ⟨v, vr, rfl, VR_conc x v p, VRs_conc r vr q⟩
end
theorem symI_conc {x : AV} {k : IntKind} {e : SX} (h : symI x = some (k, e)) : conc ω x = .int k (dI ω e) := by
  unfold symI at h
  split at h <;> simp only [Option.some.injEq, Prod.mk.injEq, reduceCtorEq] at h
  · obtain ⟨rfl, rfl⟩ := h; rfl
  · obtain ⟨rfl, rfl⟩ := h; rfl
theorem symS_conc {x : AV} {e : SX} (h : symS x = some e) : conc ω x = .str (dS ω e) := by
  unfold symS at h
  split at h <;> simp only [Option.some.injEq, reduceCtorEq] at h <;> subst h <;> rfl
theorem symB_conc {x : AV} {e : SX} (h : symB x = some e) : conc ω x = .bool (dB ω e) := by
  unfold symB at h
  split at h <;> simp only [Option.some.injEq, reduceCtorEq] at h <;> subst h <;> rfl
variable {P : Program}
theorem partE_conc {t : TypeId} {cs : List AV} {o : Nat} {a : AV} (h : partE P t cs o = some a) : partE P t (concs ω cs) o = some (conc ω a) := by
  unfold partE at h ⊢
  split at h
  · rename_i n h1 h2
    obtain ⟨hc, h⟩ := cond_some h
    simp only [Option.some.injEq] at h; subst h
    rw [concs_map, List.length_map, hc]
    simp only [cond_true, conc, concs_map, List.map_take, List.map_drop]
  · rename_i n h1 h2
    rw [concs_map, List.getElem?_map, h]; rfl
  · cases h
theorem dB_andS (a b : SX) : dB ω (andS a b) = (dB ω a && dB ω b) := by
  have h0 : dB ω (.cb true) = true := rfl
  unfold andS
  split
  · rw [h0]; simp
  · split
    · rw [h0]; simp
    · rfl
theorem eqFieldsS_ok {ihS : TypeId → AV → AV → Option SX} {ih : TypeId → AV → AV → Option Bool} (hih : ∀ t a b e, ihS t a b = some e → ih t (conc ω a) (conc ω b) = some (dB ω e)) {xs ys : List AV} :
    ∀ {fs : List Field} {e : SX}, eqFieldsS P ihS xs ys fs = some e → eqFields P ih (concs ω xs) (concs ω ys) fs = some (dB ω e)
  | [], e, h => by simp only [eqFieldsS, Option.some.injEq] at h; subst h; rfl
  | f :: r, e, h => by
    simp only [eqFieldsS] at h
    simp only [eqFields]
    cases hb : (f.name == "_") with
    | true => rw [hb] at h; exact eqFieldsS_ok hih h
    | false =>
      rw [hb] at h
      simp only [cond_false] at h ⊢
      split at h
      · rename_i a b h1 h2
        split at h
        · rename_i e1 h3
          split at h
          · rename_i e2 h4
            simp only [Option.some.injEq] at h; subst h
            rw [partE_conc h1, partE_conc h2]
            simp only [hih _ _ _ _ h3, dB_andS]
            cases dB ω e1 with
            | true => simp only [Bool.true_and]; exact eqFieldsS_ok hih h4
            | false => rfl
          · cases h
        · cases h
      · cases h
theorem eqStepS_ok {ihS : TypeId → AV → AV → Option SX} {ih : TypeId → AV → AV → Option Bool} (hih : ∀ t a b e, ihS t a b = some e → ih t (conc ω a) (conc ω b) = some (dB ω e)) {t : TypeId} {x y : AV} {e : SX} (h : eqStepS P ihS t x y = some e) :
    eqStep P ih t (conc ω x) (conc ω y) = some (dB ω e) := by
  unfold eqStepS at h
  split at h
  · rename_i ht
    split at h
    · rename_i a b h1 h2
      simp only [Option.some.injEq] at h; subst h
      rw [symB_conc h1, symB_conc h2]
      unfold eqStep
      simp only [ht]
      rfl
    · cases h
  · rename_i k0 ht
    split at h
    · rename_i k a k' b h1 h2
      unfold eqIntS at h
      split at h
      · rename_i hk; subst hk
        simp only [Option.some.injEq] at h; subst h
        rw [symI_conc h1, symI_conc h2]
        unfold eqStep
        simp only [ht, if_true, ieqb_eq]
        rfl
      · cases h
    · cases h
  · rename_i ht
    split at h
    · rename_i a b h1 h2
      simp only [Option.some.injEq] at h; subst h
      rw [symS_conc h1, symS_conc h2]
      unfold eqStep
      simp only [ht, beqB_eq]
      congr 1
      show _ = decide (dS ω a = dS ω b)
      rw [Bool.eq_iff_iff]; simp
    · cases h
  · rename_i fields ht
    split at h
    · rename_i xs ys
      cases hs : P.stoodInHeld t with
      | true => rw [hs] at h; cases h
      | false =>
        rw [hs] at h
        simp only [cond_false] at h
        simp only [conc]
        unfold eqStep
        simp only [ht, hs, cond_false]
        exact eqFieldsS_ok hih h
    · cases h
  · cases h
theorem eqS_ok : ∀ (n : Nat) {t : TypeId} {x y : AV} {e : SX}, eqS P n t x y = some e → eqE P n t (conc ω x) (conc ω y) = some (dB ω e)
  | 0, t, x, y, e, h => by cases h
  | n + 1, t, x, y, e, h => eqStepS_ok (ihS := eqS P n) (ih := eqE P n) (fun t a b e h => eqS_ok n h) h


/-! ### Rows -/
theorem rowV_length (sig : List CT) (r : Val) : (rowV sig r).length = sig.length := by simp [rowV]
theorem flatV_length (sig : List CT) : ∀ l : List Val, (flatV sig l).length = l.length * sig.length
  | [] => by simp [flatV]
  | r :: l => by
    have := flatV_length sig l
    simp only [flatV] at this ⊢
    rw [List.flatMap_cons, List.length_append, rowV_length, this, List.length_cons, Nat.add_mul, Nat.one_mul, Nat.add_comm]
theorem rowV_get {sig : List CT} {r : Val} {j : Nat} (hj : j < sig.length) : (rowV sig r)[j]? = some (cellV (sig.getD j .bool) (r.toL.getD j default)) := by
  simp [rowV, hj]
theorem flatV_get {sig : List CT} {j : Nat} (hj : j < sig.length) : ∀ {l : List Val} {i : Nat}, i < l.length → (flatV sig l)[i * sig.length + j]? = some (cellV (sig.getD j .bool) ((l.getD i (.vl [])).toL.getD j default))
  | [], i, h => by simp at h
  | r :: l, 0, h => by
    simp only [flatV, List.flatMap_cons, Nat.zero_mul, Nat.zero_add]
    rw [List.getElem?_append_left (by rw [rowV_length]; exact hj), rowV_get hj]
    simp
  | r :: l, i + 1, h => by
    simp only [flatV, List.flatMap_cons]
    rw [List.getElem?_append_right (by rw [rowV_length, Nat.add_mul]; omega), rowV_length]
    rw [show (i + 1) * sig.length + j - sig.length = i * sig.length + j by rw [Nat.add_mul]; omega]
    have := flatV_get hj (l := l) (i := i) (by simpa using h)
    simp only [flatV] at this
    rw [this]
    simp
theorem leafE_VR (c : CT) (e : SX) : VR β ω (leafE c e) (cellV c (den ω e)) := by cases c <;> rfl
theorem leafs_VR (sig : List CT) (l idx : SX) : ∀ (n j : Nat), VRs β ω (leafs sig l idx j n) ((List.range' j n).map fun t => cellV (sig.getD t .bool) (getV (dL ω l) (dI ω idx) t))
  | 0, j => rfl
  | n + 1, j => by
    simp only [leafs, List.range'_succ, List.map_cons]
    exact ⟨_, _, rfl, leafE_VR _ _, leafs_VR sig l idx n (j + 1)⟩
theorem HR.arr {b : Nat} {e : Nat} {sig : List CT} {l : SX} {L : Loc} (r : HR β ω K w0 h w) (hg : h.get b = some (.arr e sig l)) (hb : β b = some L) :
    ∃ C lo hi, w.heap[L.blk]? = some (.cells C e (lo, hi)) ∧ L.off + L.ext ≤ C.size ∧ (dL ω l).length * sig.length ≤ L.ext ∧
      (∀ i v, (flatV sig (dL ω l))[i]? = some v → C[L.off + i]? = some v) ∧ (∀ i, i < L.ext → ¬ (lo ≤ L.off + i ∧ L.off + i < hi)) := r.blk b _ L hg hb

theorem eqE_bool {n : Nat} {t : TypeId} {a b : Bool} (hn : 0 < n) (ht : P.underlying t = some .bool) : eqE P n t (.bool a) (.bool b) = some (a == b) := by
  cases n with
  | zero => omega
  | succ n =>
    have h1 : eqE P (n + 1) t (.bool a) (.bool b) = eqStep P (eqE P n) t (.bool a) (.bool b) := rfl
    rw [h1]
    unfold eqStep; simp only [ht]
theorem yAgg_ok {op : BinOp} {t : TypeId} {a b : AV} {vx vy : Value} (r : HR β ω K w0 h w) (rx : VR β ω a vx) (ry : VR β ω b vy) {M : Sem Value} (hM : ∀ u, (binOp op t vx vy).run E.P w = .ok u w → M.run E.P w = .ok u w) :
    SOk E β ω K w0 w h (do pure (.value (← M))) (yAgg E.P op t a b h) := by
  unfold yAgg
  cases a <;> try trivial
  case agg cs =>
    simp only []
    cases he : eqS E.P 10000 t (.agg cs) b with
    | none => trivial
    | some e =>
      have h5 := eqS_ok (ω := ω) 10000 he
      have rx' := VR_conc (ω := ω) _ _ rx
      have ry' := VR_conc (ω := ω) _ _ ry
      have key : ∀ (op' : BinOp) (v : AV), op = op' → binX E.P op' t (conc ω (.agg cs)) (conc ω b) = some v → ∃ u, VR β ω v u ∧ (do pure (.value (← M)) : Sem Next).run E.P w = .ok (.value u) w := by
        rintro op' v rfl hv
        obtain ⟨u, u1, u2⟩ := binX_ok hv rx' ry' (by intro k n hh; simp [conc] at hh) (by intro l hh; simp [conc] at hh)
        exact ⟨u, u1, by simp only [Sem.run_bind, hM u (u2 w), Result.andThen_ok, Sem.run_pure]⟩
      simp only []
      split
      · obtain ⟨u, u1, u2⟩ := key .eql (.bool (dB ω e)) rfl (by simp only [binX, h5, Option.map_some])
        exact SVal.pureV r (v := .obool e) (u := u) u1 u2
      · obtain ⟨u, u1, u2⟩ := key .neq (.bool (!dB ω e)) rfl (by simp only [binX, h5, Option.map_some])
        exact SVal.pureV r (v := .obool (.op .not [e])) (u := u) u1 u2
      · trivial
/-! ### Each operation -/
theorem yBin2_ok (r : HR β ω K w0 h w) (o : OpR β ω ρA ρ) (op : BinOp) (t : TypeId) (x y : Operand) :
    SOk E β ω K w0 w h (do pure (.value (← (do eqGuard op t x y (ρ x) (ρ y); binOp op t (ρ x) (ρ y) : Sem Value)))) (yBin2 E.P op t x y h (ρA x) (ρA y)) := by
  cases hx : ρA x with
  | none => trivial
  | some a =>
    cases hy : ρA y with
    | none => trivial
    | some b =>
      simp only [yBin2]
      cases hg : guardOk E.P op t x y a b with
      | false => trivial
      | true =>
        have hgr := guardOk_ok hg (o x a hx) (o y b hy)
        have rx := o x a hx
        have ry := o y b hy
        have hM : ∀ u, (binOp op t (ρ x) (ρ y)).run E.P w = .ok u w → (do eqGuard op t x y (ρ x) (ρ y); binOp op t (ρ x) (ρ y) : Sem Value).run E.P w = .ok u w := by
          intro u hu; simp only [Sem.run_bind, hgr, Result.andThen_ok, hu]
        simp only [cond_true]
        unfold yBin
        split
        · rename_i k ea k' eb h1 h2
          refine yInt_ok (t := t) r fun u hu => hM u ?_
          rw [symI_ok h1 rx, symI_ok h2 ry]; exact hu
        · split
          · rename_i ea eb h1 h2
            refine yStr_ok (t := t) r fun u hu => hM u ?_
            rw [symS_ok h1 rx, symS_ok h2 ry]; exact hu
          · split
            · rename_i ea eb h1 h2
              have e1 := symB_ok h1 rx
              have e2 := symB_ok h2 ry
              have hbt : ∀ {c : Bool} {s : Res}, (bif c then s else .bad) = s ∨ (bif c then s else .bad) = .bad := by intro c s; cases c <;> simp
              unfold yBool
              split
              · cases hb : boolT E.P t with
                | false => trivial
                | true =>
                  have ht : E.P.underlying t = some .bool := by
                    unfold boolT at hb; split at hb
                    · assumption
                    · cases hb
                  refine SVal.pureV r (u := .bool (dB ω ea == dB ω eb)) rfl ?_
                  have hrun := eqE_ok (P := E.P) (β := β) (ω := ω) 10000 (t := t) (a := .bool (dB ω ea)) (b := .bool (dB ω eb)) (r := dB ω ea == dB ω eb) (eqE_bool (by omega) ht) e1 e2 w
                  have h3 := hM (.bool (dB ω ea == dB ω eb)) (by
                    rw [e1, e2, binOp_eql _ _ _ rfl]
                    rw [e1, e2] at hrun
                    simp only [Op.equal, Op.maxDepth, Sem.run_bind, hrun, Result.andThen_ok, Sem.run_pure])
                  simp only [Sem.run_bind, Result.andThen_ok, Sem.run_pure] at h3 ⊢
                  simp only [h3, Result.andThen_ok]
              · cases hb : boolT E.P t with
                | false => trivial
                | true =>
                  have ht : E.P.underlying t = some .bool := by
                    unfold boolT at hb; split at hb
                    · assumption
                    · cases hb
                  refine SVal.pureV r (u := .bool (!(dB ω ea == dB ω eb))) rfl ?_
                  have hrun := eqE_ok (P := E.P) (β := β) (ω := ω) 10000 (t := t) (a := .bool (dB ω ea)) (b := .bool (dB ω eb)) (r := dB ω ea == dB ω eb) (eqE_bool (by omega) ht) e1 e2 w
                  have h3 := hM (.bool (!(dB ω ea == dB ω eb))) (by
                    rw [e1, e2, binOp_neq _ _ _ rfl]
                    rw [e1, e2] at hrun
                    simp only [Op.equal, Op.maxDepth, Sem.run_bind, hrun, Result.andThen_ok, Sem.run_pure])
                  simp only [Sem.run_bind, Result.andThen_ok, Sem.run_pure] at h3 ⊢
                  simp only [h3, Result.andThen_ok]
              · trivial
            · exact yAgg_ok r rx ry hM


theorem yUn_ok (r : HR β ω K w0 h w) (o : OpR β ω ρA ρ) (op : UnOp) (x : Operand) : SOk E β ω K w0 w h (do pure (.value (← Op.unary op (ρ x)))) (yUn op h (ρA x)) := by
  have key : ∀ {a v : AV} {s : AV}, VR β ω a (ρ x) → unE op (conc ω a) = some v → (∀ u, VR β ω v u → VR β ω s u) → SVal E β ω K w0 w h (do pure (.value (← Op.unary op (ρ x)))) s h := by
    intro a v s ra hv hs
    obtain ⟨u, u1, u2⟩ := unE_ok (P := E.P) hv (VR_conc _ _ ra)
    exact SVal.pureV r (hs u u1) (by simp only [Sem.run_bind, u2, Result.andThen_ok, Sem.run_pure])
  unfold yUn
  split
  · rename_i e he
    split
    · exact key (o x _ he) rfl fun u hu => hu
    · trivial
  · rename_i k e he
    split
    · refine key (o x _ he) rfl fun u hu => ?_
      rw [show u = _ from hu, wrapE_eq]; rfl
    · refine key (o x _ he) rfl fun u hu => ?_
      rw [show u = _ from hu, wrapE_eq]; rfl
    · trivial
  · trivial

theorem yConv_ok (r : HR β ω K w0 h w) (o : OpR β ω ρA ρ) (s d : TypeId) (x : Operand) : SOk E β ω K w0 w h (do pure (.value (← convert s d (ρ x)))) (yConv E.P s d h (ρA x)) := by
  unfold yConv
  split
  · rename_i sd k hs hd
    split
    · rename_i k' e he
      have hv := o x _ he
      simp only [VR] at hv
      refine SVal.pureV r (u := .int k (k.wrap (dI ω e))) rfl ?_
      simp only [hv, convert, Sem.run_bind, run_under hs, run_under hd, Result.andThen_ok]
      rfl
    · trivial
  · rename_i sd hs hd
    split
    · rename_i e he
      have hv := o x _ he
      refine SVal.pureV r (u := ρ x) hv ?_
      simp only [VR] at hv
      simp only [hv, convert, Sem.run_bind, run_under hs, run_under hd, Result.andThen_ok, Sem.run_pure]
    · trivial
  · trivial

theorem iteB_ok (ω : Opq) (e x y : SX) : dB ω (iteB e x y) = bif dB ω e then dB ω x else dB ω y := by
  have gen : dB ω (.op .ite [e, x, y]) = bif dB ω e then dB ω x else dB ω y := by
    show Val.toB (bif (den ω e).toB then den ω x else den ω y) = _
    unfold dB
    cases (den ω e).toB <;> rfl
  unfold iteB
  split
  · show _ = bif dB ω e then true else false
    cases dB ω e <;> rfl
  · show (!(dB ω e)) = bif dB ω e then false else true
    cases dB ω e <;> rfl
  · exact gen
theorem yPick_ok (r : HR β ω K w0 h w) (o : OpR β ω ρA ρ) (c a b : Operand) : SOk E β ω K w0 w h (do pure (.value (if ← asBool (ρ c) then ρ a else ρ b))) (yPick h (ρA c) (ρA a) (ρA b)) := by
  unfold yPick
  split
  · rename_i e he
    have hc := o c _ he
    simp only [VR] at hc
    unfold yPickV
    split
    · rename_i y hx hy
      intro hn
      have hn : (!(dB ω e)) = true := hn
      have hf : dB ω e = false := by simpa using hn
      refine SVal.pureV r (u := ρ b) (o b _ hy) ?_
      rw [hc, hf]; rfl
    · rename_i x _ hx hy _
      intro hn
      refine SVal.pureV r (u := ρ a) (o a _ ‹_›) ?_
      rw [hc, hn]; rfl
    · unfold yPickS
      split
      · rename_i x y hx hy
        obtain ⟨a1, h1, h2⟩ := Option.bind_eq_some_iff.1 hx
        obtain ⟨b1, h3, h4⟩ := Option.bind_eq_some_iff.1 hy
        have ha := symB_ok h2 (o a _ h1)
        have hb := symB_ok h4 (o b _ h3)
        refine SVal.pureV r (u := .bool (bif dB ω e then dB ω x else dB ω y)) ?_ ?_
        · show _ = Value.bool (dB ω (iteB e x y))
          rw [iteB_ok]
        · rw [hc, ha, hb]
          cases dB ω e <;> rfl
      · trivial
  · trivial

theorem yLoad_ok (r : HR β ω K w0 h w) (o : OpR β ω ρA ρ) (t : TypeId) (x : Operand) : SOk E β ω K w0 w h (do pure (.value (← Instr.loadAt t (ρ x)))) (yLoad E.P t h (ρA x)) := by
  unfold yLoad
  split
  · rename_i b idx j sz hx
    have hv := o x _ hx
    simp only [VR] at hv
    obtain ⟨L, hL, hv⟩ := hv
    split
    · rename_i el sig l hg
      obtain ⟨C, lo, hi, q1, q2, q3, q4, q5⟩ := r.arr hg hL
      have cell : ∀ (m : Nat), m < sig.length → sig.length = sz → 0 ≤ dI ω idx → dI ω idx < dI ω (.op .llen [l]) →
          w.cell? ⟨L.blk, L.off + (dI ω idx).toNat * sz + m, none⟩ = some (cellV (sig.getD m .bool) (getV (dL ω l) (dI ω idx) m)) := by
        intro m hm hs h0 h1
        rw [cell_of q1]
        rw [dI_llen] at h1
        have hlt : (dI ω idx).toNat < (dL ω l).length := by omega
        have := flatV_get (sig := sig) (j := m) hm hlt
        rw [hs] at this
        have := q4 _ _ this
        rw [show L.off + (dI ω idx).toNat * sz + m = L.off + ((dI ω idx).toNat * sz + m) by omega, this]
        simp [getV]
      split
      · rename_i n h1 h2
        cases hc : (Nat.beq sig.length sz && Nat.ble (j + n) sz) with
        | false => trivial
        | true =>
          obtain ⟨c1, c2⟩ := and_t hc
          rw [beq_iff'] at c1
          rw [ble_iff] at c2
          intro hd
          obtain ⟨g1, g2⟩ := idxIn_ok hd
          refine SVal.pureV r (u := .agg ((List.range' j n).map fun t => cellV (sig.getD t .bool) (getV (dL ω l) (dI ω idx) t)).toArray) ⟨_, rfl, leafs_VR sig l idx n j⟩ ?_
          have hload := run_loadCells_list (P := E.P) w ⟨L.blk, L.off + (dI ω idx).toNat * sz + j, none⟩ ((List.range' j n).map fun t => cellV (sig.getD t .bool) (getV (dL ω l) (dI ω idx) t)) (fun i v hi => by
            rw [add_mk]
            rw [List.getElem?_map] at hi
            have hin : i < n := by
              rcases Nat.lt_or_ge i n with hh | hh
              · exact hh
              · rw [List.getElem?_eq_none (by simpa using hh)] at hi; cases hi
            rw [List.getElem?_range' hin] at hi
            simp only [Option.map_some, Option.some.injEq] at hi
            rw [← hi, show L.off + (dI ω idx).toNat * sz + j + i = L.off + (dI ω idx).toNat * sz + (j + 1 * i) by omega]
            exact cell (j + 1 * i) (by omega) c1 g1 g2)
          simp only [List.length_map, List.length_range'] at hload
          rw [hv]
          simp only [Instr.loadAt, Instr.sureAddr, Sem.run_bind, Sem.run_pure, Result.andThen_ok, loadVar, run_aggT h1, if_true, run_szOf h2, hload]
      · rename_i n h1 h2
        cases hc : (Nat.beq sig.length sz && Nat.blt j sz) with
        | false => trivial
        | true =>
          obtain ⟨c1, c2⟩ := and_t hc
          rw [beq_iff'] at c1
          rw [blt_iff] at c2
          intro hd
          obtain ⟨g1, g2⟩ := idxIn_ok hd
          refine SVal.pureV r (leafE_VR _ _) ?_
          rw [hv]
          have := cell j (by omega) c1 g1 g2
          simp only [Instr.loadAt, Instr.sureAddr, Sem.run_bind, Sem.run_pure, Result.andThen_ok, loadVar, run_aggT h1, Bool.false_eq_true, if_false]
          simp only [run_load, this, Result.andThen_ok, Sem.run_pure]
          rfl
      · trivial
    · trivial
  · trivial

theorem yFieldAddr_ok (r : HR β ω K w0 h w) (o : OpR β ω ρA ρ) (s : TypeId) (f : Nat) (x : Operand) : SOk E β ω K w0 w h (do pure (.value (← Instr.fieldAt s (ρ x) f))) (yFieldAddr E.P s f h (ρA x)) := by
  unfold yFieldAddr
  split
  · rename_i fields b idx j sz ht hx
    have hv := o x _ hx
    simp only [VR] at hv
    obtain ⟨L, hL, hv⟩ := hv
    split
    · rename_i fd hf
      split
      · rename_i n hs
        refine SVal.pureV r ⟨L, hL, rfl⟩ ?_
        simp only [hv, Instr.fieldAt, Sem.run_bind, run_under ht, Result.andThen_ok, hf, Instr.sureAddr, Sem.run_pure, fieldPlace, run_szOf hs]
        simp [add_mk, Nat.add_assoc]
      · trivial
    · trivial
  · trivial

theorem yIndexAddr_ok (r : HR β ω K w0 h w) (o : OpR β ω ρA ρ) (t : TypeId) (x i : Operand) : SOk E β ω K w0 w h (do pure (.value (← Instr.indexAt t (ρ x) (ρ i)))) (yIndexAddr E.P t h (ρA x) (ρA i)) := by
  have run : ∀ {elem s : Nat} {k : IntKind} {n : Int} {a : Addr} {len : Int} {cap : Nat}, E.P.underlying t = some (.slice elem) → szOf E.P elem = some s → ρ i = .int k n → ρ x = .slice (some a) len.toNat cap → 0 ≤ n → n < len →
      (do pure (.value (← Instr.indexAt t (ρ x) (ρ i))) : Sem Next).run E.P w = .ok (.value (.pointer (some (a.add (n.toNat * s))))) w := by
    intro elem s k n a len cap ht hs hi hx h1 h2
    have hc : (0 : Int) ≤ n ∧ n < (len.toNat : Int) := by omega
    rw [hi, hx]
    simp only [Instr.indexAt, Sem.run_bind, asIntOf, Sem.run_pure, run_under ht, Result.andThen_ok, Instr.sureAddr, if_pos hc, run_szOf hs]
  unfold yIndexAddr
  split
  · rename_i elem ht
    split
    · rename_i s hs
      split
      · rename_i k i' hi
        obtain ⟨ai, g1, g2⟩ := Option.bind_eq_some_iff.1 hi
        have hvi := symI_ok g2 (o i _ g1)
        split
        · rename_i b off len sz hx
          have hv := o x _ hx
          cases hc : Nat.beq s sz with
          | false => trivial
          | true =>
            obtain rfl := beq_iff'.1 hc
            intro hd
            rw [dB_and] at hd
            obtain ⟨d1, d2⟩ := and_t hd
            obtain ⟨e1, e2⟩ := idxIn_ok d2
            have d1 : 0 ≤ dI ω off := of_decide_eq_true d1
            simp only [VR] at hv
            rcases hv with ⟨L, cap, a, hL, hv, hcap, ha⟩ | ⟨hv, h0⟩
            · have ha := ha (by omega)
              refine SVal.pureV r ⟨L, hL, ?_⟩ (run ht hs hvi hv e1 e2)
              rw [ha, add_mk, dI_sum, Int.toNat_add d1 e1, Nat.add_mul]
              simp [Nat.add_assoc]
            · omega
        · rename_i b len sz hx
          have hv := o x _ hx
          cases hc : Nat.beq s sz with
          | false => trivial
          | true =>
            obtain rfl := beq_iff'.1 hc
            intro hd
            obtain ⟨e1, e2⟩ := idxIn_ok hd
            simp only [VR] at hv
            rcases hv with ⟨L, cap, hL, hcap, hv, _⟩ | ⟨hv, h0⟩
            · refine SVal.pureV r ⟨L, hL, ?_⟩ (run ht hs hvi hv e1 e2)
              rw [add_mk]; simp
            · omega
        · trivial
      · trivial
    · trivial
  · trivial

theorem natOf_cast (m : Nat) : natOf (m : Int) = some m := rfl
theorem yIndex_ok (r : HR β ω K w0 h w) (o : OpR β ω ρA ρ) (t : TypeId) (x i : Operand) : SOk E β ω K w0 w h (do pure (.value (← Instr.index t (ρ x) (ρ i)))) (yIndex E.P t h (ρA x) (ρA i)) := by
  unfold yIndex
  split
  · rename_i s k i' ht hx hi
    obtain ⟨ax, g3, g4⟩ := Option.bind_eq_some_iff.1 hx
    obtain ⟨ai, g1, g2⟩ := Option.bind_eq_some_iff.1 hi
    have hvi := symI_ok g2 (o i _ g1)
    have hvx := symS_ok g4 (o x _ g3)
    intro hd
    obtain ⟨e1, e2⟩ := idxIn_ok hd
    rw [dI_slen] at e2
    obtain ⟨m, hm⟩ : ∃ m : Nat, dI ω i' = m := ⟨(dI ω i').toNat, by omega⟩
    have hlt : m < (dS ω s).length := by omega
    obtain ⟨u, u1, u2⟩ := indexE_ok (P := E.P) (β := β) (ω := ω) (t := t) (x := .str (dS ω s)) (i := .int k (m : Int)) (a := .int .u8 ((dS ω s)[m].toNat : Int)) (by
      unfold indexE
      simp only [natOf_cast, ht, List.getElem?_eq_getElem hlt, Option.map_some]) (vx := .string ⟨(dS ω s).toArray⟩) (vi := .int k (m : Int)) rfl rfl
    refine SVal.pureV r (u := u) ?_ (by rw [hvx, hvi, hm]; simp only [Sem.run_bind, u2, Result.andThen_ok, Sem.run_pure])
    rw [show u = _ from u1]
    show _ = Value.int .u8 _
    congr 1
    show _ = (((dS ω s).getD (dI ω i').toNat 0).toNat : Int)
    rw [hm]
    simp [List.getD_eq_getElem?_getD, List.getElem?_eq_getElem hlt]
  · trivial


theorem lenRun {ts : Array TypeId} {ty : TypeId} {cs : Array Bool} {v : Value} {n : Nat} {t : TypeDesc} (ht : (ts[0]?).bind E.P.underlying = some t) (hk : (t = .string ∧ ∃ s, v = .string s ∧ s.size = n) ∨ ∃ e a c, t = .slice e ∧ v = .slice a n c) :
    (builtin .len ts ty cs #[v]).run E.P w = .ok (.value (.int .i64 n)) w := by
  simp only [Option.bind_eq_some_iff] at ht
  obtain ⟨t0, h0, ht⟩ := ht
  show (do pure (.value (← Builtin.len_ ts ty #[v])) : Sem Next).run E.P w = _
  rcases hk with ⟨rfl, s, rfl, rfl⟩ | ⟨e, a, c, rfl, rfl⟩
  · simp [Builtin.len_, h0, run_under ht]
    rfl
  · simp [Builtin.len_, h0, run_under ht]
    rfl
theorem yLen_ok (r : HR β ω K w0 h w) {a : AV} {v : Value} (rv : VR β ω a v) (ts : Array TypeId) (ty : TypeId) (cs : Array Bool) :
    SOk E β ω K w0 w h (builtin .len ts ty cs #[v]) (yLen E.P ((ts[0]?).bind E.P.underlying) h a) := by
  unfold yLen
  split
  · rename_i ht
    split
    · rename_i e
      simp only [VR] at rv; subst rv
      exact SVal.pureV r (u := .int .i64 ((dS ω e).length : Nat)) rfl (lenRun ht (.inl ⟨rfl, _, rfl, by simp [ByteArray.size]⟩))
    · trivial
  · rename_i el ht
    split
    · rename_i b off len sz
      intro hd
      have hd : 0 ≤ dI ω len := of_decide_eq_true hd
      refine SVal.pureV r (u := .int .i64 ((dI ω len).toNat : Nat)) ?_ (lenRun ht (.inr ?_))
      · show _ = Value.int .i64 (dI ω len)
        congr 1; omega
      · simp only [VR] at rv
        rcases rv with ⟨L, cap, a, _, rfl, _⟩ | ⟨rfl, h0⟩
        · exact ⟨_, _, _, rfl, rfl⟩
        · rw [h0]; exact ⟨_, _, _, rfl, rfl⟩
    · rename_i b len sz
      intro hd
      have hd : 0 ≤ dI ω len := of_decide_eq_true hd
      refine SVal.pureV r (u := .int .i64 ((dI ω len).toNat : Nat)) ?_ (lenRun ht (.inr ?_))
      · show _ = Value.int .i64 (dI ω len)
        congr 1; omega
      · simp only [VR] at rv
        rcases rv with ⟨L, cap, _, _, rfl, _⟩ | ⟨rfl, h0⟩
        · exact ⟨_, _, _, rfl, rfl⟩
        · rw [h0]; exact ⟨_, _, _, rfl, rfl⟩
    · trivial
  · trivial


theorem yMM_ok (hfx : ∀ t, ω.fix t = fixT E.P t) (r : HR β ω K w0 h w) {a c : AV} {va vc : Value} (ra : VR β ω a va) (rc : VR β ω c vc) (b : Builtin) (ts : Array TypeId) (ty : TypeId) (cs : Array Bool) :
    SOk E β ω K w0 w h (builtin b ts ty cs #[va, vc]) (yMM b a c h) := by
  unfold yMM
  split
  · rename_i k ea k' ec h1 h2
    have e1 := symI_ok h1 ra
    have e2 := symI_ok h2 rc
    split
    · obtain ⟨β', u, w', q1, q2, q3, q4⟩ := builtinE_ok (P := E.P) (b := .max) (ts := ts) (ty := ty) (cs := cs) (args := [.int k (dI ω ea), .int k' (dI ω ec)]) (us := #[va, vc]) (a := .int k (bif iltb (dI ω ea) (dI ω ec) then dI ω ec else dI ω ea)) (h' := h) hfx r rfl ⟨va, [vc], rfl, e1, vc, [], rfl, e2, rfl⟩
      obtain ⟨_, _, _, p1, p2, _⟩ : ∃ (a b c : Unit), (builtin .max ts ty cs #[va, vc]).run E.P w = .ok (.value u) w' ∧ u = .int k (bif iltb (dI ω ea) (dI ω ec) then dI ω ec else dI ω ea) ∧ True := ⟨(), (), (), q1, q2, trivial⟩
      refine ⟨β', u, w', .inl q1, ?_, q3, q4⟩
      rw [p2]
      show _ = Value.int k (max (dI ω ea) (dI ω ec))
      rw [iltb_eq]
      by_cases hh : dI ω ea < dI ω ec
      · simp [hh]; omega
      · simp [hh]; omega
    · obtain ⟨β', u, w', q1, q2, q3, q4⟩ := builtinE_ok (P := E.P) (b := .min) (ts := ts) (ty := ty) (cs := cs) (args := [.int k (dI ω ea), .int k' (dI ω ec)]) (us := #[va, vc]) (a := .int k (bif iltb (dI ω ec) (dI ω ea) then dI ω ec else dI ω ea)) (h' := h) hfx r rfl ⟨va, [vc], rfl, e1, vc, [], rfl, e2, rfl⟩
      refine ⟨β', u, w', .inl q1, ?_, q3, q4⟩
      rw [show u = _ from q2]
      show _ = Value.int k (min (dI ω ea) (dI ω ec))
      rw [iltb_eq]
      by_cases hh : dI ω ec < dI ω ea
      · simp [hh]; omega
      · simp [hh]; omega
    · trivial
  · trivial

/-! ### append -/
theorem unleaf_ok {c : CT} {v : AV} {e : SX} {u : Value} (h : unleaf c v = some e) (r : VR β ω v u) : u = cellV c (den ω e) := by
  unfold unleaf at h
  split at h
  · split at h
    · rename_i k k' e' hs
      split at h
      · rename_i hk; subst hk
        simp only [Option.some.injEq] at h; subst h
        exact symI_ok hs r
      · cases h
    · cases h
  · exact symS_ok h r
  · exact symB_ok h r
theorem unleafs_ok : ∀ {sig : List CT} {vs : List AV} {es : List SX} {us : List Value}, unleafs sig vs = some es → VRs β ω vs us → us = rowV sig (.vl (dens ω es))
  | [], [], es, us, h, r => by
    simp only [unleafs, Option.some.injEq] at h; subst h
    rw [show us = [] from r]; rfl
  | c :: sig, v :: vs, es, us, h, ⟨u, ur, e, r1, r2⟩ => by
    simp only [unleafs] at h
    split at h
    · rename_i e1 e2 h1 h2
      simp only [Option.some.injEq] at h; subst h
      rw [e, unleaf_ok h1 r1, unleafs_ok h2 r2]
      simp only [rowV, Val.toL, List.length_cons, List.range_succ_eq_map, List.map_cons, List.map_map, dens]
      congr 1
    · cases h
  | [], _ :: _, es, us, h, r => by simp [unleafs] at h
  | _ :: _, [], es, us, h, r => by simp [unleafs] at h
theorem rowsC_ok {sig : List CT} {sz : Nat} : ∀ {n : Nat} {cs : List AV} {rs : List SX} {us : List Value}, rowsC sig sz n cs = some rs → cs.length = n * sz → VRs β ω cs us → us = flatV sig (dens ω rs) ∧ (dens ω rs).length = n
  | 0, cs, rs, us, h, hl, r => by
    simp only [rowsC, Option.some.injEq] at h; subst h
    have : us = [] := by have := r.length; rw [hl] at this; simpa using this
    subst this; exact ⟨rfl, rfl⟩
  | n + 1, cs, rs, us, h, hl, r => by
    simp only [rowsC] at h
    split at h
    · rename_i e rs' h1 h2
      simp only [Option.some.injEq] at h; subst h
      have g1 := unleafs_ok h1 (r.take sz)
      have g2 := rowsC_ok h2 (by rw [List.length_drop, hl, Nat.add_mul]; omega) (r.drop sz)
      refine ⟨?_, by simp only [dens, List.length_cons, g2.2]⟩
      rw [← List.take_append_drop sz us, g1, g2.1]
      simp only [dens, flatV, List.flatMap_cons]
      rfl
    · cases h
/-- The cells of rows. -/
theorem HR.arrCells {b e sz : Nat} {sig : List CT} {l : SX} {L : Loc} (r : HR β ω K w0 h w) (hg : h.get b = some (.arr e sig l)) (hb : β b = some L) (hsz : sig.length = sz) (o n : Nat) (hn : o + n ≤ (dL ω l).length) :
    ∀ j v, (flatV sig (((dL ω l).drop o).take n))[j]? = some v → w.cell? ⟨L.blk, L.off + o * sz + j, none⟩ = some v := by
  intro j v hj
  obtain ⟨C, lo, hi, q1, q2, q3, q4, q5⟩ := r.arr hg hb
  rw [cell_of q1, show L.off + o * sz + j = L.off + (o * sz + j) by omega]
  apply q4
  have e1 : dL ω l = (dL ω l).take o ++ (((dL ω l).drop o).take n ++ ((dL ω l).drop o).drop n) := by
    rw [List.take_append_drop, List.take_append_drop]
  have e2 : ∀ a b : List Val, flatV sig (a ++ b) = flatV sig a ++ flatV sig b := fun a b => by simp [flatV, List.flatMap_append]
  rw [e1, e2, e2]
  have hl : (flatV sig ((dL ω l).take o)).length = o * sz := by rw [flatV_length, List.length_take, hsz]; congr 1; omega
  rw [List.getElem?_append_right (by omega), hl, show o * sz + j - o * sz = j by omega]
  rw [List.getElem?_append_left]
  · exact hj
  · rcases Nat.lt_or_ge j (flatV sig (((dL ω l).drop o).take n)).length with hh | hh
    · exact hh
    · rw [List.getElem?_eq_none hh] at hj; cases hj
theorem flatV_one (sig : List CT) (l : List Val) : ∀ u ∈ flatV sig l, u.oneCell' = true := by
  intro u hu
  simp only [flatV, List.mem_flatMap, rowV, List.mem_map] at hu
  obtain ⟨r, _, j, _, rfl⟩ := hu
  unfold cellV
  split <;> rfl
theorem yRows_ok {P : Program} {s : Nat} {y : AV} {sig : List CT} {nd ly : SX} {vy : Value} {yt e' : TypeId} (r : HR β ω K w0 h w) (hyt : P.underlying yt = some (.slice e')) (hs : sig.length = s) (e : yRows s y h = some (sig, nd, ly)) (hd : dB ω nd = true) (ry : VR β ω y vy) :
    Src P s yt vy (dL ω ly).length (flatV sig (dL ω ly)) w := by
  have mk : ∀ (a : Addr) (n c : Nat), vy = .slice (some a) n c → n = (dL ω ly).length → (∀ j v, (flatV sig (dL ω ly))[j]? = some v → w.cell? (a.add j) = some v) → Src P s yt vy (dL ω ly).length (flatV sig (dL ω ly)) w := by
    intro a n c hv hn hc
    refine ⟨.inl ⟨_, hyt⟩, fun w' => by rw [hv, ← hn]; rfl, ?_, ?_, by rw [flatV_length, hs], flatV_one _ _⟩
    · rw [hv, ← hn]
      exact run_firstCells_some w s n a n c _ (by rw [flatV_length, hs, hn]) hc
    · rw [hv, ← hn]
      exact run_firstCells_some w.drew s n a n c _ (by rw [flatV_length, hs, hn]) hc
  have mk0 : vy = .slice none 0 0 → (dL ω ly).length = 0 → Src P s yt vy (dL ω ly).length (flatV sig (dL ω ly)) w := by
    intro hv hn
    have : dL ω ly = [] := List.eq_nil_of_length_eq_zero hn
    rw [this]
    refine ⟨.inl ⟨_, hyt⟩, fun w' => by rw [hv]; rfl, ?_, ?_, by simp [flatV], by simp [flatV]⟩
    · rw [hv]; exact run_firstCells_none w _ _ _ _
    · rw [hv]; exact run_firstCells_none w.drew _ _ _ _
  unfold yRows at e
  split at e
  · rename_i b len s'
    split at e
    · rename_i el sig' l hg
      replace e := cond_some e
      obtain ⟨hc, e⟩ := e
      obtain ⟨c1, c2⟩ := and_t hc
      obtain rfl := beq_iff'.1 c1
      rw [beq_iff'] at c2
      simp only [Option.some.injEq, Prod.mk.injEq] at e
      obtain ⟨rfl, rfl, rfl⟩ := e
      have hlen : dI ω len = ((dL ω l).length : Int) := by
        have : decide (dI ω len = dI ω (.op .llen [l])) = true := hd
        rw [decide_eq_true_eq, dI_llen] at this; exact this
      simp only [VR] at ry
      rcases ry with ⟨L, cap, hL, hcap, hv, _⟩ | ⟨hv, h0⟩
      · refine mk _ _ cap hv (by omega) fun j v hj => ?_
        have := r.arrCells hg hL c2 0 (dL ω l).length (by omega) j v (by simpa using hj)
        rw [add_mk]; simpa using this
      · exact mk0 hv (by omega)
    · cases e
  · rename_i b off len s'
    split at e
    · rename_i el sig' l hg
      replace e := cond_some e
      obtain ⟨hc, e⟩ := e
      obtain ⟨c1, c2⟩ := and_t hc
      obtain rfl := beq_iff'.1 c1
      rw [beq_iff'] at c2
      simp only [Option.some.injEq, Prod.mk.injEq] at e
      obtain ⟨rfl, rfl, rfl⟩ := e
      rw [dB_and, dB_and] at hd
      obtain ⟨d1, d2⟩ := and_t hd
      obtain ⟨d2, d3⟩ := and_t d2
      have d1 : 0 ≤ dI ω off := of_decide_eq_true d1
      have d2 : 0 ≤ dI ω len := of_decide_eq_true d2
      have d3 : dI ω off + dI ω len ≤ ((dL ω l).length : Int) := of_decide_eq_true d3
      have hll : dL ω (.op .lsub [l, off, .op .iadd [off, len]]) = ((dL ω l).drop (dI ω off).toNat).take (dI ω len).toNat := by
        show ((dL ω l).drop (dI ω off).toNat).take (dI ω off + dI ω len - dI ω off).toNat = _
        congr 2; omega
      have hln : (dL ω (.op .lsub [l, off, .op .iadd [off, len]])).length = (dI ω len).toNat := by
        rw [hll, List.length_take, List.length_drop]; omega
      simp only [VR] at ry
      rcases ry with ⟨L, cap, a, hL, hv, hcap, ha⟩ | ⟨hv, h0⟩
      · by_cases hz : dI ω len = 0
        · refine mk a _ cap hv hln.symm fun j v hj => ?_
          have hnil : dL ω (.op .lsub [l, off, .op .iadd [off, len]]) = [] := List.eq_nil_of_length_eq_zero (by rw [hln]; omega)
          rw [hnil] at hj; simp [flatV] at hj
        · have ha := ha (by omega)
          refine mk a _ cap hv hln.symm fun j v hj => ?_
          rw [hll] at hj
          have := r.arrCells hg hL c2 (dI ω off).toNat (dI ω len).toNat (by omega) j v hj
          rw [ha, add_mk]; exact this
      · exact mk0 hv (by rw [hln]; omega)
    · cases e
  · rename_i b o n c
    split at e
    · rename_i el fz cs hg
      replace e := cond_some e
      obtain ⟨hc, e⟩ := e
      obtain ⟨c1, c2⟩ := and_t hc
      rw [ble_iff] at c1
      split at e
      · rename_i sig' hsig
        split at e
        · rename_i rs hrs
          simp only [Option.some.injEq, Prod.mk.injEq] at e
          obtain ⟨rfl, rfl, rfl⟩ := e
          simp only [VR] at ry
          obtain ⟨L, hL, hv⟩ := ry
          obtain ⟨us, u1, u2, u3⟩ := read_cells r hg hL c1
          obtain ⟨g1, g2⟩ := rowsC_ok hrs (by simp; omega) u1
          refine mk _ n c hv g2.symm fun j v hj => ?_
          rw [add_mk]
          exact u3 j v (by rw [g1]; exact hj)
        · cases e
      · cases e
    · cases e
  · cases e
theorem Src.nil_ {P : Program} {s : Nat} {yt : TypeId} {x : Value} {news : List Value} (h : Src P s yt x 0 news w) : news = [] := List.eq_nil_of_length_eq_zero (by simpa using h.newsLen)
/-- A new row of symbols. -/
theorem sigBeq_eq' : ∀ {a b : List CT}, sigBeq a b = true → a = b
  | [], [], _ => rfl
  | [], _ :: _, h => by cases h
  | _ :: _, [], h => by cases h
  | a :: x, b :: y, h => by
    simp only [sigBeq, Bool.and_eq_true, decide_eq_true_eq] at h
    rw [h.1, sigBeq_eq' h.2]
theorem HR.lay (r : HR β ω K w0 h w) (x : Blk) : HR β ω K w0 (h.new x) w := by
  have hn : ∀ b y, (h.new x).get b = some y → β b ≠ none → h.get b = some y := by
    intro b y hg hb
    rw [Heap.get_new] at hg
    by_cases e : b = h.next
    · subst e; exact absurd (r.fresh _ (Nat.le_refl _)) hb
    · rw [if_neg e] at hg; exact hg
  refine ⟨fun b y L hg hb => r.blk b y L (hn b y hg (by rw [hb]; simp)) hb, fun b b' y y' L L' g g' m m' hne => r.sep b b' y y' L L' (hn b y g (by rw [m]; simp)) (hn b' y' g' (by rw [m']; simp)) m m' hne,
    fun b hb => r.fresh b (by simp only [Heap.next_new] at hb; omega), fun b hb => ?_, r.lt, r.kin, r.keep, fun b y L hg hw hb => r.free b y L (hn b y hg (by rw [hb]; simp)) hw hb, r.size, r.os, r.tape, r.out⟩
  simp only [Heap.next_new] at hb
  rw [Heap.get_new, if_neg (by omega)]; exact r.fget b (by omega)

theorem avs (ω : Opq) (sig : List CT) (l : List Val) : ∃ cs : List AV, (∀ β : Bij, VRs β ω cs (flatV sig l)) ∧ cs.all AV.one = true ∧ cs.length = (flatV sig l).length ∧ ∀ (β : Bij) vs, VRs β ω cs vs → vs = flatV sig l := by
  have : ∀ us : List Value, (∀ u ∈ us, ∃ a : AV, (∀ β : Bij, VR β ω a u) ∧ a.one = true ∧ ∀ (β : Bij) v, VR β ω a v → v = u) → ∃ cs : List AV, (∀ β : Bij, VRs β ω cs us) ∧ cs.all AV.one = true ∧ cs.length = us.length ∧ ∀ (β : Bij) vs, VRs β ω cs vs → vs = us := by
    intro us
    induction us with
    | nil => intro _; exact ⟨[], fun _ => rfl, rfl, rfl, fun _ vs h => h⟩
    | cons u us ih =>
      intro hh
      obtain ⟨a, a1, a2, a3⟩ := hh u (by simp)
      obtain ⟨cs, c1, c2, c3, c4⟩ := ih fun x hx => hh x (by simp [hx])
      refine ⟨a :: cs, fun β => ⟨u, us, rfl, a1 β, c1 β⟩, by simp [a2, c2], by simp [c3], fun β vs ⟨v, vr, e, p, q⟩ => ?_⟩
      rw [e, a3 β v p, c4 β vr q]
  refine this _ fun u hu => ?_
  simp only [flatV, List.mem_flatMap, rowV, List.mem_map] at hu
  obtain ⟨x, _, j, _, rfl⟩ := hu
  unfold cellV
  split
  · exact ⟨.int _ _, fun _ => rfl, rfl, fun _ v h => h⟩
  · exact ⟨.str _, fun _ => rfl, rfl, fun _ v h => h⟩
  · exact ⟨.bool _, fun _ => rfl, rfl, fun _ v h => h⟩
/-- One block told otherwise. -/
theorem HR.retell {b : Nat} {x y : Blk} (r : HR β ω K w0 h w) (hg : h.get b = some x) (hbr : ∀ L, β b = some L → BR β ω L w.heap[L.blk]? x → BR β ω L w.heap[L.blk]? y) {h2 : Heap} (h2n : h2.next = h.next) (h2w : h2.wm = h.wm)
    (h2g : ∀ z, h2.get z = if z = b then some y else h.get z) : HR β ω K w0 h2 w := by
  have key : ∀ z u, h2.get z = some u → ∃ v, h.get z = some v ∧ ∀ L, β z = some L → BR β ω L w.heap[L.blk]? v → BR β ω L w.heap[L.blk]? u := by
    intro z u hu
    rw [h2g] at hu
    by_cases hx : z = b
    · subst hx
      rw [if_pos rfl, Option.some.injEq] at hu
      subst hu
      exact ⟨_, hg, hbr⟩
    · rw [if_neg hx] at hu
      exact ⟨u, hu, fun L _ hh => hh⟩
  refine ⟨fun x y L hy hL => ?_, fun x x' y y' L L' hy hy' hL hL' hne => ?_, fun x hx => r.fresh x (by rw [← h2n]; exact hx), fun x hx => ?_, r.lt, r.kin, r.keep, fun x y L hy hw hL => ?_, r.size, r.os, r.tape, r.out⟩
  · obtain ⟨z, z1, z2⟩ := key x y hy
    exact z2 L hL (r.blk x z L z1 hL)
  · obtain ⟨z, z1, _⟩ := key x y hy
    obtain ⟨z', z1', _⟩ := key x' y' hy'
    exact r.sep x x' z z' L L' z1 z1' hL hL' hne
  · have := r.fget x (by rw [← h2n]; exact hx)
    rw [h2g]
    by_cases hx2 : x = b
    · subst hx2; rw [hg] at this; cases this
    · rw [if_neg hx2]; exact this
  · obtain ⟨z, z1, _⟩ := key x y hy
    exact r.free x z L z1 (by rw [← h2w]; exact hw) hL
theorem flatV_app (sig : List CT) (a b : List Val) : flatV sig (a ++ b) = flatV sig a ++ flatV sig b := by simp [flatV, List.flatMap_append]
/-- What a grown slice is. -/
theorem grown_ous {P : Program} {m : Sem Value} {n sz elem : Nat} {sig : List CT} {l : SX} {cs : List AV} {h1 h2 : Heap} (hsz : 0 < sz) (hs : sig.length = sz) (hn : (dL ω l).length = n) (k : Ok P β ω K w0 w h m (.us h1.next 0 n sz) (h1.new (.cells elem 0 cs)))
    (hlim : h1.next < 65536) (hcs : cs.length = n * sz) (hdet : ∀ (β : Bij) vs, VRs β ω cs vs → vs = flatV sig (dL ω l)) (h2n : h2.next = h1.next) (h2w : h2.wm = h1.wm) (h2g : ∀ z, h2.get z = h1.get z) :
    Ok P β ω K w0 w h m (.ous h1.next (.op .llen [l]) sz) (h2.new (.arr elem sig l)) := by
  obtain ⟨β', v, w', e1, e2, e3, e4⟩ := k
  simp only [VR] at e2
  obtain ⟨L, cap, hL, hcap, hv⟩ := e2
  have hg : (h1.new (.cells elem 0 cs)).get h1.next = some (.cells elem 0 cs) := by rw [Heap.get_new, if_pos rfl, if_pos hlim]
  have hbr := e3.blk _ _ L hg hL
  have hle : n ≤ cap := by
    obtain ⟨C, lo, hi, vs, q1, q2, q3, _⟩ := hbr
    rw [hcs, ← show cap * sz = L.ext by omega] at q3
    exact Nat.le_of_mul_le_mul_right q3 hsz
  refine ⟨β', v, w', e1, .inl ⟨L, cap, hL, by omega, ?_, ?_⟩, ?_, ?_⟩
  · rw [dI_llen, hn]; simpa using hv
  · rw [dI_llen, hn]; simpa using hle
  · refine HR.retell (y := .arr elem sig l) e3 hg ?_ (by simp [h2n]) (by simp [h2w]) (fun z => ?_)
    · intro L' hL' hb
      obtain ⟨C, lo, hi, vs, q1, q2, q3, q4, q5, q6, q7, q8⟩ := hb
      have := hdet _ _ q5
      subst this
      refine ⟨C, lo, hi, q1, q2, by rw [hn, hs, ← hcs]; exact q3, fun i v hi' => ?_, fun i hi' => q7 i (Nat.zero_le _) hi'⟩
      have hlt : i < cs.length := by
        have := q5.length
        rw [← this]
        rcases Nat.lt_or_ge i (flatV sig (dL ω l)).length with hh | hh
        · exact hh
        · rw [List.getElem?_eq_none hh] at hi'; cases hi'
      rw [q6 i hlt]; exact hi'
    · rw [Heap.get_new, Heap.get_new, h2n, h2g]
      by_cases hz : z = h1.next
      · rw [if_pos hz, if_pos hz, if_pos hlim]
      · rw [if_neg hz, if_neg hz, if_neg hz]
  · refine ⟨?_, e4.ext, fun b hb hbn => ?_, ?_⟩
    · have := e4.le; simp only [Heap.next_new] at this ⊢; rw [h2n]; exact this
    · have hu := e4.unm b hb hbn
      have he : (h2.new (.arr elem sig l)).get b = (h1.new (.cells elem 0 cs)).get b := by
        rw [Heap.get_new, Heap.get_new, h2n, h2g]
        by_cases hz : b = h1.next
        · exfalso
          have := e4.ext b hb
          rw [hz, hL] at this
          rw [hz, ← this] at hbn; cases hbn
        · rw [if_neg hz, if_neg hz]
      rw [he]; exact hu
    · have := e4.wm; simp only [Heap.wm_new] at this ⊢; rw [h2w]; exact this
theorem yAppend_ok (hfx : ∀ t, ω.fix t = fixT E.P t) (r : HR β ω K w0 h w) {a c : AV} {va vc : Value} (ra : VR β ω a va) (rc : VR β ω c vc) (ts : Array TypeId) (ty : TypeId) (cs : Array Bool) :
    SOk E β ω K w0 w h (builtin .append ts ty cs #[va, vc]) (yAppend E.P ts a c h) := by
  have lift : ∀ {x : AV} {h' : Heap}, Ok E.P β ω K w0 w h (Builtin.append_ ts ty #[va, vc]) x h' → SVal E β ω K w0 w h (builtin .append ts ty cs #[va, vc]) x h' := fun k => SVal.of k
  unfold yAppend
  split
  · rename_i elem yt h1 h2
    split
    · rename_i e' hyt
      split
      · rename_i i z hi hz
        split
        · rename_i sig nd ly hrows
          cases hc : (Nat.blt 0 i.size && Nat.beq z.cells.length i.size && Nat.ble i.bytes 1000 && Nat.beq ts.size 2 && Nat.beq sig.length i.size && Nat.blt h.next 65536 && !(fixT E.P elem)) with
          | false => trivial
          | true =>
            obtain ⟨hc, c7⟩ := and_t hc
            have hnf : ω.fix elem = false := by rw [hfx]; simpa using c7
            obtain ⟨hc, c6⟩ := and_t hc
            obtain ⟨hc, c5⟩ := and_t hc
            obtain ⟨hc, c4⟩ := and_t hc
            obtain ⟨hc, c3⟩ := and_t hc
            obtain ⟨c1, c2⟩ := and_t hc
            rw [blt_iff] at c1 c6
            rw [beq_iff'] at c2 c4 c5
            rw [ble_iff] at c3
            simp only [Option.bind_eq_some_iff] at h1
            obtain ⟨t, h0, ht⟩ := h1
            obtain rfl := arr2 h0 h2 c4
            obtain ⟨i', zv, hi', hzi, hzs, -⟩ := zero_size hz
            rw [hi] at hi'; simp only [Option.some.injEq] at hi'; subst hi'
            have hzs' : zv.cells.size = i.size := hzs.trans c2
            simp only [cond_true]
            unfold yApp
            obtain ⟨ncs, n1, n2, n3, n4⟩ := avs ω sig (dL ω ly)
            have n3' : ncs.length = (dL ω ly).length * i.size := by rw [n3, flatV_length, c5]
            split
            · intro hd
              rw [dB_and] at hd
              obtain ⟨d1, d2⟩ := and_t hd
              have d2 : dI ω (.op .llen [ly]) ≤ dI ω (.ci roomI) := of_decide_eq_true d2
              rw [dI_llen, dI_ci] at d2
              have hroom : (dL ω ly).length ≤ room := by
                have : roomI = (room : Int) := by unfold roomI room; simp
                rw [this] at d2; omega
              have hs := yRows_ok (P := E.P) r hyt c5 hrows d1 rc
              simp only [VR] at ra; subst ra
              apply lift
              by_cases hn : (dL ω ly).length = 0
              · rw [hn] at hs
                have hnil := Go.Ev.Src.nil_ hs
                rw [hnil] at hs
                refine ⟨β, _, _, run_append_nothing w t yt ty elem i ht hi none 0 0 (Nat.le_refl _) vc hs, .inr ⟨rfl, by rw [dI_llen, hn]; rfl⟩, r.lay _, by simp, fun _ _ => rfl, fun b hb _ => by left; rw [Heap.get_new, if_neg (by omega)], rfl⟩
              · have g := grow_ok (ty := ty) (old := []) (olds := []) (sLen := 0) (sCap := 0) (base := none) r ht hi hzi hzs' (run_firstCells_none w.drew _ _ _ _) (.inl hs) (by omega) c1 (by omega) (by simpa using hroom) c3 .nil rfl (by simp) (n1 β) n2 n3' 0
                simp only [Nat.zero_add, List.nil_append] at g
                exact grown_ous (h1 := h) (h2 := h) c1 c5 rfl g c6 n3' n4 rfl rfl (fun _ => rfl)
            · rename_i b len sz
              split
              · rename_i el sig' l hg
                cases hq : (Nat.beq sz i.size && Nat.beq el elem && sigBeq sig' sig && Nat.ble h.wm b) with
                | false => trivial
                | true =>
                  obtain ⟨hq, q4⟩ := and_t hq
                  obtain ⟨hq, q3⟩ := and_t hq
                  obtain ⟨q1, q2⟩ := and_t hq
                  obtain rfl := beq_iff'.1 q1
                  obtain rfl := beq_iff'.1 q2
                  rw [ble_iff] at q4
                  obtain rfl := sigBeq_eq' q3
                  intro hd
                  rw [dB_and, dB_and] at hd
                  obtain ⟨d1, d2⟩ := and_t hd
                  obtain ⟨d3, d2⟩ := and_t d2
                  have d3 : dI ω len = dI ω (.op .llen [l]) := of_decide_eq_true d3
                  have d2 : dI ω (.op .llen [.op .lcat [l, ly]]) ≤ dI ω (.ci roomI) := of_decide_eq_true d2
                  have hcat : dL ω (.op .lcat [l, ly]) = dL ω l ++ dL ω ly := rfl
                  rw [dI_llen, dI_ci, hcat, List.length_append] at d2
                  rw [dI_llen] at d3
                  have hroom : (dL ω l).length + (dL ω ly).length ≤ room := by
                    have : roomI = (room : Int) := by unfold roomI room; simp
                    rw [this] at d2; omega
                  have hs := yRows_ok (P := E.P) r hyt c5 hrows d1 rc
                  have hget : ∀ (hh : Heap) (x : Option Blk) (z : Nat), (hh.put b x).get z = if z = b then (if b < 65536 then x else none) else hh.get z := fun hh x z => Heap.get_put _ _ _ _
                  have hb65 := Heap.get_lim h b _ hg
                  apply lift
                  simp only [VR] at ra
                  rcases ra with ⟨L, cap, hL, hcap, hv, hle⟩ | ⟨hv, h0'⟩
                  · have hlen : (dI ω len).toNat = (dL ω l).length := by omega
                    rw [hlen] at hv hle
                    by_cases hn : (dL ω ly).length = 0
                    · have hly : dL ω ly = [] := List.eq_nil_of_length_eq_zero hn
                      rw [hn] at hs
                      have hnil := Go.Ev.Src.nil_ hs
                      rw [hnil] at hs
                      have hbr := r.blk b _ L hg hL
                      obtain ⟨p1, p2⟩ := HR.rename (w' := w) r b _ (.arr el sig' (.op .lcat [l, ly])) L L hg hL q4 rfl (fun _ _ => rfl) rfl rfl rfl rfl (by
                        obtain ⟨C, lo, hi, z1, z2, z3, z4, z5⟩ := hbr
                        have hd : dL ω (.op .lcat [l, ly]) = dL ω l := by rw [hcat, hly, List.append_nil]
                        exact ⟨C, lo, hi, z1, z2, by rw [hd]; exact z3, by rw [hd]; exact z4, z5⟩)
                      subst hv
                      refine ⟨_, _, _, run_append_nothing w t yt ty el i ht hi _ _ cap hle vc hs, .inl ⟨L, cap, Bij.add_self _ _ _, hcap, ?_, ?_⟩, p1, p2⟩
                      · rw [dI_llen, hcat, hly]; simp
                      · rw [dI_llen, hcat, hly]; simpa using hle
                    · obtain ⟨ocs, m1, m2, m3, m4⟩ := avs ω sig' (dL ω l)
                      have m3' : ocs.length = (dL ω l).length * i.size := by rw [m3, flatV_length, c5]
                      have r2 : HR β ω K w0 (h.put b (some (.cells el 0 ocs))) w := by
                        refine HR.retell (y := .cells el 0 ocs) r hg ?_ rfl rfl (fun z => by rw [hget, if_pos hb65])
                        intro L' hL' hbr
                        obtain ⟨C, lo, hi, z1, z2, z3, z4, z5⟩ := hbr
                        refine ⟨C, lo, hi, flatV sig' (dL ω l), z1, z2, by rw [m3, flatV_length]; exact z3, all_A m2, m1 β, fun k hk => ?_, fun k _ hk => z5 k hk, fun hh => by rw [hnf] at hh; cases hh⟩
                        have hk' : k < (flatV sig' (dL ω l)).length := by rw [← m3]; exact hk
                        rw [List.getElem?_eq_getElem hk']
                        exact z4 k _ (List.getElem?_eq_getElem hk')
                      have hg2 : (h.put b (some (.cells el 0 ocs))).get b = some (.cells el 0 ocs) := by rw [hget, if_pos rfl, if_pos hb65]
                      have g := us_ok (ty := ty) (o := 0) (sLen := (dL ω l).length) (sCap := cap) (n := (dL ω ly).length) (fz := 0) r2 ht hi hzi hzs' c1 (.inl hs) (by omega) hroom c3 hL hg2 q4 (by simpa using hcap) (Nat.zero_le _) (by rw [m3']; omega) (n1 β) n2 n3' (by first | exact hnf | (rw [← hel]; exact hnf)) 0 (Nat.zero_le _)
                      rw [show (List.drop 0 ocs).take ((dL ω l).length * i.size) = ocs by rw [List.drop_zero, ← m3', List.take_length]] at g
                      rw [show (⟨L.blk, L.off + 0, none⟩ : Addr) = ⟨L.blk, L.off, none⟩ by simp, ← hv] at g
                      have g2 : Ok E.P β ω K w0 w h (Builtin.append_ #[t, yt] ty #[va, vc]) (.us ((h.put b (some (.cells el 0 ocs))).put b none).next 0 ((dL ω l).length + (dL ω ly).length) i.size) (((h.put b (some (.cells el 0 ocs))).put b none).new (.cells el 0 (ocs ++ ncs))) := by
                        obtain ⟨β', v, w', y1, y2, y3, y4⟩ := g
                        refine ⟨β', v, w', y1, y2, y3, y4.le, y4.ext, fun z hz hzn => ?_, y4.wm⟩
                        have hu := y4.unm z hz hzn
                        rw [hget, if_neg (fun hzb => by rw [hzb, hL] at hzn; cases hzn)] at hu
                        exact hu
                      refine grown_ous (h1 := (h.put b (some (.cells el 0 ocs))).put b none) (h2 := h.put b none) (l := .op .lcat [l, ly]) c1 c5 (by rw [hcat, List.length_append]) g2 c6 ?_ ?_ rfl rfl (fun z => ?_)
                      · rw [List.length_append, m3', n3', Nat.add_mul]
                      · intro β' vs hvs
                        rw [hcat, flatV_app]
                        have e1 := hvs.take ocs.length
                        have e2 := hvs.drop ocs.length
                        rw [List.take_left] at e1
                        rw [List.drop_left] at e2
                        rw [← List.take_append_drop ocs.length vs, m4 β' _ e1, n4 β' _ e2]
                      · rw [hget, hget, hget]
                        by_cases hzb : z = b
                        · rw [if_pos hzb, if_pos hzb]
                        · rw [if_neg hzb, if_neg hzb, if_neg hzb]
                  · have hl0 : (dL ω l).length = 0 := by omega
                    have hlnil : dL ω l = [] := List.eq_nil_of_length_eq_zero hl0
                    subst hv
                    obtain ⟨r1, st1⟩ := r.drop b
                    by_cases hn : (dL ω ly).length = 0
                    · have hly : dL ω ly = [] := List.eq_nil_of_length_eq_zero hn
                      rw [hn] at hs
                      have hnil := Go.Ev.Src.nil_ hs
                      rw [hnil] at hs
                      refine ⟨β, _, _, run_append_nothing w t yt ty el i ht hi none 0 0 (Nat.le_refl _) vc hs, .inr ⟨rfl, by rw [dI_llen, hcat, hly, hlnil]; rfl⟩, r1.lay _, st1.trans ⟨by simp, fun _ _ => rfl, fun b hb _ => by left; rw [Heap.get_new, if_neg (by omega)], rfl⟩⟩
                    · have g := grow_ok (ty := ty) (old := []) (olds := []) (sLen := 0) (sCap := 0) (base := none) r1 ht hi hzi hzs' (run_firstCells_none w.drew _ _ _ _) (.inl hs) (by omega) c1 (by omega) (by simpa [hl0] using hroom) c3 .nil rfl (by simp) (n1 β) n2 n3' 0
                      simp only [Nat.zero_add, List.nil_append] at g
                      obtain ⟨β', v, w', y1, y2, y3, y4⟩ := grown_ous (h1 := h.put b none) (h2 := h.put b none) (l := .op .lcat [l, ly]) c1 c5 (n := (dL ω ly).length) (by rw [hcat, hlnil]; rfl) g c6 n3' (by rw [hcat, hlnil]; exact n4) rfl rfl (fun _ => rfl)
                      exact ⟨β', v, w', y1, y2, y3, st1.trans y4⟩
              · trivial
            · trivial
        · trivial
      · trivial
    · trivial
  · trivial
theorem yCall_ok (hfx : ∀ t, ω.fix t = fixT E.P t) (r : HR β ω K w0 h w) (o : OpR β ω ρA ρ) (c : Call) (ty : TypeId) :
    SOk E β ω K w0 w h (do let d ← resolve ρ c ty; invoke d.target d.args) (yCall E.P ρA c h) := by
  unfold yCall
  split
  · rename_i b hb
    have hrun : ∀ w, (do let d ← resolve ρ c ty; invoke d.target d.args : Sem Next).run E.P w = (builtin b c.argTypes ty (c.args.map fun | .const _ => true | _ => false) (c.args.map ρ)).run E.P w := by
      intro w; simp only [resolve, hb, Sem.run_bind, Sem.run_pure, Result.andThen_ok, invoke]; rfl
    have conv : ∀ res, SOk E β ω K w0 w h (builtin b c.argTypes ty (c.args.map fun | .const _ => true | _ => false) (c.args.map ρ)) res → SOk E β ω K w0 w h (do let d ← resolve ρ c ty; invoke d.target d.args) res := by
      intro res hh
      cases res with
      | val v h1 => obtain ⟨β', u, w', q1, q2⟩ := hh; exact ⟨β', u, w', by rw [hrun]; exact q1, q2⟩
      | need e v h1 => intro hd; obtain ⟨β', u, w', q1, q2⟩ := hh hd; exact ⟨β', u, w', by rw [hrun]; exact q1, q2⟩
      | enter f vs => obtain ⟨us, q1, q2⟩ := hh; exact ⟨us, by rw [hrun]; exact q1, q2⟩
      | choice l => obtain ⟨x, hx, β', u, w', q1, q2⟩ := hh; exact ⟨x, hx, β', u, w', by rw [hrun]; exact q1, q2⟩
      | yield l vs => obtain ⟨L, us, q1, q2, q3⟩ := hh; exact ⟨L, us, q1, q2, by rw [hrun]; exact q3⟩
      | defer d => obtain ⟨dd, q1, q2⟩ := hh; exact ⟨dd, by rw [hrun]; exact q1, q2⟩
      | bad => trivial
    apply conv
    cases hx : evs ρA c.args.toList with
    | none => trivial
    | some args =>
      have ra := evs_ok o hx
      have harr : c.args.map ρ = (c.args.toList.map ρ).toArray := by apply Array.ext'; simp
      rw [harr]
      unfold yBuiltin
      split
      · rename_i x hh
        simp only [Option.some.injEq] at hh; subst hh
        obtain ⟨v, vr, e1, p1, p2⟩ := ra
        obtain rfl : vr = [] := p2
        rw [e1]
        split
        · exact yLen_ok r p1 _ _ _
        · trivial
      · rename_i x y hh
        simp only [Option.some.injEq] at hh; subst hh
        obtain ⟨v, vr, e1, p1, v2, vr2, e2, p2, p3⟩ := ra
        obtain rfl : vr2 = [] := p3
        rw [e1, e2]
        split
        · exact yAppend_ok hfx r p1 p2 _ _ _
        · exact yMM_ok hfx r p1 p2 b _ _ _
      · trivial
  · trivial

theorem stepY_ok (hfx : ∀ t, ω.fix t = fixT E.P t) (r : HR β ω K w0 h w) (ro : OpR β ω ρA ρ) (o : Oper) : SOk E β ω K w0 w h (execOp ρ o) (stepY E ρA o h) := by
  obtain ⟨dst, op, ty, pos, after, guard⟩ := o
  cases op with
  | binOp op t x y _ => exact yBin2_ok r ro op t x y
  | unOp op _ x => exact yUn_ok r ro op x
  | convert s d x => exact yConv_ok r ro s d x
  | pick c a b => exact yPick_ok r ro c a b
  | load t a => exact yLoad_ok r ro t a
  | indexAddr t x i => exact yIndexAddr_ok r ro t x i
  | fieldAddr s x f => exact yFieldAddr_ok r ro s f x
  | index t x i => exact yIndex_ok r ro t x i
  | call c => exact yCall_ok hfx r ro c ty
  | _ => trivial

end Go.Ev