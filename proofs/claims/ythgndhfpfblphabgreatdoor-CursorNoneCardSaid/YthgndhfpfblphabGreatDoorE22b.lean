/- The evaluator: what follows from a path's conditions; trees told by it. -/
import Derived.Test.YthgndhfpfblphabGreatDoorE22
set_option linter.unusedVariables false
set_option linter.unusedSimpArgs false
namespace Go.Ev
open Go

variable {E : Env} {ω : Opq}

/-- What a path's conditions are to the symbols. -/
def PcOk (ω : Opq) (pc : PC) : Prop := ∀ p ∈ pc, dB ω p.1 = p.2
def VC.Ok (ω : Opq) (v : VC) : Prop := PcOk ω v.pc → dB ω v.cl = true

theorem boolEq_eq (a b : Bool) : boolEq a b = (a == b) := by cases a <;> cases b <;> rfl
theorem lt_not_le (a b : Int) : decide (b ≤ a) = !decide (a < b) := by
  rw [Bool.eq_iff_iff]; simp
theorem canon_ok (e : SX) : dB ω e = (dB ω (canon e).1 == (canon e).2) := by
  unfold canon
  split
  · rename_i p l
    unfold canonC
    split <;> simp only [dB, den, dens, prim, Val.toB, cmpI, cmpS, beq_true, beq_false, Bool.not_not]
    · exact lt_not_le _ _
    · exact lt_not_le _ _
  · simp
theorem findA_ok {e : SX} {b : Bool} : ∀ {pc : PC}, PcOk ω pc → findA e pc = some b → dB ω e = b
  | [], _, h => by cases h
  | p :: r, hp, h => by
    simp only [findA] at h
    cases hc : SX.beq e p.1 with
    | true =>
      rw [hc] at h
      simp only [cond_true, Option.some.injEq] at h
      rw [SX.beq_eq _ _ hc, ← h]
      exact hp p (by simp)
    | false => rw [hc] at h; exact findA_ok (fun q hq => hp q (by simp [hq])) h
theorem findC_ok {c : SX × Bool} {b : Bool} {pc : PC} (hp : PcOk ω pc) (h : findC c pc = some b) : (dB ω c.1 == c.2) = b := by
  unfold findC at h
  split at h
  · rename_i b0 h0
    simp only [Option.some.injEq] at h
    rw [findA_ok hp h0, ← h, boolEq_eq]
  · cases h
theorem and_ok {a b : Option Bool} {x y r : Bool} (ha : ∀ z, a = some z → x = z) (hb : ∀ z, b = some z → y = z) (h : andO a b = some r) : (x && y) = r := by
  unfold andO at h
  split at h
  · rw [ha _ rfl]; simpa using h
  · rw [ha _ rfl, hb _ h]; simp
  · split at h
    · rw [hb _ rfl]; simpa using h
    · cases h
theorem or_ok {a b : Option Bool} {x y r : Bool} (ha : ∀ z, a = some z → x = z) (hb : ∀ z, b = some z → y = z) (h : orO a b = some r) : (x || y) = r := by
  unfold orO at h
  split at h
  · rw [ha _ rfl]; simpa using h
  · rw [ha _ rfl, hb _ h]; simp
  · split at h
    · rw [hb _ rfl]; simpa using h
    · cases h
theorem dB_or (a b : SX) : dB ω (.op .or [a, b]) = (dB ω a || dB ω b) := rfl
theorem dB_not1 (a : SX) : dB ω (.op .not [a]) = !dB ω a := rfl
theorem dB_ite (c a b : SX) : dB ω (.op .ite [c, a, b]) = bif dB ω c then dB ω a else dB ω b := by
  show Val.toB (bif (den ω c).toB then den ω a else den ω b) = _
  unfold dB
  cases (den ω c).toB <;> rfl
theorem known_ok {pc : PC} (hp : PcOk ω pc) : ∀ (n : Nat) (e : SX) (b : Bool), known pc n e = some b → dB ω e = b
  | 0, e, b, h => by cases h
  | n + 1, e, b, h => by
    have ih := known_ok hp n
    have h : knownS pc (known pc n) e = some b := h
    unfold knownS at h
    split at h
    · rename_i b0 h0
      simp only [Option.some.injEq] at h; subst h
      rw [canon_ok e]; exact findC_ok hp h0
    · unfold knownN at h
      split at h
      · simp only [Option.some.injEq] at h; subst h; rfl
      · rename_i p l
        unfold knownP at h
        split at h
        · rename_i a
          rw [dB_not1]
          unfold notO at h
          split at h
          · rename_i b0 h0
            simp only [Option.some.injEq] at h
            rw [ih _ _ h0, h]
          · cases h
        · rw [dB_and]; exact and_ok (ih _) (ih _) h
        · rw [dB_or]; exact or_ok (ih _) (ih _) h
        · rw [dB_ite]
          unfold iteO at h
          split at h
          · rename_i h0; rw [ih _ _ h0]; exact ih _ _ h
          · rename_i h0; rw [ih _ _ h0]; exact ih _ _ h
          · cases h
        · exact sure_ok h
      · cases h
theorem pc_append {a b : PC} (ha : PcOk ω a) (hb : PcOk ω b) : PcOk ω (a ++ b) := by
  intro p hp
  rcases List.mem_append.1 hp with h | h
  · exact ha p h
  · exact hb p h
theorem pc_nil : PcOk ω [] := fun p hp => by cases hp
theorem facts_ok : ∀ (n : Nat) (e : SX) (b : Bool), dB ω e = b → PcOk ω (facts n e b)
  | 0, e, b, h => pc_nil
  | n + 1, e, b, h => by
    have ih := facts_ok n
    show PcOk ω (factsS (facts n) e b)
    unfold factsS
    intro p hp
    rcases List.mem_cons.1 hp with rfl | hp
    · unfold factC
      have := canon_ok (ω := ω) e
      rw [h] at this
      rw [boolEq_eq]
      show dB ω (canon e).1 = ((canon e).2 == b)
      rw [this]
      cases dB ω (canon e).1 <;> cases (canon e).2 <;> rfl
    · refine (?_ : PcOk ω (factsN (facts n) e b)) p hp
      unfold factsN
      split
      · rename_i q l
        unfold factsP
        split
        · rename_i a
          refine ih _ _ ?_
          rw [dB_not1] at h; rw [← h, Bool.not_not]
        · cases b with
          | true => rw [dB_and, Bool.and_eq_true] at h; exact pc_append (ih _ _ h.1) (ih _ _ h.2)
          | false => exact pc_nil
        · cases b with
          | true => exact pc_nil
          | false => rw [dB_or, Bool.or_eq_false_iff] at h; exact pc_append (ih _ _ h.1) (ih _ _ h.2)
        · rename_i c x
          cases b with
          | true =>
            rw [dB_ite] at h
            cases hc : dB ω c with
            | true => rw [hc] at h; exact pc_append (ih _ _ hc) (ih _ _ h)
            | false => rw [hc] at h; cases h
          | false => exact pc_nil
        · rename_i c y _
          cases b with
          | true => exact pc_nil
          | false =>
            rw [dB_ite] at h
            cases hc : dB ω c with
            | true => rw [hc] at h; cases h
            | false => rw [hc] at h; exact pc_append (ih _ _ hc) (ih _ _ h)
        · exact pc_nil
      · exact pc_nil


/-! ### Conditions made short -/
theorem red_ok {pc : PC} (hp : PcOk ω pc) : ∀ (n : Nat) (e : SX), dB ω (red pc n e) = dB ω e
  | 0, e => rfl
  | n + 1, e => by
    have : red pc (n + 1) e = redS pc (red pc n) e := rfl
    rw [this]
    unfold redS
    split
    · rename_i p l
      have ih := red_ok hp n
      unfold redP
      split
      · rename_i c a b
        split
        · rename_i h; rw [ih, dB_ite, known_ok hp 8 c _ h]; rfl
        · rename_i h; rw [ih, dB_ite, known_ok hp 8 c _ h]; rfl
        · rfl
      · rename_i a b
        split
        · rename_i h; rw [ih, dB_and, known_ok hp 8 a _ h]; rfl
        · split
          · rename_i h; rw [ih, dB_and, known_ok hp 8 b _ h, Bool.and_true]
          · rfl
      · rename_i a b
        split
        · rename_i h; rw [ih, dB_or, known_ok hp 8 a _ h]; rfl
        · split
          · rename_i h; rw [ih, dB_or, known_ok hp 8 b _ h, Bool.or_false]
          · rfl
      · rename_i a; rw [dB_not1, dB_not1, ih]
      · rfl
    · rfl
theorem den_ite (c a b : SX) : den ω (.op .ite [c, a, b]) = bif dB ω c then den ω a else den ω b := rfl
theorem redD_ok {pc : PC} (hp : PcOk ω pc) : ∀ (n : Nat) (e : SX), den ω (redD pc n e) = den ω e
  | 0, e => rfl
  | n + 1, e => by
    have : redD pc (n + 1) e = redDS pc (redD pc n) e := rfl
    rw [this]
    unfold redDS
    split
    · rename_i p l
      unfold redDP
      split
      · rename_i c a b
        split
        · rename_i h; rw [redD_ok hp n, den_ite, known_ok hp 8 c _ h]; rfl
        · rename_i h; rw [redD_ok hp n, den_ite, known_ok hp 8 c _ h]; rfl
        · rfl
      · rfl
    · rfl
/-- The tree comes to r, where the conditions hold. -/
def TPT (ω : Opq) (r : Nat × List Val) (t : RPT) : Prop := ∃ pc, PcOk ω pc ∧ evalT (t pc) ω = some r
theorem ptsOf_get {pc : PC} : ∀ {ks : List RPT} {n : Nat} {x : VT}, (ptsOf pc ks)[n]? = some x → ∃ k, ks[n]? = some k ∧ x = k pc
  | [], n, x, h => by simp [ptsOf] at h
  | k :: r, 0, x, h => by simp only [ptsOf, List.getElem?_cons_zero, Option.some.injEq] at h; exact ⟨k, rfl, h.symm⟩
  | k :: r, n + 1, x, h => by
    simp only [ptsOf, List.getElem?_cons_succ] at h
    obtain ⟨k', h1, h2⟩ := ptsOf_get h
    exact ⟨k', by simpa using h1, h2⟩
theorem ptAlg_ok (ω : Opq) (r : Nat × List Val) : AlgOk ptAlg (TPT ω r) ω := by
  refine ⟨fun h => ?_, fun l f h => ?_, fun e x y h => ?_, fun e x h => ?_, fun hd body ks h => ?_⟩
  · obtain ⟨pc, _, h⟩ := h
    simp [ptAlg, evalT] at h
  · obtain ⟨pc, hp, h⟩ := h
    have h : evalT (ptAmb l f pc) ω = some r := h
    unfold ptAmb at h
    split at h
    · intro x hx
      simp only [List.mem_singleton] at hx
      subst hx
      exact ⟨pc, hp, h⟩
    · rename_i a b
      simp only [evalT] at h
      split at h
      · rename_i he
        intro x hx
        simp only [List.mem_cons, List.not_mem_nil, or_false] at hx
        rcases hx with rfl | rfl
        · exact ⟨pc, hp, h⟩
        · exact ⟨pc, hp, he ▸ h⟩
      · cases h
    · simp [evalT] at h
  · obtain ⟨pc, hp, h⟩ := h
    have h : evalT (ptIte e x y pc (known pc 8 e)) ω = some r := h
    unfold ptIte at h
    split at h
    · rename_i hk
      have := known_ok hp 8 e _ hk
      exact ⟨fun _ => ⟨pc, hp, h⟩, fun hf => by rw [this] at hf; cases hf⟩
    · rename_i hk
      have := known_ok hp 8 e _ hk
      exact ⟨fun hf => by (rw [this] at hf; cases hf), fun _ => ⟨pc, hp, h⟩⟩
    · simp only [evalT, red_ok hp] at h
      refine ⟨fun hd => ?_, fun hd => ?_⟩
      · rw [if_pos hd] at h
        exact ⟨_, pc_append (facts_ok 8 e _ hd) hp, h⟩
      · rw [if_neg (by rw [hd]; simp)] at h
        exact ⟨_, pc_append (facts_ok 8 e _ hd) hp, h⟩
  · obtain ⟨pc, hp, h⟩ := h
    have h : evalT (ptNeed e x pc (known pc 8 e)) ω = some r := h
    unfold ptNeed at h
    split at h
    · rename_i hk
      exact ⟨known_ok hp 8 e _ hk, pc, hp, h⟩
    · simp only [evalT, red_ok hp] at h
      split at h
      · rename_i hd
        exact ⟨hd, _, pc_append (facts_ok 8 e _ hd) hp, h⟩
      · cases h
  · obtain ⟨pc, hp, h⟩ := h
    have h : evalT (.loop hd body (ptsOf pc ks)) ω = some r := h
    simp only [evalT] at h
    split at h
    · rename_i q hq
      split at h
      · rename_i hf
        obtain ⟨x, h1, h2⟩ := evalTs_get h
        obtain ⟨k, h3, rfl⟩ := ptsOf_get h1
        exact ⟨q, k, hq, hf, h3, pc, hp, h2⟩
      · cases h
    · cases h
end Go.Ev
