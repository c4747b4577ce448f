/- Chapter 8, the reading side: numbers, texts, rows taken of bytes. -/
import Derived.Test.YtcgkdegokfkgjaaEK8
set_option linter.unusedSimpArgs false
set_option linter.unusedVariables false
namespace Go.Ev
open Go

theorem okL_len {l : List Val} (h : okL l = true) : l.length ≤ 1000000 := by
  simp only [okL, Bool.and_eq_true, decide_eq_true_eq] at h; exact h.1
theorem okL_by {l : List Val} (h : okL l = true) : okBy l = true := by
  simp only [okL, Bool.and_eq_true] at h; exact h.2
theorem bI_in {l : List Val} (h : okL l = true) {i : Nat} (hi : i < l.length) : 0 ≤ bI l i ∧ bI l i < 256 := by
  have h2 := okL_by h
  simp only [okBy, List.all_eq_true, Bool.and_eq_true, decide_eq_true_eq] at h2
  have := h2 l[i] (List.getElem_mem hi)
  have e : bI l i = (l[i].toL.getD 0 default).toI := by
    simp only [bI, atV, colV, List.getD_eq_getElem?_getD, List.getElem?_eq_getElem hi, Option.getD_some]
  rw [e]; exact this
theorem numV_in {l : List Val} (h : okL l = true) {i : Nat} : ∀ {n : Nat}, i + n ≤ l.length → 0 ≤ numV l i n ∧ numV l i n < 256 ^ n
  | 0, _ => by simp [numV]
  | n + 1, hi => by
    have h1 := numV_in h (i := i) (n := n) (by omega)
    have h2 := bI_in h (show i + n < l.length by omega)
    simp only [numV, Int.pow_succ]
    omega
theorem tkN_in {l : List Val} (h : okL l = true) (s : Rd) (n : Nat) : 0 ≤ tkN l s n ∧ tkN l s n < 256 ^ n := by
  unfold tkN
  cases hc : fitR l s n with
  | false =>
    have : (0 : Int) < 256 ^ n := Int.pow_pos (by omega)
    simp only [cond_false]; omega
  | true =>
    simp only [fitR, Bool.and_eq_true, decide_eq_true_eq] at hc
    exact numV_in h hc.2
theorem tkS_le {l : List Val} {s : Rd} (h : s.pos ≤ l.length) (n : Nat) : (tkS l s n).pos ≤ l.length := by
  unfold tkS
  cases hc : fitR l s n with
  | false => exact h
  | true =>
    simp only [fitR, Bool.and_eq_true, decide_eq_true_eq] at hc
    exact hc.2
theorem txS_le {l : List Val} {s : Rd} (h : s.pos ≤ l.length) : (txS l s).pos ≤ l.length := by
  unfold txS
  cases hc : txOk l s with
  | false => exact h
  | true =>
    simp only [txOk, Bool.and_eq_true, decide_eq_true_eq] at hc
    exact hc.2
theorem pnS_le {l : List Val} {s : Rd} (h : s.pos ≤ l.length) : (pnS l s).pos ≤ l.length := tkS_le (tkS_le (txS_le h) _) _
theorem rwS_le {l : List Val} {s : Rd} (h : s.pos ≤ l.length) : (rwS l s).pos ≤ l.length := tkS_le (tkS_le (tkS_le (tkS_le (pnS_le h) _) _) _) _
theorem decP_le (l : List Val) (v : Val) : (decP l v).pos ≤ l.length := Nat.min_le_right _ _
theorem decP_enc {l : List Val} {s : Rd} (h : s.pos ≤ l.length) : decP l (encP l s) = s := by
  rcases s with ⟨p, b⟩
  show Rd.mk (min (p : Int).toNat l.length) (!((bif b then (20 : Int) else 0) == 0)) = _
  rw [Int.toNat_natCast, Nat.min_eq_left h]
  cases b <;> rfl
theorem goodP_enc {l : List Val} {s : Rd} (h : s.pos ≤ l.length) : goodP l (encP l s) = okL l := by
  unfold goodP; rw [decP_enc h]; simp
theorem goodP_at {l : List Val} {v : Val} (h : goodP l v = true) : okL l = true ∧ ∃ s : Rd, s.pos ≤ l.length ∧ v = encP l s := by
  simp only [goodP, Bool.and_eq_true, decide_eq_true_eq] at h
  exact ⟨h.1, decP l v, decP_le l v, h.2⟩
theorem encP_0 (l : List Val) (s : Rd) : getV (encP l s).toL 0 0 = .vi s.pos := rfl
theorem encP_1 (l : List Val) (s : Rd) : getV (encP l s).toL 0 1 = .vi ((l.length : Int) - s.pos) := rfl
theorem encP_2 (l : List Val) (s : Rd) : getV (encP l s).toL 0 2 = .vi (bif s.bad then 20 else 0) := rfl
theorem F40 (l v n : Val) : F 40 [l, v, n] = .vi (tkN l.toL (decP l.toL v) n.toI.toNat) := rfl
theorem F44 (l v n : Val) : F 44 [l, v, n] = encP l.toL (tkS l.toL (decP l.toL v) n.toI.toNat) := rfl
theorem F46 (l v : Val) : F 46 [l, v] = .vb (goodP l.toL v) := rfl
theorem F70 (l v : Val) : F 70 [l, v] = .vs (txV l.toL (decP l.toL v)) := rfl
theorem F71 (l v : Val) : F 71 [l, v] = encP l.toL (txS l.toL (decP l.toL v)) := rfl
theorem F74 (l v : Val) : F 74 [l, v] = .vl [.vl (pnV l.toL (decP l.toL v))] := rfl
theorem F75 (l v : Val) : F 75 [l, v] = encP l.toL (pnS l.toL (decP l.toL v)) := rfl
/-! Numbers. -/
theorem shl_u64 {x : Int} (h0 : 0 ≤ x) (h1 : x < 256 ^ 7) : arI .shl .u64 x 8 = x * 256 := by
  show IntKind.u64.wrap (x * 2 ^ (min (8 : Int).toNat 64)) = _
  have : (2 : Int) ^ (min (8 : Int).toNat 64) = 256 := by decide
  rw [this, wu64]
  omega
theorem or_u64 {x b : Int} (h0 : 0 ≤ x) (h1 : x < 256 ^ 7) (b0 : 0 ≤ b) (b1 : b < 256) : arI .or .u64 (x * 256) b = x * 256 + b := by
  obtain ⟨n, rfl⟩ := Int.eq_ofNat_of_zero_le h0
  obtain ⟨m, rfl⟩ := Int.eq_ofNat_of_zero_le b0
  show IntKind.u64.wrap ((BitVec.ofInt 64 ((n : Int) * 256) ||| BitVec.ofInt 64 (m : Int)).toNat) = _
  have e1 : ((n : Int) * 256) = ((n * 256 : Nat) : Int) := by omega
  have hn : n * 256 < 2 ^ 64 := by
    have : ((n * 256 : Nat) : Int) < 2 ^ 64 := by omega
    omega
  have hm : m < 256 := by omega
  rw [e1, BitVec.ofInt_natCast, BitVec.ofInt_natCast, BitVec.toNat_or, BitVec.toNat_ofNat, BitVec.toNat_ofNat, Nat.mod_eq_of_lt hn, Nat.mod_eq_of_lt (by omega)]
  have e2 : n * 256 ||| m = n * 256 + m := by
    have := Nat.shiftLeft_add_eq_or_of_lt (b := m) (i := 8) (by simpa using hm) n
    rw [Nat.shiftLeft_eq] at this
    exact this.symm
  rw [e2, wu64]
  omega
theorem or_0 {b : Int} (b0 : 0 ≤ b) (b1 : b < 256) : arI .or .u64 0 b = b := by
  have := or_u64 (x := 0) (by omega) (by decide) b0 b1
  simpa using this
theorem wu64_b {b : Int} (b0 : 0 ≤ b) (b1 : b < 256) : IntKind.u64.wrap b = b := by rw [wu64]; omega
theorem num1 (l : List Val) (p : Nat) : numV l p 1 = bI l p := by simp [numV]
theorem getV_b (l : List Val) (i : Nat) : (getV l (i : Int) 0).toI = bI l i := rfl
theorem getB (l : List Val) (x : Int) (i : Nat) (h : x = i) : (getV l x 0).toI = bI l i := by subst h; rfl
theorem num_next {l : List Val} (hl : okL l = true) {p n : Nat} (hi : p + n + 1 ≤ l.length) (h3 : (256 : Int) ^ n ≤ 256 ^ 7) : arI .or .u64 (arI .shl .u64 (numV l p n) 8) (IntKind.u64.wrap (bI l (p + n))) = numV l p (n + 1) := by
  have h1 := numV_in hl (i := p) (n := n) (by omega)
  have h2 := bI_in hl (show p + n < l.length by omega)
  have h4 : numV l p n < 256 ^ 7 := Int.lt_of_lt_of_le h1.2 h3
  rw [shl_u64 h1.1 h4, wu64_b h2.1 h2.2, or_u64 h1.1 h4 h2.1 h2.2]
  rfl
theorem num_first {l : List Val} (hl : okL l = true) {p : Nat} (hi : p + 1 ≤ l.length) : arI .or .u64 0 (IntKind.u64.wrap (bI l p)) = numV l p 1 := by
  have h2 := bI_in hl (show p < l.length by omega)
  rw [wu64_b h2.1 h2.2, or_0 h2.1 h2.2, num1]
theorem ifp {α : Type} {c : Prop} [Decidable c] {a b : α} {r : α} (h : c) (e : a = r) : (if c then a else b) = r := by rw [if_pos h, e]
theorem ifn {α : Type} {c : Prop} [Decidable c] {a b : α} {r : α} (h : ¬ c) (e : b = r) : (if c then a else b) = r := by rw [if_neg h, e]
theorem wu32 (x : Int) : IntKind.u32.wrap x = x % 4294967296 := by simp [IntKind.wrap, IntKind.bits, IntKind.signed]
theorem t_u8 {ω : Opq} (hf : ∀ i a, ω.f i a = F i a) (hg : goodP (ω.w 0).toL (ω.w 1) = true) : evalT T_u8 ω = some (0, [F 40 [ω.w 0, ω.w 1, .vi 1], getV (F 44 [ω.w 0, ω.w 1, .vi 1]).toL 0 0, getV (F 44 [ω.w 0, ω.w 1, .vi 1]).toL 0 1, getV (F 44 [ω.w 0, ω.w 1, .vi 1]).toL 0 2]) := by
  obtain ⟨hl, ⟨p, b⟩, hs, e⟩ := goodP_at hg
  have hs : p ≤ (ω.w 0).toL.length := hs
  have d0 : decP (ω.w 0).toL (encP (ω.w 0).toL ⟨p, b⟩) = ⟨p, b⟩ := decP_enc hs
  have e2 : (1 : Int).toNat = 1 := rfl
  have e0 : p + 0 = p := rfl
  simp only [F40, F44, encP_0, encP_1, encP_2, e, d0, e2, T_u8, evalT, dens, den, dB, prim, toI_vi, toB_vb, toL_vl, cmpI_neq, cmpI_lss, cmpI_leq, cmpI_eql, cmpI_gtr, Bool.and_eq_true, decide_eq_true_eq, Bool.not_eq_true', decide_eq_false_iff_not]
  cases b with
  | true =>
    have hc : fitR (ω.w 0).toL ⟨p, true⟩ 1 = false := rfl
    simp only [tkN, tkS, hc, cond_true, cond_false]
    exact ifp (by decide) rfl
  | false =>
    refine ifn (by decide) ?_
    refine ifp (by omega) ?_
    by_cases h : p + 1 ≤ (ω.w 0).toL.length
    · refine ifn (by omega) ?_
      repeat refine ifp (by omega) ?_
      have g0 := getB (ω.w 0).toL ((p : Int) + 0 + 0) (p + 0) (by omega)
      have hc : fitR (ω.w 0).toL ⟨p, false⟩ 1 = true := by simp [fitR, h]
      have hk := numV_in hl (i := p) (n := 1) h
      have w : IntKind.u8.wrap (numV (ω.w 0).toL p 1) = numV (ω.w 0).toL p 1 := by
        have e3 : (256 : Int) ^ 1 = 256 := by decide
        rw [wu8]; omega
      simp only [e0, g0, num_first hl (show p + 1 ≤ _ by omega), tkN, tkS, hc, cond_true, cond_false, w]
      refine congrArg (fun x => some (0, x)) ?_
      simp only [List.cons.injEq, Val.vi.injEq, and_true, true_and]
      omega
    · refine ifp (by omega) ?_
      have hc : fitR (ω.w 0).toL ⟨p, false⟩ 1 = false := by simp [fitR]; omega
      simp only [tkN, tkS, hc, cond_true, cond_false]
theorem t_u16 {ω : Opq} (hf : ∀ i a, ω.f i a = F i a) (hg : goodP (ω.w 0).toL (ω.w 1) = true) : evalT T_u16 ω = some (0, [F 40 [ω.w 0, ω.w 1, .vi 2], getV (F 44 [ω.w 0, ω.w 1, .vi 2]).toL 0 0, getV (F 44 [ω.w 0, ω.w 1, .vi 2]).toL 0 1, getV (F 44 [ω.w 0, ω.w 1, .vi 2]).toL 0 2]) := by
  obtain ⟨hl, ⟨p, b⟩, hs, e⟩ := goodP_at hg
  have hs : p ≤ (ω.w 0).toL.length := hs
  have d0 : decP (ω.w 0).toL (encP (ω.w 0).toL ⟨p, b⟩) = ⟨p, b⟩ := decP_enc hs
  have e2 : (2 : Int).toNat = 2 := rfl
  have e0 : p + 0 = p := rfl
  simp only [F40, F44, encP_0, encP_1, encP_2, e, d0, e2, T_u16, evalT, dens, den, dB, prim, toI_vi, toB_vb, toL_vl, cmpI_neq, cmpI_lss, cmpI_leq, cmpI_eql, cmpI_gtr, Bool.and_eq_true, decide_eq_true_eq, Bool.not_eq_true', decide_eq_false_iff_not]
  cases b with
  | true =>
    have hc : fitR (ω.w 0).toL ⟨p, true⟩ 2 = false := rfl
    simp only [tkN, tkS, hc, cond_true, cond_false]
    exact ifp (by decide) rfl
  | false =>
    refine ifn (by decide) ?_
    refine ifp (by omega) ?_
    by_cases h : p + 2 ≤ (ω.w 0).toL.length
    · refine ifn (by omega) ?_
      repeat refine ifp (by omega) ?_
      have g0 := getB (ω.w 0).toL ((p : Int) + 0 + 0) (p + 0) (by omega)
      have g1 := getB (ω.w 0).toL ((p : Int) + 0 + 1) (p + 1) (by omega)
      have hc : fitR (ω.w 0).toL ⟨p, false⟩ 2 = true := by simp [fitR, h]
      have hk := numV_in hl (i := p) (n := 2) h
      have w : IntKind.u16.wrap (numV (ω.w 0).toL p 2) = numV (ω.w 0).toL p 2 := by
        have e3 : (256 : Int) ^ 2 = 65536 := by decide
        rw [wu16]; omega
      simp only [e0, g0, g1, num_first hl (show p + 1 ≤ _ by omega), num_next hl (show p + 1 + 1 ≤ _ by omega) (by decide), tkN, tkS, hc, cond_true, cond_false, w]
      refine congrArg (fun x => some (0, x)) ?_
      simp only [List.cons.injEq, Val.vi.injEq, and_true, true_and]
      omega
    · refine ifp (by omega) ?_
      have hc : fitR (ω.w 0).toL ⟨p, false⟩ 2 = false := by simp [fitR]; omega
      simp only [tkN, tkS, hc, cond_true, cond_false]
theorem t_u32 {ω : Opq} (hf : ∀ i a, ω.f i a = F i a) (hg : goodP (ω.w 0).toL (ω.w 1) = true) : evalT T_u32 ω = some (0, [F 40 [ω.w 0, ω.w 1, .vi 4], getV (F 44 [ω.w 0, ω.w 1, .vi 4]).toL 0 0, getV (F 44 [ω.w 0, ω.w 1, .vi 4]).toL 0 1, getV (F 44 [ω.w 0, ω.w 1, .vi 4]).toL 0 2]) := by
  obtain ⟨hl, ⟨p, b⟩, hs, e⟩ := goodP_at hg
  have hs : p ≤ (ω.w 0).toL.length := hs
  have d0 : decP (ω.w 0).toL (encP (ω.w 0).toL ⟨p, b⟩) = ⟨p, b⟩ := decP_enc hs
  have e2 : (4 : Int).toNat = 4 := rfl
  have e0 : p + 0 = p := rfl
  simp only [F40, F44, encP_0, encP_1, encP_2, e, d0, e2, T_u32, evalT, dens, den, dB, prim, toI_vi, toB_vb, toL_vl, cmpI_neq, cmpI_lss, cmpI_leq, cmpI_eql, cmpI_gtr, Bool.and_eq_true, decide_eq_true_eq, Bool.not_eq_true', decide_eq_false_iff_not]
  cases b with
  | true =>
    have hc : fitR (ω.w 0).toL ⟨p, true⟩ 4 = false := rfl
    simp only [tkN, tkS, hc, cond_true, cond_false]
    exact ifp (by decide) rfl
  | false =>
    refine ifn (by decide) ?_
    refine ifp (by omega) ?_
    by_cases h : p + 4 ≤ (ω.w 0).toL.length
    · refine ifn (by omega) ?_
      repeat refine ifp (by omega) ?_
      have g0 := getB (ω.w 0).toL ((p : Int) + 0 + 0) (p + 0) (by omega)
      have g1 := getB (ω.w 0).toL ((p : Int) + 0 + 1) (p + 1) (by omega)
      have g2 := getB (ω.w 0).toL ((p : Int) + 0 + 2) (p + 2) (by omega)
      have g3 := getB (ω.w 0).toL ((p : Int) + 0 + 3) (p + 3) (by omega)
      have hc : fitR (ω.w 0).toL ⟨p, false⟩ 4 = true := by simp [fitR, h]
      have hk := numV_in hl (i := p) (n := 4) h
      have w : IntKind.u32.wrap (numV (ω.w 0).toL p 4) = numV (ω.w 0).toL p 4 := by
        have e3 : (256 : Int) ^ 4 = 4294967296 := by decide
        rw [wu32]; omega
      simp only [e0, g0, g1, g2, g3, num_first hl (show p + 1 ≤ _ by omega), num_next hl (show p + 1 + 1 ≤ _ by omega) (by decide), num_next hl (show p + 2 + 1 ≤ _ by omega) (by decide), num_next hl (show p + 3 + 1 ≤ _ by omega) (by decide), tkN, tkS, hc, cond_true, cond_false, w]
      refine congrArg (fun x => some (0, x)) ?_
      simp only [List.cons.injEq, Val.vi.injEq, and_true, true_and]
      omega
    · refine ifp (by omega) ?_
      have hc : fitR (ω.w 0).toL ⟨p, false⟩ 4 = false := by simp [fitR]; omega
      simp only [tkN, tkS, hc, cond_true, cond_false]
theorem t_u64 {ω : Opq} (hf : ∀ i a, ω.f i a = F i a) (hg : goodP (ω.w 0).toL (ω.w 1) = true) : evalT T_u64 ω = some (0, [F 40 [ω.w 0, ω.w 1, .vi 8], getV (F 44 [ω.w 0, ω.w 1, .vi 8]).toL 0 0, getV (F 44 [ω.w 0, ω.w 1, .vi 8]).toL 0 1, getV (F 44 [ω.w 0, ω.w 1, .vi 8]).toL 0 2]) := by
  obtain ⟨hl, ⟨p, b⟩, hs, e⟩ := goodP_at hg
  have hs : p ≤ (ω.w 0).toL.length := hs
  have d0 : decP (ω.w 0).toL (encP (ω.w 0).toL ⟨p, b⟩) = ⟨p, b⟩ := decP_enc hs
  have e2 : (8 : Int).toNat = 8 := rfl
  have e0 : p + 0 = p := rfl
  simp only [F40, F44, encP_0, encP_1, encP_2, e, d0, e2, T_u64, evalT, dens, den, dB, prim, toI_vi, toB_vb, toL_vl, cmpI_neq, cmpI_lss, cmpI_leq, cmpI_eql, cmpI_gtr, Bool.and_eq_true, decide_eq_true_eq, Bool.not_eq_true', decide_eq_false_iff_not]
  cases b with
  | true =>
    have hc : fitR (ω.w 0).toL ⟨p, true⟩ 8 = false := rfl
    simp only [tkN, tkS, hc, cond_true, cond_false]
    exact ifp (by decide) rfl
  | false =>
    refine ifn (by decide) ?_
    refine ifp (by omega) ?_
    by_cases h : p + 8 ≤ (ω.w 0).toL.length
    · refine ifn (by omega) ?_
      repeat refine ifp (by omega) ?_
      have g0 := getB (ω.w 0).toL ((p : Int) + 0 + 0) (p + 0) (by omega)
      have g1 := getB (ω.w 0).toL ((p : Int) + 0 + 1) (p + 1) (by omega)
      have g2 := getB (ω.w 0).toL ((p : Int) + 0 + 2) (p + 2) (by omega)
      have g3 := getB (ω.w 0).toL ((p : Int) + 0 + 3) (p + 3) (by omega)
      have g4 := getB (ω.w 0).toL ((p : Int) + 0 + 4) (p + 4) (by omega)
      have g5 := getB (ω.w 0).toL ((p : Int) + 0 + 5) (p + 5) (by omega)
      have g6 := getB (ω.w 0).toL ((p : Int) + 0 + 6) (p + 6) (by omega)
      have g7 := getB (ω.w 0).toL ((p : Int) + 0 + 7) (p + 7) (by omega)
      have hc : fitR (ω.w 0).toL ⟨p, false⟩ 8 = true := by simp [fitR, h]
      have hk := numV_in hl (i := p) (n := 8) h
      simp only [e0, g0, g1, g2, g3, g4, g5, g6, g7, num_first hl (show p + 1 ≤ _ by omega), num_next hl (show p + 1 + 1 ≤ _ by omega) (by decide), num_next hl (show p + 2 + 1 ≤ _ by omega) (by decide), num_next hl (show p + 3 + 1 ≤ _ by omega) (by decide), num_next hl (show p + 4 + 1 ≤ _ by omega) (by decide), num_next hl (show p + 5 + 1 ≤ _ by omega) (by decide), num_next hl (show p + 6 + 1 ≤ _ by omega) (by decide), num_next hl (show p + 7 + 1 ≤ _ by omega) (by decide), tkN, tkS, hc, cond_true, cond_false]
      refine congrArg (fun x => some (0, x)) ?_
      simp only [List.cons.injEq, Val.vi.injEq, and_true, true_and]
      omega
    · refine ifp (by omega) ?_
      have hc : fitR (ω.w 0).toL ⟨p, false⟩ 8 = false := by simp [fitR]; omega
      simp only [tkN, tkS, hc, cond_true, cond_false]
theorem encP_start (l : List Val) : Val.vl [.vl [.vi 0, .vi l.length, .vi 0]] = encP l ⟨0, false⟩ := by simp [encP]
theorem kindM_pos {l : List Val} (h : 1 ≤ l.length) : kindM l = bI l 0 := by
  unfold kindM; rw [decide_eq_false (by omega)]; rfl
theorem t_kindP {ω : Opq} {k : Int} (hl : okL (ω.w 0).toL = true) (h1 : 1 ≤ (ω.w 0).toL.length) (hk : kindM (ω.w 0).toL = k) :
    evalT T_kindP ω = some (0, [.vi k, getV (F 44 [ω.w 0, .vl [.vl [.vi 0, .vi (ω.w 0).toL.length, .vi 0]], .vi 1]).toL 0 0, getV (F 44 [ω.w 0, .vl [.vl [.vi 0, .vi (ω.w 0).toL.length, .vi 0]], .vi 1]).toL 0 1, getV (F 44 [ω.w 0, .vl [.vl [.vi 0, .vi (ω.w 0).toL.length, .vi 0]], .vi 1]).toL 0 2]) := by
  have hc : fitR (ω.w 0).toL ⟨0, false⟩ 1 = true := by simp [fitR, h1]
  have d0 : decP (ω.w 0).toL (encP (ω.w 0).toL ⟨0, false⟩) = ⟨0, false⟩ := decP_enc (Nat.zero_le _)
  rw [kindM_pos h1] at hk
  have hb := bI_in hl (show 0 < (ω.w 0).toL.length by omega)
  have g0 := getB (ω.w 0).toL 0 0 rfl
  have e2 : (1 : Int).toNat = 1 := rfl
  simp only [encP_start, F44, encP_0, encP_1, encP_2, d0, e2, T_kindP, evalT, dens, den, dB, prim, toI_vi, toB_vb, toL_vl, cmpI_neq, cmpI_lss, cmpI_leq, Bool.and_eq_true, decide_eq_true_eq, g0, tkS, hc, cond_true, cond_false]
  refine ifn (by omega) ?_
  repeat refine ifp (by omega) ?_
  rw [wu64_b hb.1 hb.2, or_0 hb.1 hb.2, wu8]
  refine congrArg (fun x => some (0, x)) ?_
  simp only [List.cons.injEq, Val.vi.injEq, and_true, true_and]
  omega
theorem okBy_sub {l : List Val} (h : okL l = true) (i m : Nat) : okBy ((l.drop i).take m) = true := by
  have h2 := okL_by h
  simp only [okBy, List.all_eq_true] at h2 ⊢
  exact fun x hx => h2 x (List.mem_of_mem_drop (List.mem_of_mem_take hx))
theorem bok_prim (v : Val) : prim .bok [v] = .vb (okBy v.toL) := rfl
theorem bstr_prim (v : Val) : prim .bstr [v] = .vs (v.toL.map fun r => UInt8.ofNat (r.toL.getD 0 default).toI.toNat) := rfl
theorem lsub_prim (l a b : Val) : prim .lsub [l, a, b] = .vl ((l.toL.drop a.toI.toNat).take (b.toI - a.toI).toNat) := rfl
theorem t_textP {ω : Opq} (hf : ∀ i a, ω.f i a = F i a) (hg : goodP (ω.w 0).toL (ω.w 1) = true) : evalT T_textP ω = some (0, [F 70 [ω.w 0, ω.w 1], getV (F 71 [ω.w 0, ω.w 1]).toL 0 0, getV (F 71 [ω.w 0, ω.w 1]).toL 0 1, getV (F 71 [ω.w 0, ω.w 1]).toL 0 2]) := by
  obtain ⟨hl, s, hs, e⟩ := goodP_at hg
  have hll := okL_len hl
  have d0 := decP_enc hs
  have e2 : (2 : Int).toNat = 2 := rfl
  have hg' : goodP (ω.w 0).toL (encP (ω.w 0).toL s) = true := by rw [← e]; exact hg
  have hn := tkN_in hl s 2
  have e3 : (256 : Int) ^ 2 = 65536 := by decide
  have hw : IntKind.i64.wrap (tkN (ω.w 0).toL s 2) = tkN (ω.w 0).toL s 2 := wrap_i64 (by omega) (by omega)
  have hN : (txN (ω.w 0).toL s : Int) = tkN (ω.w 0).toL s 2 := by unfold txN; omega
  simp only [T_textP, evalT, dens, den, dB, hf, F40, F44, F46, F70, F71, e, d0, hg', e2]
  simp only [prim, bok_prim, bstr_prim, lsub_prim, encP_0, encP_1, encP_2, toI_vi, toB_vb, toL_vl, cmpI_neq, cmpI_lss, cmpI_leq, Bool.and_eq_true, decide_eq_true_eq, Bool.not_eq_true', decide_eq_false_iff_not, e2, hw, if_true]
  cases hc : fitR (ω.w 0).toL s 2 with
  | false =>
    have ho : txOk (ω.w 0).toL s = false := by simp [txOk, hc]
    have h1 : tkS (ω.w 0).toL s 2 = ⟨s.pos, true⟩ := by unfold tkS; rw [hc]; rfl
    simp only [h1, txV, txS, ho, cond_true, cond_false]
    exact ifp (by decide) rfl
  | true =>
    have h1 : tkS (ω.w 0).toL s 2 = ⟨s.pos + 2, false⟩ := by unfold tkS; rw [hc]; rfl
    have h2 : s.bad = false ∧ s.pos + 2 ≤ (ω.w 0).toL.length := by
      simp only [fitR, Bool.and_eq_true, Bool.not_eq_true', decide_eq_true_eq] at hc; exact hc
    simp only [h1, cond_false]
    refine ifn (by decide) ?_
    refine ifp (by omega) ?_
    by_cases h3 : s.pos + 2 + txN (ω.w 0).toL s ≤ (ω.w 0).toL.length
    · have ho : txOk (ω.w 0).toL s = true := by simp [txOk, hc, h3]
      refine ifn (by omega) ?_
      refine ifp (by omega) ?_
      have t1 : (((s.pos + 2 : Nat) : Int) + 0).toNat = s.pos + 2 := by omega
      have t2 : (((s.pos + 2 : Nat) : Int) + 0 + tkN (ω.w 0).toL s 2 - (((s.pos + 2 : Nat) : Int) + 0)).toNat = txN (ω.w 0).toL s := by unfold txN; congr 1; omega
      rw [t1, t2]
      refine ifp ⟨⟨by omega, by omega⟩, by omega, okBy_sub hl _ _⟩ ?_
      simp only [txV, txS, ho, cond_true, cond_false]
      refine congrArg (fun x => some (0, x)) ?_
      simp only [List.cons.injEq, Val.vi.injEq, and_true, true_and]
      omega
    · have ho : txOk (ω.w 0).toL s = false := by simp [txOk, hc, h3]
      refine ifp (by omega) ?_
      simp only [txV, txS, ho, cond_true, cond_false]
theorem t_paneP {ω : Opq} (hf : ∀ i a, ω.f i a = F i a) (hg : goodP (ω.w 0).toL (ω.w 1) = true) : evalT T_paneP ω = some (0, [getV (F 74 [ω.w 0, ω.w 1]).toL 0 0, getV (F 74 [ω.w 0, ω.w 1]).toL 0 1, getV (F 74 [ω.w 0, ω.w 1]).toL 0 2, getV (F 75 [ω.w 0, ω.w 1]).toL 0 0, getV (F 75 [ω.w 0, ω.w 1]).toL 0 1, getV (F 75 [ω.w 0, ω.w 1]).toL 0 2]) := by
  obtain ⟨hl, s, hs, e⟩ := goodP_at hg
  have e8 : (8 : Int).toNat = 8 := rfl
  have h1 := txS_le hs
  have h2 := tkS_le h1 8
  simp only [T_paneP, evalT, dens, den, dB, hf, F40, F44, F46, F70, F71, F74, F75, e, decP_enc hs, decP_enc h1, decP_enc h2, goodP_enc hs, goodP_enc h1, goodP_enc h2, e8, hl, toB_vb, toI_vi, toL_vl, if_true]
  rfl
def stP (l : List Val) (n : Nat) (s : Rd) (acc : List Val) : List Val := [.vi n, .vi s.pos, .vi ((l.length : Int) - s.pos), .vi (bif s.bad then 20 else 0), .vi acc.length, .vl acc]
def outP (l : List Val) (r : Nat × Rd × List Val) : List Val := stP l r.1 r.2.1 r.2.2
theorem lpP_loop {step : List Val → Option (Nat × List Val)} {l : List Val} {f : Rd → Rd} {g : Rd → List Val} (hle : ∀ s : Rd, s.pos ≤ l.length → (f s).pos ≤ l.length)
    (h1 : ∀ (n : Nat) (s : Rd) (acc : List Val), n < 255 → s.pos ≤ l.length → acc.length ≤ 1000 → s.bad = false → step (stP l (n + 1) s acc) = some (0, stP l n (f s) (acc ++ [.vl (g s)])))
    (h2 : ∀ (s : Rd) (acc : List Val), step (stP l 0 s acc) = some (1, stP l 0 s acc))
    (h3 : ∀ (n : Nat) (s : Rd) (acc : List Val), s.bad = true → step (stP l (n + 1) s acc) = some (1, stP l (n + 1) s acc)) :
    ∀ (n : Nat) (s : Rd) (acc : List Val), n ≤ 255 → s.pos ≤ l.length → acc.length + n ≤ 1000 → loopOf step (stP l n s acc) = some (0, outP l (lpR f g n s acc))
  | 0, s, acc, _, _, _ => by
    rw [loopOf_iff]; exact .out (h2 s acc)
  | n + 1, s, acc, hn, hs, ha => by
    cases hb : s.bad with
    | true =>
      have e : lpR f g (n + 1) s acc = (n + 1, s, acc) := by simp only [lpR, hb, cond_true]
      rw [e, loopOf_iff]; exact .out (h3 n s acc hb)
    | false =>
      have e : lpR f g (n + 1) s acc = lpR f g n (f s) (acc ++ [.vl (g s)]) := by simp only [lpR, hb, cond_false]
      have := lpP_loop hle h1 h2 h3 n (f s) (acc ++ [.vl (g s)]) (by omega) (hle s hs) (by simp only [List.length_append, List.length_cons, List.length_nil]; omega)
      rw [loopOf_iff] at this
      rw [e, loopOf_iff]
      exact .more (h1 n s acc (by omega) hs (by omega) hb) this
theorem sub_u8 {n : Nat} (h : n < 255) : arI .sub .u8 ((n + 1 : Nat) : Int) 1 = (n : Int) := by
  show IntKind.u8.wrap (((n + 1 : Nat) : Int) - 1) = _
  rw [wu8]; omega
theorem encP_fold (l : List Val) (s : Rd) : Val.vl [.vl [.vi s.pos, .vi ((l.length : Int) - s.pos), .vi (bif s.bad then 20 else 0)]] = encP l s := rfl
theorem row_fold (l : List Val) (s : Rd) : Val.vl [getV [.vl (pnV l s)] 0 0, getV [.vl (pnV l s)] 0 1, getV [.vl (pnV l s)] 0 2, .vi (IntKind.i64.wrap (tkN l (pnS l s) 8)), .vi (IntKind.i64.wrap (tkN l (tkS l (pnS l s) 8) 8)), .vi (IntKind.i64.wrap (tkN l (tkS l (tkS l (pnS l s) 8) 8) 8)), .vi (IntKind.i64.wrap (tkN l (tkS l (tkS l (tkS l (pnS l s) 8) 8) 8) 8))] = .vl (rwV l s) := rfl
theorem pane_fold (l : List Val) (s : Rd) : Val.vl [getV [.vl (pnV l s)] 0 0, getV [.vl (pnV l s)] 0 1, getV [.vl (pnV l s)] 0 2] = .vl (pnV l s) := rfl
theorem rwS_fold (l : List Val) (s : Rd) : tkS l (tkS l (tkS l (tkS l (pnS l s) 8) 8) 8) 8 = rwS l s := rfl
section
variable {ω : Opq} (hf : ∀ i a, ω.f i a = F i a) (hl : okL (ω.w 0).toL = true)
theorem up0 (ω : Opq) (l : List Val) : (ω.upd 2000 l).w 0 = ω.w 0 := rfl
theorem up1 (ω : Opq) (a : Val) (l : List Val) : (ω.upd 2000 (a :: l)).w 2000 = a := rfl
theorem up2 (ω : Opq) (a b : Val) (l : List Val) : (ω.upd 2000 (a :: b :: l)).w 2001 = b := rfl
theorem up3 (ω : Opq) (a b c : Val) (l : List Val) : (ω.upd 2000 (a :: b :: c :: l)).w 2002 = c := rfl
theorem up4 (ω : Opq) (a b c d : Val) (l : List Val) : (ω.upd 2000 (a :: b :: c :: d :: l)).w 2003 = d := rfl
theorem up5 (ω : Opq) (a b c d e : Val) (l : List Val) : (ω.upd 2000 (a :: b :: c :: d :: e :: l)).w 2004 = e := rfl
theorem up6 (ω : Opq) (a b c d e f : Val) (l : List Val) : (ω.upd 2000 (a :: b :: c :: d :: e :: f :: l)).w 2005 = f := rfl
include hf hl in
theorem step119 (n : Nat) (s : Rd) (acc : List Val) (hn : n < 255) (hs : s.pos ≤ (ω.w 0).toL.length) (ha : acc.length ≤ 1000) (hb : s.bad = false) :
    evalT L119 (ω.upd 2000 (stP (ω.w 0).toL (n + 1) s acc)) = some (0, stP (ω.w 0).toL n (rwS (ω.w 0).toL s) (acc ++ [.vl (rwV (ω.w 0).toL s)])) := by
  have a8 : (8 : Int).toNat = 8 := rfl
  have h1 := pnS_le hs
  have h2 := tkS_le h1 8
  have h3 := tkS_le h2 8
  have h4 := tkS_le h3 8
  have e := encP_fold (ω.w 0).toL s
  rw [hb] at e
  simp only [cond_false] at e
  obtain ⟨B, hB⟩ : ∃ B : Int, (1000000 : Int) = B := ⟨_, rfl⟩
  simp only [L119, hB, evalT, dens, den, dB, upd_f, hf, stP, hb, up0, up1, up2, up3, up4, up5, up6, prim, toI_vi, toB_vb, toL_vl, cmpI_gtr, cmpI_eql, cmpI_leq, cond_false, e, a8, F40, F44, F46, F74, F75, decP_enc hs, decP_enc h1, decP_enc h2, decP_enc h3, decP_enc h4, goodP_enc hs, goodP_enc h1, goodP_enc h2, goodP_enc h3, goodP_enc h4, hl, if_true, row_fold, rwS_fold, encP_0, encP_1, encP_2, sub_u8 hn, List.length_append, List.length_cons, List.length_nil, Bool.and_eq_true, decide_eq_true_eq]
  refine ifp (by omega) ?_
  refine ifp ⟨trivial, by omega⟩ ?_
  rfl
include hf hl in
theorem step120 (n : Nat) (s : Rd) (acc : List Val) (hn : n < 255) (hs : s.pos ≤ (ω.w 0).toL.length) (ha : acc.length ≤ 1000) (hb : s.bad = false) :
    evalT L120 (ω.upd 2000 (stP (ω.w 0).toL (n + 1) s acc)) = some (0, stP (ω.w 0).toL n (pnS (ω.w 0).toL s) (acc ++ [.vl (pnV (ω.w 0).toL s)])) := by
  have e := encP_fold (ω.w 0).toL s
  rw [hb] at e
  simp only [cond_false] at e
  obtain ⟨B, hB⟩ : ∃ B : Int, (1000000 : Int) = B := ⟨_, rfl⟩
  simp only [L120, hB, evalT, dens, den, dB, upd_f, hf, stP, hb, up0, up1, up2, up3, up4, up5, up6, prim, toI_vi, toB_vb, toL_vl, cmpI_gtr, cmpI_eql, cmpI_leq, cond_false, e, F46, F74, F75, decP_enc hs, goodP_enc hs, hl, if_true, pane_fold, encP_0, encP_1, encP_2, sub_u8 hn, List.length_append, List.length_cons, List.length_nil, Bool.and_eq_true, decide_eq_true_eq]
  refine ifp (by omega) ?_
  refine ifp ⟨trivial, by omega⟩ ?_
  rfl
theorem end119 (s : Rd) (acc : List Val) : evalT L119 (ω.upd 2000 (stP (ω.w 0).toL 0 s acc)) = some (1, stP (ω.w 0).toL 0 s acc) := by
  simp only [L119, evalT, dens, den, dB, stP, up1, up2, up3, up4, up5, up6, prim, toI_vi, toB_vb, cmpI_gtr, decide_eq_true_eq]
  exact ifn (by omega) rfl
theorem end120 (s : Rd) (acc : List Val) : evalT L120 (ω.upd 2000 (stP (ω.w 0).toL 0 s acc)) = some (1, stP (ω.w 0).toL 0 s acc) := by
  simp only [L120, evalT, dens, den, dB, stP, up1, up2, up3, up4, up5, up6, prim, toI_vi, toB_vb, cmpI_gtr, decide_eq_true_eq]
  exact ifn (by omega) rfl
theorem bad119 (n : Nat) (s : Rd) (acc : List Val) (hb : s.bad = true) : evalT L119 (ω.upd 2000 (stP (ω.w 0).toL (n + 1) s acc)) = some (1, stP (ω.w 0).toL (n + 1) s acc) := by
  simp only [L119, evalT, dens, den, dB, stP, hb, up1, up2, up3, up4, up5, up6, prim, toI_vi, toB_vb, cmpI_gtr, cmpI_eql, cond_true, decide_eq_true_eq]
  exact ifp (by omega) (ifn (by decide) rfl)
theorem bad120 (n : Nat) (s : Rd) (acc : List Val) (hb : s.bad = true) : evalT L120 (ω.upd 2000 (stP (ω.w 0).toL (n + 1) s acc)) = some (1, stP (ω.w 0).toL (n + 1) s acc) := by
  simp only [L120, evalT, dens, den, dB, stP, hb, up1, up2, up3, up4, up5, up6, prim, toI_vi, toB_vb, cmpI_gtr, cmpI_eql, cond_true, decide_eq_true_eq]
  exact ifp (by omega) (ifn (by decide) rfl)
include hf hl in
theorem loop119 (n : Nat) (s : Rd) (acc : List Val) (h1 : n ≤ 255) (h2 : s.pos ≤ (ω.w 0).toL.length) (h3 : acc.length + n ≤ 1000) :
    loopOf (fun vs => evalT L119 (ω.upd 2000 vs)) (stP (ω.w 0).toL n s acc) = some (0, outP (ω.w 0).toL (lpR (rwS (ω.w 0).toL) (rwV (ω.w 0).toL) n s acc)) :=
  lpP_loop (fun _ => rwS_le) (fun n s acc a b c d => step119 hf hl n s acc a b c d) (fun s acc => end119 s acc) (fun n s acc hb => bad119 n s acc hb) n s acc h1 h2 h3
include hf hl in
theorem loop120 (n : Nat) (s : Rd) (acc : List Val) (h1 : n ≤ 255) (h2 : s.pos ≤ (ω.w 0).toL.length) (h3 : acc.length + n ≤ 1000) :
    loopOf (fun vs => evalT L120 (ω.upd 2000 vs)) (stP (ω.w 0).toL n s acc) = some (0, outP (ω.w 0).toL (lpR (pnS (ω.w 0).toL) (pnV (ω.w 0).toL) n s acc)) :=
  lpP_loop (fun _ => pnS_le) (fun n s acc a b c d => step120 hf hl n s acc a b c d) (fun s acc => end120 s acc) (fun n s acc hb => bad120 n s acc hb) n s acc h1 h2 h3
end
theorem bad_eq (b : Bool) : (!((bif b then (20 : Int) else 0) == 0)) = b := by cases b <;> rfl
theorem F119 (n p q e : Int) (m : Int) (acc : List Val) (v : Val) (l : List Val) (k : Nat) (s : Rd) (h1 : n = (k : Int)) (h2 : p = s.pos) (h3 : e = bif s.bad then 20 else 0) : F 119 [.vi n, .vi p, .vi q, .vi e, .vi m, .vl acc, v] = encR (0, outP v.toL (lpR (rwS v.toL) (rwV v.toL) k s acc)) := by
  subst h1; subst h2; subst h3
  show lpP _ _ _ _ = _
  simp only [lpP, arg_0, arg_s, toI_vi, toL_vl, Int.toNat_natCast, bad_eq]
  rfl
theorem F120 (n p q e : Int) (m : Int) (acc : List Val) (v : Val) (l : List Val) (k : Nat) (s : Rd) (h1 : n = (k : Int)) (h2 : p = s.pos) (h3 : e = bif s.bad then 20 else 0) : F 120 [.vi n, .vi p, .vi q, .vi e, .vi m, .vl acc, v] = encR (0, outP v.toL (lpR (pnS v.toL) (pnV v.toL) k s acc)) := by
  subst h1; subst h2; subst h3
  show lpP _ _ _ _ = _
  simp only [lpP, arg_0, arg_s, toI_vi, toL_vl, Int.toNat_natCast, bad_eq]
  rfl
theorem lpR_le {l : List Val} {f : Rd → Rd} {g : Rd → List Val} (hle : ∀ s : Rd, s.pos ≤ l.length → (f s).pos ≤ l.length) : ∀ (n : Nat) (s : Rd) (acc : List Val), s.pos ≤ l.length → (lpR f g n s acc).2.1.pos ≤ l.length
  | 0, s, acc, h => h
  | n + 1, s, acc, h => by
    unfold lpR
    cases s.bad
    · exact lpR_le hle n _ _ (hle s h)
    · exact h
theorem lpR_len {f : Rd → Rd} {g : Rd → List Val} : ∀ (n : Nat) (s : Rd) (acc : List Val), (lpR f g n s acc).2.2.length ≤ acc.length + n
  | 0, s, acc => Nat.le_refl _
  | n + 1, s, acc => by
    unfold lpR
    cases s.bad
    · have := lpR_len (f := f) (g := g) n (f s) (acc ++ [.vl (g s)])
      simp only [List.length_append, List.length_cons, List.length_nil] at this
      show (lpR f g n (f s) (acc ++ [.vl (g s)])).2.2.length ≤ _
      omega
    · show acc.length ≤ _
      omega
theorem lpR_n {f : Rd → Rd} {g : Rd → List Val} : ∀ (n : Nat) (s : Rd) (acc : List Val), (lpR f g n s acc).1 ≤ n
  | 0, s, acc => Nat.le_refl _
  | n + 1, s, acc => by
    unfold lpR
    cases s.bad
    · have := lpR_n (f := f) (g := g) n (f s) (acc ++ [.vl (g s)])
      show (lpR f g n (f s) (acc ++ [.vl (g s)])).1 ≤ _
      omega
    · exact Nat.le_refl _
theorem fold1 (l : List Val) : tkS l ⟨0, false⟩ 1 = s1R l := rfl
theorem fold2 (l : List Val) : tkS l (s1R l) 4 = s2R l := rfl
theorem fold3 (l : List Val) : tkS l (s2R l) 8 = s3R l := rfl
theorem fold4 (l : List Val) : tkS l (s3R l) 1 = s4R l := rfl
theorem fold5 (l : List Val) : tkS l (s4R l) 1 = s5R l := rfl
theorem fold6 (l : List Val) : tkS l (rowsR l).2.1 1 = s6R l := rfl
theorem s0_le (l : List Val) : (Rd.mk 0 false).pos ≤ l.length := Nat.zero_le _
theorem s1_le (l : List Val) : (s1R l).pos ≤ l.length := tkS_le (s0_le l) 1
theorem s2_le (l : List Val) : (s2R l).pos ≤ l.length := tkS_le (s1_le l) 4
theorem s3_le (l : List Val) : (s3R l).pos ≤ l.length := tkS_le (s2_le l) 8
theorem s4_le (l : List Val) : (s4R l).pos ≤ l.length := tkS_le (s3_le l) 1
theorem s5_le (l : List Val) : (s5R l).pos ≤ l.length := tkS_le (s4_le l) 1
theorem rows_le (l : List Val) : (rowsR l).2.1.pos ≤ l.length := lpR_le (fun _ => rwS_le) _ _ _ (s5_le l)
theorem s6_le (l : List Val) : (s6R l).pos ≤ l.length := tkS_le (rows_le l) 1
theorem gone_le (l : List Val) : (goneR l).2.1.pos ≤ l.length := lpR_le (fun _ => pnS_le) _ _ _ (s6_le l)
def nRows (l : List Val) : Nat := (tkN l (s4R l) 1).toNat
def nGone (l : List Val) : Nat := (tkN l (rowsR l).2.1 1).toNat
theorem nRows_e {l : List Val} (h : okL l = true) : tkN l (s4R l) 1 = (nRows l : Int) := by
  have := tkN_in h (s4R l) 1
  unfold nRows; omega
theorem nGone_e {l : List Val} (h : okL l = true) : tkN l (rowsR l).2.1 1 = (nGone l : Int) := by
  have := tkN_in h (rowsR l).2.1 1
  unfold nGone; omega
theorem nRows_le {l : List Val} (h : okL l = true) : nRows l ≤ 255 := by
  have := tkN_in h (s4R l) 1
  have e : (256 : Int) ^ 1 = 256 := by decide
  unfold nRows; omega
theorem nGone_le {l : List Val} (h : okL l = true) : nGone l ≤ 255 := by
  have := tkN_in h (rowsR l).2.1 1
  have e : (256 : Int) ^ 1 = 256 := by decide
  unfold nGone; omega
theorem rows_fold (l : List Val) : lpR (rwS l) (rwV l) (nRows l) (s5R l) [] = rowsR l := rfl
theorem gone_fold (l : List Val) : lpR (pnS l) (pnV l) (nGone l) (s6R l) [] = goneR l := rfl
theorem rows_len {l : List Val} (h : okL l = true) : (rowsR l).2.2.length ≤ 255 := by
  have := lpR_len (f := rwS l) (g := rwV l) (nRows l) (s5R l) []
  have := nRows_le h
  rw [rows_fold] at *
  simp only [List.length_nil] at *; omega
theorem gone_len {l : List Val} (h : okL l = true) : (goneR l).2.2.length ≤ 255 := by
  have := lpR_len (f := pnS l) (g := pnV l) (nGone l) (s6R l) []
  have := nGone_le h
  rw [gone_fold] at *
  simp only [List.length_nil] at *; omega
/-- The rows' loop, from its start. -/
theorem F119s {l : List Val} (h : okL l = true) (v : Val) (hv : v.toL = l) (m q : Int) : F 119 [.vi (tkN l (s4R l) 1), .vi (s5R l).pos, .vi q, .vi (bif (s5R l).bad then 20 else 0), .vi m, .vl [], v] = encR (0, outP l (rowsR l)) := by
  rw [F119 _ _ _ _ _ _ _ l (nRows l) (s5R l) (nRows_e h) rfl rfl, hv, rows_fold]
theorem F120s {l : List Val} (h : okL l = true) (v : Val) (hv : v.toL = l) (m q : Int) : F 120 [.vi (tkN l (rowsR l).2.1 1), .vi (s6R l).pos, .vi q, .vi (bif (s6R l).bad then 20 else 0), .vi m, .vl [], v] = encR (0, outP l (goneR l)) := by
  rw [F120 _ _ _ _ _ _ _ l (nGone l) (s6R l) (nGone_e h) rfl rfl, hv, gone_fold]
/-- What comes out of the loops. -/
theorem outP_1 (l : List Val) (r : Nat × Rd × List Val) : getV (encR (0, outP l r)).toL 1 1 = .vi r.2.1.pos := rfl
theorem outP_2 (l : List Val) (r : Nat × Rd × List Val) : getV (encR (0, outP l r)).toL 1 2 = .vi ((l.length : Int) - r.2.1.pos) := rfl
theorem outP_3 (l : List Val) (r : Nat × Rd × List Val) : getV (encR (0, outP l r)).toL 1 3 = .vi (bif r.2.1.bad then 20 else 0) := rfl
theorem outP_4 (l : List Val) (r : Nat × Rd × List Val) : getV (encR (0, outP l r)).toL 1 4 = .vi r.2.2.length := rfl
theorem outP_5 (l : List Val) (r : Nat × Rd × List Val) : getV (encR (0, outP l r)).toL 1 5 = .vl r.2.2 := rfl
section
variable {ω : Opq} (hf : ∀ i a, ω.f i a = F i a) (hl : okL (ω.w 0).toL = true)
end
theorem F39 (l : Val) : F 39 [l] = .vb (okL l.toL) := rfl
theorem F49 (l k : Val) : F 49 [l, k] = .vb (eqB (kindM l.toL) k.toI) := rfl
theorem F4r (a0 a1 a2 a3 a4 a5 a6 a7 a8 a9 a10 a11 : Val) : F 4 [a0, a1, a2, a3, a4, a5, a6, a7, a8, a9, a10, a11] = .vb (rightM (repM [a0, a1, a2, a3, a4, a5, a6, a7, a8, a9, a10, a11])) := rfl
theorem parse_blank {l : List Val} (h : l.length = 0) : parseV l = blankV 20 := if_pos h
theorem parse_odd {l : List Val} (h : ¬ l.length = 0) (h2 : bI l 0 < 1 ∨ 7 < bI l 0) : parseV l = blankV 80 := (if_neg h).trans (if_pos h2)
theorem parse_kind {l : List Val} (h : ¬ l.length = 0) (h2 : ¬ (bI l 0 < 1 ∨ 7 < bI l 0)) : parseV l = parseK l (bI l 0) := (if_neg h).trans (if_neg h2)
theorem bad_iff (b : Bool) : ¬ (bif b then (20 : Int) else 0) = 0 ↔ b = true := by cases b <;> simp
theorem bad_20 {b : Bool} (h : b = true) : (bif b then (20 : Int) else 0) = 20 := by rw [h]; rfl
theorem sub_all (a : List Val) : (a.drop (Int.toNat 0)).take ((a.length : Int) - 0).toNat = a := by
  rw [show ((a.length : Int) - 0).toNat = a.length by omega]; exact List.take_length
section
variable {l : List Val} {s : Rd} {a0 a1 a2 a3 a4 a5 a6 a7 a8 a9 a10 a11 : Val} {c1 c2 c3 c4 c5 c6 : Prop} [Decidable c1] [Decidable c2] [Decidable c3] [Decidable c4] [Decidable c5] [Decidable c6] {e : Int} {odd : Bool}
theorem finP (h1 : c1 ↔ s.bad = true) (he : s.bad = true → e = 20) (h2 : c2) (h3 : c3 ↔ s.pos = l.length) (hs : s.pos ≤ l.length) (h4 : c4 ↔ rightM (repM [a0, a1, a2, a3, a4, a5, a6, a7, a8, a9, a10, a11]) = false) :
    (if c1 then some ((0 : Nat), [.vi 0, .vi 0, .vi 0, .vb false, .vi 0, .vi 0, .vi 0, .vi 0, .vi 0, .vi 0, .vi e, .vl [], .vl []]) else if c2 then (if c3 then (if c4 then some (0, [.vi 0, .vi 0, .vi 0, .vb false, .vi 0, .vi 0, .vi 0, .vi 0, .vi 0, .vi 0, .vi 81, .vl [], .vl []]) else some (0, [a0, a1, a2, a3, a4, a5, a6, a7, a8, a9, .vi 0, a10, a11])) else some (0, [.vi 0, .vi 0, .vi 0, .vb false, .vi 0, .vi 0, .vi 0, .vi 0, .vi 0, .vi 0, .vi 21, .vl [], .vl []])) else none) = some (0, finV l s false [a0, a1, a2, a3, a4, a5, a6, a7, a8, a9, a10, a11]) := by
  unfold finV
  cases hb : s.bad with
  | true => rw [he hb]; exact ifp (h1.2 hb) rfl
  | false =>
    refine ifn (fun h => by have := h1.1 h; rw [hb] at this; cases this) (ifp h2 ?_)
    by_cases hp : s.pos = l.length
    · refine ifp (h3.2 hp) ?_
      rw [decide_eq_false (by omega : ¬ s.pos < l.length)]
      cases hr : rightM (repM [a0, a1, a2, a3, a4, a5, a6, a7, a8, a9, a10, a11]) with
      | false => exact ifp (h4.2 hr) rfl
      | true => exact ifn (fun h => by rw [h4.1 h] at hr; cases hr) rfl
    · refine ifn (fun h => hp (h3.1 h)) ?_
      rw [decide_eq_true (by omega : s.pos < l.length)]; rfl
theorem finPo (h1 : c1 ↔ s.bad = true) (he : s.bad = true → e = 20) (h2 : c2) (h3 : c3 ↔ s.pos = l.length) (hs : s.pos ≤ l.length) (h5 : c5 ↔ odd = true) (h6 : c6) (h4 : c4 ↔ rightM (repM [a0, a1, a2, a3, a4, a5, a6, a7, a8, a9, a10, a11]) = false) :
    (if c1 then some ((0 : Nat), [.vi 0, .vi 0, .vi 0, .vb false, .vi 0, .vi 0, .vi 0, .vi 0, .vi 0, .vi 0, .vi e, .vl [], .vl []]) else if c2 then (if c3 then (if c5 then some (0, [.vi 0, .vi 0, .vi 0, .vb false, .vi 0, .vi 0, .vi 0, .vi 0, .vi 0, .vi 0, .vi 81, .vl [], .vl []]) else if c6 then (if c4 then some (0, [.vi 0, .vi 0, .vi 0, .vb false, .vi 0, .vi 0, .vi 0, .vi 0, .vi 0, .vi 0, .vi 81, .vl [], .vl []]) else some (0, [a0, a1, a2, a3, a4, a5, a6, a7, a8, a9, .vi 0, a10, a11])) else none) else some (0, [.vi 0, .vi 0, .vi 0, .vb false, .vi 0, .vi 0, .vi 0, .vi 0, .vi 0, .vi 0, .vi 21, .vl [], .vl []])) else none) = some (0, finV l s odd [a0, a1, a2, a3, a4, a5, a6, a7, a8, a9, a10, a11]) := by
  unfold finV
  cases hb : s.bad with
  | true => rw [he hb]; exact ifp (h1.2 hb) rfl
  | false =>
    refine ifn (fun h => by have := h1.1 h; rw [hb] at this; cases this) (ifp h2 ?_)
    by_cases hp : s.pos = l.length
    · refine ifp (h3.2 hp) ?_
      rw [decide_eq_false (by omega : ¬ s.pos < l.length)]
      cases ho : odd with
      | true => exact ifp (h5.2 ho) rfl
      | false =>
        refine ifn (fun h => by have := h5.1 h; rw [ho] at this; cases this) (ifp h6 ?_)
        cases hr : rightM (repM [a0, a1, a2, a3, a4, a5, a6, a7, a8, a9, a10, a11]) with
        | false => exact ifp (h4.2 hr) rfl
        | true => exact ifn (fun h => by rw [h4.1 h] at hr; cases hr) rfl
    · refine ifn (fun h => hp (h3.1 h)) ?_
      rw [decide_eq_true (by omega : s.pos < l.length)]; rfl
end
section
variable {ω : Opq} (hf : ∀ i a, ω.f i a = F i a) (hl : okL (ω.w 0).toL = true)
include hf hl in
theorem loop119s : loopOf (fun vs => evalT L119 (ω.upd 2000 vs)) [.vi (nRows (ω.w 0).toL), .vi (s5R (ω.w 0).toL).pos, .vi (((ω.w 0).toL.length : Int) - (s5R (ω.w 0).toL).pos), .vi (bif (s5R (ω.w 0).toL).bad then 20 else 0), .vi ((0 : Nat) : Int), .vl []] = some (0, outP (ω.w 0).toL (rowsR (ω.w 0).toL)) := by
  have := loop119 hf hl (nRows (ω.w 0).toL) (s5R (ω.w 0).toL) [] (nRows_le hl) (s5_le _) (by have := nRows_le hl; simp only [List.length_nil]; omega)
  exact this
include hf hl in
theorem loop120s : loopOf (fun vs => evalT L120 (ω.upd 2000 vs)) [.vi (nGone (ω.w 0).toL), .vi (s6R (ω.w 0).toL).pos, .vi (((ω.w 0).toL.length : Int) - (s6R (ω.w 0).toL).pos), .vi (bif (s6R (ω.w 0).toL).bad then 20 else 0), .vi ((0 : Nat) : Int), .vl []] = some (0, outP (ω.w 0).toL (goneR (ω.w 0).toL)) := by
  have := loop120 hf hl (nGone (ω.w 0).toL) (s6R (ω.w 0).toL) [] (nGone_le hl) (s6_le _) (by have := nGone_le hl; simp only [List.length_nil]; omega)
  exact this
end
theorem F119n {l : List Val} (h : okL l = true) (v : Val) (hv : v.toL = l) (m q : Int) : F 119 [.vi (nRows l), .vi (s5R l).pos, .vi q, .vi (bif (s5R l).bad then 20 else 0), .vi m, .vl [], v] = encR (0, outP l (rowsR l)) := by
  rw [← nRows_e h]; exact F119s h v hv m q
theorem F120n {l : List Val} (h : okL l = true) (v : Val) (hv : v.toL = l) (m q : Int) : F 120 [.vi (nGone l), .vi (s6R l).pos, .vi q, .vi (bif (s6R l).bad then 20 else 0), .vi m, .vl [], v] = encR (0, outP l (goneR l)) := by
  rw [← nGone_e h]; exact F120s h v hv m q
theorem t_parse1 {ω : Opq} (hf : ∀ i a, ω.f i a = F i a) (hl : okL (ω.w 0).toL = true) (hk : (ω.w 0).toL.length = 0 ∨ bI (ω.w 0).toL 0 < 1 ∨ 7 < bI (ω.w 0).toL 0 ∨ bI (ω.w 0).toL 0 = 1) : evalT T_parse1 ω = some (0, parseV (ω.w 0).toL) := by
  have hll := okL_len hl
  have g0 := getB (ω.w 0).toL 0 0 rfl
  have n1 : (1 : Int).toNat = 1 := rfl
  have n2 : (2 : Int).toNat = 2 := rfl
  have n4 : (4 : Int).toNat = 4 := rfl
  have n8 : (8 : Int).toNat = 8 := rfl
  have z : ((0 : Nat) : Int) ≤ 1000 := by omega
  have l0 := s0_le (ω.w 0).toL
  have l1 := s1_le (ω.w 0).toL
  have l2 := s2_le (ω.w 0).toL
  have l3 := s3_le (ω.w 0).toL
  have l4 := s4_le (ω.w 0).toL
  have l5 := s5_le (ω.w 0).toL
  have l6 := rows_le (ω.w 0).toL
  have r1 := rows_len hl
  obtain ⟨B, hB⟩ : ∃ B : Int, (1000000 : Int) = B := ⟨_, rfl⟩
  have hll' : ((ω.w 0).toL.length : Int) ≤ B := by omega
  simp only [T_parse1, Bk, hB, parse1_0, parse1_1, parse1_2, parse1_3, parse1_4, parse1_5, parse1_6, parse1_7, parse1_8, parse1_9, parse1_10, parse1_11, parse1_12, parse1_13, parse1_14, parse1_15, parse1_16, parse1_17, parse1_18, parse1_19, evalT, evalTs, List.cons_append, List.nil_append, dens, den, dB, hf, prim, toI_vi, toB_vb, toL_vl, cmpI_eql, cmpI_neq, cmpI_lss, cmpI_gtr, cmpI_leq, Bool.and_eq_true, decide_eq_true_eq, Bool.not_eq_true', decide_eq_false_iff_not, g0, n1, n2, n4, n8, encP_start, F39, F40, F44, F46, F49, F4r, fold1, fold2, fold3, fold4, fold5, nRows_e hl, loop119s hf hl, F119n hl (ω.w 0) rfl, outP_1, outP_2, outP_3, outP_4, outP_5, sub_all, decP_enc l0, decP_enc l1, decP_enc l2, decP_enc l3, decP_enc l4, decP_enc l5, decP_enc l6, goodP_enc l0, goodP_enc l1, goodP_enc l2, goodP_enc l3, goodP_enc l4, goodP_enc l5, goodP_enc l6, encP_0, encP_1, encP_2, hl, hll', if_true, true_and, List.length_nil, z, and_self, and_true]
  by_cases h0 : (ω.w 0).toL.length = 0
  · rw [parse_blank h0]; exact ifp (by omega) rfl
  refine ifn (by omega) ?_
  refine ifp (by omega) ?_
  by_cases h1 : bI (ω.w 0).toL 0 < 1
  · rw [parse_odd h0 (.inl h1)]; exact ifp h1 rfl
  refine ifn h1 ?_
  by_cases h2 : 7 < bI (ω.w 0).toL 0
  · rw [parse_odd h0 (.inr h2)]; exact ifp h2 rfl
  refine ifn h2 ?_
  have hb : bI (ω.w 0).toL 0 = 1 := by omega
  have hkm : kindM (ω.w 0).toL = 1 := by rw [kindM_pos (by omega), hb]
  rw [parse_kind h0 (by omega), hb]
  refine ifp ⟨by omega, by rw [hkm]; exact eqB_self _⟩ ?_
  exact finPo (bad_iff _) bad_20 (by omega) (by omega) l6 (by rw [decide_eq_true_eq]) (by omega) Iff.rfl
theorem t_parse2 {ω : Opq} (hf : ∀ i a, ω.f i a = F i a) (hl : okL (ω.w 0).toL = true) (hk : (ω.w 0).toL.length = 0 ∨ bI (ω.w 0).toL 0 < 1 ∨ 7 < bI (ω.w 0).toL 0 ∨ bI (ω.w 0).toL 0 = 2) : evalT T_parse2 ω = some (0, parseV (ω.w 0).toL) := by
  have hll := okL_len hl
  have g0 := getB (ω.w 0).toL 0 0 rfl
  have n1 : (1 : Int).toNat = 1 := rfl
  have n2 : (2 : Int).toNat = 2 := rfl
  have n4 : (4 : Int).toNat = 4 := rfl
  have n8 : (8 : Int).toNat = 8 := rfl
  have z : ((0 : Nat) : Int) ≤ 1000 := by omega
  have l0 := s0_le (ω.w 0).toL
  have l1 := s1_le (ω.w 0).toL
  have l2 := s2_le (ω.w 0).toL
  have l3 := tkS_le l2 8
  have l4 := tkS_le l3 8
  have l5 := tkS_le l4 8
  obtain ⟨B, hB⟩ : ∃ B : Int, (1000000 : Int) = B := ⟨_, rfl⟩
  have hll' : ((ω.w 0).toL.length : Int) ≤ B := by omega
  simp only [T_parse2, Bk, hB, parse2_0, parse2_1, parse2_2, parse2_3, parse2_4, parse2_5, parse2_6, parse2_7, parse2_8, parse2_9, parse2_10, parse2_11, parse2_12, evalT, evalTs, List.cons_append, List.nil_append, dens, den, dB, hf, prim, toI_vi, toB_vb, toL_vl, cmpI_eql, cmpI_neq, cmpI_lss, cmpI_gtr, cmpI_leq, Bool.and_eq_true, decide_eq_true_eq, Bool.not_eq_true', decide_eq_false_iff_not, g0, n1, n2, n4, n8, encP_start, F39, F40, F44, F46, F49, F4r, fold1, fold2, decP_enc l0, decP_enc l1, decP_enc l2, decP_enc l3, decP_enc l4, decP_enc l5, goodP_enc l0, goodP_enc l1, goodP_enc l2, goodP_enc l3, goodP_enc l4, goodP_enc l5, encP_0, encP_1, encP_2, hl, hll', if_true, true_and, List.length_nil, z, and_self, and_true]
  by_cases h0 : (ω.w 0).toL.length = 0
  · rw [parse_blank h0]; exact ifp (by omega) rfl
  refine ifn (by omega) ?_
  refine ifp (by omega) ?_
  by_cases h1 : bI (ω.w 0).toL 0 < 1
  · rw [parse_odd h0 (.inl h1)]; exact ifp h1 rfl
  refine ifn h1 ?_
  by_cases h2 : 7 < bI (ω.w 0).toL 0
  · rw [parse_odd h0 (.inr h2)]; exact ifp h2 rfl
  refine ifn h2 ?_
  have hb : bI (ω.w 0).toL 0 = 2 := by omega
  have hkm : kindM (ω.w 0).toL = 2 := by rw [kindM_pos (by omega), hb]
  rw [parse_kind h0 (by omega), hb]
  refine ifp ⟨by omega, by rw [hkm]; exact eqB_self _⟩ ?_
  exact finP (bad_iff _) bad_20 (by omega) (by omega) l5 Iff.rfl
theorem t_parse3 {ω : Opq} (hf : ∀ i a, ω.f i a = F i a) (hl : okL (ω.w 0).toL = true) (hk : (ω.w 0).toL.length = 0 ∨ bI (ω.w 0).toL 0 < 1 ∨ 7 < bI (ω.w 0).toL 0 ∨ bI (ω.w 0).toL 0 = 3) : evalT T_parse3 ω = some (0, parseV (ω.w 0).toL) := by
  have hll := okL_len hl
  have g0 := getB (ω.w 0).toL 0 0 rfl
  have n1 : (1 : Int).toNat = 1 := rfl
  have n2 : (2 : Int).toNat = 2 := rfl
  have n4 : (4 : Int).toNat = 4 := rfl
  have n8 : (8 : Int).toNat = 8 := rfl
  have z : ((0 : Nat) : Int) ≤ 1000 := by omega
  have l0 := s0_le (ω.w 0).toL
  have l1 := s1_le (ω.w 0).toL
  have l2 := s2_le (ω.w 0).toL
  have l3 := tkS_le l2 8
  have l4 := tkS_le l3 8
  have l5 := tkS_le l4 8
  obtain ⟨B, hB⟩ : ∃ B : Int, (1000000 : Int) = B := ⟨_, rfl⟩
  have hll' : ((ω.w 0).toL.length : Int) ≤ B := by omega
  simp only [T_parse3, Bk, hB, parse3_0, parse3_1, parse3_2, parse3_3, parse3_4, parse3_5, parse3_6, parse3_7, parse3_8, parse3_9, parse3_10, parse3_11, parse3_12, evalT, evalTs, List.cons_append, List.nil_append, dens, den, dB, hf, prim, toI_vi, toB_vb, toL_vl, cmpI_eql, cmpI_neq, cmpI_lss, cmpI_gtr, cmpI_leq, Bool.and_eq_true, decide_eq_true_eq, Bool.not_eq_true', decide_eq_false_iff_not, g0, n1, n2, n4, n8, encP_start, F39, F40, F44, F46, F49, F4r, fold1, fold2, decP_enc l0, decP_enc l1, decP_enc l2, decP_enc l3, decP_enc l4, decP_enc l5, goodP_enc l0, goodP_enc l1, goodP_enc l2, goodP_enc l3, goodP_enc l4, goodP_enc l5, encP_0, encP_1, encP_2, hl, hll', if_true, true_and, List.length_nil, z, and_self, and_true]
  by_cases h0 : (ω.w 0).toL.length = 0
  · rw [parse_blank h0]; exact ifp (by omega) rfl
  refine ifn (by omega) ?_
  refine ifp (by omega) ?_
  by_cases h1 : bI (ω.w 0).toL 0 < 1
  · rw [parse_odd h0 (.inl h1)]; exact ifp h1 rfl
  refine ifn h1 ?_
  by_cases h2 : 7 < bI (ω.w 0).toL 0
  · rw [parse_odd h0 (.inr h2)]; exact ifp h2 rfl
  refine ifn h2 ?_
  have hb : bI (ω.w 0).toL 0 = 3 := by omega
  have hkm : kindM (ω.w 0).toL = 3 := by rw [kindM_pos (by omega), hb]
  rw [parse_kind h0 (by omega), hb]
  refine ifp ⟨by omega, by rw [hkm]; exact eqB_self _⟩ ?_
  exact finP (bad_iff _) bad_20 (by omega) (by omega) l5 Iff.rfl
theorem t_parse4 {ω : Opq} (hf : ∀ i a, ω.f i a = F i a) (hl : okL (ω.w 0).toL = true) (hk : (ω.w 0).toL.length = 0 ∨ bI (ω.w 0).toL 0 < 1 ∨ 7 < bI (ω.w 0).toL 0 ∨ bI (ω.w 0).toL 0 = 4) : evalT T_parse4 ω = some (0, parseV (ω.w 0).toL) := by
  have hll := okL_len hl
  have g0 := getB (ω.w 0).toL 0 0 rfl
  have n1 : (1 : Int).toNat = 1 := rfl
  have n2 : (2 : Int).toNat = 2 := rfl
  have n4 : (4 : Int).toNat = 4 := rfl
  have n8 : (8 : Int).toNat = 8 := rfl
  have z : ((0 : Nat) : Int) ≤ 1000 := by omega
  have l0 := s0_le (ω.w 0).toL
  have l1 := s1_le (ω.w 0).toL
  have l2 := s2_le (ω.w 0).toL
  have l3 := s3_le (ω.w 0).toL
  have l4 := s4_le (ω.w 0).toL
  have l5 := s5_le (ω.w 0).toL
  have l6 := rows_le (ω.w 0).toL
  have r1 := rows_len hl
  have l7 := s6_le (ω.w 0).toL
  have l8 := gone_le (ω.w 0).toL
  have r2 := gone_len hl
  obtain ⟨B, hB⟩ : ∃ B : Int, (1000000 : Int) = B := ⟨_, rfl⟩
  have hll' : ((ω.w 0).toL.length : Int) ≤ B := by omega
  simp only [T_parse4, Bk, hB, parse4_0, parse4_1, parse4_2, parse4_3, parse4_4, parse4_5, parse4_6, parse4_7, parse4_8, parse4_9, parse4_10, parse4_11, parse4_12, parse4_13, parse4_14, parse4_15, parse4_16, parse4_17, parse4_18, parse4_19, parse4_20, parse4_21, parse4_22, parse4_23, parse4_24, parse4_25, parse4_26, parse4_27, parse4_28, parse4_29, evalT, evalTs, List.cons_append, List.nil_append, dens, den, dB, hf, prim, toI_vi, toB_vb, toL_vl, cmpI_eql, cmpI_neq, cmpI_lss, cmpI_gtr, cmpI_leq, Bool.and_eq_true, decide_eq_true_eq, Bool.not_eq_true', decide_eq_false_iff_not, g0, n1, n2, n4, n8, encP_start, F39, F40, F44, F46, F49, F4r, fold1, fold2, fold3, fold4, fold5, nRows_e hl, loop119s hf hl, F119n hl (ω.w 0) rfl, outP_1, outP_2, outP_3, outP_4, outP_5, sub_all, fold6, nGone_e hl, loop120s hf hl, F120n hl (ω.w 0) rfl, encP_fold, decP_enc l0, decP_enc l1, decP_enc l2, decP_enc l3, decP_enc l4, decP_enc l5, decP_enc l6, decP_enc l7, decP_enc l8, goodP_enc l0, goodP_enc l1, goodP_enc l2, goodP_enc l3, goodP_enc l4, goodP_enc l5, goodP_enc l6, goodP_enc l7, goodP_enc l8, encP_0, encP_1, encP_2, hl, hll', if_true, true_and, List.length_nil, z, and_self, and_true]
  by_cases h0 : (ω.w 0).toL.length = 0
  · rw [parse_blank h0]; exact ifp (by omega) rfl
  refine ifn (by omega) ?_
  refine ifp (by omega) ?_
  by_cases h1 : bI (ω.w 0).toL 0 < 1
  · rw [parse_odd h0 (.inl h1)]; exact ifp h1 rfl
  refine ifn h1 ?_
  by_cases h2 : 7 < bI (ω.w 0).toL 0
  · rw [parse_odd h0 (.inr h2)]; exact ifp h2 rfl
  refine ifn h2 ?_
  have hb : bI (ω.w 0).toL 0 = 4 := by omega
  have hkm : kindM (ω.w 0).toL = 4 := by rw [kindM_pos (by omega), hb]
  rw [parse_kind h0 (by omega), hb]
  refine ifp ⟨by omega, by rw [hkm]; exact eqB_self _⟩ ?_
  exact finPo (bad_iff _) bad_20 (by omega) (by omega) l8 (by rw [decide_eq_true_eq]) (by omega) Iff.rfl
theorem t_parse5 {ω : Opq} (hf : ∀ i a, ω.f i a = F i a) (hl : okL (ω.w 0).toL = true) (hk : (ω.w 0).toL.length = 0 ∨ bI (ω.w 0).toL 0 < 1 ∨ 7 < bI (ω.w 0).toL 0 ∨ bI (ω.w 0).toL 0 = 5) : evalT T_parse5 ω = some (0, parseV (ω.w 0).toL) := by
  have hll := okL_len hl
  have g0 := getB (ω.w 0).toL 0 0 rfl
  have n1 : (1 : Int).toNat = 1 := rfl
  have n2 : (2 : Int).toNat = 2 := rfl
  have n4 : (4 : Int).toNat = 4 := rfl
  have n8 : (8 : Int).toNat = 8 := rfl
  have z : ((0 : Nat) : Int) ≤ 1000 := by omega
  have l0 := s0_le (ω.w 0).toL
  have l1 := s1_le (ω.w 0).toL
  have l2 := s2_le (ω.w 0).toL
  have l3 := tkS_le l2 8
  have l4 := tkS_le l3 8
  have l5 := tkS_le l4 8
  have l6 := tkS_le l5 8
  obtain ⟨B, hB⟩ : ∃ B : Int, (1000000 : Int) = B := ⟨_, rfl⟩
  have hll' : ((ω.w 0).toL.length : Int) ≤ B := by omega
  simp only [T_parse5, Bk, hB, parse5_0, parse5_1, parse5_2, parse5_3, parse5_4, parse5_5, parse5_6, parse5_7, parse5_8, parse5_9, parse5_10, parse5_11, parse5_12, parse5_13, parse5_14, evalT, evalTs, List.cons_append, List.nil_append, dens, den, dB, hf, prim, toI_vi, toB_vb, toL_vl, cmpI_eql, cmpI_neq, cmpI_lss, cmpI_gtr, cmpI_leq, Bool.and_eq_true, decide_eq_true_eq, Bool.not_eq_true', decide_eq_false_iff_not, g0, n1, n2, n4, n8, encP_start, F39, F40, F44, F46, F49, F4r, fold1, fold2, decP_enc l0, decP_enc l1, decP_enc l2, decP_enc l3, decP_enc l4, decP_enc l5, decP_enc l6, goodP_enc l0, goodP_enc l1, goodP_enc l2, goodP_enc l3, goodP_enc l4, goodP_enc l5, goodP_enc l6, encP_0, encP_1, encP_2, hl, hll', if_true, true_and, List.length_nil, z, and_self, and_true]
  by_cases h0 : (ω.w 0).toL.length = 0
  · rw [parse_blank h0]; exact ifp (by omega) rfl
  refine ifn (by omega) ?_
  refine ifp (by omega) ?_
  by_cases h1 : bI (ω.w 0).toL 0 < 1
  · rw [parse_odd h0 (.inl h1)]; exact ifp h1 rfl
  refine ifn h1 ?_
  by_cases h2 : 7 < bI (ω.w 0).toL 0
  · rw [parse_odd h0 (.inr h2)]; exact ifp h2 rfl
  refine ifn h2 ?_
  have hb : bI (ω.w 0).toL 0 = 5 := by omega
  have hkm : kindM (ω.w 0).toL = 5 := by rw [kindM_pos (by omega), hb]
  rw [parse_kind h0 (by omega), hb]
  refine ifp ⟨by omega, by rw [hkm]; exact eqB_self _⟩ ?_
  exact finP (bad_iff _) bad_20 (by omega) (by omega) l6 Iff.rfl
theorem t_parse6 {ω : Opq} (hf : ∀ i a, ω.f i a = F i a) (hl : okL (ω.w 0).toL = true) (hk : (ω.w 0).toL.length = 0 ∨ bI (ω.w 0).toL 0 < 1 ∨ 7 < bI (ω.w 0).toL 0 ∨ bI (ω.w 0).toL 0 = 6) : evalT T_parse6 ω = some (0, parseV (ω.w 0).toL) := by
  have hll := okL_len hl
  have g0 := getB (ω.w 0).toL 0 0 rfl
  have n1 : (1 : Int).toNat = 1 := rfl
  have n2 : (2 : Int).toNat = 2 := rfl
  have n4 : (4 : Int).toNat = 4 := rfl
  have n8 : (8 : Int).toNat = 8 := rfl
  have z : ((0 : Nat) : Int) ≤ 1000 := by omega
  have l0 := s0_le (ω.w 0).toL
  have l1 := s1_le (ω.w 0).toL
  have l2 := s2_le (ω.w 0).toL
  obtain ⟨B, hB⟩ : ∃ B : Int, (1000000 : Int) = B := ⟨_, rfl⟩
  have hll' : ((ω.w 0).toL.length : Int) ≤ B := by omega
  simp only [T_parse6, Bk, hB, parse6_0, parse6_1, parse6_2, parse6_3, parse6_4, parse6_5, parse6_6, evalT, evalTs, List.cons_append, List.nil_append, dens, den, dB, hf, prim, toI_vi, toB_vb, toL_vl, cmpI_eql, cmpI_neq, cmpI_lss, cmpI_gtr, cmpI_leq, Bool.and_eq_true, decide_eq_true_eq, Bool.not_eq_true', decide_eq_false_iff_not, g0, n1, n2, n4, n8, encP_start, F39, F40, F44, F46, F49, F4r, fold1, fold2, decP_enc l0, decP_enc l1, decP_enc l2, goodP_enc l0, goodP_enc l1, goodP_enc l2, encP_0, encP_1, encP_2, hl, hll', if_true, true_and, List.length_nil, z, and_self, and_true]
  by_cases h0 : (ω.w 0).toL.length = 0
  · rw [parse_blank h0]; exact ifp (by omega) rfl
  refine ifn (by omega) ?_
  refine ifp (by omega) ?_
  by_cases h1 : bI (ω.w 0).toL 0 < 1
  · rw [parse_odd h0 (.inl h1)]; exact ifp h1 rfl
  refine ifn h1 ?_
  by_cases h2 : 7 < bI (ω.w 0).toL 0
  · rw [parse_odd h0 (.inr h2)]; exact ifp h2 rfl
  refine ifn h2 ?_
  have hb : bI (ω.w 0).toL 0 = 6 := by omega
  have hkm : kindM (ω.w 0).toL = 6 := by rw [kindM_pos (by omega), hb]
  rw [parse_kind h0 (by omega), hb]
  refine ifp ⟨by omega, by rw [hkm]; exact eqB_self _⟩ ?_
  exact finP (bad_iff _) bad_20 (by omega) (by omega) l2 Iff.rfl
theorem t_parse7 {ω : Opq} (hf : ∀ i a, ω.f i a = F i a) (hl : okL (ω.w 0).toL = true) (hk : (ω.w 0).toL.length = 0 ∨ bI (ω.w 0).toL 0 < 1 ∨ 7 < bI (ω.w 0).toL 0 ∨ bI (ω.w 0).toL 0 = 7) : evalT T_parse7 ω = some (0, parseV (ω.w 0).toL) := by
  have hll := okL_len hl
  have g0 := getB (ω.w 0).toL 0 0 rfl
  have n1 : (1 : Int).toNat = 1 := rfl
  have n2 : (2 : Int).toNat = 2 := rfl
  have n4 : (4 : Int).toNat = 4 := rfl
  have n8 : (8 : Int).toNat = 8 := rfl
  have z : ((0 : Nat) : Int) ≤ 1000 := by omega
  have l0 := s0_le (ω.w 0).toL
  have l1 := s1_le (ω.w 0).toL
  have l2 := s2_le (ω.w 0).toL
  have l3 := tkS_le l2 2
  have l4 := tkS_le l3 8
  obtain ⟨B, hB⟩ : ∃ B : Int, (1000000 : Int) = B := ⟨_, rfl⟩
  have hll' : ((ω.w 0).toL.length : Int) ≤ B := by omega
  simp only [T_parse7, Bk, hB, parse7_0, parse7_1, parse7_2, parse7_3, parse7_4, parse7_5, parse7_6, parse7_7, parse7_8, parse7_9, parse7_10, evalT, evalTs, List.cons_append, List.nil_append, dens, den, dB, hf, prim, toI_vi, toB_vb, toL_vl, cmpI_eql, cmpI_neq, cmpI_lss, cmpI_gtr, cmpI_leq, Bool.and_eq_true, decide_eq_true_eq, Bool.not_eq_true', decide_eq_false_iff_not, g0, n1, n2, n4, n8, encP_start, F39, F40, F44, F46, F49, F4r, fold1, fold2, decP_enc l0, decP_enc l1, decP_enc l2, decP_enc l3, decP_enc l4, goodP_enc l0, goodP_enc l1, goodP_enc l2, goodP_enc l3, goodP_enc l4, encP_0, encP_1, encP_2, hl, hll', if_true, true_and, List.length_nil, z, and_self, and_true]
  by_cases h0 : (ω.w 0).toL.length = 0
  · rw [parse_blank h0]; exact ifp (by omega) rfl
  refine ifn (by omega) ?_
  refine ifp (by omega) ?_
  by_cases h1 : bI (ω.w 0).toL 0 < 1
  · rw [parse_odd h0 (.inl h1)]; exact ifp h1 rfl
  refine ifn h1 ?_
  by_cases h2 : 7 < bI (ω.w 0).toL 0
  · rw [parse_odd h0 (.inr h2)]; exact ifp h2 rfl
  refine ifn h2 ?_
  have hb : bI (ω.w 0).toL 0 = 7 := by omega
  have hkm : kindM (ω.w 0).toL = 7 := by rw [kindM_pos (by omega), hb]
  rw [parse_kind h0 (by omega), hb]
  refine ifp ⟨by omega, by rw [hkm]; exact eqB_self _⟩ ?_
  exact finP (bad_iff _) bad_20 (by omega) (by omega) l4 Iff.rfl
theorem finV_11 (l : List Val) (s : Rd) (odd : Bool) (a : List Val) : (arg (finV l s odd a) 11).toL.length ≤ (arg a 10).toL.length := by
  unfold finV
  cases s.bad
  · cases decide (s.pos < l.length)
    · cases (odd || !rightM (repM a))
      · exact Nat.le_refl _
      · exact Nat.zero_le _
    · exact Nat.zero_le _
  · exact Nat.zero_le _
theorem finV_12 (l : List Val) (s : Rd) (odd : Bool) (a : List Val) : (arg (finV l s odd a) 12).toL.length ≤ (arg a 11).toL.length := by
  unfold finV
  cases s.bad
  · cases decide (s.pos < l.length)
    · cases (odd || !rightM (repM a))
      · exact Nat.le_refl _
      · exact Nat.zero_le _
    · exact Nat.zero_le _
  · exact Nat.zero_le _
theorem parse_rows {l : List Val} (h : okL l = true) : (arg (parseV l) 11).toL.length ≤ 255 := by
  have r := rows_len h
  have z : ([] : List Val).length ≤ 255 := by decide
  unfold parseV parseK
  repeat' split
  all_goals first | exact z | exact Nat.le_trans (finV_11 _ _ _ _) r | exact Nat.le_trans (finV_11 _ _ _ _) z
theorem parse_gone {l : List Val} (h : okL l = true) : (arg (parseV l) 12).toL.length ≤ 255 := by
  have r := gone_len h
  have z : ([] : List Val).length ≤ 255 := by decide
  unfold parseV parseK
  repeat' split
  all_goals first | exact z | exact Nat.le_trans (finV_12 _ _ _ _) r | exact Nat.le_trans (finV_12 _ _ _ _) z
theorem eta13 : ∀ (a : List Val), a.length = 13 → a = [arg a 0, arg a 1, arg a 2, arg a 3, arg a 4, arg a 5, arg a 6, arg a 7, arg a 8, arg a 9, arg a 10, arg a 11, arg a 12]
  | [x0, x1, x2, x3, x4, x5, x6, x7, x8, x9, x10, x11, x12], _ => rfl
theorem finV_len (l : List Val) (s : Rd) (odd : Bool) (a : List Val) : (finV l s odd a).length = 13 := by
  unfold finV
  cases s.bad
  · cases decide (s.pos < l.length)
    · cases (odd || !rightM (repM a))
      · rfl
      · rfl
    · rfl
  · rfl
theorem parse_len (l : List Val) : (parseV l).length = 13 := by
  unfold parseV parseK
  repeat' split
  all_goals first | rfl | exact finV_len _ _ _ _
theorem parse_eta (l : List Val) : parseV l = [arg (parseV l) 0, arg (parseV l) 1, arg (parseV l) 2, arg (parseV l) 3, arg (parseV l) 4, arg (parseV l) 5, arg (parseV l) 6, arg (parseV l) 7, arg (parseV l) 8, arg (parseV l) 9, arg (parseV l) 10, arg (parseV l) 11, arg (parseV l) 12] := eta13 _ (parse_len l)
end Go.Ev
