/- The evaluator: operations that compute: each does what the model does. -/
import Derived.Test.YtnfimpnakkngbadGreatDoorE3
import Derived.ChangeKeysEq
import Derived.Laws.StructEq
set_option linter.unusedVariables false
set_option linter.unusedSimpArgs false
namespace Go.Ev
open Go

variable {P : Program} {β : Bij} {ω : Opq} {K : Nat → Prop} {w0 w : World} {h : Heap}

/-! ### Types -/
theorem szOf_info {t : TypeId} {s : Nat} (e : szOf P t = some s) : ∃ i, P.info? t = some i ∧ i.size = s := by
  simpa [szOf] using e
theorem run_szOf {t : TypeId} {s : Nat} (e : szOf P t = some s) (w : World) : (sizeOf t).run P w = .ok s w := by
  obtain ⟨i, hi, rfl⟩ := szOf_info e
  simp [sizeOf, typeInfo, hi]
theorem run_under {t : TypeId} {d : TypeDesc} (e : P.underlying t = some d) (w : World) : (underlying t).run P w = .ok d w := run_underlying e w
theorem run_aggT {t : TypeId} {b : Bool} (e : aggT P t = some b) (w : World) : (isAgg t).run P w = .ok b w := by
  simp only [aggT, Option.map_eq_some_iff] at e
  obtain ⟨d, hd, rfl⟩ := e
  simp only [isAgg, Sem.run_bind, run_under hd, Result.andThen_ok]
  cases d <;> rfl
theorem run_zeroOf {t : TypeId} {z : AV} (e : zeroOf P t = some z) : ∃ v, ofVal v = some z ∧ ∀ w, (zeroValue t).run P w = .ok v w := by
  simp only [zeroOf, Option.bind_eq_some_iff] at e
  obtain ⟨v, ⟨i, hi, hz⟩, hv⟩ := e
  exact ⟨v, hv, fun w => by simp [zeroValue, typeInfo, hi, hz]⟩

/-! ### Integers -/
theorem iltb_eq (a b : Int) : iltb a b = decide (a < b) := by
  cases a <;> cases b <;> simp only [iltb] <;> rw [Bool.eq_iff_iff] <;> simp <;> omega
theorem ieqb_eq (a b : Int) : ieqb a b = (a == b) := by
  cases a <;> cases b <;> simp only [ieqb] <;> rw [Bool.eq_iff_iff] <;> simp <;> omega
theorem wrap_fit (k : IntKind) (m : Nat) (h : m < limOf k) : k.wrap (m : Int) = m := by
  cases k <;> simp only [limOf] at h <;> simp only [IntKind.wrap, IntKind.bits, IntKind.signed] <;> simp <;> omega
theorem wrapE_eq (k : IntKind) (n : Int) : wrapE k n = k.wrap n := by
  cases n with
  | ofNat m =>
    simp only [wrapE]
    by_cases h : m < limOf k
    · rw [blt_t h]; exact (wrap_fit k m h).symm
    · rw [blt_f h]; rfl
  | negSucc m => rfl
theorem natOf_eq {i : Int} {n : Nat} (h : natOf i = some n) : i = (n : Int) := by
  cases i with
  | ofNat m => simp [natOf] at h; subst h; rfl
  | negSucc m => simp [natOf] at h

theorem arith_ok {op : BinOp} {k : IntKind} {x y : Int} {a : AV} (t : TypeId) (h : arith op k x y = some a) (hs : op ≠ .shl ∧ op ≠ .shr) :
    ∃ v, VR β ω a v ∧ ∀ w, (binOp op t (.int k x) (.int k y)).run P w = .ok v w := by
  cases op <;> simp only [arith, Option.some.injEq, reduceCtorEq] at h
  all_goals first
    | (exact absurd rfl hs.1)
    | (exact absurd rfl hs.2)
    | skip
  case quo =>
    by_cases hy : y = 0
    · subst hy; simp [ieqb] at h
    · have : ieqb y 0 = false := by rw [ieqb_eq]; simpa using hy
      rw [this] at h; simp only [cond_false, Option.some.injEq] at h; subst h
      exact ⟨_, rfl, fun w => by simp [binOp, Op.intDiv, hy, wrapE_eq]⟩
  case rem =>
    by_cases hy : y = 0
    · subst hy; simp [ieqb] at h
    · have : ieqb y 0 = false := by rw [ieqb_eq]; simpa using hy
      rw [this] at h; simp only [cond_false, Option.some.injEq] at h; subst h
      exact ⟨_, rfl, fun w => by simp [binOp, Op.intDiv, hy]⟩
  all_goals (subst h; refine ⟨_, rfl, fun w => ?_⟩)
  all_goals simp [binOp, Op.intArith, Op.intBits, Op.intCmp, wrapE_eq, ieqb_eq, iltb_eq]
  all_goals (rw [Bool.eq_iff_iff]; simp)

theorem shiftE_ok {op : BinOp} {k k' : IntKind} {x y : Int} {a : AV} (h : shiftE op k x y = some a) :
    ∃ v, VR β ω a v ∧ ∀ w, (Op.shift op k x k' y).run P w = .ok v w := by
  unfold shiftE at h
  split at h
  · cases h
  · rename_i n hn
    have hy := natOf_eq hn
    subst hy
    have h0 : ¬ ((n : Int) < 0) := by omega
    cases op <;> simp only [reduceCtorEq] at h
    · simp only [Option.some.injEq] at h; subst h
      exact ⟨_, rfl, fun w => by simp [Op.shift, h0, wrapE_eq]⟩
    · simp only [Option.some.injEq] at h; subst h
      refine ⟨_, rfl, fun w => ?_⟩
      simp only [Op.shift, h0, if_false, Int.toNat_natCast]
      cases x with
      | ofNat m =>
        have e : ((2 : Int) ^ min n k.bits) = ((2 ^ min n k.bits : Nat) : Int) := by simp
        have e2 : (Int.ofNat m).fdiv (2 ^ min n k.bits) = Int.ofNat (m / 2 ^ min n k.bits) := by
          rw [e, Int.fdiv_eq_ediv_of_nonneg _ (Int.natCast_nonneg _)]; rfl
        simp only [e2, Sem.run_pure]
      | negSucc m => rfl

/-! ### Strings -/
theorem beqB_eq : ∀ (x y : List UInt8), beqB x y = (x == y)
  | [], [] => rfl
  | [], _ :: _ => rfl
  | _ :: _, [] => rfl
  | a :: x, b :: y => by
    show (bif Nat.beq a.toNat b.toNat then beqB x y else false) = _
    by_cases e : a = b
    · subst e; rw [show Nat.beq a.toNat a.toNat = true by simp, cond_true, beqB_eq x y]; simp
    · have : Nat.beq a.toNat b.toNat = false := by
        cases h : Nat.beq a.toNat b.toNat with
        | false => rfl
        | true => exact absurd (UInt8.toNat_inj.1 (by simpa using h)) e
      rw [this, cond_false]; simp [e]
theorem ltB_eq : ∀ (x y : List UInt8), ltB x y = Op.bytesLess x y
  | [], [] => rfl
  | [], _ :: _ => rfl
  | _ :: _, [] => rfl
  | a :: x, b :: y => by
    show (bif Nat.blt a.toNat b.toNat then true else bif Nat.beq a.toNat b.toNat then ltB x y else false) = (a < b || (a == b && Op.bytesLess x y))
    rw [ltB_eq x y]
    by_cases h1 : a < b
    · rw [blt_t (UInt8.lt_iff_toNat_lt.1 h1)]; simp [h1]
    · rw [blt_f (fun hh => h1 (UInt8.lt_iff_toNat_lt.2 hh))]
      by_cases e : a = b
      · subst e; simp
      · have : Nat.beq a.toNat b.toNat = false := by
          cases h : Nat.beq a.toNat b.toNat with
          | false => rfl
          | true => exact absurd (UInt8.toNat_inj.1 (by simpa using h)) e
        rw [this]; simp [h1, e]
theorem less_total : ∀ (x y : List UInt8), (Op.bytesLess x y || (x == y)) = !Op.bytesLess y x
  | [], [] => rfl
  | [], _ :: _ => rfl
  | _ :: _, [] => rfl
  | a :: x, b :: y => by
    have ih := less_total x y
    simp only [Op.bytesLess]
    rcases Nat.lt_trichotomy a.toNat b.toNat with h | h | h
    · have h1 : a < b := UInt8.lt_iff_toNat_lt.2 h
      have h2 : ¬ b < a := fun hh => by have := UInt8.lt_iff_toNat_lt.1 hh; omega
      have h3 : b ≠ a := fun e => by subst e; omega
      simp [h1, h2, h3]
    · have e : a = b := UInt8.toNat_inj.1 h
      subst e
      have h1 : ¬ a < a := fun hh => by have := UInt8.lt_iff_toNat_lt.1 hh; omega
      simp [h1] at ih ⊢
      exact ih
    · have h1 : b < a := UInt8.lt_iff_toNat_lt.2 h
      have h2 : ¬ a < b := fun hh => by have := UInt8.lt_iff_toNat_lt.1 hh; omega
      have h3 : a ≠ b := fun e => by subst e; omega
      simp [h1, h2, h3]
theorem strOp_ok {op : BinOp} {x y : List UInt8} {a : AV} (t : TypeId) (h : strOp op x y = some a) :
    ∃ v, VR β ω a v ∧ ∀ w, (binOp op t (.string ⟨x.toArray⟩) (.string ⟨y.toArray⟩)).run P w = .ok v w := by
  have hlt := less_total x y
  have hlt' := less_total y x
  cases op <;> simp only [strOp, Option.some.injEq, reduceCtorEq] at h
  case add =>
    by_cases hl : x.length + y.length < lenLim
    · rw [blt_t hl] at h; simp only [cond_true, Option.some.injEq] at h; subst h
      refine ⟨_, rfl, fun w => ?_⟩
      have h1 : (ByteArray.mk x.toArray).size = x.length := by simp [ByteArray.size]
      have h2 : (ByteArray.mk y.toArray).size = y.length := by simp [ByteArray.size]
      have hn : ¬ (((x.length + y.length : Nat) : Int) > IntKind.i64.max) := by
        simp only [lenLim] at hl
        simp [IntKind.max, IntKind.signed, IntKind.bits]; omega
      simp only [binOp, Op.stringOp, h1, h2, if_neg hn, Sem.run_pure]
      congr 2
    · rw [blt_f hl] at h; simp at h
  all_goals (subst h; refine ⟨_, rfl, fun w => ?_⟩)
  all_goals simp only [binOp, Op.stringOp, ByteArray.toList_mk, Sem.run_pure, beqB_eq, ltB_eq]
  all_goals (try simp only [hlt, Bool.not_not])


/-! ### Parts of values -/
theorem partE_ok {t : TypeId} {cs : List AV} {xs : Array Value} {off : Nat} {a : AV} (h : partE P t cs off = some a) (r : VRs β ω cs xs.toList) :
    ∃ v, VR β ω a v ∧ ∀ w, (part t xs off).run P w = .ok v w := by
  unfold partE at h
  split at h
  · rename_i n h1 h2
    by_cases hl : off + n ≤ cs.length
    · rw [ble_iff.2 hl] at h; simp only [cond_true, Option.some.injEq] at h; subst h
      refine ⟨.agg (xs.extract off (off + n)), ⟨_, rfl, ?_⟩, fun w => ?_⟩
      · have := (r.drop off).take n
        simpa [List.take_drop, Nat.add_comm] using this
      · simp [part, run_aggT h1, run_szOf h2]
    · rw [show Nat.ble (off + n) cs.length = false by
        cases e : Nat.ble (off + n) cs.length with
        | false => rfl
        | true => exact absurd (ble_iff.1 e) hl] at h; simp at h
  · rename_i n h1 h2
    obtain ⟨y, hy, hr⟩ := r.get off a h
    refine ⟨y, hr, fun w => ?_⟩
    have hy' : xs[off]? = some y := by simpa using hy
    simp [part, run_aggT h1, hy']
  · cases h

theorem beq_f {a b : Nat} (h : ¬ a = b) : Nat.beq a b = false := by
  cases e : Nat.beq a b with
  | false => rfl
  | true => exact absurd (beq_iff'.1 e) h
theorem ble_f {a b : Nat} (h : ¬ a ≤ b) : Nat.ble a b = false := by
  cases e : Nat.ble a b with
  | false => rfl
  | true => exact absurd (ble_iff.1 e) h

/-! ### '==' -/
theorem isNilS_ok {a : AV} {b : Bool} {v : Value} (h : isNilS a = some b) (r : VR β ω a v) : ∃ x n c, v = .slice x n c ∧ b = x.isNone := by
  cases a <;> simp only [isNilS, Option.some.injEq, reduceCtorEq] at h <;> simp only [VR] at r <;> subst h
  · subst r; exact ⟨_, _, _, rfl, rfl⟩
  · obtain ⟨L, _, rfl⟩ := r; exact ⟨_, _, _, rfl, rfl⟩
  · obtain ⟨L, c, _, _, rfl⟩ := r; exact ⟨_, _, _, rfl, rfl⟩
  · obtain ⟨L, a, c, _, rfl, _⟩ := r; exact ⟨_, _, _, rfl, rfl⟩
  · obtain ⟨a, rfl⟩ := r; exact ⟨_, _, _, rfl, rfl⟩
theorem isNilM_ok {a : AV} {b : Bool} {v : Value} (h : isNilM a = some b) (r : VR β ω a v) : ∃ x, v = .map x ∧ b = x.isNone := by
  cases a <;> simp only [isNilM, Option.some.injEq, reduceCtorEq] at h <;> simp only [VR] at r <;> subst h
  · subst r; exact ⟨_, rfl, rfl⟩
  · obtain ⟨L, _, rfl⟩ := r; exact ⟨_, rfl, rfl⟩
theorem isNilF_ok {a : AV} {b : Bool} {v : Value} (h : isNilF a = some b) (r : VR β ω a v) : (v = .nilFunc ∧ b = true) ∨ (∃ f x y, v = .func f x y) ∧ b = false := by
  cases a <;> simp only [isNilF, Option.some.injEq, reduceCtorEq] at h <;> simp only [VR] at r <;> subst h
  · exact .inl ⟨r, rfl⟩
  · obtain ⟨_, x, y, rfl, _⟩ := r; exact .inr ⟨⟨_, _, _, rfl⟩, rfl⟩
  · obtain ⟨L, _, rfl⟩ := r; exact .inr ⟨⟨_, _, _, rfl⟩, rfl⟩
theorem bytes_beq (x y : List UInt8) : ((ByteArray.mk x.toArray) == (ByteArray.mk y.toArray)) = (x == y) := by
  rw [beq_toListBytes, ByteArray.toList_mk, ByteArray.toList_mk]

theorem eqFields_ok {ih : TypeId → AV → AV → Option Bool} {d : Nat}
    (hih : ∀ t a b x y r, ih t a b = some r → VR β ω a x → VR β ω b y → ∀ w, (Op.equalIn d t x y).run P w = .ok r w)
    {xs ys : List AV} {vx vy : Array Value} (rx : VRs β ω xs vx.toList) (ry : VRs β ω ys vy.toList) :
    ∀ (fs : List Field) (r : Bool), eqFields P ih xs ys fs = some r → ∀ w,
      (forIn (m := Sem) fs ((none, ()) : Option Bool × Unit) fun f _ => (do
        if f.name ≠ "_" then do
          let a ← part f.type vx f.offset
          let b ← part f.type vy f.offset
          let c ← Op.equalIn d f.type a b
          if (!c) = true then pure (.done (some false, ())) else pure (.yield (none, ()))
        else pure (.yield (none, ())))).run P w = .ok (if r then (none, ()) else (some false, ())) w
  | [], r, h, w => by
    simp only [eqFields, Option.some.injEq] at h; subst h; simp
  | f :: fs, r, h, w => by
    simp only [eqFields] at h
    by_cases hn : f.name = "_"
    · have hb : (f.name == "_") = true := by simpa using hn
      rw [hb] at h; simp only [cond_true] at h
      have := eqFields_ok hih rx ry fs r h w
      simp only [List.forIn_cons, hn, ne_eq, not_true_eq_false, if_false, pure_bind]
      exact this
    · have hb : (f.name == "_") = false := by simpa using hn
      rw [hb] at h; simp only [cond_false] at h
      split at h
      · rename_i a b ha hb'
        obtain ⟨va, ra, hva⟩ := partE_ok ha rx
        obtain ⟨vb, rb, hvb⟩ := partE_ok hb' ry
        split at h
        · rename_i he
          have := eqFields_ok hih rx ry fs r h w
          simp only [List.forIn_cons, hn, ne_eq, not_false_eq_true, if_true, Sem.run_bind, hva, hvb, Result.andThen_ok, hih _ _ _ _ _ _ he ra rb, Bool.not_true, Bool.false_eq_true, if_false, Sem.run_pure]
          exact this
        · rename_i x he
          cases r with
          | true => exact absurd h he
          | false =>
            have he' := h
            simp only [List.forIn_cons, hn, ne_eq, not_false_eq_true, if_true, Sem.run_bind, hva, hvb, Result.andThen_ok, hih _ _ _ _ _ _ he' ra rb, Bool.not_false, Sem.run_pure]
            simp
      · cases h

theorem eqElems_ok {ih : TypeId → AV → AV → Option Bool} {d e n : Nat}
    (hih : ∀ t a b x y r, ih t a b = some r → VR β ω a x → VR β ω b y → ∀ w, (Op.equalIn d t x y).run P w = .ok r w)
    {xs ys : List AV} {vx vy : Array Value} (rx : VRs β ω xs vx.toList) (ry : VRs β ω ys vy.toList) :
    ∀ (k i : Nat) (r : Bool), eqElems P ih e n xs ys k i = some r → ∀ w,
      (forIn (m := Sem) (List.range' i k) ((none, ()) : Option Bool × Unit) fun i _ => (do
          let a ← part e vx (i * n)
          let b ← part e vy (i * n)
          let c ← Op.equalIn d e a b
          if (!c) = true then pure (.done (some false, ())) else pure (.yield (none, ())))).run P w = .ok (if r then (none, ()) else (some false, ())) w
  | 0, i, r, h, w => by
    simp only [eqElems, Option.some.injEq] at h; subst h; simp
  | k + 1, i, r, h, w => by
    simp only [eqElems] at h
    split at h
    · rename_i a b ha hb'
      obtain ⟨va, ra, hva⟩ := partE_ok ha rx
      obtain ⟨vb, rb, hvb⟩ := partE_ok hb' ry
      split at h
      · rename_i he
        have := eqElems_ok hih rx ry k (i + 1) r h w
        simp only [List.range'_succ, List.forIn_cons, Sem.run_bind, hva, hvb, Result.andThen_ok, hih _ _ _ _ _ _ he ra rb, Bool.not_true, Bool.false_eq_true, if_false, Sem.run_pure]
        exact this
      · rename_i x he
        cases r with
        | true => exact absurd h he
        | false =>
          have he' := h
          simp only [List.range'_succ, List.forIn_cons, Sem.run_bind, hva, hvb, Result.andThen_ok, hih _ _ _ _ _ _ he' ra rb, Bool.not_false, Sem.run_pure]
          simp
    · cases h

set_option maxHeartbeats 4000000 in
theorem eqStep_ok {ih : TypeId → AV → AV → Option Bool} {d : Nat}
    (hih : ∀ t a b x y r, ih t a b = some r → VR β ω a x → VR β ω b y → ∀ w, (Op.equalIn d t x y).run P w = .ok r w)
    {t : TypeId} {a b : AV} {x y : Value} {r : Bool} (h : eqStep P ih t a b = some r) (rx : VR β ω a x) (ry : VR β ω b y) (w : World) :
    (Op.equalIn (d + 1) t x y).run P w = .ok r w := by
  unfold eqStep at h
  split at h
  · -- bool
    rename_i ht
    split at h
    · simp only [VR] at rx ry; subst rx; subst ry
      simp only [Option.some.injEq] at h; subst h
      simp [Op.equalIn, run_under ht]
    · cases h
  · -- int
    rename_i k0 ht
    split at h
    · rename_i k m k' m'
      simp only [VR] at rx ry; subst rx; subst ry
      split at h
      · rename_i e; subst e
        simp only [Option.some.injEq] at h; subst h
        simp [Op.equalIn, run_under ht, ieqb_eq]
      · cases h
    · rename_i k m k' m'
      simp only [VR] at rx ry; subst rx; subst ry
      split at h
      · rename_i e; subst e
        cases hc : SX.beq m m' with
        | true =>
          rw [hc] at h
          obtain rfl := SX.beq_eq _ _ hc
          simp at h; subst h
          simp [Op.equalIn, run_under ht]
        | false => rw [hc] at h; simp at h
      · cases h
    · cases h
  · -- string
    rename_i ht
    split at h
    · simp only [VR] at rx ry; subst rx; subst ry
      simp only [Option.some.injEq] at h; subst h
      rename_i s s'
      simp [Op.equalIn, run_under ht, beqB_eq, bytes_beq]
    · rename_i m m'
      simp only [VR] at rx ry; subst rx; subst ry
      cases hc : SX.beq m m' with
      | true =>
        rw [hc] at h
        obtain rfl := SX.beq_eq _ _ hc
        simp at h; subst h
        simp [Op.equalIn, run_under ht, bytes_beq]
      | false => rw [hc] at h; simp at h
    · cases h
  · -- pointer
    rename_i el ht
    split at h
    · simp only [VR] at rx ry; subst rx; subst ry
      simp only [Option.some.injEq] at h; subst h
      simp [Op.equalIn, run_under ht]
    · simp only [VR] at rx ry; subst rx; obtain ⟨L, _, rfl⟩ := ry
      simp only [Option.some.injEq] at h; subst h
      simp [Op.equalIn, run_under ht]
    · simp only [VR] at rx ry; subst ry; obtain ⟨L, _, rfl⟩ := rx
      simp only [Option.some.injEq] at h; subst h
      simp [Op.equalIn, run_under ht]
    · rename_i ba oa bb ob
      simp only [VR] at rx ry; obtain ⟨L, hL, rfl⟩ := rx; obtain ⟨L', hL', rfl⟩ := ry
      unfold eqPtr at h
      split at h
      · rename_i n hs
        by_cases e : ba = bb
        · subst e
          rw [hL] at hL'; simp only [Option.some.injEq] at hL'; subst hL'
          simp at h; subst h
          have : (({ block := L.blk, off := L.off + oa } : Addr) == { block := L.blk, off := L.off + ob }) = decide (oa = ob) := by
            rw [Bool.eq_iff_iff]; simp
          simp only [Op.equalIn, Sem.run_bind, run_under ht, Result.andThen_ok, run_szOf hs]
          simp only [sameAddr, beq_self_eq_true, if_true, this, ne_eq, Nat.succ_ne_zero, not_false_eq_true, Sem.run_pure]
          congr 1
          rw [Bool.eq_iff_iff]; simp
        · rw [beq_f e] at h; simp at h
      · cases h
    · cases h
  · -- interface
    rename_i ms ht
    split at h
    · simp only [VR] at rx ry; subst rx; subst ry
      simp only [Option.some.injEq] at h; subst h
      simp [Op.equalIn, run_under ht]
    · simp only [VR] at rx ry; subst rx; obtain ⟨z, rfl, _⟩ := ry
      simp only [Option.some.injEq] at h; subst h
      simp [Op.equalIn, run_under ht]
    · simp only [VR] at rx ry; subst ry; obtain ⟨z, rfl, _⟩ := rx
      simp only [Option.some.injEq] at h; subst h
      simp [Op.equalIn, run_under ht]
    · rename_i tx vx ty vy
      simp only [VR] at rx ry; obtain ⟨zx, rfl, px⟩ := rx; obtain ⟨zy, rfl, py⟩ := ry
      by_cases e : tx = ty
      · subst e
        simp only [Nat.beq_eq_true_eq, Nat.beq_refl, cond_true] at h
        split at h
        · rename_i i hi
          cases hc : i.comparable with
          | false => rw [hc] at h; simp at h
          | true =>
            rw [hc] at h; simp only [cond_true] at h
            simp [Op.equalIn, run_under ht, typeInfo, hi, hc, hih _ _ _ _ _ _ h px py]
        · cases h
      · rw [beq_f e] at h; simp at h; subst h
        simp [Op.equalIn, run_under ht, e]
    · cases h
  · -- slice
    rename_i el ht
    split at h
    · simp only [VR] at rx; subst rx
      obtain ⟨x, n, c, rfl, rfl⟩ := isNilS_ok h ry
      simp [Op.equalIn, run_under ht]
    · simp only [VR] at ry; subst ry
      obtain ⟨x, n, c, rfl, rfl⟩ := isNilS_ok h rx
      cases x <;> simp [Op.equalIn, run_under ht]
    · cases h
  · -- map
    rename_i k0 e0 ht
    split at h
    · simp only [VR] at rx; subst rx
      obtain ⟨x, rfl, rfl⟩ := isNilM_ok h ry
      simp [Op.equalIn, run_under ht]
    · simp only [VR] at ry; subst ry
      obtain ⟨x, rfl, rfl⟩ := isNilM_ok h rx
      cases x <;> simp [Op.equalIn, run_under ht]
    · cases h
  · -- func
    rename_i ht
    split at h
    · simp only [VR] at rx; subst rx
      rcases isNilF_ok h ry with ⟨rfl, rfl⟩ | ⟨⟨f, x, y, rfl⟩, rfl⟩ <;> (simp only [Op.equalIn, Sem.run_bind, run_under ht, Result.andThen_ok]; rfl)
    · simp only [VR] at ry; subst ry
      rcases isNilF_ok h rx with ⟨rfl, rfl⟩ | ⟨⟨f, x, y, rfl⟩, rfl⟩ <;> (simp only [Op.equalIn, Sem.run_bind, run_under ht, Result.andThen_ok]; rfl)
    · cases h
  · -- struct
    rename_i fields ht
    split at h
    · rename_i xs ys
      simp only [VR] at rx ry; obtain ⟨vx, rfl, px⟩ := rx; obtain ⟨vy, rfl, py⟩ := ry
      cases hs : P.stoodInHeld t with
      | true => rw [hs] at h; simp at h
      | false =>
        rw [hs] at h; simp only [cond_false] at h
        have hf := eqFields_ok hih px py fields.toList r h w
        simp only [Op.equalIn, Sem.run_bind, run_under ht, Result.andThen_ok, run_program, hs, Bool.false_eq_true, if_false]
        rw [← Array.forIn_toList, hf]
        cases r <;> simp
    · cases h
  · -- array
    rename_i len el ht
    split at h
    · rename_i xs ys
      simp only [VR] at rx ry; obtain ⟨vx, rfl, px⟩ := rx; obtain ⟨vy, rfl, py⟩ := ry
      split at h
      · cases h
      · rename_i n hn
        have hf := eqElems_ok hih px py len 0 r h w
        simp only [Op.equalIn, Sem.run_bind, run_under ht, Result.andThen_ok, run_szOf hn]
        rw [Std.Legacy.Range.forIn_eq_forIn_range']
        simp only [Std.Legacy.Range.size, Nat.sub_zero, Nat.add_sub_cancel, Nat.div_one]
        rw [hf]
        cases r <;> simp
    · cases h
  · cases h

theorem eqE_ok : ∀ (n : Nat) {t : TypeId} {a b : AV} {x y : Value} {r : Bool}, eqE P n t a b = some r → VR β ω a x → VR β ω b y → ∀ w, (Op.equalIn n t x y).run P w = .ok r w
  | 0, t, a, b, x, y, r, h, _, _, w => by cases h
  | n + 1, t, a, b, x, y, r, h, rx, ry, w => eqStep_ok (ih := eqE P n) (d := n) (fun t a b x y r h rx ry w => eqE_ok n h rx ry w) h rx ry w
end Go.Ev
