/- The evaluator: frames, guards; the shape of what may float. -/
import Derived.Test.YtokdlolhbcjghacGreatE16
import Derived.Orders
set_option linter.unusedVariables false
set_option linter.unusedSimpArgs false
namespace Go.Ev
open Go

variable {E : Env} {β : Bij} {ω : Opq} {K : Nat → Prop} {w0 w : World} {h h' : Heap}

/-- A frame, but for the slots X. -/
structure FrP (β : Bij) (ω : Opq) (X : Nat → Prop) (a : Fr) (act : Act) : Prop where
  size : act.tmps.size = a.nt
  lim : a.nt ≤ 256
  slot : ∀ t, ¬ X t → VR β ω (a.slot t) (act.tmps.getD t Go.undef)
  defers : act.defers = []
abbrev FrR (β : Bij) (ω : Opq) (a : Fr) (act : Act) : Prop := FrP β ω (fun _ => False) a act

theorem FrP.mono {β' : Bij} {X : Nat → Prop} {a : Fr} {act : Act} (hl : Le β β') (f : FrP β ω X a act) : FrP β' ω X a act :=
  ⟨f.size, f.lim, fun t ht => VR.mono hl _ _ (f.slot t ht), f.defers⟩
theorem FrP.weaken {X Y : Nat → Prop} {a : Fr} {act : Act} (f : FrP β ω X a act) (hx : ∀ t, X t → Y t) : FrP β ω Y a act :=
  ⟨f.size, f.lim, fun t ht => f.slot t (fun hh => ht (hx t hh)), f.defers⟩

theorem Fr.put_nt (a : Fr) (dst : Option Tmp) (v : AV) : (a.put dst v).nt = a.nt := by
  cases a with
  | mk tm nt =>
    cases dst with
    | none => rfl
    | some d =>
      show (fput d v tm nt).nt = nt
      unfold fput
      cases Nat.blt d nt <;> rfl
theorem Fr.put_slot {a : Fr} (hl : a.nt ≤ 256) (dst : Option Tmp) (v : AV) (t : Nat) : (a.put dst v).slot t = if dst = some t ∧ t < a.nt then v else a.slot t := by
  cases a with
  | mk tm nt =>
    cases dst with
    | none => simp [Fr.put]
    | some d =>
      show (fput d v tm nt).slot t = _
      simp only [] at hl
      unfold fput
      by_cases hd : d < nt
      · rw [blt_t hd]
        show (TF.set tm d v).get t = _
        rw [TF.get_set tm d t v (Nat.lt_of_lt_of_le hd hl)]
        by_cases ht : t = d
        · subst ht; simp [hd]
        · rw [if_neg ht, if_neg (by simp; intro hh; exact absurd hh.symm ht)]; rfl
      · rw [blt_f hd]
        rw [if_neg]
        · rfl
        · simp only [Option.some.injEq]; rintro ⟨rfl, hh⟩; exact hd hh

theorem Act.put_tmps (act : Act) (dst : Option Tmp) (u : Value) (t : Nat) : (act.put dst u).tmps.getD t Go.undef = if dst = some t ∧ t < act.tmps.size then u else act.tmps.getD t Go.undef := by
  cases dst with
  | none => simp [Act.put]
  | some d =>
    simp only [Act.put, Array.getD_eq_getD_getElem?, Array.getElem?_setIfInBounds]
    by_cases hd : d = t
    · subst hd
      by_cases hs : d < act.tmps.size
      · simp [hs]
      · simp [hs]
    · rw [if_neg hd, if_neg (by simp [hd])]
theorem Act.put_size (act : Act) (dst : Option Tmp) (u : Value) : (act.put dst u).tmps.size = act.tmps.size := by cases dst <;> simp [Act.put]
theorem Act.put_def (act : Act) (dst : Option Tmp) (u : Value) : (act.put dst u).defers = act.defers := by cases dst <;> rfl

theorem FrP.put {X : Nat → Prop} {a : Fr} {act : Act} (f : FrP β ω X a act) (dst : Option Tmp) {v : AV} {u : Value} (r : VR β ω v u) : FrP β ω (fun t => X t ∧ ¬ (dst = some t ∧ t < a.nt)) (a.put dst v) (act.put dst u) := by
  refine ⟨by rw [Act.put_size, Fr.put_nt]; exact f.size, by rw [Fr.put_nt]; exact f.lim, fun t ht => ?_, by rw [Act.put_def]; exact f.defers⟩
  rw [Fr.put_slot f.lim, Act.put_tmps, f.size]
  by_cases hc : dst = some t ∧ t < a.nt
  · rw [if_pos hc, if_pos hc]; exact r
  · rw [if_neg hc, if_neg hc]
    exact f.slot t (fun hx => ht ⟨hx, hc⟩)
/-- The evaluator alone goes on. -/
theorem FrP.ahead {X : Nat → Prop} {a : Fr} {act : Act} (f : FrP β ω X a act) (dst : Option Tmp) (v : AV) : FrP β ω (fun t => X t ∨ dst = some t ∧ t < a.nt) (a.put dst v) act := by
  refine ⟨by rw [Fr.put_nt]; exact f.size, by rw [Fr.put_nt]; exact f.lim, fun t ht => ?_, f.defers⟩
  rw [Fr.put_slot f.lim, if_neg (fun hh => ht (.inr hh))]
  exact f.slot t (fun hx => ht (.inl hx))
/-- The run catches up. -/
theorem FrP.behind {X : Nat → Prop} {a : Fr} {act : Act} (f : FrP β ω X a act) (dst : Option Tmp) {u : Value} (r : ∀ t, dst = some t → t < a.nt → VR β ω (a.slot t) u) :
    FrP β ω (fun t => X t ∧ ¬ (dst = some t ∧ t < a.nt)) a (act.put dst u) := by
  refine ⟨by rw [Act.put_size]; exact f.size, f.lim, fun t ht => ?_, by rw [Act.put_def]; exact f.defers⟩
  rw [Act.put_tmps, f.size]
  by_cases hc : dst = some t ∧ t < a.nt
  · rw [if_pos hc]; exact r t hc.1 hc.2
  · rw [if_neg hc]; exact f.slot t (fun hx => ht ⟨hx, hc⟩)


/-- Operands and guards look at certain slots. -/
theorem FrP.evs {X : Nat → Prop} {a : Fr} {act : Act} (f : FrP β ω X a act) (x : Operand) (hx : ∀ t, x = .tmp t → ¬ X t) (v : AV) (e : a.ev x = some v) : VR β ω v (act.eval x) := by
  cases x with
  | tmp t => simp only [Fr.ev, Option.some.injEq] at e; subst e; exact f.slot t (hx t rfl)
  | const c => exact ofVal_VR e
  | global g => simp only [Fr.ev, Option.some.injEq] at e; subst e; rfl
  | func g => simp only [Fr.ev, Option.some.injEq] at e; subst e; exact ⟨fun l hh => (by cases hh), #[], #[], rfl, rfl, rfl⟩
theorem FrP.opR {a : Fr} {act : Act} (f : FrR β ω a act) : OpR β ω a.ev act.eval := fun x v e => f.evs x (fun _ _ => id) v e

theorem wanted_ok {X : Nat → Prop} {a : Fr} {act : Act} (f : FrP β ω X a act) {all : List Oper} {ops : Array Oper} (ho : ops.toList = all) {o : Oper} {b : Bool} (e : wantedE all a o = some b)
    (hx : ∀ j want g d, o.guard = some (j, want) → all[j]? = some g → g.dst = some d → ¬ X d) : Region.wanted o (yielded ops act.tmps) = b := by
  unfold wantedE at e
  unfold Region.wanted
  split at e
  · rename_i hg; rw [hg]; simpa using e
  · rename_i j want hg
    rw [hg]
    simp only []
    have hj : all[j]? = ops[j]? := by rw [← ho]; simp
    unfold yielded
    rw [← hj]
    split at e
    · rename_i hd; rw [hd]; simp only [Option.some.injEq] at e; subst e; rfl
    · rename_i d hd
      rw [hd]
      simp only [Option.bind_some]
      obtain ⟨g, hg1, hg2⟩ := Option.bind_eq_some_iff.1 hd
      by_cases hlt : d < a.nt
      · rw [blt_t hlt] at e
        simp only [cond_true] at e
        have hs := f.slot d (hx j want g d hg hg1 hg2)
        have hsz : d < act.tmps.size := by rw [f.size]; exact hlt
        rw [Array.getD_eq_getD_getElem?, Array.getElem?_eq_getElem hsz] at hs
        simp only [Option.getD_some] at hs
        rw [Array.getElem?_eq_getElem hsz]
        split at e
        · rename_i bb hb
          rw [hb] at hs
          simp only [VR] at hs
          simp only [Option.some.injEq] at e; subst e
          rw [hs]; simp
        · cases e
        · rename_i hnb hno
          simp only [Option.some.injEq] at e; subst e
          have : ∀ bb, act.tmps[d] ≠ .bool bb := by
            intro bb hbb
            rw [hbb] at hs
            cases hh : a.slot d <;> rw [hh] at hs hnb hno <;> simp only [VR] at hs <;> first
              | (cases hs; exact absurd rfl (hnb _))
              | (exact absurd rfl (hno _))
              | ((cases hs;done))
              | (obtain ⟨_, _, _, _, hs⟩ := hs; (cases hs;done))
              | (obtain ⟨_, _, _, _, hs, _⟩ := hs; (cases hs;done))
              | (obtain ⟨_, _, _, hs, _⟩ := hs; (cases hs;done))
              | (obtain ⟨_, _, hs⟩ := hs; (cases hs;done))
              | (obtain ⟨_, hs, _⟩ := hs; (cases hs;done))
              | (obtain ⟨_, hs⟩ := hs; (cases hs;done))
          cases hv : act.tmps[d] <;> first | rfl | exact absurd hv (this _)
      · rw [blt_f hlt] at e
        simp only [cond_false, Option.some.injEq] at e; subst e
        have : act.tmps[d]? = none := Array.getElem?_eq_none (by rw [f.size]; exact Nat.le_of_not_lt hlt)
        rw [this]; rfl

theorem wantedR_ok {a : Fr} {act : Act} (f : FrR β ω a act) {all : List Oper} {ops : Array Oper} (ho : ops.toList = all) {o : Oper} {b : Bool} (e : wantedE all a o = some b) : Region.wanted o (yielded ops act.tmps) = b :=
  wanted_ok f ho e (fun _ _ _ _ _ _ _ => id)

end Go.Ev
