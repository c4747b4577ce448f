/- The evaluator: loops that are told by a pattern: states. -/
import Derived.Test.YtnfimpnakkngbadGreatDoorE26b
set_option linter.unusedVariables false
set_option linter.unusedSimpArgs false
namespace Go.Ev
open Go

variable {β β' : Bij} {ω ω' : Opq} {K : Nat → Prop} {w0 w : World} {h : Heap}

theorem VR_undef {x : AV} (r : VR β ω x Go.undef) : VR β' ω' x Go.undef := by
  cases x <;> simp only [VR, Go.undef] at r ⊢ <;> first
    | exact r
    | (cases r; done)
    | (obtain ⟨_, _, r⟩ := r; cases r; done)
    | (obtain ⟨_, _, _, _, r⟩ := r; cases r; done)
    | (obtain ⟨_, _, _, _, r, _⟩ := r; cases r; done)
    | (obtain ⟨_, r⟩ := r; cases r; done)
    | (obtain ⟨_, _, _, r, _⟩ := r; cases r; done)
    | (obtain ⟨_, r, _⟩ := r; cases r; done)
    | (rcases r with ⟨_, _, _, _, r, _⟩ | ⟨r, _⟩ <;> cases r)
    | skip
  case opq n => have := ω.one n; rw [← r] at this; cases this
  case tup cs =>
    obtain ⟨xs, e, q⟩ := r
    simp only [Value.tuple.injEq] at e
    subst e
    cases cs with
    | nil => exact ⟨#[], rfl, rfl⟩
    | cons c cs => obtain ⟨_, _, e, _⟩ := q; cases e

/-! ### Laying patterns -/
theorem laySl_nt : ∀ (l : List (Nat × AV)) (a : Fr), (laySl a l).nt = a.nt
  | [], a => rfl
  | (t, v) :: r, a => by simp only [laySl]; rw [laySl_nt r, Fr.put_nt]
theorem layDead_nt : ∀ (l : List Nat) (a : Fr), (layDead a l).nt = a.nt
  | [], a => rfl
  | t :: r, a => by simp only [layDead]; rw [layDead_nt r, Fr.put_nt]
theorem laySl_pc : ∀ (l : List (Nat × AV)) (a : Fr), (laySl a l).pc = a.pc
  | [], a => rfl
  | (t, v) :: r, a => by simp only [laySl]; rw [laySl_pc r, Fr.put_pc]
theorem layDead_pc : ∀ (l : List Nat) (a : Fr), (layDead a l).pc = a.pc
  | [], a => rfl
  | t :: r, a => by simp only [layDead]; rw [layDead_pc r, Fr.put_pc]
theorem laySl_ds : ∀ (l : List (Nat × AV)) (a : Fr), (laySl a l).ds = a.ds
  | [], a => rfl
  | (t, v) :: r, a => (laySl_ds r _).trans (Fr.put_ds _ _ _)
theorem layDead_ds : ∀ (l : List Nat) (a : Fr), (layDead a l).ds = a.ds
  | [], a => rfl
  | t :: r, a => (layDead_ds r _).trans (Fr.put_ds _ _ _)
theorem laySl_ro : ∀ (l : List (Nat × AV)) (a : Fr), (laySl a l).ro = a.ro
  | [], a => rfl
  | (t, v) :: r, a => (laySl_ro r _).trans (Fr.put_ro _ _ _)
theorem layDead_ro : ∀ (l : List Nat) (a : Fr), (layDead a l).ro = a.ro
  | [], a => rfl
  | t :: r, a => (layDead_ro r _).trans (Fr.put_ro _ _ _)
theorem plainFr_at {a : Fr} (h : plainFr a = true) : a.ds = [] ∧ a.ro = none := by
  unfold plainFr at h
  obtain ⟨h1, h2⟩ := and_t h
  exact ⟨List.isEmpty_iff.1 h1, by cases hh : a.ro with
    | none => rfl
    | some l => rw [hh] at h2; cases h2⟩
theorem laySl_high : ∀ (l : List (Nat × AV)) (a : Fr), a.nt ≤ 256 → ∀ s, a.nt ≤ s → (laySl a l).slot s = a.slot s
  | [], a, _, s, _ => rfl
  | (t, v) :: r, a, hl, s, hs => by
    simp only [laySl]
    rw [laySl_high r _ (by rw [Fr.put_nt]; exact hl) s (by rw [Fr.put_nt]; exact hs), Fr.put_slot hl, if_neg (by omega)]
theorem layDead_high : ∀ (l : List Nat) (a : Fr), a.nt ≤ 256 → ∀ s, a.nt ≤ s → (layDead a l).slot s = a.slot s
  | [], a, _, s, _ => rfl
  | t :: r, a, hl, s, hs => by
    simp only [layDead]
    rw [layDead_high r _ (by rw [Fr.put_nt]; exact hl) s (by rw [Fr.put_nt]; exact hs), Fr.put_slot hl, if_neg (by omega)]
/-- Either a pattern's, or as it was; and so it is behind the filling in. -/
theorem laySl_inst (f : AV → AV) : ∀ (l : List (Nat × AV)) (a b : Fr) (s : Nat), a.nt ≤ 256 → b.nt = a.nt → s < a.nt → (b.slot s = f (a.slot s) ∨ b.slot s = a.slot s) →
    ((laySl b (l.map fun p => (p.1, f p.2))).slot s = f ((laySl a l).slot s)) ∨ ((laySl b (l.map fun p => (p.1, f p.2))).slot s = b.slot s ∧ (laySl a l).slot s = a.slot s)
  | [], a, b, s, _, _, _, _ => .inr ⟨rfl, rfl⟩
  | (t, v) :: r, a, b, s, hl, hn, hs, h => by
    simp only [List.map_cons, laySl]
    have e1 : (a.put (some t) v).slot s = if t = s then v else a.slot s := by rw [Fr.put_slot hl]; simp [hs]
    have e2 : (b.put (some t) (f v)).slot s = if t = s then f v else b.slot s := by rw [Fr.put_slot (by omega)]; simp [hn, hs]
    have := laySl_inst f r (a.put (some t) v) (b.put (some t) (f v)) s (by rw [Fr.put_nt]; exact hl) (by rw [Fr.put_nt, Fr.put_nt, hn]) (by rw [Fr.put_nt]; exact hs) (by
      rw [e1, e2]
      by_cases hh : t = s
      · rw [if_pos hh, if_pos hh]; exact .inl rfl
      · rw [if_neg hh, if_neg hh]; exact h)
    rcases this with q | ⟨q1, q2⟩
    · exact .inl q
    · by_cases hh : t = s
      · left
        rw [q1, q2, e1, e2, if_pos hh, if_pos hh]
      · rw [e2, if_neg hh] at q1
        rw [e1, if_neg hh] at q2
        exact .inr ⟨q1, q2⟩
@[simp] theorem Heap.get_upto (h : Heap) (n b : Nat) : (h.upto n).get b = h.get b := by cases h; rfl
@[simp] theorem Heap.next_upto (h : Heap) (n : Nat) : (h.upto n).next = n := by cases h; rfl
@[simp] theorem Heap.wm_upto (h : Heap) (n : Nat) : (h.upto n).wm = h.wm := by cases h; rfl
theorem layHp_next : ∀ (l : List (Nat × Option Blk)) (h : Heap), (layHp h l).next = h.next
  | [], h => rfl
  | (b, x) :: r, h => by simp only [layHp]; rw [layHp_next r]; rfl
theorem layHp_wm : ∀ (l : List (Nat × Option Blk)) (h : Heap), (layHp h l).wm = h.wm
  | [], h => rfl
  | (b, x) :: r, h => by simp only [layHp]; rw [layHp_wm r]; rfl
theorem layHp_other : ∀ (l : List (Nat × Option Blk)) (h : Heap) (s : Nat), (∀ p ∈ l, p.1 ≠ s) → (layHp h l).get s = h.get s
  | [], h, s, _ => rfl
  | (b, x) :: r, h, s, hp => by
    simp only [layHp]
    rw [layHp_other r _ s (fun p hh => hp p (.tail _ hh)), Heap.get_put, if_neg (fun e => hp (b, x) (.head _) e.symm)]
theorem layHp_inst (f : Option Blk → Option Blk) (hf : f none = none) : ∀ (l : List (Nat × Option Blk)) (a b : Heap) (s : Nat), (b.get s = f (a.get s) ∨ b.get s = a.get s) →
    ((layHp b (l.map fun p => (p.1, f p.2))).get s = f ((layHp a l).get s)) ∨ ((layHp b (l.map fun p => (p.1, f p.2))).get s = b.get s ∧ (layHp a l).get s = a.get s)
  | [], a, b, s, _ => .inr ⟨rfl, rfl⟩
  | (t, v) :: r, a, b, s, h => by
    simp only [List.map_cons, layHp]
    have e1 : (a.put t v).get s = if s = t then (if t < 65536 then v else none) else a.get s := Heap.get_put _ _ _ _
    have e2 : (b.put t (f v)).get s = if s = t then (if t < 65536 then f v else none) else b.get s := Heap.get_put _ _ _ _
    have h2 : (b.put t (f v)).get s = f ((a.put t v).get s) ∨ (b.put t (f v)).get s = (a.put t v).get s := by
      rw [e1, e2]
      by_cases hh : s = t
      · rw [if_pos hh, if_pos hh]
        by_cases h3 : t < 65536
        · rw [if_pos h3, if_pos h3]; exact .inl rfl
        · rw [if_neg h3, if_neg h3]; exact .inr rfl
      · rw [if_neg hh, if_neg hh]; exact h
    rcases layHp_inst f hf r (a.put t v) (b.put t (f v)) s h2 with q | ⟨q1, q2⟩
    · exact .inl q
    · by_cases hh : s = t
      · left
        rw [q1, q2, e1, e2, if_pos hh, if_pos hh]
        by_cases h3 : t < 65536
        · rw [if_pos h3, if_pos h3]
        · rw [if_neg h3, if_neg h3, hf]
      · rw [e2, if_neg hh] at q1
        rw [e1, if_neg hh] at q2
        exact .inr ⟨q1, q2⟩

/-! ### A state that meets a pattern -/
theorem hw_left {n : Nat} {es fs : List SX} {P : Nat → SX → Prop} (hw : ∀ j e, (es ++ fs)[j]? = some e → P (n + j) e) : ∀ j e, es[j]? = some e → P (n + j) e := by
  intro j e hj
  refine hw j e ?_
  rw [List.getElem?_append_left]
  · exact hj
  · rcases Nat.lt_or_ge j es.length with hh | hh
    · exact hh
    · rw [List.getElem?_eq_none hh] at hj; cases hj
theorem hw_right {n : Nat} {es fs : List SX} {P : Nat → SX → Prop} (hw : ∀ j e, (es ++ fs)[j]? = some e → P (n + j) e) : ∀ j e, fs[j]? = some e → P (n + es.length + j) e := by
  intro j e hj
  have := hw (es.length + j) e (by rw [List.getElem?_append_right (by omega), show es.length + j - es.length = j by omega]; exact hj)
  rw [show n + es.length + j = n + (es.length + j) by omega]; exact this
theorem absSl_at {v0 nb : Nat} {aP a : Fr} {P : Nat → SX → Prop} : ∀ {m t n : Nat} {es : List SX}, absSl v0 nb aP a m t n = some es → (∀ j e, es[j]? = some e → P (n + j) e) → ∀ s, t ≤ s → s < t + m → ∃ n' es', absA v0 nb n' (aP.slot s) (a.slot s) = some es' ∧ ∀ j e, es'[j]? = some e → P (n' + j) e
  | 0, t, n, es, h, hw, s, h1, h2 => by omega
  | m + 1, t, n, es, h, hw, s, h1, h2 => by
    simp only [absSl] at h
    split at h
    · rename_i e1 he1
      split at h
      · rename_i e2 he2
        simp only [Option.some.injEq] at h; subst h
        by_cases hs : s = t
        · subst hs; exact ⟨n, e1, he1, hw_left hw⟩
        · exact absSl_at he2 (hw_right hw) s (by omega) (by omega)
      · cases h
    · cases h
theorem absHp_at {v0 nb : Nat} {hP h0 : Heap} {P : Nat → SX → Prop} : ∀ {m t n : Nat} {es : List SX}, absHp v0 nb hP h0 m t n = some es → (∀ j e, es[j]? = some e → P (n + j) e) → ∀ s, t ≤ s → s < t + m → ∃ n' es', absOB v0 nb n' (hP.get s) (h0.get s) = some es' ∧ ∀ j e, es'[j]? = some e → P (n' + j) e
  | 0, t, n, es, h, hw, s, h1, h2 => by omega
  | m + 1, t, n, es, h, hw, s, h1, h2 => by
    simp only [absHp] at h
    split at h
    · rename_i e1 he1
      split at h
      · rename_i e2 he2
        simp only [Option.some.injEq] at h; subst h
        by_cases hs : s = t
        · subst hs; exact ⟨n, e1, he1, hw_left hw⟩
        · exact absHp_at he2 (hw_right hw) s (by omega) (by omega)
      · cases h
    · cases h
def Bij.cut (β : Bij) (n : Nat) : Bij := fun b => if b < n then β b else none
theorem upd_dens {ω : Opq} {v0 : Nat} {es : List SX} : ∀ j e, es[j]? = some e → (ω.upd v0 (dens ω es)).w (v0 + (0 + j)) = den ω e := by
  intro j e hj
  rw [Nat.zero_add]
  refine upd_w ?_
  induction es generalizing j with
  | nil => simp at hj
  | cons a r ih =>
    cases j with
    | zero => simp at hj; subst hj; rfl
    | succ j => simp only [dens, List.getElem?_cons_succ]; exact ih j (by simpa using hj)

structure Met (v0 : Nat) (aP : Fr) (hP : Heap) (a : Fr) (h : Heap) (es : List SX) : Prop where
  plP : plainFr aP = true
  pl : plainFr a = true
  nt : aP.nt = a.nt
  nx : hP.next ≤ h.next
  wm : hP.wm = h.wm
  sl : ∀ (P : Nat → SX → Prop), (∀ j e, es[j]? = some e → P (0 + j) e) → ∀ s, s < a.nt → ∃ n' es', absA v0 hP.next n' (aP.slot s) (a.slot s) = some es' ∧ ∀ j e, es'[j]? = some e → P (n' + j) e
  hp : ∀ (P : Nat → SX → Prop), (∀ j e, es[j]? = some e → P (0 + j) e) → ∀ s, s < hP.next → ∃ n' es', absOB v0 hP.next n' (hP.get s) (h.get s) = some es' ∧ ∀ j e, es'[j]? = some e → P (n' + j) e
theorem stMatch_met {v0 : Nat} {aP : Fr} {hP : Heap} {a : Fr} {h : Heap} {es : List SX} (e : stMatch v0 aP hP a h = some es) : Met v0 aP hP a h es := by
  unfold stMatch at e
  obtain ⟨h1, e⟩ := cond_some e
  obtain ⟨h1, h3⟩ := and_t h1
  obtain ⟨h1, h2⟩ := and_t h1
  obtain ⟨h0, h1⟩ := and_t h1
  obtain ⟨h0, h00⟩ := and_t h0
  rw [beq_iff'] at h1 h3
  rw [ble_iff] at h2
  split at e
  · rename_i e1 he1
    split at e
    · rename_i e2 he2
      simp only [Option.some.injEq] at e; subst e
      exact ⟨h0, h00, h1, h2, h3, fun P hw s hs => absSl_at he1 (hw_left hw) s (Nat.zero_le _) (by omega), fun P hw s hs => by
        have := absHp_at (P := P) (n := e1.length) he2 (by have := hw_right (n := 0) hw; simpa using this) s (Nat.zero_le _) (by omega)
        exact this⟩
    · cases e
  · cases e

theorem Met.fr {v0 : Nat} {aP : Fr} {hP : Heap} {a : Fr} {es : List SX} {act : Act} (m : Met v0 aP hP a h es) (hpc : aP.pc = []) (hhi : ∀ s, a.nt ≤ s → ∃ x, aP.slot s = x ∧ VR β ω x Go.undef) (f : FrR β ω a act) : FrR (β.cut hP.next) (ω.upd v0 (dens ω es)) aP act := by
  refine ⟨by rw [m.nt]; exact f.size, by rw [m.nt]; exact f.lim, fun t _ => ?_, ?_, fun p hp => by rw [hpc] at hp; cases hp⟩
  rotate_left
  · have hd := f.defers
    rw [(plainFr_at m.pl).1] at hd
    rw [(plainFr_at m.plP).1]; exact hd
  by_cases ht : t < a.nt
  · obtain ⟨n', es', h1, h2⟩ := m.sl (fun j e => (ω.upd v0 (dens ω es)).w (v0 + j) = den ω e) upd_dens t ht
    exact absA_ok (agr_upd ω v0 _) (fun b hb => by simp [Bij.cut, hb]) n' _ _ es' _ h1 h2 (f.slot t id)
  · obtain ⟨x, h1, h2⟩ := hhi t (Nat.le_of_not_lt ht)
    rw [h1, Array.getD_eq_getD_getElem?, Array.getElem?_eq_none (by rw [f.size]; exact Nat.le_of_not_lt ht)]
    exact VR_undef h2
theorem Met.hr {v0 : Nat} {aP : Fr} {hP : Heap} {a : Fr} {es : List SX} (m : Met v0 aP hP a h es) (hfg : ∀ b, hP.next ≤ b → hP.get b = none) (r : HR β ω K w0 h w) : HR (β.cut hP.next) (ω.upd v0 (dens ω es)) K w0 hP w := by
  have key : ∀ b x, hP.get b = some x → b < hP.next ∧ ∃ y, h.get b = some y ∧ ∀ L o, BR β ω L o y → BR (β.cut hP.next) (ω.upd v0 (dens ω es)) L o x := by
    intro b x hx
    have hb : b < hP.next := by
      rcases Nat.lt_or_ge b hP.next with hh | hh
      · exact hh
      · rw [hfg b hh] at hx; cases hx
    refine ⟨hb, ?_⟩
    obtain ⟨n', es', h1, h2⟩ := m.hp (fun j e => (ω.upd v0 (dens ω es)).w (v0 + j) = den ω e) upd_dens b hb
    rw [hx] at h1
    simp only [absOB] at h1
    split at h1
    · rename_i y hy
      exact ⟨y, hy, fun L o hbr => absB_ok (agr_upd ω v0 _) (fun b hb => by simp [Bij.cut, hb]) h1 h2 hbr⟩
    · cases h1
  have cut : ∀ {b L}, β.cut hP.next b = some L → β b = some L := by
    intro b L hb
    simp only [Bij.cut] at hb
    split at hb
    · exact hb
    · cases hb
  refine ⟨fun b x L hg hb => ?_, fun b b' x x' L L' hg hg' hb hb' hne => ?_, fun b hb => by simp only [Bij.cut]; rw [if_neg (by omega)], hfg, fun b L hb => r.lt b L (cut hb), r.kin, r.keep, fun b x L hg hw hb => ?_, r.size, r.os, r.tape, r.out⟩
  · obtain ⟨_, y, h1, h2⟩ := key b x hg
    exact h2 L _ (r.blk b y L h1 (cut hb))
  · obtain ⟨_, y, h1, _⟩ := key b x hg
    obtain ⟨_, y', h1', _⟩ := key b' x' hg'
    exact r.sep b b' y y' L L' h1 h1' (cut hb) (cut hb') hne
  · obtain ⟨_, y, h1, _⟩ := key b x hg
    exact r.free b y L h1 (by rw [← m.wm]; exact hw) (cut hb)

end Go.Ev
