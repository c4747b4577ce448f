/- The evaluator: built-in functions, conversions, library functions. -/
import Derived.Test.YtnfimpnakkngbadGreatDoorE13b
set_option linter.unusedVariables false
set_option linter.unusedSimpArgs false
namespace Go.Ev
open Go

variable {P : Program} {β : Bij} {ω : Opq} {K : Nat → Prop} {w0 w : World} {h h' : Heap}

theorem lastOf_ok : ∀ {l : List Nat} {s : Nat}, lastOf l = some s → l.toArray.back? = some s
  | [], s, e => by cases e
  | [x], s, e => by simp only [lastOf, Option.some.injEq] at e; subst e; rfl
  | x :: y :: r, s, e => by
    have ih := lastOf_ok (l := y :: r) (s := s) e
    simp only [List.back?_toArray] at ih ⊢
    rw [List.getLast?_cons_cons]; exact ih

theorem entryE_ok {it a : AV} {vi : Value} (r : HR β ω K w0 h w) (e : entryE it h = some a) (ri : VR β ω it vi) : ∃ v, VR β ω a v ∧ (Instr.entry vi).run P w = .ok v w := by
  unfold entryE at e
  split at e
  · rename_i b
    simp only [VR] at ri; obtain ⟨L, hL, rfl⟩ := ri
    split at e
    · rename_i m since seen stepped hg
      obtain ⟨h0, m', h1, h2⟩ := r.iter hg hL
      simp only [IR] at h2; obtain ⟨Lm, hLm, rfl⟩ := h2
      split at e
      · rename_i s es c hs hgm
        replace e := cond_some e
        obtain ⟨hc, e⟩ := e
        rw [beq_iff'] at hc; subst hc
        simp only [Option.map_eq_some_iff] at e
        obtain ⟨⟨i, en⟩, hf, rfl⟩ := e
        obtain ⟨E, g1, g2⟩ := r.map hgm hLm
        obtain ⟨j, k, v, e1, e2, e3, e4, e5, e6, e7⟩ := findBorn_ok g2 0 hf
        obtain ⟨-, q1⟩ := e7 (fun x => x.born == s) (fun x => by simp)
        have q2 : E.find? (fun x => x.born == s) = some ⟨k, v, en.born⟩ := by rw [← Array.find?_toList]; exact q1
        have hb := lastOf_ok hs
        refine ⟨.tuple #[k, v], ⟨_, rfl, .cons e4 (.one e5)⟩, ?_⟩
        have hcc : (c != c) = false := by simp
        simp only [h0, Nat.add_zero, Instr.entry, Sem.run_bind, run_getIter h1, Result.andThen_ok, hb, run_getMap g1, hcc, Bool.false_eq_true, if_false, Sem.run_pure, q2]
      · cases e
    · cases e
  · cases e

theorem typeAssertE_ok {x a : AV} {xt t : TypeId} {ok : Bool} {vx : Value} (e : typeAssertE P x t ok = some a) (rx : VR β ω x vx) : ∃ v, VR β ω a v ∧ ∀ w, (Instr.typeAssert vx xt t ok).run P w = .ok v w := by
  have fails : failsE P t ok = some a → ok = true ∧ ∃ z, VR β ω a (.tuple #[z, .bool false]) ∧ ∀ w, (zeroValue t).run P w = .ok z w := by
    intro e
    unfold failsE at e
    obtain ⟨hok, e⟩ := cond_some e
    simp only [Option.map_eq_some_iff] at e
    obtain ⟨z, hz, rfl⟩ := e
    obtain ⟨zv, z1, z2⟩ := zero_VR hz
    exact ⟨hok, zv, ⟨_, rfl, .cons (z1 _ _) (.one rfl)⟩, z2⟩
  have holds : ∀ (y : AV) (v : Value), VR β ω y v → holdsE ok y = some a → VR β ω a (if ok then .tuple #[v, .bool true] else v) := by
    intro y v hv e
    unfold holdsE at e
    simp only [Option.some.injEq] at e; subst e
    cases ok
    · exact hv
    · exact ⟨_, rfl, .cons hv (.one rfl)⟩
  unfold typeAssertE at e
  cases hd : P.underlying t with
  | none => rw [hd] at e; cases e
  | some d =>
    rw [hd] at e
    cases d with
    | interface m => cases e
    | _ =>
      simp only [] at e
      split at e
      · obtain ⟨rfl, z, z1, z2⟩ := fails e
        simp only [VR] at rx; subst rx
        exact ⟨_, z1, fun w => by simp only [Instr.typeAssert, Sem.run_bind, run_under hd, Result.andThen_ok, if_true, z2, Sem.run_pure]⟩
      · rename_i ty y
        simp only [VR] at rx; obtain ⟨v, rfl, rv⟩ := rx
        cases ht : Nat.beq ty t with
        | true =>
          rw [ht] at e
          rw [beq_iff'] at ht; subst ht
          exact ⟨_, holds y v rv e, fun w => by simp only [Instr.typeAssert, Sem.run_bind, run_under hd, Result.andThen_ok, if_true, Sem.run_pure]⟩
        | false =>
          rw [ht] at e
          obtain ⟨rfl, z, z1, z2⟩ := fails e
          have hne : ¬ ty = t := fun hh => by rw [beq_iff'.2 hh] at ht; cases ht
          exact ⟨_, z1, fun w => by simp only [Instr.typeAssert, Sem.run_bind, run_under hd, Result.andThen_ok, if_neg hne, if_true, z2, Sem.run_pure]⟩
      · cases e

theorem convE_ok {s d : TypeId} {x a : AV} {vx : Value} (hfx : ∀ t, ω.fix t = fixT P t) (r : HR β ω K w0 h w) (e : convE P s d x h = some (a, h')) (rx : VR β ω x vx) : Ok P β ω K w0 w h (convert s d vx) a h' := by
  unfold convE at e
  split at e
  · rename_i sd k k' n hs hd
    simp only [Option.some.injEq, Prod.mk.injEq] at e; obtain ⟨rfl, rfl⟩ := e
    simp only [VR] at rx; subst rx
    refine ⟨β, .int k (k.wrap n), w, ?_, by rw [wrapE_eq]; rfl, r, .refl _ _⟩
    simp only [convert, Sem.run_bind, run_under hs, run_under hd, Result.andThen_ok]
    rfl
  · rename_i sd l hs hd
    simp only [Option.some.injEq, Prod.mk.injEq] at e; obtain ⟨rfl, rfl⟩ := e
    simp only [VR] at rx; subst rx
    refine ⟨β, _, w, ?_, rfl, r, .refl _ _⟩
    simp only [convert, Sem.run_bind, run_under hs, run_under hd, Result.andThen_ok, Sem.run_pure]
  · rename_i el x hs hd _
    simp only [Option.map_eq_some_iff, Prod.mk.injEq] at e
    obtain ⟨l, hl, rfl, rfl⟩ := e
    exact ⟨β, _, w, rowStr_ok hs hd r hl rx, rfl, r, .refl _ _⟩
  · rename_i t b o hs hd
    exact toUnsafe_ok hs hd r e rx
  · rename_i t b o hs hd
    exact ofUnsafe_ok hfx hs hd r e rx
  · cases e

theorem convA_ok {s d : TypeId} {x a : AV} {vx : Value} (r : HR β ω K w0 h w) (e : convA P s d x h = some (a, h')) (rx : VR β ω x vx) : Ok P β ω K w0 w h (convert s d vx) a h' := by
  unfold convA at e
  split at e
  · rename_i el l hs hd
    exact strRow_ok hs hd r e rx
  · cases e

/-! ### Built-in functions -/
theorem lenB_ok {ts : Array TypeId} {ty n : Nat} {x : AV} {vx : Value} (r : HR β ω K w0 h w) (e : lenB P ((ts[0]?).bind P.underlying) x h = some n) (rx : VR β ω x vx) :
    (Builtin.len_ ts ty #[vx]).run P w = .ok (goInt n) w := by
  unfold lenB at e
  split at e
  · rename_i ht
    simp only [Option.bind_eq_some_iff] at ht
    obtain ⟨t, h0, ht⟩ := ht
    split at e
    · simp only [Option.some.injEq] at e; subst e
      simp only [VR] at rx; subst rx
      simp [Builtin.len_, h0, run_under ht]
      rfl
    · cases e
  · rename_i el ht
    simp only [Option.bind_eq_some_iff] at ht
    obtain ⟨t, h0, ht⟩ := ht
    cases hi : isStr x with
    | true => rw [hi] at e; cases e
    | false =>
      rw [hi] at e
      rcases lenE_val e rx with ⟨b, c, rfl⟩ | ⟨l, rfl⟩
      · simp [Builtin.len_, h0, run_under ht]
      · simp [isStr] at hi
  · rename_i kt et ht
    simp only [Option.bind_eq_some_iff] at ht
    obtain ⟨t, h0, ht⟩ := ht
    split at e
    · simp only [Option.some.injEq] at e; subst e
      simp only [VR] at rx; subst rx
      simp [Builtin.len_, h0, run_under ht]
    · split at e
      · rename_i b es c hg
        simp only [Option.some.injEq] at e; subst e
        simp only [VR] at rx; obtain ⟨L, hL, rfl⟩ := rx
        obtain ⟨E, h1, h2⟩ := r.map hg hL
        have := h2.length
        simp only [Array.length_toList] at this
        simp [Builtin.len_, h0, run_under ht, run_getMap h1, this]
      · cases e
    · cases e
  · cases e

theorem clearS_ok {ts : Array TypeId} {t ty elem b o n cap : Nat} {a : AV} {L : Loc} (h0 : ts[0]? = some t) (ht : P.underlying t = some (.slice elem)) (r : HR β ω K w0 h w) (e : clearS P elem b o n h = some (a, h')) (hL : β b = some L) :
    Ok P β ω K w0 w h (Builtin.clear_ ts ty #[.slice (some ⟨L.blk, L.off + o, none⟩) n cap]) a h' := by
  unfold clearS at e
  split at e
  · simp only [Option.some.injEq, Prod.mk.injEq] at e; obtain ⟨rfl, rfl⟩ := e
    exact ⟨β, .tuple #[], w, by simp [Builtin.clear_, h0, run_under ht], ⟨_, rfl, rfl⟩, r, .refl _ _⟩
  · rename_i hn
    split at e
    · rename_i z hz
      obtain ⟨hp, e⟩ := cond_some e
      rw [blt_iff] at hp
      simp only [Option.map_eq_some_iff, Prod.mk.injEq] at e
      obtain ⟨h1, he, rfl, rfl⟩ := e
      obtain ⟨zv, hzv, hzr⟩ := run_zeroOf hz
      have rz : VRs β ω z.cells zv.cells.toList := VR.cells' (ofVal_VR hzv) (ofVal_any hzv)
      have hzs : zv.cells.size = z.cells.length := by have := rz.length; simpa using this
      obtain ⟨p1, p2, p3⟩ := putCells_ok (P := P) r he hL (zeroCells_VRs rz (by omega) n)
      refine ⟨β, .tuple #[], _, ?_, ⟨_, rfl, rfl⟩, p2, p3⟩
      obtain ⟨m, rfl⟩ : ∃ m, n = m + 1 := ⟨n - 1, by have : n ≠ 0 := fun hh => hn hh; omega⟩
      simp only [Builtin.clear_, h0, Sem.run_bind, run_under ht, Result.andThen_ok, List.getElem?_toArray, List.getElem?_cons_zero, hzr, p1, Sem.run_pure]
    · cases e

theorem clearE_ok {ts : Array TypeId} {ty : Nat} {x a : AV} {vx : Value} (r : HR β ω K w0 h w) (e : clearE P ((ts[0]?).bind P.underlying) x h = some (a, h')) (rx : VR β ω x vx) : Ok P β ω K w0 w h (Builtin.clear_ ts ty #[vx]) a h' := by
  unfold clearE at e
  split at e
  · rename_i elem ht
    simp only [Option.bind_eq_some_iff] at ht
    obtain ⟨t, h0, ht⟩ := ht
    split at e
    · simp only [Option.some.injEq, Prod.mk.injEq] at e; obtain ⟨rfl, rfl⟩ := e
      simp only [VR] at rx; subst rx
      exact ⟨β, .tuple #[], w, by simp [Builtin.clear_, h0, run_under ht], ⟨_, rfl, rfl⟩, r, .refl _ _⟩
    · simp only [VR] at rx; obtain ⟨L, hL, rfl⟩ := rx
      exact clearS_ok h0 ht r e hL
    · simp only [VR] at rx; obtain ⟨L, c, hL, _, rfl⟩ := rx
      exact clearS_ok h0 ht r e hL
    · cases e
  · rename_i kt et ht
    simp only [Option.bind_eq_some_iff] at ht
    obtain ⟨t, h0, ht⟩ := ht
    split at e
    · simp only [Option.some.injEq, Prod.mk.injEq] at e; obtain ⟨rfl, rfl⟩ := e
      simp only [VR] at rx; subst rx
      exact ⟨β, .tuple #[], w, by simp [Builtin.clear_, h0, run_under ht], ⟨_, rfl, rfl⟩, r, .refl _ _⟩
    · rename_i b
      split at e
      · rename_i es c hg
        replace e := cond_some e
        obtain ⟨hwm, e⟩ := e
        rw [ble_iff] at hwm
        simp only [Option.some.injEq, Prod.mk.injEq] at e; obtain ⟨rfl, rfl⟩ := e
        simp only [VR] at rx; obtain ⟨L, hL, rfl⟩ := rx
        obtain ⟨E, h1, h2⟩ := r.map hg hL
        obtain ⟨p1, p2⟩ := r.set1 b _ (.map [] c) L (.map #[] c) hg hL hwm ⟨#[], rfl, .nil⟩
        refine ⟨β, .tuple #[], _, ?_, ⟨_, rfl, rfl⟩, p1, p2⟩
        simp only [Builtin.clear_, h0, Sem.run_bind, run_under ht, Result.andThen_ok, List.getElem?_toArray, List.getElem?_cons_zero, run_getMap h1, run_setMap _ h1, Sem.run_pure]
      · cases e
    · cases e
  · cases e

theorem VRs.inv1 {a : AV} {us : Array Value} (r : VRs β ω [a] us.toList) : ∃ v, us = #[v] ∧ VR β ω a v := by
  obtain ⟨v, vr, e, p, q⟩ := r
  rw [show vr = [] from q] at e
  exact ⟨v, by rw [← Array.toList_inj]; simpa using e, p⟩
theorem VRs.inv2 {a b : AV} {us : Array Value} (r : VRs β ω [a, b] us.toList) : ∃ v u, us = #[v, u] ∧ VR β ω a v ∧ VR β ω b u := by
  obtain ⟨v, vr, e, p, u, ur, e2, q, t⟩ := r
  rw [show ur = [] from t] at e2
  subst e2
  exact ⟨v, u, by rw [← Array.toList_inj]; simpa using e, p, q⟩

theorem capE_ok {x a : AV} {v : Value} (r : HR β ω K w0 h w) (e : capE x h = some a) (rx : VR β ω x v) : ∃ p n c, v = .slice p n c ∧ VR β ω a (.int .i64 (c : Nat)) := by
  unfold capE at e
  split at e
  · simp only [Option.some.injEq] at e; subst e
    simp only [VR] at rx; subst rx
    exact ⟨_, _, _, rfl, rfl⟩
  · simp only [Option.some.injEq] at e; subst e
    simp only [VR] at rx; obtain ⟨p, rfl⟩ := rx
    exact ⟨_, _, _, rfl, rfl⟩
  · simp only [Option.some.injEq] at e; subst e
    simp only [VR] at rx; obtain ⟨L, _, rfl⟩ := rx
    exact ⟨_, _, _, rfl, rfl⟩
  · rename_i b o n sz
    split at e
    · rename_i el fz cs hg
      replace e := cond_some e
      obtain ⟨hc, e⟩ := e
      obtain ⟨h1, h2⟩ := and_t hc
      rw [blt_iff] at h1
      rw [ble_iff] at h2
      simp only [Option.some.injEq] at e; subst e
      simp only [VR] at rx; obtain ⟨L, c, hL, hx, rfl⟩ := rx
      obtain ⟨C, lo, hi, vs, q1, q2, q3, q4⟩ := r.cells hg hL
      refine ⟨_, _, _, rfl, (c : Nat), rfl, ?_⟩
      have : (cs.length - o) / sz ≤ c := by
        rw [← Nat.mul_div_cancel c h1]
        exact Nat.div_le_div_right (by omega)
      exact Int.ofNat_le.2 this
    · cases e
  · cases e

theorem builtinE_ok {b : Builtin} {ts : Array TypeId} {ty : TypeId} {cs : Array Bool} {args : List AV} {us : Array Value} {a : AV} (hfx : ∀ t, ω.fix t = fixT P t) (r : HR β ω K w0 h w) (e : builtinE P b ts args h = some (a, h')) (ra : VRs β ω args us.toList) :
    ∃ β' v w', (builtin b ts ty cs us).run P w = .ok (.value v) w' ∧ VR β' ω a v ∧ HR β' ω K w0 h' w' ∧ St h β h' β' := by
  have lift : ∀ {m : Sem Value}, Ok P β ω K w0 w h m a h' → ∃ β' v w', (do pure (.value (← m)) : Sem Next).run P w = .ok (.value v) w' ∧ VR β' ω a v ∧ HR β' ω K w0 h' w' ∧ St h β h' β' := by
    intro m ⟨β', v, w', h1, h2, h3, h4⟩
    exact ⟨β', v, w', by simp only [Sem.run_bind, h1, Result.andThen_ok, Sem.run_pure], h2, h3, h4⟩
  unfold builtinE at e
  split at e
  · simp only [Option.map_eq_some_iff, Prod.mk.injEq] at e
    obtain ⟨n, hn, rfl, rfl⟩ := e
    obtain ⟨v, rfl, rv⟩ := ra.inv1
    exact lift ⟨β, _, w, lenB_ok r hn rv, rfl, r, .refl _ _⟩
  · obtain ⟨v, u, rfl, rv, ru⟩ := ra.inv2
    exact lift (appendE_ok hfx r e rv ru)
  · obtain ⟨v, u, rfl, rv, ru⟩ := ra.inv2
    exact lift (copyE_ok r e rv ru)
  · obtain ⟨v, rfl, rv⟩ := ra.inv1
    exact lift (clearE_ok r e rv)
  · obtain ⟨v, u, rfl, rv, ru⟩ := ra.inv2
    split at e
    · rename_i t h0
      simp only [Option.map_eq_some_iff, Prod.mk.injEq] at e
      obtain ⟨h1, he, rfl, rfl⟩ := e
      obtain ⟨w', d1, d2, d3⟩ := deleteE_ok (ty := ty) h0 r he rv ru
      exact lift ⟨β, _, w', d1, ⟨_, rfl, rfl⟩, d2, d3⟩
    · cases e
  · obtain ⟨v, rfl, rv⟩ := ra.inv1
    exact lift (unsData_ok r e rv)
  · obtain ⟨v, u, rfl, rv, ru⟩ := ra.inv2
    simp only [VR] at ru; subst ru
    exact lift (unsS_ok r e rv)
  · obtain ⟨v, rfl, rv⟩ := ra.inv1
    split at e
    · rename_i el hu
      simp only [Option.map_eq_some_iff, Prod.mk.injEq] at e
      obtain ⟨a0, he, rfl, rfl⟩ := e
      obtain ⟨p, n, c, rfl, rc⟩ := capE_ok r he rv
      refine lift ⟨β, .int .i64 (c : Nat), w, ?_, rc, r, .refl _ _⟩
      cases ht : ts[0]? with
      | none => rw [ht] at hu; cases hu
      | some t =>
        rw [ht] at hu
        have hu : P.underlying t = some (.slice el) := hu
        simp [Builtin.cap_, ht, Sem.run_bind, run_underlying hu, goInt]
    · cases e
  · obtain ⟨v, u, rfl, rv, ru⟩ := ra.inv2
    simp only [VR] at rv ru; subst rv ru
    simp only [Option.some.injEq, Prod.mk.injEq] at e; obtain ⟨rfl, rfl⟩ := e
    rename_i k x k' y
    refine lift ⟨β, .int k (if y > x then y else x), w, ?_, ?_, r, .refl _ _⟩
    · simp [Builtin.max_, Builtin.max2]
    · rw [iltb_eq]
      by_cases hh : x < y
      · simp [VR, hh]
      · simp [VR, hh]
  · obtain ⟨v, u, rfl, rv, ru⟩ := ra.inv2
    simp only [VR] at rv ru; subst rv ru
    simp only [Option.some.injEq, Prod.mk.injEq] at e; obtain ⟨rfl, rfl⟩ := e
    rename_i k x k' y
    refine lift ⟨β, .int k (if y < x then y else x), w, ?_, ?_, r, .refl _ _⟩
    · simp [Builtin.min_, Builtin.min2]
    · rw [iltb_eq]
      by_cases hh : y < x
      · simp [VR, hh]
      · simp [VR, hh]
  · cases e

/-! ### Library functions -/
noncomputable def Ext.model : Ext → Array Value → Sem Value
  | .addI k => Extern.Atomic.update (Op.intArith .add) k true
  | .mapsClone => Extern.MapsClone.clone
  | .ident => Extern.AbiNoEscape.same
  | .count => Extern.BytealgCount.count
  | .indexByte => Extern.BytealgIndexByte.indexByte
  | .overlaps t r => Extern.SlicesOverlaps.overlaps #[t, t] #[r]
  | _ => fun _ => Go.stuck ""

/-- Two slices in two rows. -/
theorem atOf_ok {x : AV} {v : Value} {b o : Nat} (e : atOf x = some (b, o)) (rx : VR β ω x v) : ∃ L n c, β b = some L ∧ v = .slice (some ⟨L.blk, L.off + o, none⟩) n c := by
  unfold atOf at e
  split at e
  · simp only [Option.some.injEq, Prod.mk.injEq] at e; obtain ⟨rfl, rfl⟩ := e
    simp only [VR] at rx; obtain ⟨L, hL, rfl⟩ := rx
    exact ⟨L, _, _, hL, rfl⟩
  · simp only [Option.some.injEq, Prod.mk.injEq] at e; obtain ⟨rfl, rfl⟩ := e
    simp only [VR] at rx; obtain ⟨L, c, hL, _, rfl⟩ := rx
    exact ⟨L, _, _, hL, rfl⟩
  · cases e
theorem mayBeOne_run (a b : Addr) (w : World) : ∃ m, (mayBeOne a b).run P w = .ok m w := by
  have hs : ∀ x : Addr, ∃ m, (stringish x).run P w = .ok m w := by
    intro x
    unfold stringish
    simp only [Sem.run_bind, run_frozen, Result.andThen_ok]
    cases w.frozen? x with
    | true => exact ⟨_, rfl⟩
    | false =>
      simp only [Bool.false_eq_true, if_false, Sem.run_bind, run_shape, Result.andThen_ok, Sem.run_pure]
      cases w.shape? x.block with
      | none => exact ⟨_, rfl⟩
      | some p => exact ⟨_, rfl⟩
  obtain ⟨m1, h1⟩ := hs a
  obtain ⟨m2, h2⟩ := hs b
  unfold mayBeOne
  simp only [Sem.run_bind, h1, h2, run_shape, Result.andThen_ok, Sem.run_pure]
  exact ⟨_, rfl⟩
theorem run_choose_some (q : Question) (w : World) : ∃ n w', (choose q).run P w = .ok n w' ∧ (w' = w ∨ w' = w.drew) := by
  rw [run_choose]
  split
  · exact ⟨_, _, rfl, .inl rfl⟩
  · exact ⟨_, _, rfl, .inr rfl⟩
theorem over_run {t rt e : TypeId} {size : Nat} (ht : P.underlying t = some (.slice e)) (hz : szOf P e = some size) {a b : Addr} (la ca lb cb : Nat) (hne : a.block ≠ b.block)
    {tA tB : TypeId} {kA kB : Nat} (hsa : w.shape? a.block = some (tA, kA)) (hsb : w.shape? b.block = some (tB, kB)) (hfa : w.frozen? a = false) :
    ∃ c w', (Extern.SlicesOverlaps.overlaps #[t, t] #[rt] #[.slice (some a) la ca, .slice (some b) lb cb]).run P w = .ok (.bool c) w' ∧ (w' = w ∨ w' = w.drew) := by
  have hnb : (a.block != b.block) = true := by simpa using hne
  obtain ⟨m, hm⟩ := mayBeOne_run (P := P) a b w
  obtain ⟨n, w1, hn, hw⟩ := run_choose_some (P := P) (.extern "sameAddr.stringBytes" 2) w
  have hv : ∀ x : Addr, ∀ p, w.shape? x.block = some p → (noView x).run P w = .ok () w := by
    intro x p hp
    simp only [noView, viewAt, Sem.run_bind, run_shape, Result.andThen_ok, hp, Option.isSome_some, if_true, Sem.run_pure, Option.isSome_none, Bool.false_eq_true, if_false]
  delta Extern.SlicesOverlaps.overlaps Extern.SlicesOverlaps.overlaps.match_4 Extern.SlicesOverlaps.overlaps._sparseCasesOn_4
  rw [dif_pos (show (#[Value.slice (some a) la ca, Value.slice (some b) lb cb] : Array Value).size = 2 from rfl)]
  dsimp only [Array.getLit, List.getElem_toArray, List.getElem_cons_zero, List.getElem_cons_succ]
  simp only [List.getElem?_toArray, List.getElem?_cons_zero, Sem.run_bind, Result.andThen_ok, run_under ht, run_szOf hz, Sem.run_pure]
  by_cases h0 : la = 0 ∨ lb = 0 ∨ size = 0
  · rw [if_pos h0]; exact ⟨_, _, rfl, .inl rfl⟩
  · rw [if_neg h0]
    simp only [hnb, if_true, Bool.true_and, Sem.run_bind, run_frozen, Result.andThen_ok, hfa, Bool.false_and, Bool.false_eq_true, if_false, hv a _ hsa, hv b _ hsb, hm]
    cases m with
    | true => 
      simp only [if_true, Sem.run_bind, hn, Result.andThen_ok, Sem.run_pure]
      exact ⟨_, _, rfl, hw⟩
    | false => 
      simp only [Bool.false_eq_true, if_false, Sem.run_pure, Result.andThen_ok]
      exact ⟨_, _, rfl, .inl rfl⟩
theorem overE_ok {t rt : TypeId} {args : List AV} {us : Array Value} (r : HR β ω K w0 h w) (ra : VRs β ω args us.toList) :
    overE t P args h = .bad ∨ ∃ l, overE t P args h = .choice l ∧ ∃ x ∈ l, Ok P β ω K w0 w h ((Ext.overlaps t rt).model us) x.1 x.2 := by
  unfold overE
  split
  · rename_i x y
    obtain ⟨v, u, rfl, rv, ru⟩ := ra.inv2
    split
    · rename_i e ht
      split
      · rename_i s hz
        cases hap : apart (atOf x) (atOf y) h with
        | false => exact .inl rfl
        | true =>
          refine .inr ⟨_, rfl, ?_⟩
          unfold apart at hap
          split at hap
          · rename_i p q hp hq
            obtain ⟨p1, p2⟩ := p
            obtain ⟨q1, q2⟩ := q
            obtain ⟨g1, g2⟩ := and_t hap
            split at g2
            · rename_i e1 fz cs e2 fz2 cs2 hg1 hg2
              obtain ⟨g3, g4⟩ := and_t g2
              rw [ble_iff] at g3
              rw [blt_iff] at g4
              have hne : p1 ≠ q1 := by
                rintro rfl
                simp at g1
              obtain ⟨L, n, c, hL, rfl⟩ := atOf_ok hp rv
              obtain ⟨M, n2, c2, hM, rfl⟩ := atOf_ok hq ru
              have hsep := r.sep _ _ _ _ _ _ hg1 hg2 hL hM hne
              obtain ⟨C, lo, hi, vs, a1, a2, a3, a4, a5, a6, a7⟩ := r.cells hg1 hL
              obtain ⟨C2, lo2, hi2, vs2, b1, b2, b3, b4, b5, b6, b7⟩ := r.cells hg2 hM
              obtain ⟨d, w', hd, hw⟩ := over_run (w := w) (rt := rt) ht hz n c n2 c2 (a := ⟨L.blk, L.off + p2, none⟩) (b := ⟨M.blk, M.off + q2, none⟩) hsep
                (by simp only [World.shape?, a1]; rfl) (by simp only [World.shape?, b1]; rfl) (frozen_of a1 (a7 p2 g3 (by simp only [] at g4; omega)))
              refine ⟨(.bool d, h), by cases d <;> simp, β, .bool d, w', hd, rfl, ?_, .refl _ _⟩
              rcases hw with rfl | rfl
              · exact r
              · exact r.drew
            · cases g2
          · cases hap
      · exact .inl rfl
    · exact .inl rfl
  · exact .inl rfl

theorem extE_ok {x : Ext} {args : List AV} {us : Array Value} {a : AV} (r : HR β ω K w0 h w) (e : extE P x args h = some (a, h')) (ra : VRs β ω args us.toList) : Ok P β ω K w0 w h (x.model us) a h' := by
  unfold extE at e
  split at e
  · rename_i k b o k' y
    obtain ⟨v, u, rfl, rv, ru⟩ := ra.inv2
    split at e
    · rename_i el fz cs hg
      split at e
      · rename_i k2 n hc
        split at e
        · rename_i hk; subst hk
          simp only [Option.map_eq_some_iff, Prod.mk.injEq] at e
          obtain ⟨h1, he, rfl, rfl⟩ := e
          simp only [VR] at rv ru; obtain ⟨L, hL, rfl⟩ := rv; subst ru
          obtain ⟨C, lo, hi, vs, q1, q2, q3, q4, q5, q6, q7⟩ := r.cells hg hL
          obtain ⟨c, hc', rc⟩ := q5.get o _ hc
          simp only [VR] at rc; subst rc
          have hlt : o < cs.length := by
            rcases Nat.lt_or_ge o cs.length with hh | hh
            · exact hh
            · rw [List.getElem?_eq_none hh] at hc; cases hc
          have hcell : w.cell? ⟨L.blk, L.off + o, none⟩ = some (.int k n) := by rw [cell_of q1, q6 o hlt, hc']
          obtain ⟨p1, p2, p3⟩ := putCells_ok (P := P) (us := [.int k (k.wrap (n + y))]) r he hL (.one (by rw [wrapE_eq]; rfl))
          have hfr : w.frozen? ⟨L.blk, L.off + o, none⟩ = false := by
            unfold putCells at he
            split at he
            · rename_i heq; cases heq
            · split at he
              · rename_i e2 fz2 cs2 hg2
                rw [hg] at hg2; simp only [Option.some.injEq, Blk.cells.injEq] at hg2; obtain ⟨rfl, rfl, rfl⟩ := hg2
                obtain ⟨hx, he⟩ := cond_some he
                obtain ⟨hx, c4⟩ := and_t hx
                obtain ⟨hx, c3⟩ := and_t hx
                obtain ⟨c1, c2⟩ := and_t hx
                rw [ble_iff] at c2
                exact frozen_of q1 (q7 o c2 (by omega))
              · cases he
          refine ⟨β, .int k (k.wrap (n + y)), _, ?_, by rw [wrapE_eq]; rfl, p2, p3⟩
          have hst := run_store P w ⟨L.blk, L.off + o, none⟩ (.int k (k.wrap (n + y))) .atomic rfl
          rw [hcell, hfr] at hst
          simp only [Bool.false_eq_true, if_false] at hst
          show (do
            let a ← asAddr (.pointer (some ⟨L.blk, L.off + o, none⟩))
            let old ← Extern.Atomic.read (.int k) a
            let new ← Op.intArith .add k (← asInt old) (← asInt (.int k' y))
            store a new .atomic
            pure new : Sem Value).run P w = _
          simp only [Sem.run_bind, asAddr, Sem.run_pure, Result.andThen_ok, Extern.Atomic.read, run_load, hcell, if_true, asInt, asIntOf, Op.intArith, hst]
          rfl
        · cases e
      · cases e
    · cases e
  · rename_i t b
    obtain ⟨v, rfl, rv⟩ := ra.inv1
    simp only [VR] at rv; obtain ⟨y, rfl, L, hL, rfl⟩ := rv
    split at e
    · rename_i es c hg
      simp only [Option.some.injEq, Prod.mk.injEq] at e; obtain ⟨rfl, rfl⟩ := e
      obtain ⟨E, h1, h2⟩ := r.map hg hL
      have hle : Le β (β.add h.next ⟨w.heap.size, 0, 0⟩) := by
        intro b' M hb'
        simp only [Bij.add]
        by_cases e : b' = h.next
        · subst e; rw [r.fresh _ (Nat.le_refl _)] at hb'; cases hb'
        · rw [if_neg e]; exact hb'
      obtain ⟨p1, p2⟩ := r.new (.map E c) (.map es c) 0 0 ⟨E, rfl, h2.mono hle⟩
      refine ⟨_, .iface t (.map (some w.heap.size)), _, ?_, ⟨_, rfl, _, Bij.add_self _ _ _, rfl⟩, p1, p2⟩
      show (do
        let .map entries clock ← getObj L.blk | Go.stuck "maps.clone: a map expected"
        pure (.iface t (.map (some (← newObj (.map entries clock))))) : Sem Value).run P w = _
      simp only [Sem.run_bind, run_getMap h1, Result.andThen_ok, run_newObj, Sem.run_pure]
      rfl
    · cases e
  · obtain ⟨v, rfl, rv⟩ := ra.inv1
    simp only [Option.some.injEq, Prod.mk.injEq] at e; obtain ⟨rfl, rfl⟩ := e
    exact ⟨β, v, w, Lib.run_noEscape w v, rv, r, .refl _ _⟩
  · rename_i l c
    obtain ⟨v, u, rfl, rv, ru⟩ := ra.inv2
    simp only [VR] at rv ru; subst rv ru
    simp only [Option.bind_eq_some_iff] at e
    obtain ⟨n, hn, e⟩ := e
    obtain ⟨hc, e⟩ := cond_some e
    rw [blt_iff] at hc
    simp only [Option.some.injEq, Prod.mk.injEq] at e; obtain ⟨rfl, rfl⟩ := e
    have hn := natOf_at hn
    subst hn
    have hrun := Lib.run_countString (P := P) ⟨l.toArray⟩ (n : Int) w
    refine ⟨β, _, w, hrun, ?_, r, .refl _ _⟩
    show Value.int .i64 _ = Value.int .i64 _
    rw [countB_ok hc]; rfl
  · rename_i l c
    obtain ⟨v, u, rfl, rv, ru⟩ := ra.inv2
    simp only [VR] at rv ru; subst rv ru
    simp only [Option.bind_eq_some_iff] at e
    obtain ⟨n, hn, e⟩ := e
    obtain ⟨hc, e⟩ := cond_some e
    rw [blt_iff] at hc
    simp only [Option.some.injEq, Prod.mk.injEq] at e; obtain ⟨rfl, rfl⟩ := e
    have hn := natOf_at hn
    subst hn
    have hrun := Lib.run_indexByteString (P := P) ⟨l.toArray⟩ (n : Int) w
    refine ⟨β, _, w, hrun, ?_, r, .refl _ _⟩
    show Value.int .i64 _ = Value.int .i64 _
    rw [indexB_ok hc]; rfl
  · cases e

end Go.Ev
