import Derived.Test.YthdedeijapoihaaGreatDoorE18
set_option autoImplicit false
set_option linter.unusedVariables false
set_option linter.unusedSimpArgs false
namespace Go.Ev
open Go
variable {E : Env} {β : Bij} {ω : Opq} {K : Nat → Prop} {w0 w : World} {h h' : Heap}
theorem Q7 {x : Option AV} {v : AV} (e : ov x h = .val v h') : h' = h ∧ x = some v := by
 cases x with
 | none => cases e
 | some a => simp only [ov, Res.val.injEq] at e; exact ⟨e.2.symm, by rw [e.1]⟩
theorem bq1 {x : Option (AV × Heap)} {v : AV} (e : oh x = .val v h') : x = some (v, h') := by
 cases x with
 | none => cases e
 | some a => simp only [oh, Res.val.injEq] at e; rw [← e.1, ← e.2]
theorem ay6 {b : Builtin} {ts : Array TypeId} {args : List AV} {p : AV × Heap} (hb : b = .len ∨ b = .cap ∨ b = .min ∨ b = .max) (hp : Z9 E.P b ts args h = some p) : p.2 = h := by
 unfold Z9 at hp
 split at hp <;> first
  | (rcases hb with hb | hb | hb | hb <;> cases hb; done)
  | (simp only [Option.map_eq_some_iff] at hp; obtain ⟨n, _, hp⟩ := hp; subst hp; rfl)
  | (simp only [Option.some.injEq] at hp; subst hp; rfl)
  | (split at hp <;> first | (simp only [Option.map_eq_some_iff] at hp; obtain ⟨n, _, hp⟩ := hp; subst hp; rfl) | (simp only [Option.some.injEq] at hp; subst hp; rfl) | (cases hp; done))
  | cases hp
theorem ay7 {b : Builtin} {ts : Array TypeId} {args : List AV} {v : AV} (hb : b = .len ∨ b = .cap ∨ b = .min ∨ b = .max) (e : P3 E b ts h args = .val v h') : h' = h := by
 unfold P3 at e
 split at e
 · rename_i p hp
   simp only [Res.val.injEq] at e
   rw [← e.2]; exact ay6 hb hp
 · split at e
   · exact (Q7 e).1
   · exact (Q7 e).1
   · exact (Q7 e).1
   · cases e
theorem aS3 {ρ : Operand → Option AV} {o : Oper} {v : AV} (hf : I0 o = true) (ha : r6 o = false) (e : a01 E ρ o h = .val v h') : h' = h := by
 obtain ⟨dst, op, ty, pos, after, guard⟩ := o
 have s1v : ∀ {F : AV → Option AV} {a : Option AV}, s1 F h a = .val v h' → h' = h := by
  intro F a e; cases a with
  | none => cases e
  | some a => exact (Q7 e).1
 have s2v : ∀ {F : AV → AV → Option AV} {a b : Option AV}, s2 F h a b = .val v h' → h' = h := by
  intro F a b e; cases a with
  | none => cases e
  | some a => cases b with
    | none => cases e
    | some b => exact (Q7 e).1
 cases op <;> first
  | (cases hf; done)
  | (cases ha; done)
  | exact (Q7 e).1
  | exact s1v e
  | exact s2v e
  | skip
 case pick c a b =>
  have e : aO6 ρ a b h (ρ c) = .val v h' := e
  unfold aO6 at e
  split at e
  · exact (Q7 e).1
  · cases e
 case nilCheck x =>
  have e : c85 E.P h (ρ x) = .val v h' := e
  unfold c85 at e
  split at e
  · unfold av7 at e
    split at e
    · split at e
      · simp only [Res.val.injEq] at e; exact e.2.symm
      · cases e
    · cases e
  · exact (Q7 e).1
  · cases e
 case build t ps =>
  have e : aY1 E.P t h (ap2 ρ ps.toList) = .val v h' := e
  cases hx : ap2 ρ ps.toList with
  | none => rw [hx] at e; cases e
  | some l => rw [hx] at e; exact (Q7 e).1
 case binOp op t x y yt =>
  have e : c86 E op t x y h (ρ x) (ρ y) = .val v h' := e
  cases hx : ρ x with
  | none => rw [hx] at e; cases e
  | some a =>
    cases hy : ρ y with
    | none => rw [hx, hy] at e; cases e
    | some b =>
      rw [hx, hy] at e
      simp only [c86] at e
      cases hg : X6 E.P op t x y a b with
      | false => rw [hg] at e; cases e
      | true => rw [hg] at e; exact (Q7 e).1
 case convert s d x =>
  have e : b86 E s d h (ρ x) = .val v h' := e
  cases hx : ρ x with
  | none => rw [hx] at e; cases e
  | some a =>
    rw [hx] at e
    simp only [b86] at e
    cases hc : b83 E.P s d a h with
    | none =>
      rw [hc] at e
      simp only [] at e
      cases hc2 : bg4 E.P s d a h with
      | none => rw [hc2] at e; exact (Q7 e).1
      | some p => rw [hc2] at e; cases e
    | some p =>
      rw [hc] at e
      simp only [Res.val.injEq] at e
      unfold b83 at hc
      split at hc
      · simp only [Option.some.injEq] at hc; subst hc; exact e.2.symm
      · simp only [Option.some.injEq] at hc; subst hc; exact e.2.symm
      · simp only [Option.map_eq_some_iff] at hc
        obtain ⟨l, _, rfl⟩ := hc
        exact e.2.symm
      · unfold aa3 at hc
        split at hc
        · obtain ⟨_, hc⟩ := a8 hc
          simp only [Option.some.injEq] at hc; subst hc; exact e.2.symm
        · cases hc
      · unfold aa4 at hc
        split at hc
        · obtain ⟨_, hc⟩ := a8 hc
          simp only [Option.some.injEq] at hc; subst hc; exact e.2.symm
        · cases hc
      · cases hc
 case makeInterface t x =>
  have e : aq8 E.P t h (ρ x) = .val v h' := e
  cases hx : ρ x with
  | none => rw [hx] at e; cases e
  | some l =>
    rw [hx] at e
    simp only [aq8] at e
    split at e
    · cases e
    · simp only [Res.val.injEq] at e; exact e.2.symm
    · cases e
 case makeFunc fn a b =>
  have e : b87 fn h (evs ρ a.toList) (evs ρ b.toList) = .val v h' := e
  unfold b87 at e
  split at e
  · split at e
    · split at e
      · cases e
      · simp only [Res.val.injEq] at e; exact e.2.symm
    · cases e
  · cases e
 case slice t x lo hi mx =>
  have e : aq9 E t h (ρ x) (evo ρ lo) (evo ρ hi) (evo ρ mx) = .val v h' := e
  cases hx : ρ x with
  | none => rw [hx] at e; cases e
  | some a =>
    cases h1 : evo ρ lo with
    | none => rw [hx, h1] at e; cases e
    | some vl =>
      cases h2 : evo ρ hi with
      | none => rw [hx, h1, h2] at e; cases e
      | some vh =>
        cases h3 : evo ρ mx with
        | none => rw [hx, h1, h2, h3] at e; cases e
        | some vm =>
          rw [hx, h1, h2, h3] at e
          simp only [aq9] at e
          cases hc : (vh.isNone && vm.isSome) with
          | true => rw [hc] at e; cases e
          | false => rw [hc] at e; exact (Q7 e).1
 case call c =>
  have e : aE6 E ρ c h (evs ρ c.args.toList) = .val v h' := e
  obtain ⟨callee, args, ats⟩ := c
  cases hx : evs ρ args.toList with
  | none => rw [hx] at e; cases e
  | some l =>
    rw [hx] at e
    cases callee with
    | builtin b =>
      have hb : b = .len ∨ b = .cap ∨ b = .min ∨ b = .max := by cases b <;> first | (cases hf; done) | simp
      exact ay7 hb e
    | _ => cases hf
def bq2 (h : Heap) : Res → Prop
 | .val _ h' => h' = h
 | .need _ _ h' => h' = h
 | .cho _ _ _ _ => True
 | .enter _ _ => False
 | .choice _ => True
 | .yield _ _ => False
 | .defer _ => False
 | .bad => True
theorem bq3 {c : Bool} {r s : Res} (hr : bq2 h r) (hs : bq2 h s) : bq2 h (bif c then r else s) := by cases c <;> assumption
theorem aS4 {ρ : Operand → Option AV} {o : Oper} (hf : I0 o = true) : bq2 h (ad3 E ρ o h) := by
 obtain ⟨dst, op, ty, pos, after, guard⟩ := o
 cases op <;> first | (cases hf; done) | skip
 case call c =>
  obtain ⟨callee, args, ats⟩ := c
  cases callee with
  | builtin b =>
    have hb : b = .len ∨ b = .cap ∨ b = .min ∨ b = .max := by cases b <;> first | (cases hf; done) | simp
    show bq2 h (aa7 E.P b ats h (evs ρ args.toList))
    rcases hb with rfl | rfl | rfl | rfl
    all_goals simp only [aa7, cm3, yMM]
    all_goals repeat' split
    all_goals first
     | trivial
     | rfl
     | (rename_i h1; cases h1)
     | skip
  | _ => cases hf
 all_goals simp only [ad3, bC4, cq7, cl8, cl9, bU0, cm0, ca8, yUn, bC8, av8, a02, a03, av9, bC5, bh1, bh0, bC7, U0, U3, aY2, aw4, bi2, aY5, bh9, bi0, bi1]
 all_goals repeat' split
 all_goals first
  | trivial
  | rfl
  | skip
 all_goals repeat' (first | apply bq3 | split)
 all_goals first
  | trivial
  | rfl
theorem aS5 {ρ : Operand → Option AV} {o : Oper} {v : AV} (hf : I0 o = true) (ha : r6 o = false) (e : ad3 E ρ o h = .val v h' ∨ ∃ x, ad3 E ρ o h = .need x v h') : h' = h := by
 have := aS4 (E := E) (h := h) (ρ := ρ) hf
 rcases e with e | ⟨x, e⟩ <;> rw [e] at this <;> exact this
theorem b15 {c : Bool} {r s : Res} {v : AV} {x : SX} (hr : r ≠ .need x v h') (hs : s ≠ .need x v h') : (bif c then r else s) ≠ .need x v h' := by cases c <;> assumption
theorem ay8 {y : Option AV} {v : AV} {x : SX} : ov y h ≠ .need x v h' := by cases y <;> simp [ov]
theorem bZ4 {y : Option (AV × Heap)} {v : AV} {x : SX} : oh y ≠ .need x v h' := by
 cases y with
 | none => simp [oh]
 | some p => simp [oh]
theorem bZ5 {y : Option Heap} {v : AV} {x : SX} : os y ≠ .need x v h' := by cases y <;> simp [os]
theorem bb8 {ρ : Operand → Option AV} {o : Oper} {v : AV} {x : SX} (hf : I0 o = true) : a01 E ρ o h ≠ .need x v h' := by
 obtain ⟨dst, op, ty, pos, after, guard⟩ := o
 cases op <;> first | (cases hf; done) | skip
 case call c =>
  obtain ⟨callee, args, ats⟩ := c
  cases callee with
  | builtin b =>
    show aE6 E ρ { callee := .builtin b, args := args, argTypes := ats } h (evs ρ args.toList) ≠ .need x v h'
    cases evs ρ args.toList with
    | none => simp [aE6]
    | some l =>
      simp only [aE6, P3]
      repeat' split
      all_goals first
       | exact ay8
       | (simp; done)
  | _ => cases hf
 all_goals simp only [a01, aO6, bN7, aY1, D8, bT9, bg8, c85, av7, c86, sUn, b86, aq8, b87, bB3, J5, aq9, bN8, ar0, s2, s3h, s2h, s1h, s1r, s1]
 all_goals repeat' split
 all_goals first
  | exact ay8
  | exact bZ4
  | exact bZ5
  | (simp; done)
  | skip
 · exact b15 ay8 (by simp)
 · exact b15 (by simp) ay8
theorem V3 {ρ : Operand → Option AV} {o : Oper} {v : AV} (hf : I0 o = true) (ha : r6 o = false) (e : s7 E ρ o h = .val v h' ∨ ∃ x, s7 E ρ o h = .need x v h') : h' = h := by
 unfold s7 at e
 cases hc : a01 E ρ o h with
 | val v1 h1 =>
   rw [hc] at e
   rcases e with e | ⟨x, e⟩
   · simp only [cb2, Res.val.injEq] at e
     rw [← e.2]; exact aS3 hf ha hc
   · cases e
 | need x v1 h1 => exact absurd hc (bb8 hf)
 | bad => rw [hc] at e; exact aS5 (E := E) (ρ := ρ) hf ha e
 | _ => rw [hc] at e; rcases e with e | ⟨x, e⟩ <;> cases e
structure AllocA (E : Env) (ρ : Operand → Option AV) (o : Oper) (mk : Nat → AV) (x : Blk) : Prop where
 step : ∀ h2, s7 E ρ o h2 = .val (mk h2.next) (h2.new x)
 nar : x.isArr = false
theorem AllocA.uniq {ρ : Operand → Option AV} {o : Oper} {mk mk' : Nat → AV} {x x' : Blk} (a : AllocA E ρ o mk x) (b : AllocA E ρ o mk' x') : x = x' ∧ ∀ n, mk n = mk' n := by
 constructor
 · have := (a.step Heap.empty).symm.trans (b.step Heap.empty)
   simp only [Res.val.injEq] at this
   have h2 : (Heap.empty.new x).get 0 = (Heap.empty.new x').get 0 := by rw [this.2]
   rw [Heap.get_new, Heap.get_new, show Heap.empty.next = 0 from rfl, if_pos rfl, if_pos rfl, if_pos (by omega), if_pos (by omega)] at h2
   simpa using h2
 · intro n
   have := (a.step ⟨Heap.empty.t, n, 0⟩).symm.trans (b.step ⟨Heap.empty.t, n, 0⟩)
   simp only [Res.val.injEq] at this
   exact this.1
end Go.Ev
