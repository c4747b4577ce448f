import Derived.Test.YtdhepaehegnfdaaGreatDoorE18
set_option linter.unusedVariables false
set_option linter.unusedSimpArgs false
namespace Go.Ev
open Go
variable {E : Env} {β : Bij} {ω : Opq} {K : Nat → Prop} {w0 w : World} {h h' : Heap}
theorem U2 {x : Option AV} {v : AV} (e : ov x h = .val v h') : h' = h ∧ x = some v := by
 cases x with
 | none => cases e
 | some a => simp only [ov, Res.val.injEq] at e; exact ⟨e.2.symm, by rw [e.1]⟩
theorem bC8 {x : Option (AV × Heap)} {v : AV} (e : oh x = .val v h') : x = some (v, h') := by
 cases x with
 | none => cases e
 | some a => simp only [oh, Res.val.injEq] at e; rw [← e.1, ← e.2]
theorem aI1 {b : Builtin} {ts : Array TypeId} {args : List AV} {p : AV × Heap} (hb : b = .len ∨ b = .cap ∨ b = .min ∨ b = .max) (hp : a42 E.P b ts args h = some p) : p.2 = h := by
 unfold a42 at hp
 split at hp <;> first
  | (rcases hb with hb | hb | hb | hb <;> cases hb; done)
  | (simp only [Option.map_eq_some_iff] at hp; obtain ⟨n, _, hp⟩ := hp; subst hp; rfl)
  | (simp only [Option.some.injEq] at hp; subst hp; rfl)
  | (split at hp <;> first | (simp only [Option.map_eq_some_iff] at hp; obtain ⟨n, _, hp⟩ := hp; subst hp; rfl) | (simp only [Option.some.injEq] at hp; subst hp; rfl) | (cases hp; done))
  | cases hp
theorem aI2 {b : Builtin} {ts : Array TypeId} {args : List AV} {v : AV} (hb : b = .len ∨ b = .cap ∨ b = .min ∨ b = .max) (e : S3 E b ts h args = .val v h') : h' = h := by
 unfold S3 at e
 split at e
 · rename_i p hp
   simp only [Res.val.injEq] at e
   rw [← e.2]; exact aI1 hb hp
 · split at e
   · exact (U2 e).1
   · exact (U2 e).1
   · exact (U2 e).1
   · cases e
theorem b36 {ρ : Operand → Option AV} {o : Oper} {v : AV} (hf : J5 o = true) (ha : t7 o = false) (e : a44 E ρ o h = .val v h') : h' = h := by
 obtain ⟨dst, op, ty, pos, after, guard⟩ := o
 have s1v : ∀ {F : AV → Option AV} {a : Option AV}, s1 F h a = .val v h' → h' = h := by
  intro F a e; cases a with
  | none => cases e
  | some a => exact (U2 e).1
 have s2v : ∀ {F : AV → AV → Option AV} {a b : Option AV}, s2 F h a b = .val v h' → h' = h := by
  intro F a b e; cases a with
  | none => cases e
  | some a => cases b with
    | none => cases e
    | some b => exact (U2 e).1
 cases op <;> first
  | (cases hf; done)
  | (cases ha; done)
  | exact (U2 e).1
  | exact s1v e
  | exact s2v e
  | skip
 case pick c a b =>
  have e : aZ9 ρ a b h (ρ c) = .val v h' := e
  unfold aZ9 at e
  split at e
  · exact (U2 e).1
  · cases e
 case nilCheck x =>
  have e : cj5 E.P h (ρ x) = .val v h' := e
  unfold cj5 at e
  split at e
  · unfold aF2 at e
    split at e
    · split at e
      · simp only [Res.val.injEq] at e; exact e.2.symm
      · cases e
    · cases e
  · exact (U2 e).1
  · cases e
 case build t ps =>
  have e : ba0 E.P t h (ay0 ρ ps.toList) = .val v h' := e
  cases hx : ay0 ρ ps.toList with
  | none => rw [hx] at e; cases e
  | some l => rw [hx] at e; exact (U2 e).1
 case binOp op t x y yt =>
  have e : cj6 E op t x y h (ρ x) (ρ y) = .val v h' := e
  cases hx : ρ x with
  | none => rw [hx] at e; cases e
  | some a =>
    cases hy : ρ y with
    | none => rw [hx, hy] at e; cases e
    | some b =>
      rw [hx, hy] at e
      simp only [cj6] at e
      cases hg : a12 E.P op t x y a b with
      | false => rw [hg] at e; cases e
      | true => rw [hg] at e; exact (U2 e).1
 case convert s d x =>
  have e : bk6 E s d h (ρ x) = .val v h' := e
  cases hx : ρ x with
  | none => rw [hx] at e; cases e
  | some a =>
    rw [hx] at e
    simp only [bk6] at e
    cases hc : bk3 E.P s d a h with
    | none =>
      rw [hc] at e
      simp only [] at e
      cases hc2 : bt1 E.P s d a h with
      | none => rw [hc2] at e; exact (U2 e).1
      | some p => rw [hc2] at e; cases e
    | some p =>
      rw [hc] at e
      simp only [Res.val.injEq] at e
      unfold bk3 at hc
      split at hc
      · simp only [Option.some.injEq] at hc; subst hc; exact e.2.symm
      · simp only [Option.some.injEq] at hc; subst hc; exact e.2.symm
      · simp only [Option.map_eq_some_iff] at hc
        obtain ⟨l, _, rfl⟩ := hc
        exact e.2.symm
      · unfold ah3 at hc
        split at hc
        · obtain ⟨_, hc⟩ := a8 hc
          simp only [Option.some.injEq] at hc; subst hc; exact e.2.symm
        · cases hc
      · unfold ah4 at hc
        split at hc
        · obtain ⟨_, hc⟩ := a8 hc
          simp only [Option.some.injEq] at hc; subst hc; exact e.2.symm
        · cases hc
      · cases hc
 case makeInterface t x =>
  have e : az9 E.P t h (ρ x) = .val v h' := e
  cases hx : ρ x with
  | none => rw [hx] at e; cases e
  | some l =>
    rw [hx] at e
    simp only [az9] at e
    split at e
    · cases e
    · simp only [Res.val.injEq] at e; exact e.2.symm
    · cases e
 case makeFunc fn a b =>
  have e : bk7 fn h (evs ρ a.toList) (evs ρ b.toList) = .val v h' := e
  unfold bk7 at e
  split at e
  · split at e
    · split at e
      · cases e
      · simp only [Res.val.injEq] at e; exact e.2.symm
    · cases e
  · cases e
 case slice t x lo hi mx =>
  have e : aA0 E t h (ρ x) (evo ρ lo) (evo ρ hi) (evo ρ mx) = .val v h' := e
  cases hx : ρ x with
  | none => rw [hx] at e; cases e
  | some a =>
    cases h1 : evo ρ lo with
    | none => rw [hx, h1] at e; cases e
    | some vl =>
      cases h2 : evo ρ hi with
      | none => rw [hx, h1, h2] at e; cases e
      | some vh =>
        cases h3 : evo ρ mx with
        | none => rw [hx, h1, h2, h3] at e; cases e
        | some vm =>
          rw [hx, h1, h2, h3] at e
          simp only [aA0] at e
          cases hc : (vh.isNone && vm.isSome) with
          | true => rw [hc] at e; cases e
          | false => rw [hc] at e; exact (U2 e).1
 case call c =>
  have e : aP3 E ρ c h (evs ρ c.args.toList) = .val v h' := e
  obtain ⟨callee, args, ats⟩ := c
  cases hx : evs ρ args.toList with
  | none => rw [hx] at e; cases e
  | some l =>
    rw [hx] at e
    cases callee with
    | builtin b =>
      have hb : b = .len ∨ b = .cap ∨ b = .min ∨ b = .max := by cases b <;> first | (cases hf; done) | simp
      exact aI2 hb e
    | _ => cases hf
def bC9 (h : Heap) : Res → Prop
 | .val _ h' => h' = h
 | .need _ _ h' => h' = h
 | .cho _ _ _ _ => True
 | .enter _ _ => False
 | .choice _ => True
 | .yield _ _ => False
 | .defer _ => False
 | .bad => True
theorem bD0 {c : Bool} {r s : Res} (hr : bC9 h r) (hs : bC9 h s) : bC9 h (bif c then r else s) := by cases c <;> assumption
theorem b37 {ρ : Operand → Option AV} {o : Oper} (hf : J5 o = true) : bC9 h (ak8 E ρ o h) := by
 obtain ⟨dst, op, ty, pos, after, guard⟩ := o
 cases op <;> first | (cases hf; done) | skip
 case call c =>
  obtain ⟨callee, args, ats⟩ := c
  cases callee with
  | builtin b =>
    have hb : b = .len ∨ b = .cap ∨ b = .min ∨ b = .max := by cases b <;> first | (cases hf; done) | simp
    show bC9 h (ah7 E.P b ats h (evs ρ args.toList))
    rcases hb with rfl | rfl | rfl | rfl
    all_goals simp only [ah7, cw1, yMM]
    all_goals repeat' split
    all_goals first
     | trivial
     | rfl
     | (rename_i h1; cases h1)
     | skip
  | _ => cases hf
 all_goals simp only [ak8, bP5, cA1, cv6, cv7, c64, cv8, cl6, yUn, bP9, aF3, a47, a48, aF4, bP6, bt8, bt7, bP8, Y0, Y1, ba1, aF9, bu9, ba4, bu6, bu7, bu8]
 all_goals repeat' split
 all_goals first
  | trivial
  | rfl
  | skip
 all_goals repeat' (first | apply bD0 | split)
 all_goals first
  | trivial
  | rfl
theorem b38 {ρ : Operand → Option AV} {o : Oper} {v : AV} (hf : J5 o = true) (ha : t7 o = false) (e : ak8 E ρ o h = .val v h' ∨ ∃ x, ak8 E ρ o h = .need x v h') : h' = h := by
 have := b37 (E := E) (h := h) (ρ := ρ) hf
 rcases e with e | ⟨x, e⟩ <;> rw [e] at this <;> exact this
theorem bd4 {c : Bool} {r s : Res} {v : AV} {x : SX} (hr : r ≠ .need x v h') (hs : s ≠ .need x v h') : (bif c then r else s) ≠ .need x v h' := by cases c <;> assumption
theorem aI3 {y : Option AV} {v : AV} {x : SX} : ov y h ≠ .need x v h' := by cases y <;> simp [ov]
theorem cb7 {y : Option (AV × Heap)} {v : AV} {x : SX} : oh y ≠ .need x v h' := by
 cases y with
 | none => simp [oh]
 | some p => simp [oh]
theorem cb8 {y : Option Heap} {v : AV} {x : SX} : os y ≠ .need x v h' := by cases y <;> simp [os]
theorem bn8 {ρ : Operand → Option AV} {o : Oper} {v : AV} {x : SX} (hf : J5 o = true) : a44 E ρ o h ≠ .need x v h' := by
 obtain ⟨dst, op, ty, pos, after, guard⟩ := o
 cases op <;> first | (cases hf; done) | skip
 case call c =>
  obtain ⟨callee, args, ats⟩ := c
  cases callee with
  | builtin b =>
    show aP3 E ρ { callee := .builtin b, args := args, argTypes := ats } h (evs ρ args.toList) ≠ .need x v h'
    cases evs ρ args.toList with
    | none => simp [aP3]
    | some l =>
      simp only [aP3, S3]
      repeat' split
      all_goals first
       | exact aI3
       | (simp; done)
  | _ => cases hf
 all_goals simp only [a44, aZ9, c11, ba0, F8, c63, bt5, cj5, aF2, cj6, sUn, bk6, az9, bk7, bO5, M5, aA0, c12, aA1, s2, s3h, s2h, s1h, s1r, s1]
 all_goals repeat' split
 all_goals first
  | exact aI3
  | exact cb7
  | exact cb8
  | (simp; done)
  | skip
 · exact bd4 aI3 (by simp)
 · exact bd4 (by simp) aI3
theorem Y9 {ρ : Operand → Option AV} {o : Oper} {v : AV} (hf : J5 o = true) (ha : t7 o = false) (e : u4 E ρ o h = .val v h' ∨ ∃ x, u4 E ρ o h = .need x v h') : h' = h := by
 unfold u4 at e
 cases hc : a44 E ρ o h with
 | val v1 h1 =>
   rw [hc] at e
   rcases e with e | ⟨x, e⟩
   · simp only [cm0, Res.val.injEq] at e
     rw [← e.2]; exact b36 hf ha hc
   · cases e
 | need x v1 h1 => exact absurd hc (bn8 hf)
 | bad => rw [hc] at e; exact b38 (E := E) (ρ := ρ) hf ha e
 | _ => rw [hc] at e; rcases e with e | ⟨x, e⟩ <;> cases e
structure AllocA (E : Env) (ρ : Operand → Option AV) (o : Oper) (mk : Nat → AV) (x : Blk) : Prop where
 step : ∀ h2, u4 E ρ o h2 = .val (mk h2.next) (h2.new x)
 nar : x.isArr = false
theorem AllocA.uniq {ρ : Operand → Option AV} {o : Oper} {mk mk' : Nat → AV} {x x' : Blk} (a : AllocA E ρ o mk x) (b : AllocA E ρ o mk' x') : x = x' ∧ ∀ n, mk n = mk' n := by
 constructor
 · have := (a.step Heap.empty).symm.trans (b.step Heap.empty)
   simp only [Res.val.injEq] at this
   have h2 : (Heap.empty.new x).get 0 = (Heap.empty.new x').get 0 := by rw [this.2]
   rw [Heap.get_new, Heap.get_new, show Heap.empty.next = 0 from rfl, if_pos rfl, if_pos rfl, if_pos (by omega), if_pos (by omega)] at h2
   simpa using h2
 · intro n
   have := (a.step ⟨Heap.empty.t, n, 0⟩).symm.trans (b.step ⟨Heap.empty.t, n, 0⟩)
   simp only [Res.val.injEq] at this
   exact this.1
end Go.Ev
