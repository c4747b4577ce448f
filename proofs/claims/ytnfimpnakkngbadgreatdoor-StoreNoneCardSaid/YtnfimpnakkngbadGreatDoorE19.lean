/- The evaluator: what floats; plans. -/
import Derived.Test.YtnfimpnakkngbadGreatDoorE18
set_option linter.unusedVariables false
set_option linter.unusedSimpArgs false
namespace Go.Ev
open Go

variable {E : Env} {β : Bij} {ω : Opq} {K : Nat → Prop} {w0 w : World} {h h' : Heap}

/-! ### What floats -/
theorem ov_val {x : Option AV} {v : AV} (e : ov x h = .val v h') : h' = h ∧ x = some v := by
  cases x with
  | none => cases e
  | some a => simp only [ov, Res.val.injEq] at e; exact ⟨e.2.symm, by rw [e.1]⟩
theorem oh_val {x : Option (AV × Heap)} {v : AV} (e : oh x = .val v h') : x = some (v, h') := by
  cases x with
  | none => cases e
  | some a => simp only [oh, Res.val.injEq] at e; rw [← e.1, ← e.2]

theorem builtinE_heap {b : Builtin} {ts : Array TypeId} {args : List AV} {p : AV × Heap} (hb : b = .len ∨ b = .cap ∨ b = .min ∨ b = .max) (hp : builtinE E.P b ts args h = some p) : p.2 = h := by
  unfold builtinE at hp
  split at hp <;> first
    | (rcases hb with hb | hb | hb | hb <;> cases hb; done)
    | (simp only [Option.map_eq_some_iff] at hp; obtain ⟨n, _, hp⟩ := hp; subst hp; rfl)
    | (simp only [Option.some.injEq] at hp; subst hp; rfl)
    | (split at hp <;> first | (simp only [Option.map_eq_some_iff] at hp; obtain ⟨n, _, hp⟩ := hp; subst hp; rfl) | (simp only [Option.some.injEq] at hp; subst hp; rfl) | (cases hp; done))
    | cases hp
theorem sBuiltin_heap {b : Builtin} {ts : Array TypeId} {args : List AV} {v : AV} (hb : b = .len ∨ b = .cap ∨ b = .min ∨ b = .max) (e : sBuiltin E b ts h args = .val v h') : h' = h := by
  unfold sBuiltin at e
  split at e
  · rename_i p hp
    simp only [Res.val.injEq] at e
    rw [← e.2]; exact builtinE_heap hb hp
  · split at e
    · exact (ov_val e).1
    · exact (ov_val e).1
    · exact (ov_val e).1
    · cases e

theorem floatC_heap {ρ : Operand → Option AV} {o : Oper} {v : AV} (hf : isFloat o = true) (ha : isAlloc o = false) (e : stepC E ρ o h = .val v h') : h' = h := by
  obtain ⟨dst, op, ty, pos, after, guard⟩ := o
  have s1v : ∀ {F : AV → Option AV} {a : Option AV}, s1 F h a = .val v h' → h' = h := by
    intro F a e; cases a with
    | none => cases e
    | some a => exact (ov_val e).1
  have s2v : ∀ {F : AV → AV → Option AV} {a b : Option AV}, s2 F h a b = .val v h' → h' = h := by
    intro F a b e; cases a with
    | none => cases e
    | some a => cases b with
      | none => cases e
      | some b => exact (ov_val e).1
  cases op <;> first
    | (cases hf; done)
    | (cases ha; done)
    | exact (ov_val e).1
    | exact s1v e
    | exact s2v e
    | skip
  case pick c a b =>
    have e : sPick ρ a b h (ρ c) = .val v h' := e
    unfold sPick at e
    split at e
    · exact (ov_val e).1
    · cases e
  case nilCheck x =>
    have e : sNil E.P h (ρ x) = .val v h' := e
    unfold sNil at e
    split at e
    · unfold nilMeth at e
      split at e
      · split at e
        · simp only [Res.val.injEq] at e; exact e.2.symm
        · cases e
      · cases e
    · exact (ov_val e).1
    · cases e
  case build t ps =>
    have e : sBuild E.P t h (evps ρ ps.toList) = .val v h' := e
    cases hx : evps ρ ps.toList with
    | none => rw [hx] at e; cases e
    | some l => rw [hx] at e; exact (ov_val e).1
  case binOp op t x y yt =>
    have e : sBin E op t x y h (ρ x) (ρ y) = .val v h' := e
    cases hx : ρ x with
    | none => rw [hx] at e; cases e
    | some a =>
      cases hy : ρ y with
      | none => rw [hx, hy] at e; cases e
      | some b =>
        rw [hx, hy] at e
        simp only [sBin] at e
        cases hg : guardOk E.P op t x y a b with
        | false => rw [hg] at e; cases e
        | true => rw [hg] at e; exact (ov_val e).1
  case convert s d x =>
    have e : sConv E s d h (ρ x) = .val v h' := e
    cases hx : ρ x with
    | none => rw [hx] at e; cases e
    | some a =>
      rw [hx] at e
      simp only [sConv] at e
      cases hc : convE E.P s d a h with
      | none =>
        rw [hc] at e
        simp only [] at e
        cases hc2 : convA E.P s d a h with
        | none => rw [hc2] at e; exact (ov_val e).1
        | some p => rw [hc2] at e; cases e
      | some p =>
        rw [hc] at e
        simp only [Res.val.injEq] at e
        unfold convE at hc
        split at hc
        · simp only [Option.some.injEq] at hc; subst hc; exact e.2.symm
        · simp only [Option.some.injEq] at hc; subst hc; exact e.2.symm
        · simp only [Option.map_eq_some_iff] at hc
          obtain ⟨l, _, rfl⟩ := hc
          exact e.2.symm
        · unfold toUnsafe at hc
          split at hc
          · obtain ⟨_, hc⟩ := cond_some hc
            simp only [Option.some.injEq] at hc; subst hc; exact e.2.symm
          · cases hc
        · unfold ofUnsafe at hc
          split at hc
          · obtain ⟨_, hc⟩ := cond_some hc
            simp only [Option.some.injEq] at hc; subst hc; exact e.2.symm
          · cases hc
        · cases hc
  case makeInterface t x =>
    have e : sIface E.P t h (ρ x) = .val v h' := e
    cases hx : ρ x with
    | none => rw [hx] at e; cases e
    | some l =>
      rw [hx] at e
      simp only [sIface] at e
      split at e
      · cases e
      · simp only [Res.val.injEq] at e; exact e.2.symm
      · cases e
  case makeFunc fn a b =>
    have e : sFunc fn h (evs ρ a.toList) (evs ρ b.toList) = .val v h' := e
    unfold sFunc at e
    split at e
    · split at e
      · split at e
        · cases e
        · simp only [Res.val.injEq] at e; exact e.2.symm
      · cases e
    · cases e
  case slice t x lo hi mx =>
    have e : sSlice E t h (ρ x) (evo ρ lo) (evo ρ hi) (evo ρ mx) = .val v h' := e
    cases hx : ρ x with
    | none => rw [hx] at e; cases e
    | some a =>
      cases h1 : evo ρ lo with
      | none => rw [hx, h1] at e; cases e
      | some vl =>
        cases h2 : evo ρ hi with
        | none => rw [hx, h1, h2] at e; cases e
        | some vh =>
          cases h3 : evo ρ mx with
          | none => rw [hx, h1, h2, h3] at e; cases e
          | some vm =>
            rw [hx, h1, h2, h3] at e
            simp only [sSlice] at e
            cases hc : (vh.isNone && vm.isSome) with
            | true => rw [hc] at e; cases e
            | false => rw [hc] at e; exact (ov_val e).1
  case call c =>
    have e : sCall E ρ c h (evs ρ c.args.toList) = .val v h' := e
    obtain ⟨callee, args, ats⟩ := c
    cases hx : evs ρ args.toList with
    | none => rw [hx] at e; cases e
    | some l =>
      rw [hx] at e
      cases callee with
      | builtin b =>
        have hb : b = .len ∨ b = .cap ∨ b = .min ∨ b = .max := by cases b <;> first | (cases hf; done) | simp
        exact sBuiltin_heap hb e
      | _ => cases hf

/-- A result that leaves the heap alone. -/
def Still (h : Heap) : Res → Prop
  | .val _ h' => h' = h
  | .need _ _ h' => h' = h
  | .enter _ _ => False
  | .choice _ => False
  | .yield _ _ => False
  | .defer _ => False
  | .bad => True
theorem still_bif {c : Bool} {r s : Res} (hr : Still h r) (hs : Still h s) : Still h (bif c then r else s) := by cases c <;> assumption
theorem stepY_still {ρ : Operand → Option AV} {o : Oper} (hf : isFloat o = true) : Still h (stepY E ρ o h) := by
  obtain ⟨dst, op, ty, pos, after, guard⟩ := o
  cases op <;> first | (cases hf; done) | skip
  case call c =>
    obtain ⟨callee, args, ats⟩ := c
    cases callee with
    | builtin b =>
      have hb : b = .len ∨ b = .cap ∨ b = .min ∨ b = .max := by cases b <;> first | (cases hf; done) | simp
      show Still h (yBuiltin E.P b ats h (evs ρ args.toList))
      rcases hb with rfl | rfl | rfl | rfl
      all_goals simp only [yBuiltin, yLen, yMM]
      all_goals repeat' split
      all_goals first
        | trivial
        | rfl
        | (rename_i h1; cases h1)
        | skip
    | _ => cases hf
  all_goals simp only [stepY, yBin2, yBin, yInt, yStr, yBool, yAgg, yUn, yConv, yPick, yPickV, yPickS, yLoad, yIndexAddr, yFieldAddr, yIndex]
  all_goals repeat' split
  all_goals first
    | trivial
    | rfl
    | skip
  all_goals repeat' (first | apply still_bif | split)
  all_goals first
    | trivial
    | rfl
theorem floatY_heap {ρ : Operand → Option AV} {o : Oper} {v : AV} (hf : isFloat o = true) (ha : isAlloc o = false) (e : stepY E ρ o h = .val v h' ∨ ∃ x, stepY E ρ o h = .need x v h') : h' = h := by
  have := stepY_still (E := E) (h := h) (ρ := ρ) hf
  rcases e with e | ⟨x, e⟩ <;> rw [e] at this <;> exact this
theorem bif_need {c : Bool} {r s : Res} {v : AV} {x : SX} (hr : r ≠ .need x v h') (hs : s ≠ .need x v h') : (bif c then r else s) ≠ .need x v h' := by cases c <;> assumption
theorem ov_need {y : Option AV} {v : AV} {x : SX} : ov y h ≠ .need x v h' := by cases y <;> simp [ov]
theorem oh_need {y : Option (AV × Heap)} {v : AV} {x : SX} : oh y ≠ .need x v h' := by
  cases y with
  | none => simp [oh]
  | some p => simp [oh]
theorem os_need {y : Option Heap} {v : AV} {x : SX} : os y ≠ .need x v h' := by cases y <;> simp [os]
theorem extC_need {e : Ext} {args : List AV} {v : AV} {x : SX} : extC E.P e args h ≠ .need x v h' := by
  unfold extC
  split
  · unfold overE
    split
    · split
      · split
        · cases apart (atOf _) (atOf _) h <;> simp
        · simp
      · simp
    · simp
  · exact oh_need
theorem callE_need {f : FuncId} {args : List AV} {v : AV} {x : SX} : callE E f args h ≠ .need x v h' := by
  unfold callE
  split
  · simp
  · split
    · simp
    · split
      · exact extC_need
      · simp
theorem callMeth_need {name : String} {first args : List AV} {v : AV} {x : SX} : callMeth E name first args h ≠ .need x v h' := by
  unfold callMeth
  split
  · split
    · exact callE_need
    · simp
  · simp
theorem callVal_need {f : AV} {args : List AV} {v : AV} {x : SX} : callVal E f args h ≠ .need x v h' := by
  unfold callVal
  split
  · exact callE_need
  · exact callMeth_need
  · simp
  · simp
theorem sDefer_need {ρ : Operand → Option AV} {c : Call} {args : Option (List AV)} {v : AV} {x : SX} : sDefer ρ c args ≠ .need x v h' := by
  unfold sDefer
  split
  · simp
  · split
    · rename_i f _
      cases ρ f with
      | none => simp [s1r]
      | some a => simp only [s1r]; unfold deferE; split <;> simp
    · simp
theorem nextE_need {it : AV} {s : Bool} {v : AV} {x : SX} : nextE it s h ≠ .need x v h' := by
  unfold nextE
  repeat' split
  all_goals first
    | simp
    | skip
  refine bif_need ?_ (by simp)
  unfold nextM
  split <;> simp
theorem stepC_need {ρ : Operand → Option AV} {o : Oper} {v : AV} {x : SX} : stepC E ρ o h ≠ .need x v h' := by
  obtain ⟨dst, op, ty, pos, after, guard⟩ := o
  cases op <;> simp only [stepC, sPick, sNew, sBuild, sBuildSlice, sLoad, sStore, sNil, nilMeth, sBin, sUn, sConv, sIface, sFunc, sMap, sMakeSlice, sSlice, sField, sFieldAddr, s2, s3h, s2h, s1h, s1r, s1, sCall, sBuiltin]
  all_goals repeat' split
  all_goals first
    | exact ov_need
    | exact oh_need
    | exact os_need
    | exact callVal_need
    | exact callMeth_need
    | exact nextE_need
    | exact sDefer_need
    | (simp; done)
    | skip
  · exact bif_need ov_need (by simp)
  · exact bif_need (by simp) ov_need
theorem float_heap {ρ : Operand → Option AV} {o : Oper} {v : AV} (hf : isFloat o = true) (ha : isAlloc o = false) (e : stepOp E ρ o h = .val v h' ∨ ∃ x, stepOp E ρ o h = .need x v h') : h' = h := by
  unfold stepOp at e
  cases hc : stepC E ρ o h with
  | val v1 h1 =>
    rw [hc] at e
    rcases e with e | ⟨x, e⟩
    · simp only [stepR, Res.val.injEq] at e
      rw [← e.2]; exact floatC_heap hf ha hc
    · cases e
  | need x v1 h1 => exact absurd hc stepC_need
  | bad => rw [hc] at e; exact floatY_heap (E := E) (ρ := ρ) hf ha e
  | _ => rw [hc] at e; rcases e with e | ⟨x, e⟩ <;> cases e

/-- New blocks. -/
structure AllocA (E : Env) (ρ : Operand → Option AV) (o : Oper) (mk : Nat → AV) (x : Blk) : Prop where
  step : ∀ h2, stepOp E ρ o h2 = .val (mk h2.next) (h2.new x)
theorem AllocA.uniq {ρ : Operand → Option AV} {o : Oper} {mk mk' : Nat → AV} {x x' : Blk} (a : AllocA E ρ o mk x) (b : AllocA E ρ o mk' x') : x = x' ∧ ∀ n, mk n = mk' n := by
  constructor
  · have := (a.step Heap.empty).symm.trans (b.step Heap.empty)
    simp only [Res.val.injEq] at this
    have h2 : (Heap.empty.new x).get 0 = (Heap.empty.new x').get 0 := by rw [this.2]
    rw [Heap.get_new, Heap.get_new, show Heap.empty.next = 0 from rfl, if_pos rfl, if_pos rfl, if_pos (by omega), if_pos (by omega)] at h2
    simpa using h2
  · intro n
    have := (a.step ⟨Heap.empty.t, n, 0⟩).symm.trans (b.step ⟨Heap.empty.t, n, 0⟩)
    simp only [Res.val.injEq] at this
    exact this.1

end Go.Ev
