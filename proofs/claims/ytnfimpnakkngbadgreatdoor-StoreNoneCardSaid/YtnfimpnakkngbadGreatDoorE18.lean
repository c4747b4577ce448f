/- The evaluator: an operation looks at its operands alone; what floats leaves memory alone, or adds a block. -/
import Derived.Test.YtnfimpnakkngbadGreatDoorE17
set_option linter.unusedVariables false
set_option linter.unusedSimpArgs false
namespace Go.Ev
open Go

variable {E : Env} {β : Bij} {ω : Opq} {K : Nat → Prop} {w0 w : World} {h h' : Heap}

theorem evs_congr {ρ ρ' : Operand → Option AV} : ∀ {l : List Operand}, (∀ x ∈ l, ρ x = ρ' x) → evs ρ l = evs ρ' l
  | [], _ => rfl
  | x :: r, h => by
    simp only [evs]
    rw [h x (.head _), evs_congr fun y hy => h y (.tail _ hy)]
theorem evps_congr {ρ ρ' : Operand → Option AV} : ∀ {l : List (Nat × Operand)}, (∀ x ∈ l.map (·.2), ρ x = ρ' x) → evps ρ l = evps ρ' l
  | [], _ => rfl
  | (i, x) :: r, h => by
    simp only [evps]
    rw [h x (.head _), evps_congr fun y hy => h y (.tail _ hy)]
theorem evo_congr {ρ ρ' : Operand → Option AV} {x : Option Operand} (h : ∀ y ∈ x.toArray, ρ y = ρ' y) : evo ρ x = evo ρ' x := by
  cases x with
  | none => rfl
  | some y => simp only [evo]; rw [h y (by simp)]

theorem stepC_congr {ρ ρ' : Operand → Option AV} (o : Oper) (hh : ∀ x ∈ o.op.operands, ρ x = ρ' x) (h : Heap) : stepC E ρ o h = stepC E ρ' o h := by
  obtain ⟨dst, op, ty, pos, after, guard⟩ := o
  cases op <;> simp only [Op.operands] at hh <;> simp only [stepC]
  case build t ps => rw [evps_congr fun x hx => hh x (by simpa using hx)]
  case buildSlice t n ps => rw [evps_congr fun x hx => hh x (by simpa using hx)]
  case makeFunc fn a b => rw [evs_congr (l := a.toList) fun x hx => hh x (by simp at hx; simp [hx]), evs_congr (l := b.toList) fun x hx => hh x (by simp at hx; simp [hx])]
  case makeMap t r => rw [evo_congr hh]
  case slice t x lo hi mx => rw [hh x (by simp), evo_congr (x := lo) fun y hy => hh y (by simp at hy; simp [hy]), evo_congr (x := hi) fun y hy => hh y (by simp at hy; simp [hy]), evo_congr (x := mx) fun y hy => hh y (by simp at hy; simp [hy])]
  case call c =>
    have h1 : evs ρ c.args.toList = evs ρ' c.args.toList := evs_congr fun x hx => hh x (by simp at hx; simp [Call.operands, hx])
    rw [h1]
    cases evs ρ' c.args.toList with
    | none => rfl
    | some args =>
      simp only [sCall]
      cases hc : c.callee with
      | builtin b => rfl
      | invoke r m => simp only []; rw [hh r (by simp [Call.operands, hc])]
      | value f => simp only []; rw [hh f (by simp [Call.operands, hc])]
  case defer c =>
    have h1 : evs ρ c.args.toList = evs ρ' c.args.toList := evs_congr fun x hx => hh x (by simp at hx; simp [Call.operands, hx])
    rw [h1]
    cases evs ρ' c.args.toList with
    | none => rfl
    | some args =>
      simp only [sDefer]
      cases hc : c.callee with
      | builtin b => rfl
      | invoke r m => rfl
      | value f => simp only []; rw [hh f (by simp [Call.operands, hc])]
  case pick c a b =>
    rw [hh c (by simp)]
    unfold sPick
    rw [hh a (by simp), hh b (by simp)]
  all_goals first
    | rfl
    | simp only [hh _ (show _ ∈ (#[_] : Array Operand) by simp)]
    | simp [hh]

theorem stepY_congr {ρ ρ' : Operand → Option AV} (o : Oper) (hh : ∀ x ∈ o.op.operands, ρ x = ρ' x) (h : Heap) : stepY E ρ o h = stepY E ρ' o h := by
  obtain ⟨dst, op, ty, pos, after, guard⟩ := o
  cases op <;> simp only [Op.operands] at hh <;> simp only [stepY]
  case call c =>
    have h1 : evs ρ c.args.toList = evs ρ' c.args.toList := evs_congr fun x hx => hh x (by simp at hx; simp [Call.operands, hx])
    simp only [yCall, h1]
  all_goals first
    | rfl
    | simp only [hh _ (show _ ∈ (#[_] : Array Operand) by simp)]
    | simp [hh]
theorem stepOp_congr {ρ ρ' : Operand → Option AV} (o : Oper) (hh : ∀ x ∈ o.op.operands, ρ x = ρ' x) (h : Heap) : stepOp E ρ o h = stepOp E ρ' o h := by
  unfold stepOp
  rw [stepC_congr o hh, stepY_congr o hh]
theorem stepY_alloc {ρ : Operand → Option AV} {o : Oper} (ha : isAlloc o = true) (h : Heap) : stepY E ρ o h = .bad := by
  obtain ⟨dst, op, ty, pos, after, guard⟩ := o
  cases op <;> first | rfl | (cases ha; done)
theorem stepOp_alloc {ρ : Operand → Option AV} {o : Oper} (ha : isAlloc o = true) (h : Heap) : stepOp E ρ o h = stepC E ρ o h := by
  unfold stepOp
  rw [stepY_alloc ha]
  cases stepC E ρ o h <;> rfl

end Go.Ev
