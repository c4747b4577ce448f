import Derived.Test.YthdedeijapoihaaGreatDoorE17
set_option autoImplicit false
set_option linter.unusedVariables false
set_option linter.unusedSimpArgs false
namespace Go.Ev
open Go
variable {E : Env} {β : Bij} {ω : Opq} {K : Nat → Prop} {w0 w : World} {h h' : Heap}
theorem O8 {ρ ρ' : Operand → Option AV} : ∀ {l : List Operand}, (∀ x ∈ l, ρ x = ρ' x) → evs ρ l = evs ρ' l
 | [], _ => rfl
 | x :: r, h => by
   simp only [evs]
   rw [h x (.head _), O8 fun y hy => h y (.tail _ hy)]
theorem a57 {ρ ρ' : Operand → Option AV} : ∀ {l : List (Nat × Operand)}, (∀ x ∈ l.map (·.2), ρ x = ρ' x) → ap2 ρ l = ap2 ρ' l
 | [], _ => rfl
 | (i, x) :: r, h => by
   simp only [ap2]
   rw [h x (.head _), a57 fun y hy => h y (.tail _ hy)]
theorem K3 {ρ ρ' : Operand → Option AV} {x : Option Operand} (h : ∀ y ∈ x.toArray, ρ y = ρ' y) : evo ρ x = evo ρ' x := by
 cases x with
 | none => rfl
 | some y => simp only [evo]; rw [h y (by simp)]
theorem aS0 {ρ ρ' : Operand → Option AV} (o : Oper) (hh : ∀ x ∈ o.op.operands, ρ x = ρ' x) (h : Heap) : a01 E ρ o h = a01 E ρ' o h := by
 obtain ⟨dst, op, ty, pos, after, guard⟩ := o
 cases op <;> simp only [Op.operands] at hh <;> simp only [a01]
 case build t ps => rw [a57 fun x hx => hh x (by simpa using hx)]
 case buildSlice t n ps => rw [a57 fun x hx => hh x (by simpa using hx)]
 case makeFunc fn a b => rw [O8 (l := a.toList) fun x hx => hh x (by simp at hx; simp [hx]), O8 (l := b.toList) fun x hx => hh x (by simp at hx; simp [hx])]
 case makeMap t r => rw [K3 hh]
 case slice t x lo hi mx => rw [hh x (by simp), K3 (x := lo) fun y hy => hh y (by simp at hy; simp [hy]), K3 (x := hi) fun y hy => hh y (by simp at hy; simp [hy]), K3 (x := mx) fun y hy => hh y (by simp at hy; simp [hy])]
 case call c =>
  have h1 : evs ρ c.args.toList = evs ρ' c.args.toList := O8 fun x hx => hh x (by simp at hx; simp [Call.operands, hx])
  rw [h1]
  cases evs ρ' c.args.toList with
  | none => rfl
  | some args =>
    simp only [aE6]
    cases hc : c.callee with
    | builtin b => rfl
    | invoke r m => simp only []; rw [hh r (by simp [Call.operands, hc])]
    | value f => simp only []; rw [hh f (by simp [Call.operands, hc])]
 case defer c =>
  have h1 : evs ρ c.args.toList = evs ρ' c.args.toList := O8 fun x hx => hh x (by simp at hx; simp [Call.operands, hx])
  rw [h1]
  cases evs ρ' c.args.toList with
  | none => rfl
  | some args =>
    simp only [aE7]
    cases hc : c.callee with
    | builtin b => rfl
    | invoke r m => rfl
    | value f => simp only []; rw [hh f (by simp [Call.operands, hc])]
 case pick c a b =>
  rw [hh c (by simp)]
  unfold aO6
  rw [hh a (by simp), hh b (by simp)]
 all_goals first
  | rfl
  | simp only [hh _ (show _ ∈ (#[_] : Array Operand) by simp)]
  | simp [hh]
theorem aS1 {ρ ρ' : Operand → Option AV} (o : Oper) (hh : ∀ x ∈ o.op.operands, ρ x = ρ' x) (h : Heap) : ad3 E ρ o h = ad3 E ρ' o h := by
 obtain ⟨dst, op, ty, pos, after, guard⟩ := o
 cases op <;> simp only [Op.operands] at hh <;> simp only [ad3]
 case slice t x lo hi mx => rw [hh x (by simp), K3 (x := lo) fun y hy => hh y (by simp at hy; simp [hy]), K3 (x := hi) fun y hy => hh y (by simp at hy; simp [hy]), K3 (x := mx) fun y hy => hh y (by simp at hy; simp [hy])]
 case call c =>
  have h1 : evs ρ c.args.toList = evs ρ' c.args.toList := O8 fun x hx => hh x (by simp at hx; simp [Call.operands, hx])
  simp only [bC9, h1]
 all_goals first
  | rfl
  | simp only [hh _ (show _ ∈ (#[_] : Array Operand) by simp)]
  | simp [hh]
theorem S4 {ρ ρ' : Operand → Option AV} (o : Oper) (hh : ∀ x ∈ o.op.operands, ρ x = ρ' x) (h : Heap) : s7 E ρ o h = s7 E ρ' o h := by
 unfold s7
 rw [aS0 o hh, aS1 o hh]
theorem aS2 {ρ : Operand → Option AV} {o : Oper} (ha : r6 o = true) (h : Heap) : ad3 E ρ o h = .bad := by
 obtain ⟨dst, op, ty, pos, after, guard⟩ := o
 cases op <;> first | rfl | (cases ha; done)
theorem a84 {ρ : Operand → Option AV} {o : Oper} (ha : r6 o = true) (h : Heap) : s7 E ρ o h = a01 E ρ o h := by
 unfold s7
 rw [aS2 ha]
 cases a01 E ρ o h <;> rfl
end Go.Ev
