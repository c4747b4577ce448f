import Derived.Test.YtdhepaehegnfdaaGreatDoorE17
set_option linter.unusedVariables false
set_option linter.unusedSimpArgs false
namespace Go.Ev
open Go
variable {E : Env} {β : Bij} {ω : Opq} {K : Nat → Prop} {w0 w : World} {h h' : Heap}
theorem R3 {ρ ρ' : Operand → Option AV} : ∀ {l : List Operand}, (∀ x ∈ l, ρ x = ρ' x) → evs ρ l = evs ρ' l
 | [], _ => rfl
 | x :: r, h => by
   simp only [evs]
   rw [h x (.head _), R3 fun y hy => h y (.tail _ hy)]
theorem ab9 {ρ ρ' : Operand → Option AV} : ∀ {l : List (Nat × Operand)}, (∀ x ∈ l.map (·.2), ρ x = ρ' x) → ay0 ρ l = ay0 ρ' l
 | [], _ => rfl
 | (i, x) :: r, h => by
   simp only [ay0]
   rw [h x (.head _), ab9 fun y hy => h y (.tail _ hy)]
theorem N3 {ρ ρ' : Operand → Option AV} {x : Option Operand} (h : ∀ y ∈ x.toArray, ρ y = ρ' y) : evo ρ x = evo ρ' x := by
 cases x with
 | none => rfl
 | some y => simp only [evo]; rw [h y (by simp)]
theorem b33 {ρ ρ' : Operand → Option AV} (o : Oper) (hh : ∀ x ∈ o.op.operands, ρ x = ρ' x) (h : Heap) : a44 E ρ o h = a44 E ρ' o h := by
 obtain ⟨dst, op, ty, pos, after, guard⟩ := o
 cases op <;> simp only [Op.operands] at hh <;> simp only [a44]
 case build t ps => rw [ab9 fun x hx => hh x (by simpa using hx)]
 case buildSlice t n ps => rw [ab9 fun x hx => hh x (by simpa using hx)]
 case makeFunc fn a b => rw [R3 (l := a.toList) fun x hx => hh x (by simp at hx; simp [hx]), R3 (l := b.toList) fun x hx => hh x (by simp at hx; simp [hx])]
 case makeMap t r => rw [N3 hh]
 case slice t x lo hi mx => rw [hh x (by simp), N3 (x := lo) fun y hy => hh y (by simp at hy; simp [hy]), N3 (x := hi) fun y hy => hh y (by simp at hy; simp [hy]), N3 (x := mx) fun y hy => hh y (by simp at hy; simp [hy])]
 case call c =>
  have h1 : evs ρ c.args.toList = evs ρ' c.args.toList := R3 fun x hx => hh x (by simp at hx; simp [Call.operands, hx])
  rw [h1]
  cases evs ρ' c.args.toList with
  | none => rfl
  | some args =>
    simp only [aP3]
    cases hc : c.callee with
    | builtin b => rfl
    | invoke r m => simp only []; rw [hh r (by simp [Call.operands, hc])]
    | value f => simp only []; rw [hh f (by simp [Call.operands, hc])]
 case defer c =>
  have h1 : evs ρ c.args.toList = evs ρ' c.args.toList := R3 fun x hx => hh x (by simp at hx; simp [Call.operands, hx])
  rw [h1]
  cases evs ρ' c.args.toList with
  | none => rfl
  | some args =>
    simp only [aP4]
    cases hc : c.callee with
    | builtin b => rfl
    | invoke r m => rfl
    | value f => simp only []; rw [hh f (by simp [Call.operands, hc])]
 case pick c a b =>
  rw [hh c (by simp)]
  unfold aZ9
  rw [hh a (by simp), hh b (by simp)]
 all_goals first
  | rfl
  | simp only [hh _ (show _ ∈ (#[_] : Array Operand) by simp)]
  | simp [hh]
theorem b34 {ρ ρ' : Operand → Option AV} (o : Oper) (hh : ∀ x ∈ o.op.operands, ρ x = ρ' x) (h : Heap) : ak8 E ρ o h = ak8 E ρ' o h := by
 obtain ⟨dst, op, ty, pos, after, guard⟩ := o
 cases op <;> simp only [Op.operands] at hh <;> simp only [ak8]
 case slice t x lo hi mx => rw [hh x (by simp), N3 (x := lo) fun y hy => hh y (by simp at hy; simp [hy]), N3 (x := hi) fun y hy => hh y (by simp at hy; simp [hy]), N3 (x := mx) fun y hy => hh y (by simp at hy; simp [hy])]
 case call c =>
  have h1 : evs ρ c.args.toList = evs ρ' c.args.toList := R3 fun x hx => hh x (by simp at hx; simp [Call.operands, hx])
  simp only [bQ0, h1]
 all_goals first
  | rfl
  | simp only [hh _ (show _ ∈ (#[_] : Array Operand) by simp)]
  | simp [hh]
theorem W4 {ρ ρ' : Operand → Option AV} (o : Oper) (hh : ∀ x ∈ o.op.operands, ρ x = ρ' x) (h : Heap) : u4 E ρ o h = u4 E ρ' o h := by
 unfold u4
 rw [b33 o hh, b34 o hh]
theorem b35 {ρ : Operand → Option AV} {o : Oper} (ha : t7 o = true) (h : Heap) : ak8 E ρ o h = .bad := by
 obtain ⟨dst, op, ty, pos, after, guard⟩ := o
 cases op <;> first | rfl | (cases ha; done)
theorem af0 {ρ : Operand → Option AV} {o : Oper} (ha : t7 o = true) (h : Heap) : u4 E ρ o h = a44 E ρ o h := by
 unfold u4
 rw [b35 ha]
 cases a44 E ρ o h <;> rfl
end Go.Ev
