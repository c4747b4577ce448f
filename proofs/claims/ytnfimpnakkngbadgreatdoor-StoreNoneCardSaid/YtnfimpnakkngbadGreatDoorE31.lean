/- The evaluator: a run that ends in true. -/
import Derived.Test.YtnfimpnakkngbadGreatDoorE30
import Derived.Below
set_option linter.unusedVariables false
set_option linter.unusedSimpArgs false
namespace Go.Ev
open Go

variable {E : Env} {ω : Opq}

def kTrue (v : AV) (_ : Heap) : Bool := match v with
  | .bool b => b
  | _ => false
noncomputable def runTrue (E : Env) (n : Nat) (f : FuncId) (args : List AV) : Bool := ev E n Bool boolAlg (.call f args Heap.empty kTrue)

theorem HR.start (w : World) : HR (fun _ => none) ω (· < w.heap.size) w Heap.empty w :=
  ⟨fun b x L _ hb => (by cases hb), fun b b' x x' L L' _ _ hb => (by cases hb), fun _ _ => rfl, fun b _ => Heap.get_empty b, fun b L hb => (by cases hb), fun i hi => hi, fun i _ => rfl,
   fun b x L _ _ hb => (by cases hb), Nat.le_refl _, rfl, rfl, rfl⟩

theorem runTrue_ok (hE : ∀ ω, (∀ t, ω.fix t = fixT E.P t) → E.Ok ω) (hk : ∀ ω, (∀ t, ω.fix t = fixT E.P t) → HookOk E ω) (hω : ∀ t, ω.fix t = fixT E.P t) (hm : E.P.follows .mixedOrders = true) {n : Nat} {f : FuncId} {args : List AV} {us : List Value} (he : runTrue E n f args = true) (w : World) (ra : VRs (fun _ => none) ω args us) :
    Calls E.P f us.toArray w (fun e w' => e = .returned (.bool true) ∧ RowKit.Below w.heap.size w w') := by
  refine Calls.mono (((run_ok (Ω := fun ω => ∀ t, ω.fix t = fixT E.P t) (fun _ _ _ h => h) hE hk hm n ω hω).1 n (Nat.le_refl _)).1 Bool boolAlg (· = true) (boolAlg_ok ω) f args _ _ he (· < w.heap.size) w _ w us (HR.start w) ra) ?_
  rintro e w' ⟨u, β', v, h', rfl, h1, h2, h3, h4⟩
  cases v with
  | bool b =>
    simp only [kTrue] at h1; subst h1
    exact ⟨by rw [show u = .bool true from h2], h3.os, h3.tape, h3.out, h3.size, h3.keep⟩
  | _ => cases h1

end Go.Ev
