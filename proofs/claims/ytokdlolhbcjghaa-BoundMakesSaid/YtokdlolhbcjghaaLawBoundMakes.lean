/- The law BoundMakes answers true at every input, and leaves its arguments as they were. No condition of its own. -/
import Derived.Test.YtokdlolhbcjghaaRows
import Derived.Test.YtokdlolhbcjghaaE32
import Derived.ProofKit
set_option linter.unusedVariables false
namespace Go.Proofs.Ytokdlolhbcjghaa.lawBoundMakes
open Go Go.Ev Go.ChangeShapes Go.WideShapes Go.ChangeAt Go.RowKit

theorem own : ownKnob Try.prog.godebug = none := by kernel_rfl
noncomputable def env : Env := ⟨Try.prog, fun f => none, fun f => false, fun _ _ _ => none, fun _ _ => none⟩
theorem names : (Try.prog.funcs.toList.all fun fn => !(fn.name == "runtime.NumGoroutine")) = true := by kernel_rfl
theorem env_ok (ω : Opq) : env.Ok ω := by
  refine ⟨fun f fn h => ?_, fun f e h => ?_, fun _ _ _ _ h => (by cases h), fun _ _ _ h => (by cases h), fun _ _ _ h => (by cases h), fun _ _ _ _ _ h => (by cases h)⟩
  · have h1 := List.all_eq_true.1 names fn (by
      obtain ⟨h2, rfl⟩ := Array.getElem?_eq_some_iff.1 h
      exact Array.mem_toList_iff.2 (Array.getElem_mem h2))
    simpa using h1
  · cases h
theorem hook_ok (ω : Opq) : HookOk env ω := fun _ _ _ _ _ h => by cases h
theorem orders : Try.prog.follows .mixedOrders = true := by kernel_rfl
theorem ran : runTrue env 1000000 3 (argsOf Try.prog [9, 9, 2, 2] 0) = true := by kernel_rfl
set_option maxRecDepth 100000 in
theorem walk (us : List Value) (w W : World) (r : Reach) (b0 : Nat) (hl : ([9, 9, 2, 2] : List TypeId).length = us.length) (h : ∀ (j : Nat) t v, ([9, 9, 2, 2] : List TypeId)[j]? = some t → us[j]? = some v → Value.okWide Try.prog w r b0 t v) :
    Calls Try.prog 3 us.toArray W fun e w' => e = .returned (.bool true) ∧ Below W.heap.size W w' := by
  obtain ⟨xs, hx⟩ := argsOf_ok (P := Try.prog) (ts := [9, 9, 2, 2]) (vs := us) (w := w) (r := r) (b0 := b0) hl h []
  exact runTrue_ok (env_ok _) (hook_ok _) orders ran W (hx _ [])
theorem laid : laidOutB Try.prog = true := by kernel_rfl

set_option maxRecDepth 100000 in
theorem lifted (os : Os) (started : os.Started) (H : Type) (enc : TypeId × Value → H) :
    ReturnsInHanded {} Try.checked os 3 .any (Rows.boundMakesSpec.pre6 enc Try.prog Try.f3 Rows.boundMakesRow.domain false) (Rows.boundMakesSpec.post enc Try.prog Try.f3 false true false false) := by
  refine returnsInHanded_of_change (C := Try.checked) own started (by kernel_rfl) Try.func3
    (ChangeSpec.witness6 (enc := enc) (C := Try.checked) false ⟨#[], #[.string ⟨#[]⟩, .string ⟨#[]⟩, .int .i64 0, .int .i64 0], []⟩ 8 (by kernel_rfl) (by kernel_rfl) (by kernel_rfl) (by kernel_rfl)) ?_
  intro W base args ds gs before hval0 hW hcnd _
  have hval : ∀ (j : Nat) t v, Try.f3.params[j]? = some t → args[j]? = some v → Value.okWide Try.prog W .any base t v := hval0
  have hW' := hW
  obtain ⟨p, q, hA, hV, rfl, hfz, hnd⟩ := hW
  obtain ⟨rfl, rfl⟩ := trodVars_none hV
  rw [Try.params3] at hA hval
  have hlen := (trodAll_length hA).1
  refine (walk args.toList W W .any base hlen (fun j t v h1 h2 => hval j t v (by simpa using h1) (by simpa using h2))).mono fun e W' ⟨he, hb⟩ => ?_
  subst he
  obtain ⟨v0, vs0, d0, ds0, p0, q0, e0, rfl, rfl, h0, r0⟩ := trodAll_cons hA
  obtain ⟨v1, vs1, d1, ds1, p1, q1, e1, rfl, rfl, h1, r1⟩ := trodAll_cons r0
  obtain ⟨v2, vs2, d2, ds2, p2, q2, e2, rfl, rfl, h2, r2⟩ := trodAll_cons r1
  obtain ⟨v3, vs3, d3, ds3, p3, q3, e3, rfl, rfl, h3, r3⟩ := trodAll_cons r2
  obtain ⟨e4, rfl, rfl⟩ := trodAll_nil r3
  exact ⟨_, rfl, post_law hW' rfl rfl laid (by rw [Try.params3]; kernel_rfl) hb Try.underlying4 (by kernel_rfl)⟩

theorem over : Rows.boundMakesRow.holds Try.pinned (OpenSpec.ofChange Rows.boundMakesSpec) :=
  OpenClaim.holds_of_wide 3 Try.f3 rfl rfl rfl rfl rfl rfl rfl ⟨rfl, rfl, rfl, rfl, rfl⟩ rfl rfl rfl rfl rfl (by kernel_rfl) Try.func3 (by kernel_rfl)
    (of_decide_eq_true (by kernel_rfl)) (by unfold Func.isWrapper; first | (rw [if_pos (by decide +kernel)]; kernel_rfl) | (rw [if_neg (by decide +kernel)]; exact ⟨rfl, rfl⟩))
    (fun os started H enc _ => lifted os started H enc)

/-- The statement. -/
theorem proved : Rows.BoundMakesSaid := over
#print axioms proved
end Go.Proofs.Ytokdlolhbcjghaa.lawBoundMakes
