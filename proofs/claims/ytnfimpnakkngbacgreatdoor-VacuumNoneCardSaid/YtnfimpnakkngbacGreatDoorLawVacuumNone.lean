/- The law VacuumNone answers true at every input, and leaves its arguments as they were. No condition of its own. -/
import Derived.Test.YtnfimpnakkngbacGreatDoorRows
import Derived.Test.YtnfimpnakkngbacGreatDoorCards
import Derived.Test.YtnfimpnakkngbacGreatDoorTie
import Derived.Lay
import Derived.LaidOnce
import Derived.SevenTiedAt
import Derived.Test.YtnfimpnakkngbacGreatDoorE32
import Derived.ProofKit
set_option linter.unusedVariables false
namespace Go.Proofs.YtnfimpnakkngbacGreatDoor.lawVacuumNone
open Go Go.Ev Go.ChangeShapes Go.WideShapes Go.ChangeAt Go.RowKit

theorem own : ownKnob Tryz.prog.godebug = none := by kernel_rfl
noncomputable def env : Env := ⟨Tryz.prog, fun f => bif Nat.beq f 124 then some (.count) else bif Nat.beq f 139 then some (.indexByte) else bif Nat.beq f 94 then some (.ident) else none, fun f => false, fun _ _ _ => none, fun _ _ => none, fun _ _ => none⟩
theorem names : (Tryz.prog.funcs.toList.all fun fn => !(fn.name == "runtime.NumGoroutine")) = true := by kernel_rfl
theorem ext124 : ∃ fn : Func, Tryz.prog.funcs[124]? = some fn ∧ fn.body = none ∧ Extern.findNext fn = none ∧ Extern.find fn = some (Ext.count).model :=
  ⟨_, Tryz.func124, by kernel_rfl, by kernel_rfl, by kernel_rfl⟩
theorem ext139 : ∃ fn : Func, Tryz.prog.funcs[139]? = some fn ∧ fn.body = none ∧ Extern.findNext fn = none ∧ Extern.find fn = some (Ext.indexByte).model :=
  ⟨_, Tryz.func139, by kernel_rfl, by kernel_rfl, by kernel_rfl⟩
theorem ext94 : ∃ fn : Func, Tryz.prog.funcs[94]? = some fn ∧ fn.body = none ∧ Extern.findNext fn = none ∧ Extern.find fn = some (Ext.ident).model :=
  ⟨_, Tryz.func94, by kernel_rfl, by kernel_rfl, by kernel_rfl⟩
theorem env_ok (ω : Opq) (hω : ∀ t, ω.fix t = fixT Tryz.prog t) : env.Ok ω := by
  refine ⟨hω, fun f fn h => ?_, fun f e h => ?_, fun _ _ _ _ h => (by cases h), fun _ _ _ h => (by cases h), fun _ _ _ h => (by cases h), fun _ _ _ _ _ h => (by cases h)⟩
  · have h1 := List.all_eq_true.1 names fn (by
      obtain ⟨h2, rfl⟩ := Array.getElem?_eq_some_iff.1 h
      exact Array.mem_toList_iff.2 (Array.getElem_mem h2))
    simpa using h1
  · have h : (bif Nat.beq f 124 then some (.count) else bif Nat.beq f 139 then some (.indexByte) else bif Nat.beq f 94 then some (.ident) else none : Option Ext) = some e := h
    cases hf124 : Nat.beq f 124 with
    | true =>
      rw [hf124] at h
      obtain rfl : f = 124 := by simpa using hf124
      cases h
      exact ext124
    | false =>
      rw [hf124] at h
      simp only [cond_false] at h
      cases hf139 : Nat.beq f 139 with
      | true =>
        rw [hf139] at h
        obtain rfl : f = 139 := by simpa using hf139
        cases h
        exact ext139
      | false =>
        rw [hf139] at h
        simp only [cond_false] at h
        cases hf94 : Nat.beq f 94 with
        | true =>
          rw [hf94] at h
          obtain rfl : f = 94 := by simpa using hf94
          cases h
          exact ext94
        | false =>
          rw [hf94] at h
          simp only [cond_false] at h
          cases h
theorem hook_ok (ω : Opq) : HookOk env ω := fun _ _ _ _ _ h => by cases h
theorem orders : Tryz.prog.follows .mixedOrders = true := by kernel_rfl
theorem ran : runTrue env 1000000 3 (argsOf Tryz.prog [22, 3] 0) = true := by kernel_rfl
set_option maxRecDepth 100000 in
theorem walk (us : List Value) (w W : World) (r : Reach) (b0 : Nat) (hl : ([22, 3] : List TypeId).length = us.length) (h : ∀ (j : Nat) t v, ([22, 3] : List TypeId)[j]? = some t → us[j]? = some v → Value.okWide Tryz.prog w r b0 t v) :
    Calls Tryz.prog 3 us.toArray W fun e w' => e = .returned (.bool true) ∧ Below W.heap.size W w' := by
  obtain ⟨xs, hx⟩ := argsOf_ok (P := Tryz.prog) (ts := [22, 3]) (vs := us) (w := w) (r := r) (b0 := b0) hl h []
  exact runTrue_ok (E := env) env_ok (fun ω _ => hook_ok ω) (fun _ => rfl) orders ran W (hx _ [])
theorem laid : laidOutB Tryz.prog = true := by kernel_rfl

def tables : List (String × DataW Unit) := [("unicode/utf8.acceptRanges", Rows.laid_unicode_utf8_acceptRanges), ("unicode/utf8.first", Rows.laid_unicode_utf8_first)]
set_option maxRecDepth 100000 in
theorem lifted (os : Os) (started : os.Started) (H : Type) (enc : TypeId × Value → H) :
    ReturnsInHanded {} Tryz.checked os 3 .any (fun w args => (Rows.vacuumNoneSpec.pre enc Tryz.prog Tryz.f3 [] false w args ∧ laidMetH Tryz.prog tables w) ∧ sizedMet enc Tryz.prog Tryz.f3 (OpenSpec.ofChange Rows.vacuumNoneSpec) false w args)
      (Rows.vacuumNoneSpec.post enc Tryz.prog Tryz.f3 false true false false) := by
  refine returnsInHanded_of_change_and (C := Tryz.checked) (X := fun w _ => laidMetH Tryz.prog tables w) (fun _ _ _ hh h => h.of_heap hh) own started (by kernel_rfl) Tryz.func3
    (ChangeSpec.witness_shaped (enc := enc) (C := Tryz.checked) (os := os) (X := fun w _ => laidMetH Tryz.prog tables w) false (World.laidAll Tryz.prog os tables) #[.int .u64 0, .int .i64 0] 8 (World.laidAll_os _ _ _)
      (World.shaped_of_ZipB (by kernel_rfl) (by kernel_rfl)) (by kernel_rfl) (by kernel_rfl) (by kernel_rfl)
      (by rw [MakeChecks.laidMetH_plain _ _ _ (by kernel_rfl)]; exact laidMet_laidAll _ (by kernel_rfl) (by kernel_rfl))) ?_
  intro W base args ds gs before hval0 hW _ _ hL _
  have hval : ∀ (j : Nat) t v, Tryz.f3.params[j]? = some t → args[j]? = some v → Value.okWide Tryz.prog W .any base t v := hval0
  have hW' := hW
  obtain ⟨p, q, hA0, hV, rfl, hfz, hnd⟩ := hW
  have hA : DataW.TrodAll enc Tryz.prog W 0 (fun _ => true) true Tryz.f3.params.toList args.toList ds p := hA0
  obtain ⟨rfl, rfl⟩ := trodVars_none hV
  rw [Tryz.params3] at hA hval
  have hlen := (trodAll_length hA).1
  refine (walk args.toList W W .any base hlen (fun j t v h1 h2 => hval j t v (by simpa using h1) (by simpa using h2))).mono fun e W' ⟨he, hb⟩ => ?_
  subst he
  obtain ⟨v0, vs0, d0, ds0, p0, q0, e0, rfl, rfl, h0, r0⟩ := trodAll_cons hA
  obtain ⟨v1, vs1, d1, ds1, p1, q1, e1, rfl, rfl, h1, r1⟩ := trodAll_cons r0
  obtain ⟨e2, rfl, rfl⟩ := trodAll_nil r1
  exact ⟨_, rfl, post_law hW' rfl rfl laid (by rw [Tryz.params3]; kernel_rfl) hb Tryz.underlying4 (by kernel_rfl)⟩

theorem over : Rows.vacuumNoneRow.holds Tryz.pinned (OpenSpec.ofChange Rows.vacuumNoneSpec) :=
  OpenClaim.holds_of_wide 3 Tryz.f3 rfl rfl rfl rfl rfl rfl rfl ⟨rfl, rfl, rfl, rfl, rfl⟩ rfl rfl rfl rfl rfl (by kernel_rfl) Tryz.func3 (by kernel_rfl)
    (of_decide_eq_true (by kernel_rfl)) (by unfold Func.isWrapper; first | (rw [if_pos (by decide +kernel)]; kernel_rfl) | (rw [if_neg (by decide +kernel)]; exact ⟨rfl, rfl⟩))
    (fun os started H enc _ => lifted os started H enc)

/-- The statement. -/
theorem proved : Rows.VacuumNoneCardSaid :=
  Claim7.holds_tied_plain_at .later [] [.data, .pinned] true (true, "410f18b68d241959381985f34b62668b9fe2a49776df608a995dfd036a536eed") false over (fun _ h => by cases h) (by kernel_rfl) (fun _ h => by cases h) vacuumNone_row_tie rfl ⟨rfl, rfl⟩ (by kernel_rfl) rfl
    (fun f fn hf hfn => by
      obtain rfl : f = 3 := Option.some.inj ((show Tryz.prog.funcNamed "tidepool/tidepoollaw24.VacuumNone" = some 3 by kernel_rfl).symm.trans hf) |>.symm
      obtain rfl : fn = Tryz.f3 := (Option.some.inj (Tryz.func3.symm.trans hfn)).symm
      exact ⟨by kernel_rfl, fun j t ht => by
        rw [Tryz.params3] at ht
        have hm : t ∈ [22, 3] := by simpa using Array.mem_of_getElem? ht
        have hall : ([22, 3].all fun u => !Tryz.prog.wantsStandIn u) = true := by kernel_rfl
        exact (show Tryz.prog.wantsStandIn t = false by simpa using List.all_eq_true.1 hall t hm)⟩)
    (by kernel_rfl)
#print axioms proved
end Go.Proofs.YtnfimpnakkngbacGreatDoor.lawVacuumNone
