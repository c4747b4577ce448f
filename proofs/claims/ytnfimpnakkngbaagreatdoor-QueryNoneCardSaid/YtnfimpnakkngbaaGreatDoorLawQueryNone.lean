/- The law QueryNone answers true at every input, and leaves its arguments as they were. No condition of its own. -/
import Derived.Test.YtnfimpnakkngbaaGreatDoorRows
import Derived.Test.YtnfimpnakkngbaaGreatDoorCards
import Derived.Test.YtnfimpnakkngbaaGreatDoorTie
import Derived.Lay
import Derived.LaidOnce
import Derived.SevenTiedAt
import Derived.Test.YtnfimpnakkngbaaGreatDoorE32
import Derived.ProofKit
set_option linter.unusedVariables false
namespace Go.Proofs.YtnfimpnakkngbaaGreatDoor.lawQueryNone
open Go Go.Ev Go.ChangeShapes Go.WideShapes Go.ChangeAt Go.RowKit

theorem own : ownKnob Tryz.prog.godebug = none := by kernel_rfl
noncomputable def env : Env := ⟨Tryz.prog, fun f => bif Nat.beq f 109 then some (.count) else bif Nat.beq f 118 then some (.indexByte) else bif Nat.beq f 98 then some (.ident) else none, fun f => false, fun _ _ _ => none, fun _ _ => none, fun _ _ => none⟩
theorem names : (Tryz.prog.funcs.toList.all fun fn => !(fn.name == "runtime.NumGoroutine")) = true := by kernel_rfl
theorem ext109 : ∃ fn : Func, Tryz.prog.funcs[109]? = some fn ∧ fn.body = none ∧ Extern.findNext fn = none ∧ Extern.find fn = some (Ext.count).model :=
  ⟨_, Tryz.func109, by kernel_rfl, by kernel_rfl, by kernel_rfl⟩
theorem ext118 : ∃ fn : Func, Tryz.prog.funcs[118]? = some fn ∧ fn.body = none ∧ Extern.findNext fn = none ∧ Extern.find fn = some (Ext.indexByte).model :=
  ⟨_, Tryz.func118, by kernel_rfl, by kernel_rfl, by kernel_rfl⟩
theorem ext98 : ∃ fn : Func, Tryz.prog.funcs[98]? = some fn ∧ fn.body = none ∧ Extern.findNext fn = none ∧ Extern.find fn = some (Ext.ident).model :=
  ⟨_, Tryz.func98, by kernel_rfl, by kernel_rfl, by kernel_rfl⟩
theorem env_ok (ω : Opq) (hω : ∀ t, ω.fix t = fixT Tryz.prog t) : env.Ok ω := by
  refine ⟨hω, fun f fn h => ?_, fun f e h => ?_, fun _ _ _ _ h => (by cases h), fun _ _ _ h => (by cases h), fun _ _ _ h => (by cases h), fun _ _ _ _ _ h => (by cases h)⟩
  · have h1 := List.all_eq_true.1 names fn (by
      obtain ⟨h2, rfl⟩ := Array.getElem?_eq_some_iff.1 h
      exact Array.mem_toList_iff.2 (Array.getElem_mem h2))
    simpa using h1
  · have h : (bif Nat.beq f 109 then some (.count) else bif Nat.beq f 118 then some (.indexByte) else bif Nat.beq f 98 then some (.ident) else none : Option Ext) = some e := h
    cases hf109 : Nat.beq f 109 with
    | true =>
      rw [hf109] at h
      obtain rfl : f = 109 := by simpa using hf109
      cases h
      exact ext109
    | false =>
      rw [hf109] at h
      simp only [cond_false] at h
      cases hf118 : Nat.beq f 118 with
      | true =>
        rw [hf118] at h
        obtain rfl : f = 118 := by simpa using hf118
        cases h
        exact ext118
      | false =>
        rw [hf118] at h
        simp only [cond_false] at h
        cases hf98 : Nat.beq f 98 with
        | true =>
          rw [hf98] at h
          obtain rfl : f = 98 := by simpa using hf98
          cases h
          exact ext98
        | false =>
          rw [hf98] at h
          simp only [cond_false] at h
          cases h
theorem hook_ok (ω : Opq) : HookOk env ω := fun _ _ _ _ _ h => by cases h
theorem orders : Tryz.prog.follows .mixedOrders = true := by kernel_rfl
theorem ran : runTrue env 1000000 3 (argsOf Tryz.prog [22] 0) = true := by kernel_rfl
set_option maxRecDepth 100000 in
theorem walk (us : List Value) (w W : World) (r : Reach) (b0 : Nat) (hl : ([22] : List TypeId).length = us.length) (h : ∀ (j : Nat) t v, ([22] : List TypeId)[j]? = some t → us[j]? = some v → Value.okWide Tryz.prog w r b0 t v) :
    Calls Tryz.prog 3 us.toArray W fun e w' => e = .returned (.bool true) ∧ Below W.heap.size W w' := by
  obtain ⟨xs, hx⟩ := argsOf_ok (P := Tryz.prog) (ts := [22]) (vs := us) (w := w) (r := r) (b0 := b0) hl h []
  exact runTrue_ok (E := env) env_ok (fun ω _ => hook_ok ω) (fun _ => rfl) orders ran W (hx _ [])
theorem laid : laidOutB Tryz.prog = true := by kernel_rfl

def tables : List (String × DataW Unit) := [("unicode/utf8.acceptRanges", Rows.laid_unicode_utf8_acceptRanges), ("unicode/utf8.first", Rows.laid_unicode_utf8_first)]
set_option maxRecDepth 100000 in
theorem lifted (os : Os) (started : os.Started) (H : Type) (enc : TypeId × Value → H) :
    ReturnsInHanded {} Tryz.checked os 3 .any (fun w args => (Rows.queryNoneSpec.pre enc Tryz.prog Tryz.f3 [] false w args ∧ laidMetH Tryz.prog tables w) ∧ sizedMet enc Tryz.prog Tryz.f3 (OpenSpec.ofChange Rows.queryNoneSpec) false w args)
      (Rows.queryNoneSpec.post enc Tryz.prog Tryz.f3 false true false false) := by
  refine returnsInHanded_of_change_and (C := Tryz.checked) (X := fun w _ => laidMetH Tryz.prog tables w) (fun _ _ _ hh h => h.of_heap hh) own started (by kernel_rfl) Tryz.func3
    (ChangeSpec.witness_shaped (enc := enc) (C := Tryz.checked) (os := os) (X := fun w _ => laidMetH Tryz.prog tables w) false (World.laidAll Tryz.prog os tables) #[.int .u64 0] 8 (World.laidAll_os _ _ _)
      (World.shaped_of_ZipB (by kernel_rfl) (by kernel_rfl)) (by kernel_rfl) (by kernel_rfl) (by kernel_rfl)
      (by rw [MakeChecks.laidMetH_plain _ _ _ (by kernel_rfl)]; exact laidMet_laidAll _ (by kernel_rfl) (by kernel_rfl))) ?_
  intro W base args ds gs before hval0 hW _ _ hL _
  have hval : ∀ (j : Nat) t v, Tryz.f3.params[j]? = some t → args[j]? = some v → Value.okWide Tryz.prog W .any base t v := hval0
  have hW' := hW
  obtain ⟨p, q, hA0, hV, rfl, hfz, hnd⟩ := hW
  have hA : DataW.TrodAll enc Tryz.prog W 0 (fun _ => true) true Tryz.f3.params.toList args.toList ds p := hA0
  obtain ⟨rfl, rfl⟩ := trodVars_none hV
  rw [Tryz.params3] at hA hval
  have hlen := (trodAll_length hA).1
  refine (walk args.toList W W .any base hlen (fun j t v h1 h2 => hval j t v (by simpa using h1) (by simpa using h2))).mono fun e W' ⟨he, hb⟩ => ?_
  subst he
  obtain ⟨v0, vs0, d0, ds0, p0, q0, e0, rfl, rfl, h0, r0⟩ := trodAll_cons hA
  obtain ⟨e1, rfl, rfl⟩ := trodAll_nil r0
  exact ⟨_, rfl, post_law hW' rfl rfl laid (by rw [Tryz.params3]; kernel_rfl) hb Tryz.underlying4 (by kernel_rfl)⟩

theorem over : Rows.queryNoneRow.holds Tryz.pinned (OpenSpec.ofChange Rows.queryNoneSpec) :=
  OpenClaim.holds_of_wide 3 Tryz.f3 rfl rfl rfl rfl rfl rfl rfl ⟨rfl, rfl, rfl, rfl, rfl⟩ rfl rfl rfl rfl rfl (by kernel_rfl) Tryz.func3 (by kernel_rfl)
    (of_decide_eq_true (by kernel_rfl)) (by unfold Func.isWrapper; first | (rw [if_pos (by decide +kernel)]; kernel_rfl) | (rw [if_neg (by decide +kernel)]; exact ⟨rfl, rfl⟩))
    (fun os started H enc _ => lifted os started H enc)

/-- The statement. -/
theorem proved : Rows.QueryNoneCardSaid :=
  Claim7.holds_tied_plain_at .later [] [.data, .pinned] true (true, "e7b994d8849894ae18367e0132ae69720f4c31c8b7ba298154f0a6afe4a65e32") false over (fun _ h => by cases h) (by kernel_rfl) (fun _ h => by cases h) queryNone_row_tie rfl ⟨rfl, rfl⟩ (by kernel_rfl) rfl
    (fun f fn hf hfn => by
      obtain rfl : f = 3 := Option.some.inj ((show Tryz.prog.funcNamed "tidepool/tidepoollaw25.QueryNone" = some 3 by kernel_rfl).symm.trans hf) |>.symm
      obtain rfl : fn = Tryz.f3 := (Option.some.inj (Tryz.func3.symm.trans hfn)).symm
      exact ⟨by kernel_rfl, fun j t ht => by
        rw [Tryz.params3] at ht
        have hm : t ∈ [22] := by simpa using Array.mem_of_getElem? ht
        have hall : ([22].all fun u => !Tryz.prog.wantsStandIn u) = true := by kernel_rfl
        exact (show Tryz.prog.wantsStandIn t = false by simpa using List.all_eq_true.1 hall t hm)⟩)
    (by kernel_rfl)
#print axioms proved
end Go.Proofs.YtnfimpnakkngbaaGreatDoor.lawQueryNone
