/- The law StoreNone answers true at every input, and leaves its arguments as they were. No condition of its own. -/
import Derived.Test.YtnfimpnakkngbadGreatDoorRows
import Derived.Test.YtnfimpnakkngbadGreatDoorCards
import Derived.Test.YtnfimpnakkngbadGreatDoorTie
import Derived.Lay
import Derived.LaidOnce
import Derived.SevenTiedAt
import Derived.Test.YtnfimpnakkngbadGreatDoorE32
import Derived.ProofKit
set_option linter.unusedVariables false
namespace Go.Proofs.YtnfimpnakkngbadGreatDoor.lawStoreNone
open Go Go.Ev Go.ChangeShapes Go.WideShapes Go.ChangeAt Go.RowKit

theorem own : ownKnob Tryz.prog.godebug = none := by kernel_rfl
noncomputable def env : Env := ⟨Tryz.prog, fun f => bif Nat.beq f 154 then some (.count) else bif Nat.beq f 163 then some (.indexByte) else bif Nat.beq f 138 then some (.ident) else bif Nat.beq f 129 then some (.overlaps 113 4) else bif Nat.beq f 127 then some (.overlaps 111 4) else bif Nat.beq f 131 then some (.overlaps 112 4) else none, fun f => false, fun f => Nat.beq f 104 || Nat.beq f 103 || Nat.beq f 105, fun _ _ _ => none, fun _ _ => none, fun _ _ => none⟩
theorem names : (Tryz.prog.funcs.toList.all fun fn => !(fn.name == "runtime.NumGoroutine")) = true := by kernel_rfl
theorem ext154 : ∃ fn : Func, Tryz.prog.funcs[154]? = some fn ∧ fn.body = none ∧ Extern.findNext fn = none ∧ Extern.find fn = some (Ext.count).model :=
  ⟨_, Tryz.func154, by kernel_rfl, by kernel_rfl, by kernel_rfl⟩
theorem ext163 : ∃ fn : Func, Tryz.prog.funcs[163]? = some fn ∧ fn.body = none ∧ Extern.findNext fn = none ∧ Extern.find fn = some (Ext.indexByte).model :=
  ⟨_, Tryz.func163, by kernel_rfl, by kernel_rfl, by kernel_rfl⟩
theorem ext138 : ∃ fn : Func, Tryz.prog.funcs[138]? = some fn ∧ fn.body = none ∧ Extern.findNext fn = none ∧ Extern.find fn = some (Ext.ident).model :=
  ⟨_, Tryz.func138, by kernel_rfl, by kernel_rfl, by kernel_rfl⟩
theorem ext129 : ∃ fn : Func, Tryz.prog.funcs[129]? = some fn ∧ fn.body = none ∧ Extern.findNext fn = none ∧ Extern.find fn = some ((Ext.overlaps 113 4)).model :=
  ⟨_, Tryz.func129, by kernel_rfl, by kernel_rfl, by kernel_rfl⟩
theorem ext127 : ∃ fn : Func, Tryz.prog.funcs[127]? = some fn ∧ fn.body = none ∧ Extern.findNext fn = none ∧ Extern.find fn = some ((Ext.overlaps 111 4)).model :=
  ⟨_, Tryz.func127, by kernel_rfl, by kernel_rfl, by kernel_rfl⟩
theorem ext131 : ∃ fn : Func, Tryz.prog.funcs[131]? = some fn ∧ fn.body = none ∧ Extern.findNext fn = none ∧ Extern.find fn = some ((Ext.overlaps 112 4)).model :=
  ⟨_, Tryz.func131, by kernel_rfl, by kernel_rfl, by kernel_rfl⟩
theorem env_ok (ω : Opq) (hω : ∀ t, ω.fix t = fixT Tryz.prog t) : env.Ok ω := by
  refine ⟨hω, fun f fn h => ?_, fun f e h => ?_, fun _ _ _ _ h => (by cases h), fun _ _ _ h => (by cases h), fun _ _ _ h => (by cases h), fun _ _ _ _ _ h => (by cases h)⟩
  · have h1 := List.all_eq_true.1 names fn (by
      obtain ⟨h2, rfl⟩ := Array.getElem?_eq_some_iff.1 h
      exact Array.mem_toList_iff.2 (Array.getElem_mem h2))
    simpa using h1
  · have h : (bif Nat.beq f 154 then some (.count) else bif Nat.beq f 163 then some (.indexByte) else bif Nat.beq f 138 then some (.ident) else bif Nat.beq f 129 then some (.overlaps 113 4) else bif Nat.beq f 127 then some (.overlaps 111 4) else bif Nat.beq f 131 then some (.overlaps 112 4) else none : Option Ext) = some e := h
    cases hf154 : Nat.beq f 154 with
    | true =>
      rw [hf154] at h
      obtain rfl : f = 154 := by simpa using hf154
      cases h
      exact ext154
    | false =>
      rw [hf154] at h
      simp only [cond_false] at h
      cases hf163 : Nat.beq f 163 with
      | true =>
        rw [hf163] at h
        obtain rfl : f = 163 := by simpa using hf163
        cases h
        exact ext163
      | false =>
        rw [hf163] at h
        simp only [cond_false] at h
        cases hf138 : Nat.beq f 138 with
        | true =>
          rw [hf138] at h
          obtain rfl : f = 138 := by simpa using hf138
          cases h
          exact ext138
        | false =>
          rw [hf138] at h
          simp only [cond_false] at h
          cases hf129 : Nat.beq f 129 with
          | true =>
            rw [hf129] at h
            obtain rfl : f = 129 := by simpa using hf129
            cases h
            exact ext129
          | false =>
            rw [hf129] at h
            simp only [cond_false] at h
            cases hf127 : Nat.beq f 127 with
            | true =>
              rw [hf127] at h
              obtain rfl : f = 127 := by simpa using hf127
              cases h
              exact ext127
            | false =>
              rw [hf127] at h
              simp only [cond_false] at h
              cases hf131 : Nat.beq f 131 with
              | true =>
                rw [hf131] at h
                obtain rfl : f = 131 := by simpa using hf131
                cases h
                exact ext131
              | false =>
                rw [hf131] at h
                simp only [cond_false] at h
                cases h
theorem hook_ok (ω : Opq) : HookOk env ω := fun _ _ _ _ _ h => by cases h
theorem orders : Tryz.prog.follows .mixedOrders = true := by kernel_rfl
theorem ran : runTrue env 1000000 3 (argsOf Tryz.prog [27, 29, 30] 0) = true := by kernel_rfl
set_option maxRecDepth 100000 in
theorem walk (us : List Value) (w W : World) (r : Reach) (b0 : Nat) (hl : ([27, 29, 30] : List TypeId).length = us.length) (h : ∀ (j : Nat) t v, ([27, 29, 30] : List TypeId)[j]? = some t → us[j]? = some v → Value.okWide Tryz.prog w r b0 t v) :
    Calls Tryz.prog 3 us.toArray W fun e w' => e = .returned (.bool true) ∧ Below W.heap.size W w' := by
  obtain ⟨xs, hx⟩ := argsOf_ok (P := Tryz.prog) (ts := [27, 29, 30]) (vs := us) (w := w) (r := r) (b0 := b0) hl h []
  exact runTrue_ok (E := env) env_ok (fun ω _ => hook_ok ω) (fun _ => rfl) orders ran W (hx _ [])
theorem laid : laidOutB Tryz.prog = true := by kernel_rfl

def tables : List (String × DataW Unit) := [("unicode/utf8.acceptRanges", Rows.laid_unicode_utf8_acceptRanges), ("unicode/utf8.first", Rows.laid_unicode_utf8_first)]
set_option maxRecDepth 100000 in
theorem lifted (os : Os) (started : os.Started) (H : Type) (enc : TypeId × Value → H) :
    ReturnsInHanded {} Tryz.checked os 3 .any (fun w args => (Rows.storeNoneSpec.pre enc Tryz.prog Tryz.f3 [] false w args ∧ laidMetH Tryz.prog tables w) ∧ sizedMet enc Tryz.prog Tryz.f3 (OpenSpec.ofChange Rows.storeNoneSpec) false w args)
      (Rows.storeNoneSpec.post enc Tryz.prog Tryz.f3 false true false false) := by
  refine returnsInHanded_of_change_and (C := Tryz.checked) (X := fun w _ => laidMetH Tryz.prog tables w) (fun _ _ _ hh h => h.of_heap hh) own started (by kernel_rfl) Tryz.func3
    (ChangeSpec.witness_shaped (enc := enc) (C := Tryz.checked) (os := os) (X := fun w _ => laidMetH Tryz.prog tables w) false (World.laidAll Tryz.prog os tables) #[.agg #[.string ⟨#[]⟩, .int .i64 0, .int .i64 0, .bool false, .int .i64 0, .int .i64 0, .int .i64 0, .int .i64 0], .agg #[.int .u8 0, .string ⟨#[]⟩, .string ⟨#[]⟩, .int .i64 0, .int .i64 0], .int .u64 0] 8 (World.laidAll_os _ _ _)
      (World.shaped_of_ZipB (by kernel_rfl) (by kernel_rfl)) (by kernel_rfl) (by kernel_rfl) (by kernel_rfl)
      (by rw [MakeChecks.laidMetH_plain _ _ _ (by kernel_rfl)]; exact laidMet_laidAll _ (by kernel_rfl) (by kernel_rfl))) ?_
  intro W base args ds gs before hval0 hW _ _ hL _
  have hval : ∀ (j : Nat) t v, Tryz.f3.params[j]? = some t → args[j]? = some v → Value.okWide Tryz.prog W .any base t v := hval0
  have hW' := hW
  obtain ⟨p, q, hA0, hV, rfl, hfz, hnd⟩ := hW
  have hA : DataW.TrodAll enc Tryz.prog W 0 (fun _ => true) true Tryz.f3.params.toList args.toList ds p := hA0
  obtain ⟨rfl, rfl⟩ := trodVars_none hV
  rw [Tryz.params3] at hA hval
  have hlen := (trodAll_length hA).1
  refine (walk args.toList W W .any base hlen (fun j t v h1 h2 => hval j t v (by simpa using h1) (by simpa using h2))).mono fun e W' ⟨he, hb⟩ => ?_
  subst he
  obtain ⟨v0, vs0, d0, ds0, p0, q0, e0, rfl, rfl, h0, r0⟩ := trodAll_cons hA
  obtain ⟨v1, vs1, d1, ds1, p1, q1, e1, rfl, rfl, h1, r1⟩ := trodAll_cons r0
  obtain ⟨v2, vs2, d2, ds2, p2, q2, e2, rfl, rfl, h2, r2⟩ := trodAll_cons r1
  obtain ⟨e3, rfl, rfl⟩ := trodAll_nil r2
  exact ⟨_, rfl, post_law hW' rfl rfl laid (by rw [Tryz.params3]; kernel_rfl) hb Tryz.underlying4 (by kernel_rfl)⟩

theorem over : Rows.storeNoneRow.holds Tryz.pinned (OpenSpec.ofChange Rows.storeNoneSpec) :=
  OpenClaim.holds_of_wide 3 Tryz.f3 rfl rfl rfl rfl rfl rfl rfl ⟨rfl, rfl, rfl, rfl, rfl⟩ rfl rfl rfl rfl rfl (by kernel_rfl) Tryz.func3 (by kernel_rfl)
    (of_decide_eq_true (by kernel_rfl)) (by unfold Func.isWrapper; first | (rw [if_pos (by decide +kernel)]; kernel_rfl) | (rw [if_neg (by decide +kernel)]; exact ⟨rfl, rfl⟩))
    (fun os started H enc _ => lifted os started H enc)

/-- The statement. -/
theorem proved : Rows.StoreNoneCardSaid :=
  Claim7.holds_tied_plain_at .later [] [.data, .pinned] true (true, "2222c8ffc2c7a181b8091b8b17ac3abe78ddc171818bd67e42b4af8dfa894c90") false over (fun _ h => by cases h) (by kernel_rfl) (fun _ h => by cases h) storeNone_row_tie rfl ⟨rfl, rfl⟩ (by kernel_rfl) rfl
    (fun f fn hf hfn => by
      obtain rfl : f = 3 := Option.some.inj ((show Tryz.prog.funcNamed "tidepool/tidepoollaw16.StoreNone" = some 3 by kernel_rfl).symm.trans hf) |>.symm
      obtain rfl : fn = Tryz.f3 := (Option.some.inj (Tryz.func3.symm.trans hfn)).symm
      exact ⟨by kernel_rfl, fun j t ht => by
        rw [Tryz.params3] at ht
        have hm : t ∈ [27, 29, 30] := by simpa using Array.mem_of_getElem? ht
        have hall : ([27, 29, 30].all fun u => !Tryz.prog.wantsStandIn u) = true := by kernel_rfl
        exact (show Tryz.prog.wantsStandIn t = false by simpa using List.all_eq_true.1 hall t hm)⟩)
    (by kernel_rfl)
#print axioms proved
end Go.Proofs.YtnfimpnakkngbadGreatDoor.lawStoreNone
