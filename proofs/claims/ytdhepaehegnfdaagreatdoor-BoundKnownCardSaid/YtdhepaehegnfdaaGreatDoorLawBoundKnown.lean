/- The law BoundKnown answers true at every input, and leaves its arguments as they were. No condition of its own. -/
import Derived.Test.YtdhepaehegnfdaaGreatDoorK8
import Derived.Test.YtdhepaehegnfdaaGreatDoorE42
import Derived.Test.YtdhepaehegnfdaaGreatDoorCards
import Derived.Test.YtdhepaehegnfdaaGreatDoorTie
import Derived.Lay
import Derived.LaidOnce
import Derived.SevenTiedAt
import Derived.ProofKit
set_option linter.unusedVariables false
namespace Go.Proofs.YtdhepaehegnfdaaGreatDoor.lawBoundKnown
open Go Go.Ev Go.ChangeShapes Go.WideShapes Go.ChangeAt Go.RowKit Go.Proofs.YtdhepaehegnfdaaGreatDoor.Ctr
theorem own : ownKnob Tryz.prog.godebug = none := by kernel_rfl
theorem k_law : C5 env Om h_boundKnown :=
 n8 (E := env) (cs := H8) om_upd e_ok orders h8_ok (n := 1000000) (by kernel_rfl) (o9 (T := P8) r_boundKnown fun ω hω hn => by
   exact (aY9 (om_f hω)).trans (by simp only [h_boundKnown, k5, den]))
theorem ans : ad0 (K1 h_boundKnown.c h_boundKnown.nv h_boundKnown.c.args h_boundKnown.c.heap) = some (h_boundKnown.c.need, .obool (.cb true)) := by kernel_rfl
set_option maxRecDepth 100000 in
theorem walk {H : Type} {enc : TypeId × Value → H} {W : World} {base : Nat} {args : Array Value} {ds : List (DataW H)} {p : List MemPlace} (hA : DataW.TrodAll enc Tryz.prog W 0 (fun _ => true) true (#[] : Array TypeId).toList args.toList ds p) (hthaw : cG2 W p)
 (hval : ∀ (j : Nat) t v, (#[] : Array TypeId)[j]? = some t → args.toList[j]? = some v → Value.okWide Tryz.prog W .any base t v) :
 Calls Tryz.prog 3 args W fun e W' => e = .returned (.bool true) ∧ Below W.heap.size W W' := by
 obtain ⟨e0, rfl, rfl⟩ := trodAll_nil hA
 have hu : args = ([] : List Value).toArray := by rw [← e0]
 have hfit : aK1 (cr6 W) ([] : List Sh) ([] : List Value) := rfl
 rw [hu]
 exact ce5 (x := h_boundKnown) (F := F) k_law (by kernel_rfl) hfit (by kernel_rfl) (by kernel_rfl) (fun β ω hv => hv) ans rfl
theorem laid : laidOutB Tryz.prog = true := by kernel_rfl
def tables : List (String × DataW Unit) := [("unicode/utf8.acceptRanges", Rows.laid_unicode_utf8_acceptRanges), ("unicode/utf8.first", Rows.laid_unicode_utf8_first)]
set_option maxRecDepth 100000 in
theorem lifted (os : Os) (started : os.Started) (H : Type) (enc : TypeId × Value → H) :
 ReturnsInHanded {} Tryz.checked os 3 .any (fun w args => (Rows.boundKnownSpec.pre enc Tryz.prog Tryz.f3 [] false w args ∧ laidMetH Tryz.prog tables w) ∧ sizedMet enc Tryz.prog Tryz.f3 (OpenSpec.ofChange Rows.boundKnownSpec) false w args)
  (Rows.boundKnownSpec.post enc Tryz.prog Tryz.f3 false true false false) := by
 refine returnsInHanded_of_change_and (C := Tryz.checked) (X := fun w _ => laidMetH Tryz.prog tables w) (fun _ _ _ hh h => h.of_heap hh) own started (by kernel_rfl) Tryz.func3
   (ChangeSpec.witness_shaped (enc := enc) (C := Tryz.checked) (os := os) (X := fun w _ => laidMetH Tryz.prog tables w) false (World.laidAll Tryz.prog os tables) #[] 8 (World.laidAll_os _ _ _)
    (World.shaped_of_ZipB (by kernel_rfl) (by kernel_rfl)) (by kernel_rfl) (by kernel_rfl) (by kernel_rfl)
    (by rw [MakeChecks.laidMetH_plain _ _ _ (by kernel_rfl)]; exact laidMet_laidAll _ (by kernel_rfl) (by kernel_rfl))) ?_
 intro W base args ds gs before hval0 hW _ _ hL _
 have hval : ∀ (j : Nat) t v, Tryz.f3.params[j]? = some t → args[j]? = some v → Value.okWide Tryz.prog W .any base t v := hval0
 have hW' := hW
 obtain ⟨p, q, hA0, hV, rfl, hfz, hnd⟩ := hW
 have hA : DataW.TrodAll enc Tryz.prog W 0 (fun _ => true) true Tryz.f3.params.toList args.toList ds p := hA0
 obtain ⟨rfl, rfl⟩ := trodVars_none hV
 rw [Tryz.params3] at hA hval
 have hthaw : cG2 W p := fun b off hm => hfz b off (by simpa using hm)
 refine (walk hA hthaw (fun j t v h1 h2 => hval j t v (by simp at h1) (by simp at h1))).mono fun e W' ⟨he, hb⟩ => ?_
 subst he
 obtain ⟨e0, rfl, rfl⟩ := trodAll_nil hA
 exact ⟨_, rfl, bW3 hW' rfl rfl laid (by rw [Tryz.params3]; kernel_rfl) hb Tryz.underlying4 (by kernel_rfl)⟩
theorem over : Rows.boundKnownRow.holds Tryz.pinned (OpenSpec.ofChange Rows.boundKnownSpec) :=
 OpenClaim.holds_of_wide 3 Tryz.f3 rfl rfl rfl rfl rfl rfl rfl ⟨rfl, rfl, rfl, rfl, rfl⟩ rfl rfl rfl rfl rfl (by kernel_rfl) Tryz.func3 (by kernel_rfl)
   (of_decide_eq_true (by kernel_rfl)) (by unfold Func.isWrapper; first | (rw [if_pos (by decide +kernel)]; kernel_rfl) | (rw [if_neg (by decide +kernel)]; exact ⟨rfl, rfl⟩))
   (fun os started H enc _ => lifted os started H enc)
theorem proved : Rows.BoundKnownCardSaid :=
 Claim7.holds_tied_plain_at .later [] [.data, .pinned] true (true, "7bf7ba6b43c8b5614621dccf15d6d08bf2fa63b9500181132daf065d14e18c01") false over (fun _ h => by cases h) (by kernel_rfl) (fun _ h => by cases h) boundKnown_row_tie rfl ⟨rfl, rfl⟩ (by kernel_rfl) rfl
   (fun f fn hf hfn => by
    obtain rfl : f = 3 := Option.some.inj ((show Tryz.prog.funcNamed "tidepool/tidepoollaw10.BoundKnown" = some 3 by kernel_rfl).symm.trans hf) |>.symm
    obtain rfl : fn = Tryz.f3 := (Option.some.inj (Tryz.func3.symm.trans hfn)).symm
    exact ⟨by kernel_rfl, fun j t ht => by
      rw [Tryz.params3] at ht
      have hm : t ∈ [] := by simpa using Array.mem_of_getElem? ht
      have hall : ([].all fun u => !Tryz.prog.wantsStandIn u) = true := by kernel_rfl
      exact (show Tryz.prog.wantsStandIn t = false by simpa using List.all_eq_true.1 hall t hm)⟩)
   (by kernel_rfl)
#print axioms proved
end Go.Proofs.YtdhepaehegnfdaaGreatDoor.lawBoundKnown
