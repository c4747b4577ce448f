/- The law DeltaDiffs answers true at every input, and leaves its arguments as they were. No condition of its own. -/
import Derived.Test.YtogkkhiaddpjpaaK8
import Derived.Test.YtogkkhiaddpjpaaE42
import Derived.ProofKit
set_option linter.unusedVariables false
namespace Go.Proofs.Ytogkkhiaddpjpaa.lawDeltaDiffs
open Go Go.Ev Go.ChangeShapes Go.WideShapes Go.ChangeAt Go.RowKit Go.Proofs.Ytogkkhiaddpjpaa.Ctr

theorem own : ownKnob Try.prog.godebug = none := by kernel_rfl
theorem sliceVal {P : Program} {w : World} {r : Reach} {b : Nat} {t : TypeId} {v : Value} (h : sliceT P t = true) (hv : Value.okWide P w r b t v) : v.cells.toList = [v] := by
  obtain ⟨e, he⟩ := sliceT_at h
  unfold Value.okWide at hv
  simp only [he] at hv
  unfold Cell.okWide at hv
  simp only [he] at hv
  unfold Cell.ok at hv
  simp only [he] at hv
  cases v <;> first | rfl | (exfalso; simp at hv)
theorem k_law : HcOk env Om h_deltaDiffs :=
  hc_step (E := env) (cs := H4) om_upd e_ok orders h4_ok (n := 1000000) (by kernel_rfl) (fcMath1 (T := T_deltaDiffs) r_deltaDiffs fun ω hω hn => by
    exact (t_deltaDiffs (om_f hω)).trans (by simp only [h_deltaDiffs, dens, den]))
def sh : List Sh := [.sl [.str, .int .i64, .int .i64, .int .i64, .int .i64, .int .i64, .int .i64]]
theorem ans : resNeed (fcHook h_deltaDiffs.c h_deltaDiffs.nv h_deltaDiffs.c.args h_deltaDiffs.c.heap) = some (h_deltaDiffs.c.need, .obool (.cb true)) := by kernel_rfl
set_option maxRecDepth 100000 in
theorem walk {H : Type} {enc : TypeId × Value → H} {W : World} {base : Nat} {args : Array Value} {ds : List (DataW H)} {p : List MemPlace} (hA : DataW.TrodAll enc Try.prog W 0 (fun _ => true) true (#[22, 22] : Array TypeId).toList args.toList ds p) (hthaw : Thaw W p)
    (hval : ∀ (j : Nat) t v, (#[22, 22] : Array TypeId)[j]? = some t → args.toList[j]? = some v → Value.okWide Try.prog W .any base t v) :
    Calls Try.prog 3 args W fun e W' => e = .returned (.bool true) ∧ Below W.heap.size W W' := by
  obtain ⟨v0, vs0, d0, ds0, p0, q0, e0, rfl, rfl, h0, r0⟩ := trodAll_cons hA
  obtain ⟨v1, vs1, d1, ds1, p1, q1, e1, rfl, rfl, h1, r1⟩ := trodAll_cons r0
  obtain ⟨e2, rfl, rfl⟩ := trodAll_nil r1
  have hs0 := hval 0 _ v0 rfl (by rw [e0]; rfl)
  have hs1 := hval 1 _ v1 rfl (by rw [e0, e1]; rfl)
  obtain ⟨n0, t0⟩ := h0
  obtain ⟨n1, t1⟩ := h1
  have f0 : fitsG (fitS W) sh v0.cells.toList := trod_sh (m := 20) (by kernel_rfl) t0 (fun b off hm => hthaw b off (by simp [hm]))
  have f1 : fitsG (fitS W) sh v1.cells.toList := trod_sh (m := 20) (by kernel_rfl) t1 (fun b off hm => hthaw b off (by simp [hm]))
  have hc0 := sliceVal (by kernel_rfl) hs0
  have hc1 := sliceVal (by kernel_rfl) hs1
  have hfit := fitsG_app f0 f1
  rw [hc0, hc1] at hfit
  have hu : args = [v0, v1].toArray := by rw [← e2, ← e1, ← e0]
  rw [hu]
  exact law_run (x := h_deltaDiffs) (F := F) k_law (by kernel_rfl) hfit (by kernel_rfl) (by kernel_rfl) (fun β ω hv => hv) ans rfl

theorem laid : laidOutB Try.prog = true := by kernel_rfl
set_option maxRecDepth 100000 in
theorem lifted (os : Os) (started : os.Started) (H : Type) (enc : TypeId × Value → H) :
    ReturnsInHanded {} Try.checked os 3 .any (Rows.deltaDiffsSpec.pre6 enc Try.prog Try.f3 Rows.deltaDiffsRow.domain false) (Rows.deltaDiffsSpec.post enc Try.prog Try.f3 false true false false) := by
  refine returnsInHanded_of_change (C := Try.checked) own started (by kernel_rfl) Try.func3
    (ChangeSpec.witness6 (enc := enc) (C := Try.checked) false ⟨#[], #[.slice none 0 0, .slice none 0 0], []⟩ 8 (by kernel_rfl) (by kernel_rfl) (by kernel_rfl) (by kernel_rfl)) ?_
  intro W base args ds gs before hval0 hW hcnd _
  have hval : ∀ (j : Nat) t v, Try.f3.params[j]? = some t → args[j]? = some v → Value.okWide Try.prog W .any base t v := hval0
  have hW' := hW
  obtain ⟨p, q, hA0, hV, rfl, hfz, hnd⟩ := hW
  have hA : DataW.TrodAll enc Try.prog W 0 (fun _ => true) true Try.f3.params.toList args.toList ds p := hA0
  obtain ⟨rfl, rfl⟩ := trodVars_none hV
  rw [Try.params3] at hA hval
  have hthaw : Thaw W p := fun b off hm => hfz b off (by simpa using hm)
  refine (walk hA hthaw (fun j t v h1 h2 => hval j t v (by simpa using h1) (by simpa using h2))).mono fun e W' ⟨he, hb⟩ => ?_
  subst he
  obtain ⟨v0, vs0, d0, ds0, p0, q0, e0, rfl, rfl, h0, r0⟩ := trodAll_cons hA
  obtain ⟨v1, vs1, d1, ds1, p1, q1, e1, rfl, rfl, h1, r1⟩ := trodAll_cons r0
  obtain ⟨e2, rfl, rfl⟩ := trodAll_nil r1
  exact ⟨_, rfl, post_law hW' rfl rfl laid (by rw [Try.params3]; kernel_rfl) hb Try.underlying4 (by kernel_rfl)⟩

theorem over : Rows.deltaDiffsRow.holds Try.pinned (OpenSpec.ofChange Rows.deltaDiffsSpec) :=
  OpenClaim.holds_of_wide 3 Try.f3 rfl rfl rfl rfl rfl rfl rfl ⟨rfl, rfl, rfl, rfl, rfl⟩ rfl rfl rfl rfl rfl (by kernel_rfl) Try.func3 (by kernel_rfl)
    (of_decide_eq_true (by kernel_rfl)) (by unfold Func.isWrapper; first | (rw [if_pos (by decide +kernel)]; kernel_rfl) | (rw [if_neg (by decide +kernel)]; exact ⟨rfl, rfl⟩))
    (fun os started H enc _ => lifted os started H enc)

/-- The statement. -/
theorem proved : Rows.DeltaDiffsSaid := over
#print axioms proved
end Go.Proofs.Ytogkkhiaddpjpaa.lawDeltaDiffs
