/- The law ReplyPuts answers true at every input, and leaves its arguments as they were. No condition of its own. -/
import Derived.Test.YtcgkdegokfkgjaaK8
import Derived.Test.YtcgkdegokfkgjaaE42
import Derived.ProofKit
set_option linter.unusedVariables false
namespace Go.Proofs.Ytcgkdegokfkgjaa.lawReplyPuts
open Go Go.Ev Go.ChangeShapes Go.WideShapes Go.ChangeAt Go.RowKit Go.Proofs.Ytcgkdegokfkgjaa.Ctr

theorem own : ownKnob Try.prog.godebug = none := by kernel_rfl
theorem k_law : HcOk env Om h_replyPuts :=
  hc_step (E := env) (cs := H5) om_upd e_ok orders h5_ok (n := 1000000) (by kernel_rfl) (fcMath1 (T := T_replyPuts) r_replyPuts fun ω hω hn => by
    have hn := hn
    simp only [h_replyPuts, dB, den, dens, prim, toB_vb, toI_vi, cmpI_leq, decide_eq_true_eq, Bool.and_eq_true] at hn
    obtain ⟨⟨⟨⟨⟨p4, p5⟩, p6⟩, p7⟩, p8⟩, p9⟩ := hn
    exact (t_replyPuts (om_f hω) ⟨p4, p5, p6, p7, p8, p9⟩).trans (by simp only [h_replyPuts, dens, den]))
def sh : List Sh := [.col (.int .u8), .col (.int .u32), .col (.int .u16), .col .bool, .col (.int .u64), .col (.int .u64), .col (.int .u64), .col (.int .u64), .col (.int .u64), .col (.int .u64), .sl [.str, .int .i64, .int .i64, .int .i64, .int .i64, .int .i64, .int .i64], .sl [.str, .int .i64, .int .i64]]
def resHolds (r : Res) : Bool := match resNeed r with
  | some (_, .obool (.cb true)) => true
  | _ => false
theorem shOk : ([28, 28].all fun t => match shT Try.prog 20 t with
    | some l => Nat.beq l.length 12
    | none => false) = true := by kernel_rfl
theorem ans : resNeed (fcHook h_replyPuts.c h_replyPuts.nv h_replyPuts.c.args h_replyPuts.c.heap) = some (h_replyPuts.c.need, .obool (.cb true)) := by kernel_rfl
set_option maxRecDepth 100000 in
theorem walk {H : Type} {enc : TypeId × Value → H} {W : World} {base : Nat} {args : Array Value} {ds : List (DataW H)} {p : List MemPlace} (hA : DataW.TrodAll enc Try.prog W 0 (fun _ => true) true (#[28, 28] : Array TypeId).toList args.toList ds p) (hthaw : Thaw W p)
    (hval : ∀ (j : Nat) t v, (#[28, 28] : Array TypeId)[j]? = some t → args.toList[j]? = some v → Value.okWide Try.prog W .any base t v) :
    Calls Try.prog 3 args W fun e W' => e = .returned (.bool true) ∧ Below W.heap.size W W' := by
  obtain ⟨v0, vs0, d0, ds0, p0, q0, e0, rfl, rfl, h0, r0⟩ := trodAll_cons hA
  obtain ⟨v1, vs1, d1, ds1, p1, q1, e1, rfl, rfl, h1, r1⟩ := trodAll_cons r0
  obtain ⟨e2, rfl, rfl⟩ := trodAll_nil r1
  have hs0 := hval 0 _ v0 rfl (by rw [e0]; rfl)
  have hs1 := hval 1 _ v1 rfl (by rw [e0, e1]; rfl)
  obtain ⟨n0, t0⟩ := h0
  obtain ⟨n1, t1⟩ := h1
  have f0 : fitsG (fitS W) sh v0.cells.toList := trod_sh (m := 20) (by kernel_rfl) t0 (fun b off hm => hthaw b off (by simp [hm]))
  have f1 : fitsG (fitS W) sh v1.cells.toList := trod_sh (m := 20) (by kernel_rfl) t1 (fun b off hm => hthaw b off (by simp [hm]))
  obtain ⟨c0, rfl⟩ := structAgg (by kernel_rfl) hs0
  obtain ⟨c1, rfl⟩ := structAgg (by kernel_rfl) hs1
  have g0 := fitsG_length f0
  have hfit := fitsG_app f0 f1
  have hu : args = [Value.agg c0, Value.agg c1].toArray := by rw [← e2, ← e1, ← e0]
  rw [hu]
  refine law_run (x := h_replyPuts) (F := F) k_law (by kernel_rfl) hfit (by kernel_rfl) (by kernel_rfl) (fun β ω hv => ?_) ans ?_
  · have a := VRs.take 12 hv
    have b := VRs.drop 12 hv
    rw [show (Value.agg c0).cells.toList = c0.toList from rfl, show (Value.agg c1).cells.toList = c1.toList from rfl] at a b
    have g0' : c0.toList.length = 12 := g0
    rw [show (12 : Nat) = c0.toList.length by rw [g0'], List.take_left] at a
    rw [show (12 : Nat) = c0.toList.length by rw [g0'], List.drop_left] at b
    rw [g0'] at a b
    exact ⟨_, _, rfl, ⟨c0, rfl, a⟩, _, _, rfl, ⟨c1, rfl, b⟩, rfl⟩
  · simp only [h_replyPuts, dB, den, dens, prim, toB_vb, toI_vi, cmpI_leq, decide_eq_true_eq, Bool.and_eq_true]
    exact ⟨⟨⟨⟨⟨sym_min hfit (i := 4) (k := .u64) rfl, sym_min hfit (i := 5) (k := .u64) rfl⟩, sym_min hfit (i := 6) (k := .u64) rfl⟩, sym_min hfit (i := 7) (k := .u64) rfl⟩, sym_min hfit (i := 8) (k := .u64) rfl⟩, sym_min hfit (i := 9) (k := .u64) rfl⟩

theorem laid : laidOutB Try.prog = true := by kernel_rfl
set_option maxRecDepth 100000 in
theorem lifted (os : Os) (started : os.Started) (H : Type) (enc : TypeId × Value → H) :
    ReturnsInHanded {} Try.checked os 3 .any (Rows.replyPutsSpec.pre6 enc Try.prog Try.f3 Rows.replyPutsRow.domain false) (Rows.replyPutsSpec.post enc Try.prog Try.f3 false true false false) := by
  refine returnsInHanded_of_change (C := Try.checked) own started (by kernel_rfl) Try.func3
    (ChangeSpec.witness6 (enc := enc) (C := Try.checked) false ⟨#[], #[.agg #[.int .u8 0, .int .u32 0, .int .u16 0, .bool false, .int .u64 0, .int .u64 0, .int .u64 0, .int .u64 0, .int .u64 0, .int .u64 0, .slice none 0 0, .slice none 0 0], .agg #[.int .u8 0, .int .u32 0, .int .u16 0, .bool false, .int .u64 0, .int .u64 0, .int .u64 0, .int .u64 0, .int .u64 0, .int .u64 0, .slice none 0 0, .slice none 0 0]], []⟩ 8 (by kernel_rfl) (by kernel_rfl) (by kernel_rfl) (by kernel_rfl)) ?_
  intro W base args ds gs before hval0 hW hcnd _
  have hval : ∀ (j : Nat) t v, Try.f3.params[j]? = some t → args[j]? = some v → Value.okWide Try.prog W .any base t v := hval0
  have hW' := hW
  obtain ⟨p, q, hA0, hV, rfl, hfz, hnd⟩ := hW
  have hA : DataW.TrodAll enc Try.prog W 0 (fun _ => true) true Try.f3.params.toList args.toList ds p := hA0
  obtain ⟨rfl, rfl⟩ := trodVars_none hV
  rw [Try.params3] at hA hval
  have hthaw : Thaw W p := fun b off hm => hfz b off (by simpa using hm)
  refine (walk hA hthaw (fun j t v h1 h2 => hval j t v (by simpa using h1) (by simpa using h2))).mono fun e W' ⟨he, hb⟩ => ?_
  subst he
  obtain ⟨v0, vs0, d0, ds0, p0, q0, e0, rfl, rfl, h0, r0⟩ := trodAll_cons hA
  obtain ⟨v1, vs1, d1, ds1, p1, q1, e1, rfl, rfl, h1, r1⟩ := trodAll_cons r0
  obtain ⟨e2, rfl, rfl⟩ := trodAll_nil r1
  exact ⟨_, rfl, post_law hW' rfl rfl laid (by rw [Try.params3]; kernel_rfl) hb Try.underlying4 (by kernel_rfl)⟩

theorem over : Rows.replyPutsRow.holds Try.pinned (OpenSpec.ofChange Rows.replyPutsSpec) :=
  OpenClaim.holds_of_wide 3 Try.f3 rfl rfl rfl rfl rfl rfl rfl ⟨rfl, rfl, rfl, rfl, rfl⟩ rfl rfl rfl rfl rfl (by kernel_rfl) Try.func3 (by kernel_rfl)
    (of_decide_eq_true (by kernel_rfl)) (by unfold Func.isWrapper; first | (rw [if_pos (by decide +kernel)]; kernel_rfl) | (rw [if_neg (by decide +kernel)]; exact ⟨rfl, rfl⟩))
    (fun os started H enc _ => lifted os started H enc)

/-- The statement. -/
theorem proved : Rows.ReplyPutsSaid := over
#print axioms proved
end Go.Proofs.Ytcgkdegokfkgjaa.lawReplyPuts
