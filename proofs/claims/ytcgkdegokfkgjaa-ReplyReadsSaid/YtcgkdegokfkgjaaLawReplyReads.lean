/- The law ReplyReads answers true at every input, and leaves its arguments as they were. No condition of its own. -/
import Derived.Test.YtcgkdegokfkgjaaK8
import Derived.Test.YtcgkdegokfkgjaaE42
import Derived.ProofKit
set_option linter.unusedVariables false
namespace Go.Proofs.Ytcgkdegokfkgjaa.lawReplyReads
open Go Go.Ev Go.ChangeShapes Go.WideShapes Go.ChangeAt Go.RowKit Go.Proofs.Ytcgkdegokfkgjaa.Ctr

theorem own : ownKnob Try.prog.godebug = none := by kernel_rfl
theorem sliceVal {P : Program} {w : World} {r : Reach} {b : Nat} {t : TypeId} {v : Value} (h : sliceT P t = true) (hv : Value.okWide P w r b t v) : v.cells.toList = [v] := by
  obtain ⟨e, he⟩ := sliceT_at h
  unfold Value.okWide at hv
  simp only [he] at hv
  unfold Cell.okWide at hv
  simp only [he] at hv
  unfold Cell.ok at hv
  simp only [he] at hv
  cases v <;> first | rfl | (exfalso; simp at hv)
theorem sym_bytes {w : World} {v : Value} (h : fitS w (.sl [.int .u8]) v) : ((symV w (.sl [.int .u8]) v).toL.all fun r => decide (0 ≤ (r.toL.getD 0 default).toI) && decide ((r.toL.getD 0 default).toI < 256)) = true := by
  rcases h with rfl | ⟨a, len, cap, rfl, _, _, hi, _⟩
  · rfl
  · show ((rowsV w 1 a len).all _) = true
    rw [List.all_eq_true]
    intro r hr
    obtain ⟨i, h1, rfl⟩ := List.mem_map.1 hr
    obtain ⟨vs, h2, h3⟩ := hi i (List.mem_range.1 h1)
    obtain ⟨x, q, e, ⟨n, rfl, h4, h5⟩, h6⟩ := h3
    have h2' : w.cells? 0 (a.add (i * 1)) 1 = some vs := h2
    rw [h2', e]
    have h4 : 0 ≤ n := h4
    have h5 : n ≤ 255 := h5
    show (decide (0 ≤ n) && decide (n < 256)) = true
    rw [decide_eq_true h4, decide_eq_true (by omega)]; rfl
theorem k_law : HcOk env Om h_replyReads :=
  hc_step (E := env) (cs := H7) om_upd e_ok orders h7_ok (n := 1000000) (by kernel_rfl) (fcMath1 (T := T_replyReads) r_replyReads fun ω hω hn => by
    have hn := hn
    simp only [h_replyReads, dB, den, dens, bok_prim, toB_vb] at hn
    exact (t_replyReads (om_f hω) hn).trans (by simp only [h_replyReads, dens, den]))
def sh : List Sh := [.sl [.int .u8]]
theorem ans : resNeed (fcHook h_replyReads.c h_replyReads.nv h_replyReads.c.args h_replyReads.c.heap) = some (h_replyReads.c.need, .obool (.cb true)) := by kernel_rfl
set_option maxRecDepth 100000 in
theorem walk {H : Type} {enc : TypeId × Value → H} {W : World} {base : Nat} {args : Array Value} {ds : List (DataW H)} {p : List MemPlace} (hA : DataW.TrodAll enc Try.prog W 0 (fun _ => true) true (#[36] : Array TypeId).toList args.toList ds p) (hthaw : Thaw W p)
    (hval : ∀ (j : Nat) t v, (#[36] : Array TypeId)[j]? = some t → args.toList[j]? = some v → Value.okWide Try.prog W .any base t v) :
    Calls Try.prog 4 args W fun e W' => e = .returned (.bool true) ∧ Below W.heap.size W W' := by
  obtain ⟨v0, vs0, d0, ds0, p0, q0, e0, rfl, rfl, h0, r0⟩ := trodAll_cons hA
  obtain ⟨e1, rfl, rfl⟩ := trodAll_nil r0
  have hs0 := hval 0 _ v0 rfl (by rw [e0]; rfl)
  obtain ⟨n0, t0⟩ := h0
  have f0 : fitsG (fitS W) sh v0.cells.toList := trod_sh (m := 20) (by kernel_rfl) t0 (fun b off hm => hthaw b off (by simp [hm]))
  have hc := sliceVal (by kernel_rfl) hs0
  rw [hc] at f0
  have hu : args = [v0].toArray := by rw [← e1, ← e0]
  rw [hu]
  refine law_run (x := h_replyReads) (F := F) k_law (by kernel_rfl) f0 (by kernel_rfl) (by kernel_rfl) (fun β ω hv => hv) ans ?_
  obtain ⟨u, ur, e, hf, _⟩ := f0
  obtain ⟨rfl, rfl⟩ := List.cons.inj e
  exact sym_bytes hf

theorem laid : laidOutB Try.prog = true := by kernel_rfl
set_option maxRecDepth 100000 in
theorem lifted (os : Os) (started : os.Started) (H : Type) (enc : TypeId × Value → H) :
    ReturnsInHanded {} Try.checked os 4 .any (Rows.replyReadsSpec.pre6 enc Try.prog Try.f4 Rows.replyReadsRow.domain false) (Rows.replyReadsSpec.post enc Try.prog Try.f4 false true false false) := by
  refine returnsInHanded_of_change (C := Try.checked) own started (by kernel_rfl) Try.func4
    (ChangeSpec.witness6 (enc := enc) (C := Try.checked) false ⟨#[], #[.slice none 0 0], []⟩ 8 (by kernel_rfl) (by kernel_rfl) (by kernel_rfl) (by kernel_rfl)) ?_
  intro W base args ds gs before hval0 hW hcnd _
  have hval : ∀ (j : Nat) t v, Try.f4.params[j]? = some t → args[j]? = some v → Value.okWide Try.prog W .any base t v := hval0
  have hW' := hW
  obtain ⟨p, q, hA0, hV, rfl, hfz, hnd⟩ := hW
  have hA : DataW.TrodAll enc Try.prog W 0 (fun _ => true) true Try.f4.params.toList args.toList ds p := hA0
  obtain ⟨rfl, rfl⟩ := trodVars_none hV
  rw [Try.params4] at hA hval
  have hthaw : Thaw W p := fun b off hm => hfz b off (by simpa using hm)
  refine (walk hA hthaw (fun j t v h1 h2 => hval j t v (by simpa using h1) (by simpa using h2))).mono fun e W' ⟨he, hb⟩ => ?_
  subst he
  obtain ⟨v0, vs0, d0, ds0, p0, q0, e0, rfl, rfl, h0, r0⟩ := trodAll_cons hA
  obtain ⟨e1, rfl, rfl⟩ := trodAll_nil r0
  exact ⟨_, rfl, post_law hW' rfl rfl laid (by rw [Try.params4]; kernel_rfl) hb Try.underlying4 (by kernel_rfl)⟩

theorem over : Rows.replyReadsRow.holds Try.pinned (OpenSpec.ofChange Rows.replyReadsSpec) :=
  OpenClaim.holds_of_wide 4 Try.f4 rfl rfl rfl rfl rfl rfl rfl ⟨rfl, rfl, rfl, rfl, rfl⟩ rfl rfl rfl rfl rfl (by kernel_rfl) Try.func4 (by kernel_rfl)
    (of_decide_eq_true (by kernel_rfl)) (by unfold Func.isWrapper; first | (rw [if_pos (by decide +kernel)]; kernel_rfl) | (rw [if_neg (by decide +kernel)]; exact ⟨rfl, rfl⟩))
    (fun os started H enc _ => lifted os started H enc)

/-- The statement. -/
theorem proved : Rows.ReplyReadsSaid := over
#print axioms proved
end Go.Proofs.Ytcgkdegokfkgjaa.lawReplyReads
