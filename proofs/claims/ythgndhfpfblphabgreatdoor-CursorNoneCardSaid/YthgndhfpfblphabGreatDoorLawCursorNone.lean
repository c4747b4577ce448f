/- The law CursorNone answers true at every input, and leaves its arguments as they were. No condition of its own. -/
import Derived.Test.YthgndhfpfblphabGreatDoorK8
import Derived.Test.YthgndhfpfblphabGreatDoorE42
import Derived.Test.YthgndhfpfblphabGreatDoorCards
import Derived.Test.YthgndhfpfblphabGreatDoorTie
import Derived.Lay
import Derived.LaidOnce
import Derived.SevenTiedAt
import Derived.ProofKit
set_option linter.unusedVariables false
namespace Go.Proofs.YthgndhfpfblphabGreatDoor.lawCursorNone
open Go Go.Ev Go.ChangeShapes Go.WideShapes Go.ChangeAt Go.RowKit Go.Proofs.YthgndhfpfblphabGreatDoor.Ctr

theorem own : ownKnob Tryz.prog.godebug = none := by kernel_rfl
theorem k_law : HcOk env Om h_cursorNone :=
  hc_step (E := env) (cs := H4) om_upd e_ok orders h4_ok (n := 1000000) (by kernel_rfl) (fcMath1 (T := T_cursorNone) r_cursorNone fun ω hω hn => by
    exact (t_cursorNone (om_f hω)).trans (by simp only [h_cursorNone, dens, den]))
def sh : List Sh := [.col (.int .u8), .col .str, .col .str, .col (.int .i64), .col (.int .i64)]
def shI : List Sh := [.col (.int .u64)]
theorem intVal {P : Program} {w : World} {r : Reach} {b : Nat} {t : TypeId} {v : Value} (h : P.underlying t = some (.int .u64)) (hv : Value.okWide P w r b t v) : v.cells.toList = [v] := by
  unfold Value.okWide at hv
  simp only [h] at hv
  unfold Cell.okWide at hv
  simp only [h] at hv
  unfold Cell.ok at hv
  simp only [h] at hv
  cases v <;> first | rfl | (exfalso; simp at hv)
theorem ans : resNeed (fcHook h_cursorNone.c h_cursorNone.nv h_cursorNone.c.args h_cursorNone.c.heap) = some (h_cursorNone.c.need, .obool (.cb true)) := by kernel_rfl
set_option maxRecDepth 100000 in
theorem walk {H : Type} {enc : TypeId × Value → H} {W : World} {base : Nat} {args : Array Value} {ds : List (DataW H)} {p : List MemPlace} (hA : DataW.TrodAll enc Tryz.prog W 0 (fun _ => true) true (#[23, 24, 24] : Array TypeId).toList args.toList ds p) (hthaw : Thaw W p)
    (hval : ∀ (j : Nat) t v, (#[23, 24, 24] : Array TypeId)[j]? = some t → args.toList[j]? = some v → Value.okWide Tryz.prog W .any base t v) :
    Calls Tryz.prog 3 args W fun e W' => e = .returned (.bool true) ∧ Below W.heap.size W W' := by
  obtain ⟨v0, vs0, d0, ds0, p0, q0, e0, rfl, rfl, h0, r0⟩ := trodAll_cons hA
  obtain ⟨v1, vs1, d1, ds1, p1, q1, e1, rfl, rfl, h1, r1⟩ := trodAll_cons r0
  obtain ⟨v2, vs2, d2, ds2, p2, q2, e2, rfl, rfl, h2, r2⟩ := trodAll_cons r1
  obtain ⟨e3, rfl, rfl⟩ := trodAll_nil r2
  have hs0 := hval 0 _ v0 rfl (by rw [e0]; rfl)
  have hs1 := hval 1 _ v1 rfl (by rw [e0, e1]; rfl)
  have hs2 := hval 2 _ v2 rfl (by rw [e0, e1, e2]; rfl)
  obtain ⟨n0, t0⟩ := h0
  obtain ⟨n1, t1⟩ := h1
  obtain ⟨n2, t2⟩ := h2
  have f0 : fitsG (fitS W) sh v0.cells.toList := trod_sh (m := 20) (by kernel_rfl) t0 (fun b off hm => hthaw b off (by simp [hm]))
  have f1 : fitsG (fitS W) shI v1.cells.toList := trod_sh (m := 20) (by kernel_rfl) t1 (fun b off hm => hthaw b off (by simp [hm]))
  have f2 : fitsG (fitS W) shI v2.cells.toList := trod_sh (m := 20) (by kernel_rfl) t2 (fun b off hm => hthaw b off (by simp [hm]))
  obtain ⟨c0, rfl⟩ := structAgg (by kernel_rfl) hs0
  rw [intVal (by kernel_rfl) hs1] at f1
  rw [intVal (by kernel_rfl) hs2] at f2
  have g0 := fitsG_length f0
  have hfit := fitsG_app f0 (fitsG_app f1 f2)
  have hu : args = [Value.agg c0, v1, v2].toArray := by rw [← e3, ← e2, ← e1, ← e0]
  rw [hu]
  refine law_run (x := h_cursorNone) (F := F) k_law (by kernel_rfl) hfit (by kernel_rfl) (by kernel_rfl) (fun β ω hv => ?_) ans rfl
  have a := VRs.take 5 hv
  have b := VRs.drop 5 hv
  rw [show (Value.agg c0).cells.toList = c0.toList from rfl] at a b
  have g0' : c0.toList.length = 5 := g0
  rw [show (5 : Nat) = c0.toList.length by rw [g0'], List.take_left] at a
  rw [show (5 : Nat) = c0.toList.length by rw [g0'], List.drop_left] at b
  rw [g0'] at a b
  exact ⟨_, _, rfl, ⟨c0, rfl, a⟩, b⟩

theorem laid : laidOutB Tryz.prog = true := by kernel_rfl

def tables : List (String × DataW Unit) := [("unicode/utf8.acceptRanges", Rows.laid_unicode_utf8_acceptRanges), ("unicode/utf8.first", Rows.laid_unicode_utf8_first)]
set_option maxRecDepth 100000 in
theorem lifted (os : Os) (started : os.Started) (H : Type) (enc : TypeId × Value → H) :
    ReturnsInHanded {} Tryz.checked os 3 .any (fun w args => (Rows.cursorNoneSpec.pre enc Tryz.prog Tryz.f3 [] false w args ∧ laidMetH Tryz.prog tables w) ∧ sizedMet enc Tryz.prog Tryz.f3 (OpenSpec.ofChange Rows.cursorNoneSpec) false w args)
      (Rows.cursorNoneSpec.post enc Tryz.prog Tryz.f3 false true false false) := by
  refine returnsInHanded_of_change_and (C := Tryz.checked) (X := fun w _ => laidMetH Tryz.prog tables w) (fun _ _ _ hh h => h.of_heap hh) own started (by kernel_rfl) Tryz.func3
    (ChangeSpec.witness_shaped (enc := enc) (C := Tryz.checked) (os := os) (X := fun w _ => laidMetH Tryz.prog tables w) false (World.laidAll Tryz.prog os tables) #[.agg #[.int .u8 0, .string ⟨#[]⟩, .string ⟨#[]⟩, .int .i64 0, .int .i64 0], .int .u64 0, .int .u64 0] 8 (World.laidAll_os _ _ _)
      (World.shaped_of_ZipB (by kernel_rfl) (by kernel_rfl)) (by kernel_rfl) (by kernel_rfl) (by kernel_rfl)
      (by rw [MakeChecks.laidMetH_plain _ _ _ (by kernel_rfl)]; exact laidMet_laidAll _ (by kernel_rfl) (by kernel_rfl))) ?_
  intro W base args ds gs before hval0 hW _ _ hL _
  have hval : ∀ (j : Nat) t v, Tryz.f3.params[j]? = some t → args[j]? = some v → Value.okWide Tryz.prog W .any base t v := hval0
  have hW' := hW
  obtain ⟨p, q, hA0, hV, rfl, hfz, hnd⟩ := hW
  have hA : DataW.TrodAll enc Tryz.prog W 0 (fun _ => true) true Tryz.f3.params.toList args.toList ds p := hA0
  obtain ⟨rfl, rfl⟩ := trodVars_none hV
  rw [Tryz.params3] at hA hval
  have hthaw : Thaw W p := fun b off hm => hfz b off (by simpa using hm)
  refine (walk hA hthaw (fun j t v h1 h2 => hval j t v (by simpa using h1) (by simpa using h2))).mono fun e W' ⟨he, hb⟩ => ?_
  subst he
  obtain ⟨v0, vs0, d0, ds0, p0, q0, e0, rfl, rfl, h0, r0⟩ := trodAll_cons hA
  obtain ⟨v1, vs1, d1, ds1, p1, q1, e1, rfl, rfl, h1, r1⟩ := trodAll_cons r0
  obtain ⟨v2, vs2, d2, ds2, p2, q2, e2, rfl, rfl, h2, r2⟩ := trodAll_cons r1
  obtain ⟨e3, rfl, rfl⟩ := trodAll_nil r2
  exact ⟨_, rfl, post_law hW' rfl rfl laid (by rw [Tryz.params3]; kernel_rfl) hb Tryz.underlying4 (by kernel_rfl)⟩

theorem over : Rows.cursorNoneRow.holds Tryz.pinned (OpenSpec.ofChange Rows.cursorNoneSpec) :=
  OpenClaim.holds_of_wide 3 Tryz.f3 rfl rfl rfl rfl rfl rfl rfl ⟨rfl, rfl, rfl, rfl, rfl⟩ rfl rfl rfl rfl rfl (by kernel_rfl) Tryz.func3 (by kernel_rfl)
    (of_decide_eq_true (by kernel_rfl)) (by unfold Func.isWrapper; first | (rw [if_pos (by decide +kernel)]; kernel_rfl) | (rw [if_neg (by decide +kernel)]; exact ⟨rfl, rfl⟩))
    (fun os started H enc _ => lifted os started H enc)

/-- The statement. -/
theorem proved : Rows.CursorNoneCardSaid :=
  Claim7.holds_tied_plain_at .later [] [.data, .pinned] true (true, "5516b6ad8d44f3a00b4c2776c87c3fecc7b1d90fac5bcd50cbad77e27308c41b") false over (fun _ h => by cases h) (by kernel_rfl) (fun _ h => by cases h) cursorNone_row_tie rfl ⟨rfl, rfl⟩ (by kernel_rfl) rfl
    (fun f fn hf hfn => by
      obtain rfl : f = 3 := Option.some.inj ((show Tryz.prog.funcNamed "tidepool/tidepoollaw26.CursorNone" = some 3 by kernel_rfl).symm.trans hf) |>.symm
      obtain rfl : fn = Tryz.f3 := (Option.some.inj (Tryz.func3.symm.trans hfn)).symm
      exact ⟨by kernel_rfl, fun j t ht => by
        rw [Tryz.params3] at ht
        have hm : t ∈ [23, 24, 24] := by simpa using Array.mem_of_getElem? ht
        have hall : ([23, 24, 24].all fun u => !Tryz.prog.wantsStandIn u) = true := by kernel_rfl
        exact (show Tryz.prog.wantsStandIn t = false by simpa using List.all_eq_true.1 hall t hm)⟩)
    (by kernel_rfl)
#print axioms proved
end Go.Proofs.YthgndhfpfblphabGreatDoor.lawCursorNone
