/- The law BoundSorts answers true at every input, and leaves its arguments as they were. No condition of its own. -/
import Derived.Test.YthgndhfpfblphaaDoorK8
import Derived.Test.YthgndhfpfblphaaDoorE42
import Derived.Test.YthgndhfpfblphaaDoorCards
import Derived.Test.YthgndhfpfblphaaDoorTie
import Derived.Lay
import Derived.LaidOnce
import Derived.SevenTiedAt
import Derived.ProofKit
set_option linter.unusedVariables false
namespace Go.Proofs.YthgndhfpfblphaaDoor.lawBoundSorts
open Go Go.Ev Go.ChangeShapes Go.WideShapes Go.ChangeAt Go.RowKit Go.Proofs.YthgndhfpfblphaaDoor.Ctr

theorem own : ownKnob Tryd.prog.godebug = none := by kernel_rfl
section
variable {w : World}
theorem sliceVal {P : Program} {r : Reach} {b : Nat} {t : TypeId} {v : Value} (h : sliceT P t = true) (hv : Value.okWide P w r b t v) : v.cells.toList = [v] := by
  obtain ⟨e, he⟩ := sliceT_at h
  unfold Value.okWide at hv
  simp only [he] at hv
  unfold Cell.okWide at hv
  simp only [he] at hv
  unfold Cell.ok at hv
  simp only [he] at hv
  cases v <;> first | rfl | (exfalso; simp at hv)
theorem sym_at {L : List Sh} {cells : List Value} {i : Nat} {s : Sh} (hfit : fitsG (fitS w) L cells) (h : L[i]? = some s) : ∃ v, fitS w s v ∧ symV w (L.getD i (.col .bool)) (cells.getD i (.bool false)) = symV w s v := by
  have hl := fitsG_length hfit
  have hi := (List.getElem?_eq_some_iff.1 h).1
  refine ⟨_, fitsG_at hfit h (List.getElem?_eq_getElem (show i < cells.length by omega)), ?_⟩
  rw [List.getD_eq_getElem?_getD, h, List.getD_eq_getElem?_getD, List.getElem?_eq_getElem (show i < cells.length by omega)]; rfl
theorem sym_list {L : List Sh} {cells : List Value} {i : Nat} {sig : List CT} {q : Val → Bool} (hq : ∀ vs : List Value, fits sig vs → q (.vl (vs.map valV)) = true) (hfit : fitsG (fitS w) L cells) (h : L[i]? = some (.sl sig)) : (isL (symV w (L.getD i (.col .bool)) (cells.getD i (.bool false))) && (symV w (L.getD i (.col .bool)) (cells.getD i (.bool false))).toL.all q) = true := by
  obtain ⟨v, hf, e⟩ := sym_at hfit h
  rw [e]
  rcases hf with rfl | ⟨a, len, cap, rfl, _, _, hi, _⟩
  · rfl
  · show ((rowsV w sig.length a len).all q) = true
    rw [List.all_eq_true]
    intro r hr
    obtain ⟨i, h1, rfl⟩ := List.mem_map.1 hr
    obtain ⟨vs, h2, h3⟩ := hi i (List.mem_range.1 h1)
    rw [h2]
    exact hq vs h3
theorem i64_in {n : Int} (h1 : IntKind.i64.min ≤ n) (h2 : n ≤ IntKind.i64.max) : i64B n = true := by
  have h1 : -9223372036854775808 ≤ n := h1
  have h2 : n ≤ 9223372036854775807 := h2
  unfold i64B
  rw [decide_eq_true h1, decide_eq_true (by omega)]; rfl
theorem q_panes (vs : List Value) (h : fits [.str, .int .i64, .int .i64] vs) : okR (.vl (vs.map valV)) = true := by
  obtain ⟨x, q, rfl, ⟨s, rfl⟩, y, q, rfl, ⟨n1, rfl, a1, a2⟩, z, q, rfl, ⟨n2, rfl, b1, b2⟩, rfl⟩ := h
  show (i64B n1 && i64B n2) = true
  rw [i64_in a1 a2, i64_in b1 b2]; rfl
end
theorem k_law : HcOk env Om h_boundSorts :=
  hc_step (E := env) (cs := H7) om_upd e_ok orders h7_ok (n := 1000000) (by kernel_rfl) (fcMath1 (T := T_boundSorts) r_boundSorts fun ω hω hn => by
    have hn : (ω.f 309 [ω.w 5]).toB = true := hn
    rw [om_f hω] at hn
    exact (t_boundSorts (om_f hω) hn).trans (by simp only [h_boundSorts, dens, den]))
def sh : List Sh := [.col (.int .u8), .col .str, .col .str, .col (.int .i64), .col (.int .i64)]
def sh1 : List Sh := [.sl [.str, .int .i64, .int .i64]]
theorem ans : resNeed (fcHook h_boundSorts.c h_boundSorts.nv h_boundSorts.c.args h_boundSorts.c.heap) = some (h_boundSorts.c.need, .obool (.cb true)) := by kernel_rfl
set_option maxRecDepth 100000 in
theorem walk {H : Type} {enc : TypeId × Value → H} {W : World} {base : Nat} {args : Array Value} {ds : List (DataW H)} {p : List MemPlace} (hA : DataW.TrodAll enc Tryd.prog W 0 (fun _ => true) true (#[23, 24] : Array TypeId).toList args.toList ds p) (hthaw : Thaw W p)
    (hval : ∀ (j : Nat) t v, (#[23, 24] : Array TypeId)[j]? = some t → args.toList[j]? = some v → Value.okWide Tryd.prog W .any base t v) :
    Calls Tryd.prog 3 args W fun e W' => e = .returned (.bool true) ∧ Below W.heap.size W W' := by
  obtain ⟨v0, vs0, d0, ds0, p0, q0, e0, rfl, rfl, h0, r0⟩ := trodAll_cons hA
  obtain ⟨v1, vs1, d1, ds1, p1, q1, e1, rfl, rfl, h1, r1⟩ := trodAll_cons r0
  obtain ⟨e2, rfl, rfl⟩ := trodAll_nil r1
  have hs0 := hval 0 _ v0 rfl (by rw [e0]; rfl)
  have hs1 := hval 1 _ v1 rfl (by rw [e0, e1]; rfl)
  obtain ⟨n0, t0⟩ := h0
  obtain ⟨n1, t1⟩ := h1
  have f0 : fitsG (fitS W) sh v0.cells.toList := trod_sh (m := 20) (by kernel_rfl) t0 (fun b off hm => hthaw b off (by simp [hm]))
  have f1 : fitsG (fitS W) sh1 v1.cells.toList := trod_sh (m := 20) (by kernel_rfl) t1 (fun b off hm => hthaw b off (by simp [hm]))
  obtain ⟨c0, rfl⟩ := structAgg (by kernel_rfl) hs0
  rw [sliceVal (by kernel_rfl) hs1] at f1
  have g0 := fitsG_length f0
  have hfit := fitsG_app f0 f1
  have hu : args = [Value.agg c0, v1].toArray := by rw [← e2, ← e1, ← e0]
  rw [hu]
  refine law_run (x := h_boundSorts) (F := F) k_law (by kernel_rfl) hfit (by kernel_rfl) (by kernel_rfl) (fun β ω hv => ?_) ans ?_
  · have a := VRs.take 5 hv
    have b := VRs.drop 5 hv
    rw [show (Value.agg c0).cells.toList = c0.toList from rfl] at a b
    have g0' : c0.toList.length = 5 := g0
    rw [show (5 : Nat) = c0.toList.length by rw [g0'], List.take_left] at a
    rw [show (5 : Nat) = c0.toList.length by rw [g0'], List.drop_left] at b
    rw [g0'] at a b
    exact ⟨_, _, rfl, ⟨c0, rfl, a⟩, b⟩
  · exact sym_list (i := 5) q_panes hfit rfl

theorem laid : laidOutB Tryd.prog = true := by kernel_rfl

def tables : List (String × DataW Unit) := [("unicode/utf8.acceptRanges", Rows.laid_unicode_utf8_acceptRanges), ("unicode/utf8.first", Rows.laid_unicode_utf8_first)]
set_option maxRecDepth 100000 in
theorem lifted (os : Os) (started : os.Started) (H : Type) (enc : TypeId × Value → H) :
    ReturnsInHanded {} Tryd.checked os 3 .any (fun w args => (Rows.boundSortsSpec.pre enc Tryd.prog Tryd.f3 [] false w args ∧ laidMetH Tryd.prog tables w) ∧ sizedMet enc Tryd.prog Tryd.f3 (OpenSpec.ofChange Rows.boundSortsSpec) false w args)
      (Rows.boundSortsSpec.post enc Tryd.prog Tryd.f3 false true false false) := by
  refine returnsInHanded_of_change_and (C := Tryd.checked) (X := fun w _ => laidMetH Tryd.prog tables w) (fun _ _ _ hh h => h.of_heap hh) own started (by kernel_rfl) Tryd.func3
    (ChangeSpec.witness_shaped (enc := enc) (C := Tryd.checked) (os := os) (X := fun w _ => laidMetH Tryd.prog tables w) false (World.laidAll Tryd.prog os tables) #[.agg #[.int .u8 0, .string ⟨#[]⟩, .string ⟨#[]⟩, .int .i64 0, .int .i64 0], .slice none 0 0] 8 (World.laidAll_os _ _ _)
      (World.shaped_of_ZipB (by kernel_rfl) (by kernel_rfl)) (by kernel_rfl) (by kernel_rfl) (by kernel_rfl)
      (by rw [MakeChecks.laidMetH_plain _ _ _ (by kernel_rfl)]; exact laidMet_laidAll _ (by kernel_rfl) (by kernel_rfl))) ?_
  intro W base args ds gs before hval0 hW _ _ hL _
  have hval : ∀ (j : Nat) t v, Tryd.f3.params[j]? = some t → args[j]? = some v → Value.okWide Tryd.prog W .any base t v := hval0
  have hW' := hW
  obtain ⟨p, q, hA0, hV, rfl, hfz, hnd⟩ := hW
  have hA : DataW.TrodAll enc Tryd.prog W 0 (fun _ => true) true Tryd.f3.params.toList args.toList ds p := hA0
  obtain ⟨rfl, rfl⟩ := trodVars_none hV
  rw [Tryd.params3] at hA hval
  have hthaw : Thaw W p := fun b off hm => hfz b off (by simpa using hm)
  refine (walk hA hthaw (fun j t v h1 h2 => hval j t v (by simpa using h1) (by simpa using h2))).mono fun e W' ⟨he, hb⟩ => ?_
  subst he
  obtain ⟨v0, vs0, d0, ds0, p0, q0, e0, rfl, rfl, h0, r0⟩ := trodAll_cons hA
  obtain ⟨v1, vs1, d1, ds1, p1, q1, e1, rfl, rfl, h1, r1⟩ := trodAll_cons r0
  obtain ⟨e2, rfl, rfl⟩ := trodAll_nil r1
  exact ⟨_, rfl, post_law hW' rfl rfl laid (by rw [Tryd.params3]; kernel_rfl) hb Tryd.underlying4 (by kernel_rfl)⟩

theorem over : Rows.boundSortsRow.holds Tryd.pinned (OpenSpec.ofChange Rows.boundSortsSpec) :=
  OpenClaim.holds_of_wide 3 Tryd.f3 rfl rfl rfl rfl rfl rfl rfl ⟨rfl, rfl, rfl, rfl, rfl⟩ rfl rfl rfl rfl rfl (by kernel_rfl) Tryd.func3 (by kernel_rfl)
    (of_decide_eq_true (by kernel_rfl)) (by unfold Func.isWrapper; first | (rw [if_pos (by decide +kernel)]; kernel_rfl) | (rw [if_neg (by decide +kernel)]; exact ⟨rfl, rfl⟩))
    (fun os started H enc _ => lifted os started H enc)

/-- The statement. -/
theorem proved : Rows.BoundSortsCardSaid :=
  Claim7.holds_tied_plain_at .later [] [.data, .pinned] true (true, "3e059849c9dbafc00d73421860cd75d8b34f0b059185f56ba3f35da3ef14f5aa") false over (fun _ h => by cases h) (by kernel_rfl) (fun _ h => by cases h) boundSorts_row_tie rfl ⟨rfl, rfl⟩ (by kernel_rfl) rfl
    (fun f fn hf hfn => by
      obtain rfl : f = 3 := Option.some.inj ((show Tryd.prog.funcNamed "tidepool/tidepoollaw10.BoundSorts" = some 3 by kernel_rfl).symm.trans hf) |>.symm
      obtain rfl : fn = Tryd.f3 := (Option.some.inj (Tryd.func3.symm.trans hfn)).symm
      exact ⟨by kernel_rfl, fun j t ht => by
        rw [Tryd.params3] at ht
        have hm : t ∈ [23, 24] := by simpa using Array.mem_of_getElem? ht
        have hall : ([23, 24].all fun u => !Tryd.prog.wantsStandIn u) = true := by kernel_rfl
        exact (show Tryd.prog.wantsStandIn t = false by simpa using List.all_eq_true.1 hall t hm)⟩)
    (by kernel_rfl)
#print axioms proved
end Go.Proofs.YthgndhfpfblphaaDoor.lawBoundSorts
