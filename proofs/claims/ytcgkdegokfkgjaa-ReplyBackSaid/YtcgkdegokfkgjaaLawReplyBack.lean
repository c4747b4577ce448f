/- The law ReplyBack answers true at every input, and leaves its arguments as they were. No condition of its own. -/
import Derived.Test.YtcgkdegokfkgjaaK8
import Derived.Test.YtcgkdegokfkgjaaE42
import Derived.ProofKit
set_option linter.unusedVariables false
namespace Go.Proofs.Ytcgkdegokfkgjaa.lawReplyBack
open Go Go.Ev Go.ChangeShapes Go.WideShapes Go.ChangeAt Go.RowKit Go.Proofs.Ytcgkdegokfkgjaa.Ctr

theorem own : ownKnob Try.prog.godebug = none := by kernel_rfl
section
variable {w : World}
theorem sliceVal {P : Program} {r : Reach} {b : Nat} {t : TypeId} {v : Value} (h : sliceT P t = true) (hv : Value.okWide P w r b t v) : v.cells.toList = [v] := by
  obtain ⟨e, he⟩ := sliceT_at h
  unfold Value.okWide at hv
  simp only [he] at hv
  unfold Cell.okWide at hv
  simp only [he] at hv
  unfold Cell.ok at hv
  simp only [he] at hv
  cases v <;> first | rfl | (exfalso; simp at hv)
theorem sym_at {L : List Sh} {cells : List Value} {i : Nat} {s : Sh} (hfit : fitsG (fitS w) L cells) (h : L[i]? = some s) : ∃ v, fitS w s v ∧ symV w (L.getD i (.col .bool)) (cells.getD i (.bool false)) = symV w s v := by
  have hl := fitsG_length hfit
  have hi := (List.getElem?_eq_some_iff.1 h).1
  refine ⟨_, fitsG_at hfit h (List.getElem?_eq_getElem (show i < cells.length by omega)), ?_⟩
  rw [List.getD_eq_getElem?_getD, h, List.getD_eq_getElem?_getD, List.getElem?_eq_getElem (show i < cells.length by omega)]; rfl
theorem sym_in {L : List Sh} {cells : List Value} {i : Nat} {k : IntKind} (hfit : fitsG (fitS w) L cells) (h : L[i]? = some (.col (.int k))) : k.min ≤ (symV w (L.getD i (.col .bool)) (cells.getD i (.bool false))).toI ∧ (symV w (L.getD i (.col .bool)) (cells.getD i (.bool false))).toI ≤ k.max := by
  obtain ⟨v, ⟨n, rfl, h1, h2⟩, e⟩ := sym_at hfit h
  rw [e]; exact ⟨h1, h2⟩
theorem sym_list {L : List Sh} {cells : List Value} {i : Nat} {sig : List CT} {q : Val → Bool} (hq : ∀ vs : List Value, fits sig vs → q (.vl (vs.map valV)) = true) (hfit : fitsG (fitS w) L cells) (h : L[i]? = some (.sl sig)) : ((symV w (L.getD i (.col .bool)) (cells.getD i (.bool false))).toL.all q) = true := by
  obtain ⟨v, hf, e⟩ := sym_at hfit h
  rw [e]
  rcases hf with rfl | ⟨a, len, cap, rfl, _, _, hi, _⟩
  · rfl
  · show ((rowsV w sig.length a len).all q) = true
    rw [List.all_eq_true]
    intro r hr
    obtain ⟨i, h1, rfl⟩ := List.mem_map.1 hr
    obtain ⟨vs, h2, h3⟩ := hi i (List.mem_range.1 h1)
    rw [h2]
    exact hq vs h3
theorem q_bytes (vs : List Value) (h : fits [.int .u8] vs) : (fun r : Val => decide (0 ≤ (r.toL.getD 0 default).toI) && decide ((r.toL.getD 0 default).toI < 256)) (.vl (vs.map valV)) = true := by
  obtain ⟨x, q, rfl, ⟨n, rfl, h4, h5⟩, h6⟩ := h
  have h4 : 0 ≤ n := h4
  have h5 : n ≤ 255 := h5
  show (decide (0 ≤ n) && decide (n < 256)) = true
  rw [decide_eq_true h4, decide_eq_true (by omega)]; rfl
theorem i64_in {n : Int} (h1 : IntKind.i64.min ≤ n) (h2 : n ≤ IntKind.i64.max) : i64B n = true := by
  have h1 : -9223372036854775808 ≤ n := h1
  have h2 : n ≤ 9223372036854775807 := h2
  unfold i64B
  rw [decide_eq_true h1, decide_eq_true (by omega)]; rfl
theorem q_panes (vs : List Value) (h : fits [.str, .int .i64, .int .i64] vs) : paneI (.vl (vs.map valV)) = true := by
  obtain ⟨x, q, rfl, _, y, q, rfl, ⟨n1, rfl, a1, a2⟩, z, q, rfl, ⟨n2, rfl, b1, b2⟩, rfl⟩ := h
  show (i64B n1 && i64B n2) = true
  rw [i64_in a1 a2, i64_in b1 b2]; rfl
theorem q_rows (vs : List Value) (h : fits [.str, .int .i64, .int .i64, .int .i64, .int .i64, .int .i64, .int .i64] vs) : rowI (.vl (vs.map valV)) = true := by
  obtain ⟨x, q, rfl, _, y, q, rfl, ⟨n1, rfl, a1, a2⟩, z, q, rfl, ⟨n2, rfl, b1, b2⟩, _, q, rfl, ⟨n3, rfl, c1, c2⟩, _, q, rfl, ⟨n4, rfl, d1, d2⟩, _, q, rfl, ⟨n5, rfl, e1, e2⟩, _, q, rfl, ⟨n6, rfl, f1, f2⟩, rfl⟩ := h
  show ((i64B n1 && i64B n2) && (i64B n3 && i64B n4 && i64B n5 && i64B n6)) = true
  rw [i64_in a1 a2, i64_in b1 b2, i64_in c1 c2, i64_in d1 d2, i64_in e1 e2, i64_in f1 f2]; rfl
end
theorem F63s (v : Val) : F 63 [v] = .vb (v.toL.all rowI) := rfl
theorem F64s (v : Val) : F 64 [v] = .vb (v.toL.all paneI) := rfl
theorem k_law : HcOk env Om h_replyBack :=
  hc_step (E := env) (cs := H6) om_upd e_ok orders h6_ok (n := 1000000) (by kernel_rfl) (fcMath1 (T := T_replyBack) r_replyBack fun ω hω hn => by
    have hn := hn
    simp only [h_replyBack, dB, den, dens, prim, om_f hω, F63s, F64s, toB_vb, toI_vi, cmpI_leq, cmpI_lss, decide_eq_true_eq, Bool.and_eq_true] at hn
    obtain ⟨⟨⟨⟨⟨⟨⟨⟨⟨⟨⟨hb, r0⟩, r1⟩, r2⟩, r4⟩, r5⟩, r6⟩, r7⟩, r8⟩, r9⟩, rr⟩, rg⟩ := hn
    exact (t_replyBack (om_f hω) hb ⟨r1, r2, r4, r5, r6, r7, r8, r9, rr, rg⟩).trans (by simp only [h_replyBack, dens, den]))
def sh : List Sh := [.col (.int .u8), .col (.int .u32), .col (.int .u16), .col .bool, .col (.int .u64), .col (.int .u64), .col (.int .u64), .col (.int .u64), .col (.int .u64), .col (.int .u64), .sl [.str, .int .i64, .int .i64, .int .i64, .int .i64, .int .i64, .int .i64], .sl [.str, .int .i64, .int .i64]]
def sh1 : List Sh := [.sl [.int .u8]]
theorem ans : resNeed (fcHook h_replyBack.c h_replyBack.nv h_replyBack.c.args h_replyBack.c.heap) = some (h_replyBack.c.need, .obool (.cb true)) := by kernel_rfl
set_option maxRecDepth 100000 in
theorem walk {H : Type} {enc : TypeId × Value → H} {W : World} {base : Nat} {args : Array Value} {ds : List (DataW H)} {p : List MemPlace} (hA : DataW.TrodAll enc Try.prog W 0 (fun _ => true) true (#[28, 36] : Array TypeId).toList args.toList ds p) (hthaw : Thaw W p)
    (hval : ∀ (j : Nat) t v, (#[28, 36] : Array TypeId)[j]? = some t → args.toList[j]? = some v → Value.okWide Try.prog W .any base t v) :
    Calls Try.prog 5 args W fun e W' => e = .returned (.bool true) ∧ Below W.heap.size W W' := by
  obtain ⟨v0, vs0, d0, ds0, p0, q0, e0, rfl, rfl, h0, r0⟩ := trodAll_cons hA
  obtain ⟨v1, vs1, d1, ds1, p1, q1, e1, rfl, rfl, h1, r1⟩ := trodAll_cons r0
  obtain ⟨e2, rfl, rfl⟩ := trodAll_nil r1
  have hs0 := hval 0 _ v0 rfl (by rw [e0]; rfl)
  have hs1 := hval 1 _ v1 rfl (by rw [e0, e1]; rfl)
  obtain ⟨n0, t0⟩ := h0
  obtain ⟨n1, t1⟩ := h1
  have f0 : fitsG (fitS W) sh v0.cells.toList := trod_sh (m := 20) (by kernel_rfl) t0 (fun b off hm => hthaw b off (by simp [hm]))
  have f1 : fitsG (fitS W) sh1 v1.cells.toList := trod_sh (m := 20) (by kernel_rfl) t1 (fun b off hm => hthaw b off (by simp [hm]))
  obtain ⟨c0, rfl⟩ := structAgg (by kernel_rfl) hs0
  rw [sliceVal (by kernel_rfl) hs1] at f1
  have g0 := fitsG_length f0
  have hfit := fitsG_app f0 f1
  have hu : args = [Value.agg c0, v1].toArray := by rw [← e2, ← e1, ← e0]
  rw [hu]
  refine law_run (x := h_replyBack) (F := F) k_law (by kernel_rfl) hfit (by kernel_rfl) (by kernel_rfl) (fun β ω hv => ?_) ans ?_
  · have a := VRs.take 12 hv
    have b := VRs.drop 12 hv
    rw [show (Value.agg c0).cells.toList = c0.toList from rfl] at a b
    have g0' : c0.toList.length = 12 := g0
    rw [show (12 : Nat) = c0.toList.length by rw [g0'], List.take_left] at a
    rw [show (12 : Nat) = c0.toList.length by rw [g0'], List.drop_left] at b
    rw [g0'] at a b
    exact ⟨_, _, rfl, ⟨c0, rfl, a⟩, b⟩
  · simp only [h_replyBack, dB, den, dens, prim, show ∀ i a, (lawOpq F env.P W (sh ++ sh1) ((Value.agg c0).cells.toList ++ [v1])).f i a = F i a from fun _ _ => rfl, F63s, F64s, toB_vb, toI_vi, cmpI_leq, cmpI_lss, decide_eq_true_eq, Bool.and_eq_true]
    have u64 : ∀ i, (sh ++ sh1)[i]? = some (.col (.int .u64)) → 0 ≤ ((lawOpq F env.P W (sh ++ sh1) ((Value.agg c0).cells.toList ++ [v1])).w i).toI ∧ ((lawOpq F env.P W (sh ++ sh1) ((Value.agg c0).cells.toList ++ [v1])).w i).toI < 18446744073709551616 := fun i hi => by
      have := sym_in hfit hi
      exact ⟨this.1, Int.lt_of_le_of_lt this.2 (by decide)⟩
    refine ⟨⟨⟨⟨⟨⟨⟨⟨⟨⟨⟨sym_list (i := 12) q_bytes hfit rfl, ?_⟩, ?_⟩, ?_⟩, u64 4 rfl⟩, u64 5 rfl⟩, u64 6 rfl⟩, u64 7 rfl⟩, u64 8 rfl⟩, u64 9 rfl⟩, sym_list (i := 10) q_rows hfit rfl⟩, sym_list (i := 11) q_panes hfit rfl⟩
    · have := sym_in (i := 0) (k := .u8) hfit rfl
      exact ⟨this.1, Int.lt_of_le_of_lt this.2 (by decide)⟩
    · have := sym_in (i := 1) (k := .u32) hfit rfl
      exact ⟨this.1, Int.lt_of_le_of_lt this.2 (by decide)⟩
    · have := sym_in (i := 2) (k := .u16) hfit rfl
      exact ⟨this.1, Int.lt_of_le_of_lt this.2 (by decide)⟩

theorem laid : laidOutB Try.prog = true := by kernel_rfl
set_option maxRecDepth 100000 in
theorem lifted (os : Os) (started : os.Started) (H : Type) (enc : TypeId × Value → H) :
    ReturnsInHanded {} Try.checked os 5 .any (Rows.replyBackSpec.pre6 enc Try.prog Try.f5 Rows.replyBackRow.domain false) (Rows.replyBackSpec.post enc Try.prog Try.f5 false true false false) := by
  refine returnsInHanded_of_change (C := Try.checked) own started (by kernel_rfl) Try.func5
    (ChangeSpec.witness6 (enc := enc) (C := Try.checked) false ⟨#[], #[.agg #[.int .u8 0, .int .u32 0, .int .u16 0, .bool false, .int .u64 0, .int .u64 0, .int .u64 0, .int .u64 0, .int .u64 0, .int .u64 0, .slice none 0 0, .slice none 0 0], .slice none 0 0], []⟩ 8 (by kernel_rfl) (by kernel_rfl) (by kernel_rfl) (by kernel_rfl)) ?_
  intro W base args ds gs before hval0 hW hcnd _
  have hval : ∀ (j : Nat) t v, Try.f5.params[j]? = some t → args[j]? = some v → Value.okWide Try.prog W .any base t v := hval0
  have hW' := hW
  obtain ⟨p, q, hA0, hV, rfl, hfz, hnd⟩ := hW
  have hA : DataW.TrodAll enc Try.prog W 0 (fun _ => true) true Try.f5.params.toList args.toList ds p := hA0
  obtain ⟨rfl, rfl⟩ := trodVars_none hV
  rw [Try.params5] at hA hval
  have hthaw : Thaw W p := fun b off hm => hfz b off (by simpa using hm)
  refine (walk hA hthaw (fun j t v h1 h2 => hval j t v (by simpa using h1) (by simpa using h2))).mono fun e W' ⟨he, hb⟩ => ?_
  subst he
  obtain ⟨v0, vs0, d0, ds0, p0, q0, e0, rfl, rfl, h0, r0⟩ := trodAll_cons hA
  obtain ⟨v1, vs1, d1, ds1, p1, q1, e1, rfl, rfl, h1, r1⟩ := trodAll_cons r0
  obtain ⟨e2, rfl, rfl⟩ := trodAll_nil r1
  exact ⟨_, rfl, post_law hW' rfl rfl laid (by rw [Try.params5]; kernel_rfl) hb Try.underlying4 (by kernel_rfl)⟩

theorem over : Rows.replyBackRow.holds Try.pinned (OpenSpec.ofChange Rows.replyBackSpec) :=
  OpenClaim.holds_of_wide 5 Try.f5 rfl rfl rfl rfl rfl rfl rfl ⟨rfl, rfl, rfl, rfl, rfl⟩ rfl rfl rfl rfl rfl (by kernel_rfl) Try.func5 (by kernel_rfl)
    (of_decide_eq_true (by kernel_rfl)) (by unfold Func.isWrapper; first | (rw [if_pos (by decide +kernel)]; kernel_rfl) | (rw [if_neg (by decide +kernel)]; exact ⟨rfl, rfl⟩))
    (fun os started H enc _ => lifted os started H enc)

/-- The statement. -/
theorem proved : Rows.ReplyBackSaid := over
#print axioms proved
end Go.Proofs.Ytcgkdegokfkgjaa.lawReplyBack
