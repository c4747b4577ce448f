/- The law DeltaParts answers true at every input, and leaves its arguments as they were. No condition of its own. -/
import Derived.Test.YthdedeijapoihaaGreatDoorK8
import Derived.Test.YthdedeijapoihaaGreatDoorE42
import Derived.Test.YthdedeijapoihaaGreatDoorCards
import Derived.Test.YthdedeijapoihaaGreatDoorTie
import Derived.Lay
import Derived.LaidOnce
import Derived.SevenTiedAt
import Derived.ProofKit
set_option linter.unusedVariables false
namespace Go.Proofs.YthdedeijapoihaaGreatDoor.lawDeltaParts
open Go Go.Ev Go.ChangeShapes Go.WideShapes Go.ChangeAt Go.RowKit Go.Proofs.YthdedeijapoihaaGreatDoor.Ctr
theorem own : ownKnob Tryz.prog.godebug = none := by kernel_rfl
section
variable {w : World}
theorem sliceVal {P : Program} {r : Reach} {b : Nat} {t : TypeId} {v : Value} (h : ad2 P t = true) (hv : Value.okWide P w r b t v) : v.cells.toList = [v] := by
 obtain ⟨e, he⟩ := ag2 h
 unfold Value.okWide at hv
 simp only [he] at hv
 unfold Cell.okWide at hv
 simp only [he] at hv
 unfold Cell.ok at hv
 simp only [he] at hv
 cases v <;> first | rfl | (exfalso; simp at hv)
theorem sym_at {L : List Sh} {cells : List Value} {i : Nat} {s : Sh} (hfit : D4 (aK9 w) L cells) (h : L[i]? = some s) : ∃ v, aK9 w s v ∧ be9 w (L.getD i (.col .bool)) (cells.getD i (.bool false)) = be9 w s v := by
 have hl := N4 hfit
 have hi := (List.getElem?_eq_some_iff.1 h).1
 refine ⟨_, aA8 hfit h (List.getElem?_eq_getElem (show i < cells.length by omega)), ?_⟩
 rw [List.getD_eq_getElem?_getD, h, List.getD_eq_getElem?_getD, List.getElem?_eq_getElem (show i < cells.length by omega)]; rfl
theorem sym_list {L : List Sh} {cells : List Value} {i : Nat} {sig : List CT} {q : Val → Bool} (hq : ∀ vs : List Value, bB8 sig vs → q (.vl (vs.map c06)) = true) (hfit : D4 (aK9 w) L cells) (h : L[i]? = some (.sl sig)) : (isL (be9 w (L.getD i (.col .bool)) (cells.getD i (.bool false))) && (be9 w (L.getD i (.col .bool)) (cells.getD i (.bool false))).toL.all q) = true := by
 obtain ⟨v, hf, e⟩ := sym_at hfit h
 rw [e]
 rcases hf with rfl | ⟨a, len, cap, rfl, _, _, hi, _⟩
 · rfl
 · show ((a99 w sig.length a len).all q) = true
   rw [List.all_eq_true]
   intro r hr
   obtain ⟨i, h1, rfl⟩ := List.mem_map.1 hr
   obtain ⟨vs, h2, h3⟩ := hi i (List.mem_range.1 h1)
   rw [h2]
   exact hq vs h3
theorem i64_in {n : Int} (h1 : IntKind.i64.min ≤ n) (h2 : n ≤ IntKind.i64.max) : au9 n = true := by
 have h1 : -9223372036854775808 ≤ n := h1
 have h2 : n ≤ 9223372036854775807 := h2
 unfold au9
 rw [decide_eq_true h1, decide_eq_true (by omega)]; rfl
theorem q_chg (vs : List Value) (h : bB8 [.str, .int .i64, .int .i64, .bool, .int .i64, .int .i64, .int .i64, .int .i64] vs) : okC (.vl (vs.map c06)) = true := by
 obtain ⟨x, q, rfl, ⟨s, rfl⟩, y, q, rfl, ⟨n1, rfl, a1, a2⟩, z, q, rfl, ⟨n2, rfl, b1, b2⟩, u, q, rfl, ⟨d, rfl⟩, x1, q, rfl, ⟨m1, rfl, c1, c2⟩, x2, q, rfl, ⟨m2, rfl, d1, d2⟩, x3, q, rfl, ⟨m3, rfl, e1, e2⟩, x4, q, rfl, ⟨m4, rfl, f1, f2⟩, rfl⟩ := h
 show (au9 n1 && (au9 n2 && (au9 m1 && (au9 m2 && (au9 m3 && au9 m4))))) = true
 rw [i64_in a1 a2, i64_in b1 b2, i64_in c1 c2, i64_in d1 d2, i64_in e1 e2, i64_in f1 f2]; rfl
theorem sym_max {L : List Sh} {cells : List Value} {i : Nat} {sig : List CT} (hfit : D4 (aK9 w) L cells) (h : L[i]? = some (.sl sig)) : decide ((be9 w (L.getD i (.col .bool)) (cells.getD i (.bool false))).toL.length ≤ 9223372036854775807) = true := by
 obtain ⟨v, hf, e⟩ := sym_at hfit h
 rw [e]
 rcases hf with rfl | ⟨a, len, cap, rfl, _, hc, _, _⟩
 · exact decide_eq_true (Nat.zero_le _)
 · refine decide_eq_true ?_
   show (a99 w sig.length a len).length ≤ 9223372036854775807
   have hm : maxLen = 9223372036854775807 := rfl
   rw [a99, List.length_map, List.length_range, ← hm]
   exact Nat.le_trans hc.1 hc.2
end
theorem k_law : y8 env Om h_deltaParts :=
 n7 (E := env) (cs := H14) om_upd e_ok orders h14_ok (n := 1000000) (by kernel_rfl) (n9 (T := N5) r_deltaParts fun ω hω hn => by
   have hn : ((ω.f 432 [ω.w 5]).toB && (ω.f 432 [ω.w 6]).toB) = true := hn
   rw [om_f hω, om_f hω] at hn
   exact (aN6 (om_f hω) (a9 hn).1 (a9 hn).2).trans (by simp only [h_deltaParts, j3, den]))
def sh : List Sh := [.col (.int .u8), .col .str, .col .str, .col (.int .i64), .col (.int .i64)]
def sh1 : List Sh := [.sl [.str, .int .i64, .int .i64, .bool, .int .i64, .int .i64, .int .i64, .int .i64]]
theorem ans : aB0 (N2 h_deltaParts.c h_deltaParts.nv h_deltaParts.c.args h_deltaParts.c.heap) = some (h_deltaParts.c.need, .obool (.cb true)) := by kernel_rfl
set_option maxRecDepth 100000 in
theorem walk {H : Type} {enc : TypeId × Value → H} {W : World} {base : Nat} {args : Array Value} {ds : List (DataW H)} {p : List MemPlace} (hA : DataW.TrodAll enc Tryz.prog W 0 (fun _ => true) true (#[24, 28, 28] : Array TypeId).toList args.toList ds p) (hthaw : cg7 W p)
 (hval : ∀ (j : Nat) t v, (#[24, 28, 28] : Array TypeId)[j]? = some t → args.toList[j]? = some v → Value.okWide Tryz.prog W .any base t v) :
 Calls Tryz.prog 4 args W fun e W' => e = .returned (.bool true) ∧ Below W.heap.size W W' := by
 obtain ⟨v0, vs0, d0, ds0, p0, q0, e0, rfl, rfl, h0, r0⟩ := trodAll_cons hA
 obtain ⟨v1, vs1, d1, ds1, p1, q1, e1, rfl, rfl, h1, r1⟩ := trodAll_cons r0
 obtain ⟨v2, vs2, d2, ds2, p2, q2, e2, rfl, rfl, h2, r2⟩ := trodAll_cons r1
 obtain ⟨e3, rfl, rfl⟩ := trodAll_nil r2
 have hs0 := hval 0 _ v0 rfl (by rw [e0]; rfl)
 have hs1 := hval 1 _ v1 rfl (by rw [e0, e1]; rfl)
 have hs2 := hval 2 _ v2 rfl (by rw [e0, e1, e2]; rfl)
 obtain ⟨n0, t0⟩ := h0
 obtain ⟨n1, t1⟩ := h1
 obtain ⟨n2, t2⟩ := h2
 have f0 : D4 (aK9 W) sh v0.cells.toList := aA7 (m := 20) (by kernel_rfl) t0 (fun b off hm => hthaw b off (by simp [hm]))
 have f1 : D4 (aK9 W) sh1 v1.cells.toList := aA7 (m := 20) (by kernel_rfl) t1 (fun b off hm => hthaw b off (by simp [hm]))
 have f2 : D4 (aK9 W) sh1 v2.cells.toList := aA7 (m := 20) (by kernel_rfl) t2 (fun b off hm => hthaw b off (by simp [hm]))
 obtain ⟨c0, rfl⟩ := bv4 (by kernel_rfl) hs0
 rw [sliceVal (by kernel_rfl) hs1] at f1
 rw [sliceVal (by kernel_rfl) hs2] at f2
 have g0 := N4 f0
 have hfit := a26 f0 (a26 f1 f2)
 have hu : args = [Value.agg c0, v1, v2].toArray := by rw [← e3, ← e2, ← e1, ← e0]
 rw [hu]
 refine c24 (x := h_deltaParts) (F := F) k_law (by kernel_rfl) hfit (by kernel_rfl) (by kernel_rfl) (fun β ω hv => ?_) ans ?_
 · have a := VRs.take 5 hv
   have b := VRs.drop 5 hv
   rw [show (Value.agg c0).cells.toList = c0.toList from rfl] at a b
   have g0' : c0.toList.length = 5 := g0
   rw [show (5 : Nat) = c0.toList.length by rw [g0'], List.take_left] at a
   rw [show (5 : Nat) = c0.toList.length by rw [g0'], List.drop_left] at b
   rw [g0'] at a b
   exact ⟨_, _, rfl, ⟨c0, rfl, a⟩, b⟩
 · exact T3 (T3 (sym_list (i := 5) q_chg hfit rfl) (sym_max (i := 5) hfit rfl)) (T3 (sym_list (i := 6) q_chg hfit rfl) (sym_max (i := 6) hfit rfl))
theorem laid : laidOutB Tryz.prog = true := by kernel_rfl
def tables : List (String × DataW Unit) := [("unicode/utf8.acceptRanges", Rows.laid_unicode_utf8_acceptRanges), ("unicode/utf8.first", Rows.laid_unicode_utf8_first)]
set_option maxRecDepth 100000 in
theorem lifted (os : Os) (started : os.Started) (H : Type) (enc : TypeId × Value → H) :
 ReturnsInHanded {} Tryz.checked os 4 .any (fun w args => (Rows.deltaPartsSpec.pre enc Tryz.prog Tryz.f4 [] false w args ∧ laidMetH Tryz.prog tables w) ∧ sizedMet enc Tryz.prog Tryz.f4 (OpenSpec.ofChange Rows.deltaPartsSpec) false w args)
  (Rows.deltaPartsSpec.post enc Tryz.prog Tryz.f4 false true false false) := by
 refine returnsInHanded_of_change_and (C := Tryz.checked) (X := fun w _ => laidMetH Tryz.prog tables w) (fun _ _ _ hh h => h.of_heap hh) own started (by kernel_rfl) Tryz.func4
   (ChangeSpec.witness_shaped (enc := enc) (C := Tryz.checked) (os := os) (X := fun w _ => laidMetH Tryz.prog tables w) false (World.laidAll Tryz.prog os tables) #[.agg #[.int .u8 0, .string ⟨#[]⟩, .string ⟨#[]⟩, .int .i64 0, .int .i64 0], .slice none 0 0, .slice none 0 0] 8 (World.laidAll_os _ _ _)
    (World.shaped_of_ZipB (by kernel_rfl) (by kernel_rfl)) (by kernel_rfl) (by kernel_rfl) (by kernel_rfl)
    (by rw [MakeChecks.laidMetH_plain _ _ _ (by kernel_rfl)]; exact laidMet_laidAll _ (by kernel_rfl) (by kernel_rfl))) ?_
 intro W base args ds gs before hval0 hW _ _ hL _
 have hval : ∀ (j : Nat) t v, Tryz.f4.params[j]? = some t → args[j]? = some v → Value.okWide Tryz.prog W .any base t v := hval0
 have hW' := hW
 obtain ⟨p, q, hA0, hV, rfl, hfz, hnd⟩ := hW
 have hA : DataW.TrodAll enc Tryz.prog W 0 (fun _ => true) true Tryz.f4.params.toList args.toList ds p := hA0
 obtain ⟨rfl, rfl⟩ := trodVars_none hV
 rw [Tryz.params4] at hA hval
 have hthaw : cg7 W p := fun b off hm => hfz b off (by simpa using hm)
 refine (walk hA hthaw (fun j t v h1 h2 => hval j t v (by simpa using h1) (by simpa using h2))).mono fun e W' ⟨he, hb⟩ => ?_
 subst he
 obtain ⟨v0, vs0, d0, ds0, p0, q0, e0, rfl, rfl, h0, r0⟩ := trodAll_cons hA
 obtain ⟨v1, vs1, d1, ds1, p1, q1, e1, rfl, rfl, h1, r1⟩ := trodAll_cons r0
 obtain ⟨v2, vs2, d2, ds2, p2, q2, e2, rfl, rfl, h2, r2⟩ := trodAll_cons r1
 obtain ⟨e3, rfl, rfl⟩ := trodAll_nil r2
 exact ⟨_, rfl, bJ2 hW' rfl rfl laid (by rw [Tryz.params4]; kernel_rfl) hb Tryz.underlying4 (by kernel_rfl)⟩
theorem over : Rows.deltaPartsRow.holds Tryz.pinned (OpenSpec.ofChange Rows.deltaPartsSpec) :=
 OpenClaim.holds_of_wide 4 Tryz.f4 rfl rfl rfl rfl rfl rfl rfl ⟨rfl, rfl, rfl, rfl, rfl⟩ rfl rfl rfl rfl rfl (by kernel_rfl) Tryz.func4 (by kernel_rfl)
   (of_decide_eq_true (by kernel_rfl)) (by unfold Func.isWrapper; first | (rw [if_pos (by decide +kernel)]; kernel_rfl) | (rw [if_neg (by decide +kernel)]; exact ⟨rfl, rfl⟩))
   (fun os started H enc _ => lifted os started H enc)
theorem proved : Rows.DeltaPartsCardSaid :=
 Claim7.holds_tied_plain_at .later [] [.data, .pinned] true (true, "b393f4d180d00c343edd1a98f076c0b5acd6f2e4f63b738e1d87ac1bfee47c57") false over (fun _ h => by cases h) (by kernel_rfl) (fun _ h => by cases h) deltaParts_row_tie rfl ⟨rfl, rfl⟩ (by kernel_rfl) rfl
   (fun f fn hf hfn => by
    obtain rfl : f = 4 := Option.some.inj ((show Tryz.prog.funcNamed "tidepool/tidepoollaw20.DeltaParts" = some 4 by kernel_rfl).symm.trans hf) |>.symm
    obtain rfl : fn = Tryz.f4 := (Option.some.inj (Tryz.func4.symm.trans hfn)).symm
    exact ⟨by kernel_rfl, fun j t ht => by
      rw [Tryz.params4] at ht
      have hm : t ∈ [24, 28, 28] := by simpa using Array.mem_of_getElem? ht
      have hall : ([24, 28, 28].all fun u => !Tryz.prog.wantsStandIn u) = true := by kernel_rfl
      exact (show Tryz.prog.wantsStandIn t = false by simpa using List.all_eq_true.1 hall t hm)⟩)
   (by kernel_rfl)
#print axioms proved
end Go.Proofs.YthdedeijapoihaaGreatDoor.lawDeltaParts
