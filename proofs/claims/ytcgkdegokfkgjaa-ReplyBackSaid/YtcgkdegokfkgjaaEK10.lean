/- Chapter 8: what is read is packed as it was. -/
import Derived.Test.YtcgkdegokfkgjaaEK9
set_option linter.unusedSimpArgs false
set_option linter.unusedVariables false
namespace Go.Ev
open Go
/-- The bytes from one place to another. -/
def sg (l : List Val) (i n : Nat) : List Int := ((l.drop i).take n).map byteM
theorem sg_app (l : List Val) (i n m : Nat) : sg l i n ++ sg l (i + n) m = sg l i (n + m) := by
  unfold sg
  rw [← List.map_append, List.take_add, List.drop_drop]
theorem sg_all (l : List Val) : sg l 0 l.length = l.map byteM := by
  unfold sg; rw [List.drop_zero, List.take_length]
theorem byteM_r (r : Val) : byteM r = (r.toL.getD 0 default).toI := rfl
theorem sg_one {l : List Val} {i : Nat} (h : i < l.length) : sg l i 1 = [bI l i] := by
  unfold sg
  rw [List.take_one, List.head?_drop, List.getElem?_eq_getElem h]
  simp only [Option.toList_some, List.map_cons, List.map_nil, bI, atV, List.getD_eq_getElem?_getD, List.getElem?_eq_getElem h, Option.getD_some]
  rfl
theorem byteM_v (x : Int) : byteM (byteV x) = x := rfl
theorem beV_snoc (x : Int) : ∀ n, beV x (n + 1) = beV (x / 256) n ++ [byteV (x % 256)]
  | 0 => by simp [beV]
  | n + 1 => by
    have h := beV_snoc x n
    show byteV (x / 256 ^ (n + 1) % 256) :: beV x (n + 1) = byteV (x / 256 / 256 ^ n % 256) :: beV (x / 256) n ++ [byteV (x % 256)]
    rw [h, Int.ediv_ediv, if_neg (by omega), Int.sub_zero, show (256 : Int) * 256 ^ n = 256 ^ (n + 1) by rw [Int.pow_succ, Int.mul_comm]]
    rfl
theorem beV_num {l : List Val} (hl : okL l = true) {i : Nat} : ∀ {n : Nat}, i + n ≤ l.length → (beV (numV l i n) n).map byteM = sg l i n
  | 0, _ => by simp [beV, sg]
  | n + 1, h => by
    have hb := bI_in hl (show i + n < l.length by omega)
    have e1 : numV l i (n + 1) / 256 = numV l i n := by show (numV l i n * 256 + bI l (i + n)) / 256 = _; omega
    have e2 : numV l i (n + 1) % 256 = bI l (i + n) := by show (numV l i n * 256 + bI l (i + n)) % 256 = _; omega
    rw [beV_snoc, e1, e2, List.map_append, beV_num hl (by omega), ← sg_app, sg_one (by omega)]
    rfl
theorem beV_i64 (x : Int) {n : Nat} (hn : n ≤ 8) : beV (IntKind.i64.wrap x) n = beV x n := by
  rw [← beV_u64 (IntKind.i64.wrap x) hn, ← beV_u64 x hn]
  congr 1
  rw [wu64, wu64]
  simp only [IntKind.wrap, IntKind.bits, IntKind.signed]
  simp
  omega
/-- A step that has not failed. -/
theorem tkS_ok {l : List Val} {s : Rd} {n : Nat} (h : (tkS l s n).bad = false) : s.bad = false ∧ s.pos + n ≤ l.length ∧ tkS l s n = ⟨s.pos + n, false⟩ ∧ tkN l s n = numV l s.pos n := by
  unfold tkS at h
  cases hc : fitR l s n with
  | false => rw [hc] at h; cases h
  | true =>
    have h2 := hc
    simp only [fitR, Bool.and_eq_true, Bool.not_eq_true', decide_eq_true_eq] at h2
    exact ⟨h2.1, h2.2, by unfold tkS; rw [hc]; rfl, by unfold tkN; rw [hc]; rfl⟩
theorem txS_ok {l : List Val} {s : Rd} (h : (txS l s).bad = false) : s.bad = false ∧ txOk l s = true ∧ s.pos + 2 + txN l s ≤ l.length ∧ txS l s = ⟨s.pos + 2 + txN l s, false⟩ := by
  unfold txS at h
  cases hc : txOk l s with
  | false => rw [hc] at h; cases h
  | true =>
    have h2 := hc
    simp only [txOk, fitR, Bool.and_eq_true, Bool.not_eq_true', decide_eq_true_eq] at h2
    exact ⟨h2.1.1, rfl, h2.2, by unfold txS; rw [hc]; rfl⟩
theorem tk_bytes {l : List Val} (hl : okL l = true) {s : Rd} {n : Nat} (h : (tkS l s n).bad = false) : (beV (tkN l s n) n).map byteM = sg l s.pos n := by
  obtain ⟨_, h2, _, h4⟩ := tkS_ok h
  rw [h4]; exact beV_num hl h2
theorem tx_bytes {l : List Val} (hl : okL l = true) {s : Rd} (h : (txS l s).bad = false) : (textV (txV l s)).map byteM = sg l s.pos (2 + txN l s) := by
  obtain ⟨h1, h2, h3, h4⟩ := txS_ok h
  have h5 := h2
  simp only [txOk, Bool.and_eq_true, decide_eq_true_eq] at h5
  have hv : txV l s = ((l.drop (s.pos + 2)).take (txN l s)).map fun r => UInt8.ofNat (r.toL.getD 0 default).toI.toNat := by unfold txV; rw [h2]; rfl
  have hn := tkN_in hl s 2
  have hlen : (txV l s).length = txN l s := by rw [hv, List.length_map, List.length_take, List.length_drop]; omega
  have hN : (txN l s : Int) = tkN l s 2 := by unfold txN; omega
  have hb : (tkS l s 2).bad = false := by unfold tkS; rw [h5.1]; rfl
  have h8 := okL_by hl
  simp only [okBy, List.all_eq_true, Bool.and_eq_true, decide_eq_true_eq] at h8
  rw [textV, List.map_append, hlen, hN, tk_bytes hl hb, ← sg_app]
  congr 1
  rw [hv, List.map_map, List.map_map]
  unfold sg
  refine List.map_congr_left fun r hr => ?_
  have := h8 r (List.mem_of_mem_drop (List.mem_of_mem_take hr))
  show ((UInt8.ofNat (r.toL.getD 0 default).toI.toNat).toNat : Int) = (r.toL.getD 0 default).toI
  rw [UInt8.toNat_ofNat_of_lt' (by show _ < 256; omega)]
  omega
def wid2 (l : List Val) (s : Rd) : Nat := 2 + txN l s
theorem pn_bytes {l : List Val} (hl : okL l = true) {s : Rd} (h : (pnS l s).bad = false) : s.bad = false ∧ s.pos ≤ (pnS l s).pos ∧ (pnS l s).pos ≤ l.length ∧ (paneW (.vl (pnV l s))).map byteM = sg l s.pos ((pnS l s).pos - s.pos) := by
  obtain ⟨a1, a2, a3, _⟩ := tkS_ok (s := tkS l (txS l s) 8) h
  obtain ⟨b1, b2, b3, _⟩ := tkS_ok a1
  obtain ⟨c1, _, c3, c4⟩ := txS_ok b1
  have p1 : (txS l s).pos = s.pos + 2 + txN l s := by rw [c4]
  have p2 : (tkS l (txS l s) 8).pos = s.pos + 2 + txN l s + 8 := by rw [b3, p1]
  have p3 : (pnS l s).pos = s.pos + 2 + txN l s + 8 + 8 := by show (tkS l (tkS l (txS l s) 8) 8).pos = _; rw [a3, p2]
  refine ⟨c1, by omega, by rw [p3]; rw [p2] at a2; exact a2, ?_⟩
  show (textV (txV l s) ++ beV (IntKind.i64.wrap (tkN l (txS l s) 8)) 8 ++ beV (IntKind.i64.wrap (tkN l (tkS l (txS l s) 8) 8)) 8).map byteM = _
  rw [beV_i64 _ (Nat.le_refl 8), beV_i64 _ (Nat.le_refl 8), List.map_append, List.map_append, tx_bytes hl b1, tk_bytes hl a1, tk_bytes hl h, p1, p2,
    show s.pos + 2 + txN l s = s.pos + (2 + txN l s) by omega, sg_app, show s.pos + (2 + txN l s) + 8 = s.pos + (2 + txN l s + 8) by omega, sg_app, p3]
  congr 1; omega
theorem rw_bytes {l : List Val} (hl : okL l = true) {s : Rd} (h : (rwS l s).bad = false) : s.bad = false ∧ s.pos ≤ (rwS l s).pos ∧ (rwS l s).pos ≤ l.length ∧ (rowW (.vl (rwV l s))).map byteM = sg l s.pos ((rwS l s).pos - s.pos) := by
  obtain ⟨a1, a2, a3, _⟩ := tkS_ok (s := tkS l (tkS l (tkS l (pnS l s) 8) 8) 8) h
  obtain ⟨b1, b2, b3, _⟩ := tkS_ok a1
  obtain ⟨c1, c2, c3, _⟩ := tkS_ok b1
  obtain ⟨d1, d2, d3, _⟩ := tkS_ok c1
  obtain ⟨e1, e2, e3, e4⟩ := pn_bytes hl d1
  have p1 : (tkS l (pnS l s) 8).pos = (pnS l s).pos + 8 := by rw [d3]
  have p2 : (tkS l (tkS l (pnS l s) 8) 8).pos = (pnS l s).pos + 8 + 8 := by rw [c3, p1]
  have p3 : (tkS l (tkS l (tkS l (pnS l s) 8) 8) 8).pos = (pnS l s).pos + 8 + 8 + 8 := by rw [b3, p2]
  have p4 : (rwS l s).pos = (pnS l s).pos + 8 + 8 + 8 + 8 := by show (tkS l (tkS l (tkS l (tkS l (pnS l s) 8) 8) 8) 8).pos = _; rw [a3, p3]
  refine ⟨e1, by omega, by rw [p4]; rw [p3] at a2; exact a2, ?_⟩
  show (paneW (.vl (pnV l s)) ++ (beV (IntKind.i64.wrap (tkN l (pnS l s) 8)) 8 ++ beV (IntKind.i64.wrap (tkN l (tkS l (pnS l s) 8) 8)) 8 ++ beV (IntKind.i64.wrap (tkN l (tkS l (tkS l (pnS l s) 8) 8) 8)) 8 ++ beV (IntKind.i64.wrap (tkN l (tkS l (tkS l (tkS l (pnS l s) 8) 8) 8) 8)) 8)).map byteM = _
  rw [beV_i64 _ (Nat.le_refl 8), beV_i64 _ (Nat.le_refl 8), beV_i64 _ (Nat.le_refl 8), beV_i64 _ (Nat.le_refl 8), List.map_append, List.map_append, List.map_append, List.map_append, e4, tk_bytes hl c1, tk_bytes hl b1, tk_bytes hl a1, tk_bytes hl h, p1, p2, p3, sg_app,
    show (pnS l s).pos + 8 + 8 = (pnS l s).pos + (8 + 8) by omega, sg_app, show (pnS l s).pos + (8 + 8) + 8 = (pnS l s).pos + (8 + 8 + 8) by omega, sg_app]
  obtain ⟨d, hd⟩ : ∃ d, (pnS l s).pos = s.pos + d := ⟨(pnS l s).pos - s.pos, by omega⟩
  rw [p4, hd, show s.pos + d - s.pos = d by omega, sg_app]
  congr 1; omega
/-- What comes out of a loop that has not failed. -/
theorem lp_bytes {l : List Val} {f : Rd → Rd} {g : Rd → List Val} {W : Val → List Val} (hf : ∀ s, (f s).bad = false → s.bad = false ∧ s.pos ≤ (f s).pos ∧ (f s).pos ≤ l.length ∧ (W (.vl (g s))).map byteM = sg l s.pos ((f s).pos - s.pos)) :
    ∀ (n : Nat) (s : Rd) (acc : List Val), (lpR f g n s acc).2.1.bad = false → s.bad = false ∧ s.pos ≤ (lpR f g n s acc).2.1.pos ∧ ∃ rows, (lpR f g n s acc).2.2 = acc ++ rows ∧ rows.length = n ∧ (rows.flatMap W).map byteM = sg l s.pos ((lpR f g n s acc).2.1.pos - s.pos)
  | 0, s, acc, h => ⟨h, Nat.le_refl _, [], by simp [lpR], rfl, by simp [lpR, sg]⟩
  | n + 1, s, acc, h => by
    cases hb : s.bad with
    | true =>
      have e : lpR f g (n + 1) s acc = (n + 1, s, acc) := by simp only [lpR, hb, cond_true]
      rw [e] at h
      exact absurd hb (by rw [h]; decide)
    | false =>
      have e : lpR f g (n + 1) s acc = lpR f g n (f s) (acc ++ [.vl (g s)]) := by simp only [lpR, hb, cond_false]
      rw [e] at h
      obtain ⟨h1, h2, rows, h3, h4, h5⟩ := lp_bytes hf n (f s) _ h
      obtain ⟨k1, k2, k3, k4⟩ := hf s h1
      refine ⟨rfl, by rw [e]; omega, .vl (g s) :: rows, by rw [e, h3, List.append_assoc]; rfl, by simp [h4], ?_⟩
      rw [e, List.flatMap_cons, List.map_append, k4, h5]
      obtain ⟨d, hd⟩ : ∃ d, (f s).pos = s.pos + d := ⟨(f s).pos - s.pos, by omega⟩
      rw [hd, show s.pos + d - s.pos = d by omega, sg_app]
      congr 1; rw [hd] at h2; omega
def prs (l : List Val) : List Val := [arg (parseV l) 0, arg (parseV l) 1, arg (parseV l) 2, arg (parseV l) 3, arg (parseV l) 4, arg (parseV l) 5, arg (parseV l) 6, arg (parseV l) 7, arg (parseV l) 8, arg (parseV l) 9, arg (parseV l) 11, arg (parseV l) 12]
theorem fin_ok {l : List Val} {s : Rd} {odd : Bool} {a : List Val} (h : (arg (finV l s odd a) 10).toI = 0) : s.bad = false ∧ ¬ s.pos < l.length ∧ odd = false ∧ rightM (repM a) = true ∧ finV l s odd a = [arg a 0, arg a 1, arg a 2, arg a 3, arg a 4, arg a 5, arg a 6, arg a 7, arg a 8, arg a 9, .vi 0, arg a 10, arg a 11] := by
  unfold finV at h ⊢
  cases hb : s.bad with
  | true => rw [hb] at h; exact absurd (show (20 : Int) = 0 from h) (by decide)
  | false =>
    rw [hb] at h
    cases hp : decide (s.pos < l.length) with
    | true => rw [hp] at h; exact absurd (show (21 : Int) = 0 from h) (by decide)
    | false =>
      rw [hp] at h
      cases ho : (odd || !rightM (repM a)) with
      | true => rw [ho] at h; exact absurd (show (81 : Int) = 0 from h) (by decide)
      | false =>
        simp only [Bool.or_eq_false_iff, Bool.not_eq_false'] at ho
        exact ⟨rfl, of_decide_eq_false hp, ho.1, ho.2, rfl⟩
def Pre (l : List Val) (s : Rd) (w : List Val) : Prop := w.map byteM = sg l 0 s.pos
theorem pre_tk {l : List Val} (hl : okL l = true) {s : Rd} {n : Nat} {w : List Val} (h : Pre l s w) (hb : (tkS l s n).bad = false) : Pre l (tkS l s n) (w ++ beV (tkN l s n) n) := by
  unfold Pre at *
  rw [List.map_append, h, tk_bytes hl hb, (tkS_ok hb).2.2.1]
  have := sg_app l 0 s.pos n
  rwa [Nat.zero_add] at this
theorem pre_lp {l : List Val} {f : Rd → Rd} {g : Rd → List Val} {W : Val → List Val} (hf : ∀ s, (f s).bad = false → s.bad = false ∧ s.pos ≤ (f s).pos ∧ (f s).pos ≤ l.length ∧ (W (.vl (g s))).map byteM = sg l s.pos ((f s).pos - s.pos))
    {n : Nat} {s : Rd} {w : List Val} (h : Pre l s w) (hb : (lpR f g n s []).2.1.bad = false) : s.bad = false ∧ (lpR f g n s []).2.2.length = n ∧ Pre l (lpR f g n s []).2.1 (w ++ (lpR f g n s []).2.2.flatMap W) := by
  obtain ⟨h1, h2, rows, h3, h4, h5⟩ := lp_bytes hf n s [] hb
  rw [List.nil_append] at h3
  refine ⟨h1, by rw [h3, h4], ?_⟩
  unfold Pre at *
  rw [List.map_append, h, h3, h5]
  obtain ⟨d, hd⟩ : ∃ d, (lpR f g n s []).2.1.pos = s.pos + d := ⟨(lpR f g n s []).2.1.pos - s.pos, by omega⟩
  have := sg_app l 0 s.pos d
  rw [Nat.zero_add] at this
  rw [hd, show s.pos + d - s.pos = d by omega, this]
theorem lp_bad {f : Rd → Rd} {g : Rd → List Val} (hf : ∀ s, (f s).bad = false → s.bad = false) : ∀ (n : Nat) (s : Rd) (acc : List Val), (lpR f g n s acc).2.1.bad = false → s.bad = false
  | 0, s, acc, h => h
  | n + 1, s, acc, h => by
    cases hb : s.bad with
    | true =>
      have e : lpR f g (n + 1) s acc = (n + 1, s, acc) := by simp only [lpR, hb, cond_true]
      rw [e] at h
      exact absurd hb (by rw [h]; decide)
    | false => rfl
theorem pre1 {l : List Val} (hl : okL l = true) (h : ¬ l.length = 0) : Pre l (s1R l) [byteV (bI l 0)] ∧ (s1R l).bad = false := by
  have h1 : fitR l ⟨0, false⟩ 1 = true := by simp [fitR]; omega
  have e : s1R l = ⟨1, false⟩ := by unfold s1R tkS; rw [h1]; rfl
  rw [e]
  exact ⟨(sg_one (show 0 < l.length by omega)).symm, rfl⟩
theorem pre2 {l : List Val} (hl : okL l = true) (h : ¬ l.length = 0) (hb : (s2R l).bad = false) : Pre l (s2R l) ([byteV (bI l 0)] ++ beV (tkN l (s1R l) 4) 4) := pre_tk hl (pre1 hl h).1 hb
theorem pre3 {l : List Val} (hl : okL l = true) (h : ¬ l.length = 0) (hb : (s3R l).bad = false) : Pre l (s3R l) ([byteV (bI l 0)] ++ beV (tkN l (s1R l) 4) 4 ++ beV (tkN l (s2R l) 8) 8) := pre_tk hl (pre2 hl h (tkS_ok hb).1) hb
theorem pre4 {l : List Val} (hl : okL l = true) (h : ¬ l.length = 0) (hb : (s4R l).bad = false) : Pre l (s4R l) ([byteV (bI l 0)] ++ beV (tkN l (s1R l) 4) 4 ++ beV (tkN l (s2R l) 8) 8 ++ beV (tkN l (s3R l) 1) 1) := pre_tk hl (pre3 hl h (tkS_ok hb).1) hb
theorem pre5 {l : List Val} (hl : okL l = true) (h : ¬ l.length = 0) (hb : (s5R l).bad = false) : Pre l (s5R l) ([byteV (bI l 0)] ++ beV (tkN l (s1R l) 4) 4 ++ beV (tkN l (s2R l) 8) 8 ++ beV (tkN l (s3R l) 1) 1 ++ beV (tkN l (s4R l) 1) 1) := pre_tk hl (pre4 hl h (tkS_ok hb).1) hb
theorem pre6 {l : List Val} (hl : okL l = true) {w : List Val} (p : Pre l (rowsR l).2.1 w) (hb : (s6R l).bad = false) : Pre l (s6R l) (w ++ beV (tkN l (rowsR l).2.1 1) 1) := pre_tk hl p hb
theorem pre_end {l : List Val} {s : Rd} {w : List Val} (h : Pre l s w) (h1 : s.pos ≤ l.length) (h2 : ¬ s.pos < l.length) : w.map byteM = l.map byteM := by
  unfold Pre at h
  rw [h, show s.pos = l.length by omega, sg_all]
theorem bev1 (x : Int) : beV x 1 = [byteV (x % 256)] := by simp [beV]
theorem bev_flag {x : Int} (h0 : 0 ≤ x) (h1 : ¬ 1 < x) : beV x 1 = [byteV (if decide (x = 1) = true then 1 else 0)] := by
  rw [bev1]
  by_cases h : x = 1
  · subst h; rfl
  · have : x = 0 := by omega
    subst this; rfl
theorem bev_count {x : Int} {n : Nat} (h : x = (n : Int)) : beV x 1 = [byteV ((n : Int) % 256)] := by rw [bev1, h]
theorem rw_ok {l : List Val} (hl : okL l = true) : ∀ s, (rwS l s).bad = false → s.bad = false ∧ s.pos ≤ (rwS l s).pos ∧ (rwS l s).pos ≤ l.length ∧ (rowW (.vl (rwV l s))).map byteM = sg l s.pos ((rwS l s).pos - s.pos) := fun _ h => rw_bytes hl h
theorem pn_ok {l : List Val} (hl : okL l = true) : ∀ s, (pnS l s).bad = false → s.bad = false ∧ s.pos ≤ (pnS l s).pos ∧ (pnS l s).pos ≤ l.length ∧ (paneW (.vl (pnV l s))).map byteM = sg l s.pos ((pnS l s).pos - s.pos) := fun _ h => pn_bytes hl h
theorem back1 {l : List Val} (hl : okL l = true) (h0 : ¬ l.length = 0) (hk : bI l 0 = 1) (he : parseV l = parseK l 1) (h : (arg (parseV l) 10).toI = 0) : rightM (repM (prs l)) = true ∧ (putV (prs l)).map byteM = l.map byteM := by
  have hp : parseK l 1 = finV l (rowsR l).2.1 (decide (1 < tkN l (s3R l) 1)) [.vi 1, idV l, .vi 0, .vb (decide (tkN l (s3R l) 1 = 1)), .vi (tkN l (s2R l) 8), .vi 0, .vi 0, .vi 0, .vi 0, .vi 0, .vl (rowsR l).2.2, .vl []] := rfl
  rw [he, hp] at h
  obtain ⟨b0, n0, o0, r0, e0⟩ := fin_ok h
  have hprs : prs l = [.vi 1, idV l, .vi 0, .vb (decide (tkN l (s3R l) 1 = 1)), .vi (tkN l (s2R l) 8), .vi 0, .vi 0, .vi 0, .vi 0, .vi 0, .vl (rowsR l).2.2, .vl []] := by
    unfold prs; rw [he, hp, e0]; rfl
  rw [hprs]
  refine ⟨r0, ?_⟩
  have q6 : (rowsR l).2.1.bad = false := b0
  have q5 : (s5R l).bad = false := lp_bad (fun s h => (rw_ok hl s h).1) _ _ _ q6
  have q4 : (s4R l).bad = false := (tkS_ok q5).1
  have q3 : (s3R l).bad = false := (tkS_ok q4).1
  have q2 : (s2R l).bad = false := (tkS_ok q3).1
  obtain ⟨_, c1, p⟩ : (s5R l).bad = false ∧ (rowsR l).2.2.length = nRows l ∧ Pre l (rowsR l).2.1 ([byteV (bI l 0)] ++ beV (tkN l (s1R l) 4) 4 ++ beV (tkN l (s2R l) 8) 8 ++ beV (tkN l (s3R l) 1) 1 ++ beV (tkN l (s4R l) 1) 1 ++ (rowsR l).2.2.flatMap rowW) := pre_lp (rw_ok hl) (n := nRows l) (pre5 hl h0 q5) q6
  have f1 : ¬ 1 < tkN l (s3R l) 1 := of_decide_eq_false o0
  have w1 := bev_flag (tkN_in hl (s3R l) 1).1 f1
  have w2 := bev_count (n := (rowsR l).2.2.length) (x := tkN l (s4R l) 1) (by rw [nRows_e hl]; exact congrArg (fun n : Nat => (n : Int)) c1.symm)
  have e := pre_end p (rows_le l) n0
  rw [w1, w2, hk] at e
  rw [← e]
  simp only [putV, idV, arg_0, arg_s, toI_vi, toB_vb, toL_vl, true_or, if_true, List.append_assoc, (by decide : ¬ ((1 : Int) = 4)), if_false, List.append_nil]
  rfl
theorem back2 {l : List Val} (hl : okL l = true) (h0 : ¬ l.length = 0) (hk : bI l 0 = 2) (he : parseV l = parseK l 2) (h : (arg (parseV l) 10).toI = 0) : rightM (repM (prs l)) = true ∧ (putV (prs l)).map byteM = l.map byteM := by
  have hp : parseK l 2 = finV l (tkS l (tkS l (tkS l (s2R l) 8) 8) 8) false [.vi 2, idV l, .vi 0, .vb false, .vi (tkN l (tkS l (s2R l) 8) 8), .vi 0, .vi (tkN l (tkS l (tkS l (s2R l) 8) 8) 8), .vi (tkN l (s2R l) 8), .vi 0, .vi 0, .vl [], .vl []] := rfl
  rw [he, hp] at h
  obtain ⟨b0, n0, o0, r0, e0⟩ := fin_ok h
  have hprs : prs l = [.vi 2, idV l, .vi 0, .vb false, .vi (tkN l (tkS l (s2R l) 8) 8), .vi 0, .vi (tkN l (tkS l (tkS l (s2R l) 8) 8) 8), .vi (tkN l (s2R l) 8), .vi 0, .vi 0, .vl [], .vl []] := by
    unfold prs; rw [he, hp, e0]; rfl
  rw [hprs]
  refine ⟨r0, ?_⟩
  have q2 := (tkS_ok b0).1
  have q1 := (tkS_ok q2).1
  have q0 := (tkS_ok q1).1
  have e := pre_end (pre_tk hl (pre_tk hl (pre_tk hl (pre2 hl h0 q0) q1) q2) b0) (tkS_le (tkS_le (tkS_le (s2_le l) 8) 8) 8) n0
  rw [hk] at e
  rw [← e]
  simp only [putV, idV, arg_0, arg_s, toI_vi, toB_vb, toL_vl, List.append_assoc]
  rfl
theorem back3 {l : List Val} (hl : okL l = true) (h0 : ¬ l.length = 0) (hk : bI l 0 = 3) (he : parseV l = parseK l 3) (h : (arg (parseV l) 10).toI = 0) : rightM (repM (prs l)) = true ∧ (putV (prs l)).map byteM = l.map byteM := by
  have hp : parseK l 3 = finV l (tkS l (tkS l (tkS l (s2R l) 8) 8) 8) false [.vi 3, idV l, .vi 0, .vb false, .vi (tkN l (tkS l (s2R l) 8) 8), .vi 0, .vi (tkN l (tkS l (tkS l (s2R l) 8) 8) 8), .vi (tkN l (s2R l) 8), .vi 0, .vi 0, .vl [], .vl []] := rfl
  rw [he, hp] at h
  obtain ⟨b0, n0, o0, r0, e0⟩ := fin_ok h
  have hprs : prs l = [.vi 3, idV l, .vi 0, .vb false, .vi (tkN l (tkS l (s2R l) 8) 8), .vi 0, .vi (tkN l (tkS l (tkS l (s2R l) 8) 8) 8), .vi (tkN l (s2R l) 8), .vi 0, .vi 0, .vl [], .vl []] := by
    unfold prs; rw [he, hp, e0]; rfl
  rw [hprs]
  refine ⟨r0, ?_⟩
  have q2 := (tkS_ok b0).1
  have q1 := (tkS_ok q2).1
  have q0 := (tkS_ok q1).1
  have e := pre_end (pre_tk hl (pre_tk hl (pre_tk hl (pre2 hl h0 q0) q1) q2) b0) (tkS_le (tkS_le (tkS_le (s2_le l) 8) 8) 8) n0
  rw [hk] at e
  rw [← e]
  simp only [putV, idV, arg_0, arg_s, toI_vi, toB_vb, toL_vl, List.append_assoc]
  rfl
theorem back4 {l : List Val} (hl : okL l = true) (h0 : ¬ l.length = 0) (hk : bI l 0 = 4) (he : parseV l = parseK l 4) (h : (arg (parseV l) 10).toI = 0) : rightM (repM (prs l)) = true ∧ (putV (prs l)).map byteM = l.map byteM := by
  have hp : parseK l 4 = finV l (goneR l).2.1 (decide (1 < tkN l (s3R l) 1)) [.vi 4, idV l, .vi 0, .vb (decide (tkN l (s3R l) 1 = 1)), .vi (tkN l (s2R l) 8), .vi 0, .vi 0, .vi 0, .vi 0, .vi 0, .vl (rowsR l).2.2, .vl (goneR l).2.2] := rfl
  rw [he, hp] at h
  obtain ⟨b0, n0, o0, r0, e0⟩ := fin_ok h
  have hprs : prs l = [.vi 4, idV l, .vi 0, .vb (decide (tkN l (s3R l) 1 = 1)), .vi (tkN l (s2R l) 8), .vi 0, .vi 0, .vi 0, .vi 0, .vi 0, .vl (rowsR l).2.2, .vl (goneR l).2.2] := by
    unfold prs; rw [he, hp, e0]; rfl
  rw [hprs]
  refine ⟨r0, ?_⟩
  have g0 : (s6R l).bad = false := lp_bad (fun s h => (pn_ok hl s h).1) _ _ _ b0
  have q6 : (rowsR l).2.1.bad = false := (tkS_ok g0).1
  have q5 : (s5R l).bad = false := lp_bad (fun s h => (rw_ok hl s h).1) _ _ _ q6
  have q4 : (s4R l).bad = false := (tkS_ok q5).1
  have q3 : (s3R l).bad = false := (tkS_ok q4).1
  have q2 : (s2R l).bad = false := (tkS_ok q3).1
  obtain ⟨_, c1, p⟩ : (s5R l).bad = false ∧ (rowsR l).2.2.length = nRows l ∧ Pre l (rowsR l).2.1 ([byteV (bI l 0)] ++ beV (tkN l (s1R l) 4) 4 ++ beV (tkN l (s2R l) 8) 8 ++ beV (tkN l (s3R l) 1) 1 ++ beV (tkN l (s4R l) 1) 1 ++ (rowsR l).2.2.flatMap rowW) := pre_lp (rw_ok hl) (n := nRows l) (pre5 hl h0 q5) q6
  have f1 : ¬ 1 < tkN l (s3R l) 1 := of_decide_eq_false o0
  have w1 := bev_flag (tkN_in hl (s3R l) 1).1 f1
  have w2 := bev_count (n := (rowsR l).2.2.length) (x := tkN l (s4R l) 1) (by rw [nRows_e hl]; exact congrArg (fun n : Nat => (n : Int)) c1.symm)
  obtain ⟨_, c2, p2⟩ : (s6R l).bad = false ∧ (goneR l).2.2.length = nGone l ∧ Pre l (goneR l).2.1 ([byteV (bI l 0)] ++ beV (tkN l (s1R l) 4) 4 ++ beV (tkN l (s2R l) 8) 8 ++ beV (tkN l (s3R l) 1) 1 ++ beV (tkN l (s4R l) 1) 1 ++ (rowsR l).2.2.flatMap rowW ++ beV (tkN l (rowsR l).2.1 1) 1 ++ (goneR l).2.2.flatMap paneW) := pre_lp (pn_ok hl) (n := nGone l) (pre6 hl p g0) b0
  have w3 := bev_count (n := (goneR l).2.2.length) (x := tkN l (rowsR l).2.1 1) (by rw [nGone_e hl]; exact congrArg (fun n : Nat => (n : Int)) c2.symm)
  have e := pre_end p2 (gone_le l) n0
  rw [w1, w2, w3, hk] at e
  rw [← e]
  simp only [putV, idV, arg_0, arg_s, toI_vi, toB_vb, toL_vl, or_true, if_true, List.append_assoc]
  rfl
theorem back5 {l : List Val} (hl : okL l = true) (h0 : ¬ l.length = 0) (hk : bI l 0 = 5) (he : parseV l = parseK l 5) (h : (arg (parseV l) 10).toI = 0) : rightM (repM (prs l)) = true ∧ (putV (prs l)).map byteM = l.map byteM := by
  have hp : parseK l 5 = finV l (tkS l (tkS l (tkS l (tkS l (s2R l) 8) 8) 8) 8) false [.vi 5, idV l, .vi 0, .vb false, .vi (tkN l (s2R l) 8), .vi (tkN l (tkS l (s2R l) 8) 8), .vi 0, .vi 0, .vi (tkN l (tkS l (tkS l (s2R l) 8) 8) 8), .vi (tkN l (tkS l (tkS l (tkS l (s2R l) 8) 8) 8) 8), .vl [], .vl []] := rfl
  rw [he, hp] at h
  obtain ⟨b0, n0, o0, r0, e0⟩ := fin_ok h
  have hprs : prs l = [.vi 5, idV l, .vi 0, .vb false, .vi (tkN l (s2R l) 8), .vi (tkN l (tkS l (s2R l) 8) 8), .vi 0, .vi 0, .vi (tkN l (tkS l (tkS l (s2R l) 8) 8) 8), .vi (tkN l (tkS l (tkS l (tkS l (s2R l) 8) 8) 8) 8), .vl [], .vl []] := by
    unfold prs; rw [he, hp, e0]; rfl
  rw [hprs]
  refine ⟨r0, ?_⟩
  have q3 := (tkS_ok b0).1
  have q2 := (tkS_ok q3).1
  have q1 := (tkS_ok q2).1
  have q0 := (tkS_ok q1).1
  have e := pre_end (pre_tk hl (pre_tk hl (pre_tk hl (pre_tk hl (pre2 hl h0 q0) q1) q2) q3) b0) (tkS_le (tkS_le (tkS_le (tkS_le (s2_le l) 8) 8) 8) 8) n0
  rw [hk] at e
  rw [← e]
  simp only [putV, idV, arg_0, arg_s, toI_vi, toB_vb, toL_vl, List.append_assoc]
  rfl
theorem back6 {l : List Val} (hl : okL l = true) (h0 : ¬ l.length = 0) (hk : bI l 0 = 6) (he : parseV l = parseK l 6) (h : (arg (parseV l) 10).toI = 0) : rightM (repM (prs l)) = true ∧ (putV (prs l)).map byteM = l.map byteM := by
  have hp : parseK l 6 = finV l (s2R l) false [.vi 6, idV l, .vi 0, .vb false, .vi 0, .vi 0, .vi 0, .vi 0, .vi 0, .vi 0, .vl [], .vl []] := rfl
  rw [he, hp] at h
  obtain ⟨b0, n0, o0, r0, e0⟩ := fin_ok h
  have hprs : prs l = [.vi 6, idV l, .vi 0, .vb false, .vi 0, .vi 0, .vi 0, .vi 0, .vi 0, .vi 0, .vl [], .vl []] := by
    unfold prs; rw [he, hp, e0]; rfl
  rw [hprs]
  refine ⟨r0, ?_⟩
  have q0 := b0
  have e := pre_end (pre2 hl h0 q0) (s2_le l) n0
  rw [hk] at e
  rw [← e]
  simp only [putV, idV, arg_0, arg_s, toI_vi, toB_vb, toL_vl, List.append_assoc]
  rfl
theorem back7 {l : List Val} (hl : okL l = true) (h0 : ¬ l.length = 0) (hk : bI l 0 = 7) (he : parseV l = parseK l 7) (h : (arg (parseV l) 10).toI = 0) : rightM (repM (prs l)) = true ∧ (putV (prs l)).map byteM = l.map byteM := by
  have hp : parseK l 7 = finV l (tkS l (tkS l (s2R l) 2) 8) false [.vi 7, idV l, .vi (tkN l (s2R l) 2), .vb false, .vi 0, .vi (tkN l (tkS l (s2R l) 2) 8), .vi 0, .vi 0, .vi 0, .vi 0, .vl [], .vl []] := rfl
  rw [he, hp] at h
  obtain ⟨b0, n0, o0, r0, e0⟩ := fin_ok h
  have hprs : prs l = [.vi 7, idV l, .vi (tkN l (s2R l) 2), .vb false, .vi 0, .vi (tkN l (tkS l (s2R l) 2) 8), .vi 0, .vi 0, .vi 0, .vi 0, .vl [], .vl []] := by
    unfold prs; rw [he, hp, e0]; rfl
  rw [hprs]
  refine ⟨r0, ?_⟩
  have q1 := (tkS_ok b0).1
  have q0 := (tkS_ok q1).1
  have e := pre_end (pre_tk hl (pre_tk hl (pre2 hl h0 q0) q1) b0) (tkS_le (tkS_le (s2_le l) 2) 8) n0
  rw [hk] at e
  rw [← e]
  simp only [putV, idV, arg_0, arg_s, toI_vi, toB_vb, toL_vl, List.append_assoc]
  rfl
theorem back {l : List Val} (hl : okL l = true) (h : (arg (parseV l) 10).toI = 0) : rightM (repM (prs l)) = true ∧ (putV (prs l)).map byteM = l.map byteM := by
  by_cases h0 : l.length = 0
  · rw [parse_blank h0] at h; exact absurd h (by decide)
  by_cases h2 : bI l 0 < 1 ∨ 7 < bI l 0
  · rw [parse_odd h0 h2] at h; exact absurd h (by decide)
  have he := parse_kind h0 h2
  have : bI l 0 = 1 ∨ bI l 0 = 2 ∨ bI l 0 = 3 ∨ bI l 0 = 4 ∨ bI l 0 = 5 ∨ bI l 0 = 6 ∨ bI l 0 = 7 := by omega
  rcases this with k | k | k | k | k | k | k
  · exact back1 hl h0 k (by rw [he, k]) h
  · exact back2 hl h0 k (by rw [he, k]) h
  · exact back3 hl h0 k (by rw [he, k]) h
  · exact back4 hl h0 k (by rw [he, k]) h
  · exact back5 hl h0 k (by rw [he, k]) h
  · exact back6 hl h0 k (by rw [he, k]) h
  · exact back7 hl h0 k (by rw [he, k]) h
/-- At a place of the bytes, these. -/
def Has (l : List Val) (i : Nat) (w : List Val) : Prop := ∃ post, l.drop i = w ++ post
theorem has_app {l : List Val} {i : Nat} {u v : List Val} (h : Has l i (u ++ v)) : Has l i u ∧ Has l (i + u.length) v := by
  obtain ⟨p, h⟩ := h
  refine ⟨⟨v ++ p, by rw [h, List.append_assoc]⟩, p, ?_⟩
  rw [← List.drop_drop, h, List.append_assoc, List.drop_left]
theorem has_self (l : List Val) : Has l 0 l := ⟨[], by simp⟩
theorem has_one {l : List Val} {i : Nat} {x : Int} (h : Has l i [byteV x]) : i < l.length ∧ bI l i = x := by
  obtain ⟨p, h⟩ := h
  have h1 := congrArg List.length h
  simp only [List.length_drop, List.length_append, List.length_cons, List.length_nil] at h1
  have h2 : l[i]? = some (byteV x) := by
    have := congrArg (fun z : List Val => z[0]?) h
    simpa using this
  refine ⟨by omega, ?_⟩
  unfold bI atV
  rw [List.getD_eq_getElem?_getD, h2]; rfl
theorem has_num {l : List Val} {i : Nat} : ∀ {n x : Nat}, Has l i (beV (x : Int) n) → 0 < n → i + n ≤ l.length ∧ numV l i n = ((x % 256 ^ n : Nat) : Int)
  | 0, _, _, h => absurd h (by decide)
  | n + 1, x, h, _ => by
    rw [beV_snoc] at h
    obtain ⟨h1, h2⟩ := has_app h
    rw [beV_len] at h2
    obtain ⟨h3, h4⟩ := has_one h2
    have e1 : (x : Int) / 256 = ((x / 256 : Nat) : Int) := by omega
    rw [e1] at h1
    have hn : numV l i n = ((x / 256 % 256 ^ n : Nat) : Int) := by
      cases n with
      | zero => simp [numV, Nat.mod_one]
      | succ n => exact (has_num h1 (by omega)).2
    refine ⟨by omega, ?_⟩
    show numV l i n * 256 + bI l (i + n) = _
    rw [hn, h4, show 256 ^ (n + 1) = 256 * 256 ^ n by rw [Nat.pow_succ, Nat.mul_comm], Nat.mod_mul]
    omega
theorem has_tk {l : List Val} {i n : Nat} {x : Int} (h : Has l i (beV x n)) (h0 : 0 ≤ x) (h1 : x < 256 ^ n) (hn : 0 < n) : tkS l ⟨i, false⟩ n = ⟨i + n, false⟩ ∧ tkN l ⟨i, false⟩ n = x := by
  obtain ⟨m, rfl⟩ := Int.eq_ofNat_of_zero_le h0
  obtain ⟨h2, h3⟩ := has_num h hn
  have hm : m < 256 ^ n := by
    have : (m : Int) < ((256 ^ n : Nat) : Int) := by rw [Int.natCast_pow]; exact h1
    omega
  have hc : fitR l ⟨i, false⟩ n = true := by simp [fitR, h2]
  rw [Nat.mod_eq_of_lt hm] at h3
  exact ⟨by unfold tkS; rw [hc]; rfl, by unfold tkN; rw [hc]; exact h3⟩
theorem has_i64 {l : List Val} {i : Nat} {x : Int} (h : Has l i (beV x 8)) (hx : i64B x = true) : tkS l ⟨i, false⟩ 8 = ⟨i + 8, false⟩ ∧ wI (tkN l ⟨i, false⟩ 8) = .vi x := by
  simp only [i64B, Bool.and_eq_true, decide_eq_true_eq] at hx
  rw [← beV_u64 x (Nat.le_refl 8)] at h
  have e : (256 : Int) ^ 8 = 18446744073709551616 := by decide
  obtain ⟨h1, h2⟩ := has_tk h (by rw [wu64]; omega) (by rw [wu64, e]; omega) (by decide)
  refine ⟨h1, ?_⟩
  rw [h2]
  unfold wI
  congr 1
  rw [wu64]
  simp only [IntKind.wrap, IntKind.bits, IntKind.signed]
  simp
  omega
theorem textV_len (s : List UInt8) : (textV s).length = 2 + s.length := by rw [textV, List.length_append, List.length_map, beV_len]
theorem has_tx {l : List Val} {i : Nat} {s : List UInt8} (h : Has l i (textV s)) (hs : s.length < 65536) : txS l ⟨i, false⟩ = ⟨i + (textV s).length, false⟩ ∧ txV l ⟨i, false⟩ = s := by
  rw [textV] at h
  obtain ⟨h1, h2⟩ := has_app h
  rw [beV_len] at h2
  have e : (256 : Int) ^ 2 = 65536 := by decide
  obtain ⟨h3, h4⟩ := has_tk h1 (by omega) (by rw [e]; omega) (by decide)
  obtain ⟨p, h2⟩ := h2
  have h5 := congrArg List.length h2
  simp only [List.length_drop, List.length_append, List.length_map] at h5
  have hN : txN l ⟨i, false⟩ = s.length := by unfold txN; rw [h4]; omega
  have hfit : fitR l ⟨i, false⟩ 2 = true := by
    cases hc : fitR l ⟨i, false⟩ 2 with
    | true => rfl
    | false =>
      unfold tkS at h3
      rw [hc] at h3
      cases h3
  have h6 : i + 2 ≤ l.length := by
    simp only [fitR, Bool.and_eq_true, decide_eq_true_eq] at hfit; exact hfit.2
  have ho : txOk l ⟨i, false⟩ = true := by
    unfold txOk
    rw [hfit, hN, decide_eq_true (by show i + 2 + s.length ≤ l.length; omega)]; rfl
  refine ⟨?_, ?_⟩
  · unfold txS
    rw [ho, hN, textV_len]
    show Rd.mk (i + 2 + s.length) false = _
    congr 1; omega
  · unfold txV
    rw [ho, hN]
    show ((l.drop (i + 2)).take s.length).map _ = s
    rw [h2, List.take_append_of_le_length (by simp), List.take_of_length_le (by simp), List.map_map]
    have : ∀ b : UInt8, ((fun r : Val => UInt8.ofNat (r.toL.getD 0 default).toI.toNat) ∘ fun b : UInt8 => byteV b.toNat) b = b := fun b => by
      show UInt8.ofNat ((b.toNat : Int)).toNat = b
      rw [Int.toNat_natCast]
      exact UInt8.ofNat_toNat
    rw [List.map_congr_left (fun b _ => this b), List.map_id']
theorem has_pn {l : List Val} {i : Nat} {r : Val} (h : Has l i (paneW r)) (hs : (colV r 0).toS.length < 65536) (hi : paneI r = true) : pnS l ⟨i, false⟩ = ⟨i + (paneW r).length, false⟩ ∧ pnV l ⟨i, false⟩ = [.vs (colV r 0).toS, .vi (colV r 1).toI, .vi (colV r 2).toI] := by
  simp only [paneI, Bool.and_eq_true] at hi
  unfold paneW at h
  obtain ⟨h1, h2⟩ := has_app h
  obtain ⟨h3, h4⟩ := has_app h1
  obtain ⟨a1, a2⟩ := has_tx h3 hs
  obtain ⟨b1, b2⟩ := has_i64 h4 hi.1
  rw [List.length_append, beV_len, ← Nat.add_assoc] at h2
  obtain ⟨c1, c2⟩ := has_i64 h2 hi.2
  refine ⟨?_, ?_⟩
  · unfold pnS
    rw [a1, b1, c1]
    unfold paneW
    rw [List.length_append, List.length_append, beV_len, beV_len]
    congr 1
  · unfold pnV
    rw [a1, b1, a2, b2, c2]
theorem has_rw {l : List Val} {i : Nat} {r : Val} (h : Has l i (rowW r)) (hs : (colV r 0).toS.length < 65536) (hi : rowI r = true) : rwS l ⟨i, false⟩ = ⟨i + (rowW r).length, false⟩ ∧ rwV l ⟨i, false⟩ = [.vs (colV r 0).toS, .vi (colV r 1).toI, .vi (colV r 2).toI, .vi (colV r 3).toI, .vi (colV r 4).toI, .vi (colV r 5).toI, .vi (colV r 6).toI] := by
  simp only [rowI, Bool.and_eq_true] at hi
  obtain ⟨hp, ⟨⟨i3, i4⟩, i5⟩, i6⟩ := hi
  unfold rowW at h
  obtain ⟨h1, h2⟩ := has_app h
  obtain ⟨a1, a2⟩ := has_pn h1 hs hp
  obtain ⟨h2, g6⟩ := has_app h2
  obtain ⟨h2, g5⟩ := has_app h2
  obtain ⟨g3, g4⟩ := has_app h2
  rw [beV_len] at g4
  rw [List.length_append, beV_len, beV_len, show i + (paneW r).length + (8 + 8) = i + (paneW r).length + 8 + 8 by omega] at g5
  rw [List.length_append, List.length_append, beV_len, beV_len, beV_len, show i + (paneW r).length + (8 + 8 + 8) = i + (paneW r).length + 8 + 8 + 8 by omega] at g6
  obtain ⟨b1, b2⟩ := has_i64 g3 i3
  obtain ⟨c1, c2⟩ := has_i64 g4 i4
  obtain ⟨d1, d2⟩ := has_i64 g5 i5
  obtain ⟨e1, e2⟩ := has_i64 g6 i6
  refine ⟨?_, ?_⟩
  · unfold rwS
    rw [a1, b1, c1, d1, e1]
    unfold rowW
    rw [List.length_append, List.length_append, List.length_append, List.length_append, beV_len, beV_len, beV_len, beV_len]
    congr 1
  · unfold rwV
    rw [a1, b1, c1, d1, a2, b2, c2, d2, e2]; rfl
theorem has_lp {l : List Val} {f : Rd → Rd} {g : Rd → List Val} {W : Val → List Val} {G : Val → List Val} : ∀ (rows : List Val) (i : Nat) (acc : List Val), (∀ r ∈ rows, ∀ j, Has l j (W r) → f ⟨j, false⟩ = ⟨j + (W r).length, false⟩ ∧ g ⟨j, false⟩ = G r) → Has l i (rows.flatMap W) →
    lpR f g rows.length ⟨i, false⟩ acc = (0, ⟨i + (rows.flatMap W).length, false⟩, acc ++ rows.map fun r => .vl (G r))
  | [], i, acc, _, _ => by simp [lpR]
  | r :: rows, i, acc, hr, h => by
    rw [List.flatMap_cons] at h
    obtain ⟨h1, h2⟩ := has_app h
    obtain ⟨k1, k2⟩ := hr r (List.mem_cons_self ..) i h1
    have ih := has_lp rows (i + (W r).length) (acc ++ [.vl (G r)]) (fun x hx => hr x (List.mem_cons_of_mem _ hx)) h2
    show lpR f g rows.length (f ⟨i, false⟩) (acc ++ [.vl (g ⟨i, false⟩)]) = _
    rw [k1, k2, ih, List.flatMap_cons, List.length_append, List.map_cons, List.append_assoc, Nat.add_assoc]
    rfl
def G7 (r : Val) : List Val := [.vs (colV r 0).toS, .vi (colV r 1).toI, .vi (colV r 2).toI, .vi (colV r 3).toI, .vi (colV r 4).toI, .vi (colV r 5).toI, .vi (colV r 6).toI]
def G3 (r : Val) : List Val := [.vs (colV r 0).toS, .vi (colV r 1).toI, .vi (colV r 2).toI]
theorem has_b {l : List Val} {i n : Nat} {x : Int} {v : List Val} (h : Has l i (beV x n ++ v)) : Has l i (beV x n) ∧ Has l (i + n) v := by
  have := has_app h
  rwa [beV_len] at this
theorem has_c {l : List Val} {i : Nat} {x : Int} {v : List Val} (h : Has l i ([byteV x] ++ v)) : Has l i [byteV x] ∧ Has l (i + 1) v := has_app h
theorem has_byte {l : List Val} {i : Nat} {x : Int} (h : Has l i [byteV x]) : tkS l ⟨i, false⟩ 1 = ⟨i + 1, false⟩ ∧ tkN l ⟨i, false⟩ 1 = x := by
  obtain ⟨h1, h2⟩ := has_one h
  have hc : fitR l ⟨i, false⟩ 1 = true := by simp [fitR]; omega
  exact ⟨by unfold tkS; rw [hc]; rfl, by unfold tkN; rw [hc]; show numV l i 1 = x; rw [num1]; exact h2⟩
theorem s1_eq {l : List Val} {x : Int} (h : Has l 0 [byteV x]) : s1R l = ⟨1, false⟩ ∧ bI l 0 = x ∧ ¬ l.length = 0 := by
  obtain ⟨h1, h2⟩ := has_one h
  exact ⟨(has_byte h).1, h2, by omega⟩
theorem fin_eq {l : List Val} {n : Nat} {a : List Val} (h1 : ¬ n < l.length) (h2 : rightM (repM a) = true) : finV l ⟨n, false⟩ false a = [arg a 0, arg a 1, arg a 2, arg a 3, arg a 4, arg a 5, arg a 6, arg a 7, arg a 8, arg a 9, .vi 0, arg a 10, arg a 11] := by
  unfold finV
  rw [decide_eq_false h1, h2]; rfl
theorem prs_eq {l : List Val} {b0 b1 b2 b3 b4 b5 b6 b7 b8 b9 b10 b11 : Val} (h : parseV l = [b0, b1, b2, b3, b4, b5, b6, b7, b8, b9, .vi 0, b10, b11]) : (arg (parseV l) 10).toI = 0 ∧ prs l = [b0, b1, b2, b3, b4, b5, b6, b7, b8, b9, b10, b11] := by
  unfold prs; rw [h]; exact ⟨rfl, rfl⟩
theorem rows_G (v : List Val) : rowsM (.vl (v.map fun r => .vl (G7 r))) = v.map rowM := by
  show (v.map fun r => .vl (G7 r)).map rowM = _
  rw [List.map_map]; rfl
theorem panes_G (v : List Val) : panesM (.vl (v.map fun r => .vl (G3 r))) = v.map paneM := by
  show (v.map fun r => .vl (G3 r)).map paneM = _
  rw [List.map_map]; rfl
theorem rows_at {v : List Val} (h : v.any rowBV = false) (hi : v.all rowI = true) (l : List Val) : ∀ r ∈ v, ∀ j, Has l j (rowW r) → rwS l ⟨j, false⟩ = ⟨j + (rowW r).length, false⟩ ∧ rwV l ⟨j, false⟩ = G7 r := by
  intro r hr j hh
  have h1 : rowBV r = false := by
    simp only [List.any_eq_false] at h
    simpa using h r hr
  rw [rowBV_f] at h1
  exact has_rw hh (by omega) (List.all_eq_true.1 hi r hr)
theorem panes_at {v : List Val} (h : v.any paneBV = false) (hi : v.all paneI = true) (l : List Val) : ∀ r ∈ v, ∀ j, Has l j (paneW r) → pnS l ⟨j, false⟩ = ⟨j + (paneW r).length, false⟩ ∧ pnV l ⟨j, false⟩ = G3 r := by
  intro r hr j hh
  have h1 : paneBV r = false := by
    simp only [List.any_eq_false] at h
    simpa using h r hr
  rw [paneBV_f] at h1
  exact has_pn hh (by omega) (List.all_eq_true.1 hi r hr)
def RangesOk (a : List Val) : Prop := (0 ≤ (arg a 1).toI ∧ (arg a 1).toI < 4294967296) ∧ (0 ≤ (arg a 2).toI ∧ (arg a 2).toI < 65536) ∧ (0 ≤ (arg a 4).toI ∧ (arg a 4).toI < 18446744073709551616) ∧ (0 ≤ (arg a 5).toI ∧ (arg a 5).toI < 18446744073709551616) ∧ (0 ≤ (arg a 6).toI ∧ (arg a 6).toI < 18446744073709551616) ∧ (0 ≤ (arg a 7).toI ∧ (arg a 7).toI < 18446744073709551616) ∧ (0 ≤ (arg a 8).toI ∧ (arg a 8).toI < 18446744073709551616) ∧ (0 ≤ (arg a 9).toI ∧ (arg a 9).toI < 18446744073709551616) ∧ (arg a 10).toL.all rowI = true ∧ (arg a 11).toL.all paneI = true
theorem p4 {x : Int} (h : x < 4294967296) : x < 256 ^ 4 := by rw [show (256 : Int) ^ 4 = 4294967296 by decide]; exact h
theorem p2 {x : Int} (h : x < 65536) : x < 256 ^ 2 := by rw [show (256 : Int) ^ 2 = 65536 by decide]; exact h
theorem p8 {x : Int} (h : x < 18446744073709551616) : x < 256 ^ 8 := by rw [show (256 : Int) ^ 8 = 18446744073709551616 by decide]; exact h
theorem right_parts {a : List Val} (h : rightM (repM a) = true) : 1 ≤ (arg a 0).toI ∧ (arg a 0).toI ≤ 7 ∧ (arg a 10).toL.length + (arg a 11).toL.length ≤ 64 ∧ (arg a 10).toL.any rowBV = false ∧ (arg a 11).toL.any paneBV = false ∧ restM (repM a) = true := by
  rw [rightM_eq] at h
  simp only [checksM, Bool.and_eq_true, decide_eq_true_eq, Bool.not_eq_true'] at h
  exact ⟨h.1.1.1, h.1.1.2, h.2.1.1.1, h.2.1.1.2, h.2.1.2, h.2.2⟩
theorem fwd1 {w0 w1 w2 w3 w4 w5 w6 w7 w8 w9 w10 w11 : Val} (hr : rightM (repM [w0, w1, w2, w3, w4, w5, w6, w7, w8, w9, w10, w11]) = true) (hk : w0.toI = 1) (ho : RangesOk [w0, w1, w2, w3, w4, w5, w6, w7, w8, w9, w10, w11]) : (arg (parseV (putV [w0, w1, w2, w3, w4, w5, w6, w7, w8, w9, w10, w11])) 10).toI = 0 ∧ repM (prs (putV [w0, w1, w2, w3, w4, w5, w6, w7, w8, w9, w10, w11])) = repM [w0, w1, w2, w3, w4, w5, w6, w7, w8, w9, w10, w11] := by
  obtain ⟨_, _, c3, c4, c5, c6⟩ := right_parts hr
  have hrest := c6
  simp [restM, repM, arg_0, arg_s, hk, rowsM, panesM] at hrest
  have hrep : repM [.vi 1, .vi w1.toI, .vi 0, .vb w3.toB, .vi w4.toI, .vi 0, .vi 0, .vi 0, .vi 0, .vi 0, .vl (w10.toL.map fun r => .vl (G7 r)), .vl []] = repM [w0, w1, w2, w3, w4, w5, w6, w7, w8, w9, w10, w11] := by
    simp only [repM, arg_0, arg_s, RepM.mk.injEq, toI_vi, toB_vb, rows_G, panes_G]
    simp [hk, hrest, rowsM, panesM]
  have hA : rightM (repM [.vi 1, .vi w1.toI, .vi 0, .vb w3.toB, .vi w4.toI, .vi 0, .vi 0, .vi 0, .vi 0, .vi 0, .vl (w10.toL.map fun r => .vl (G7 r)), .vl []]) = true := by rw [hrep]; exact hr
  obtain ⟨q1, q2, q4, q5, q6, q7, q8, q9, qr, qg⟩ := ho
  simp only [arg_0, arg_s] at q1 q2 q4 q5 q6 q7 q8 q9 qr qg c3 c4 c5
  obtain ⟨L, hL⟩ : ∃ L, putV [w0, w1, w2, w3, w4, w5, w6, w7, w8, w9, w10, w11] = L := ⟨_, rfl⟩
  rw [hL]
  have h := has_self L
  have hw : L = [byteV 1] ++ (beV w1.toI 4 ++ (beV w4.toI 8 ++ ([byteV (if w3.toB = true then 1 else 0)] ++ ([byteV ((w10.toL.length : Int) % 256)] ++ (w10.toL.flatMap rowW))))) := by
    rw [← hL]
    simp only [putV, arg_0, arg_s, hk, (by decide : ¬ ((1 : Int) = 4)), (by decide : ¬ ((2 : Int) = 1 ∨ (2 : Int) = 4)), (by decide : ¬ ((3 : Int) = 1 ∨ (3 : Int) = 4)), (by decide : ¬ ((5 : Int) = 1 ∨ (5 : Int) = 4)), (by decide : ¬ ((6 : Int) = 1 ∨ (6 : Int) = 4)), (by decide : ¬ ((7 : Int) = 1 ∨ (7 : Int) = 4)), (by decide : ¬ ((5 : Int) = 2 ∨ (5 : Int) = 3)), (by decide : ¬ ((6 : Int) = 2 ∨ (6 : Int) = 3)), (by decide : ¬ ((7 : Int) = 2 ∨ (7 : Int) = 3)), (by decide : ¬ ((6 : Int) = 5)), (by decide : ¬ ((7 : Int) = 5)), (by decide : ¬ ((6 : Int) = 7)), true_or, or_true, if_true, if_false, List.append_nil, List.append_assoc]
    rfl
  have hlen := congrArg List.length hw
  simp only [List.length_append, List.length_cons, List.length_nil, beV_len] at hlen
  have h : Has L 0 ([byteV 1] ++ (beV w1.toI 4 ++ (beV w4.toI 8 ++ ([byteV (if w3.toB = true then 1 else 0)] ++ ([byteV ((w10.toL.length : Int) % 256)] ++ (w10.toL.flatMap rowW)))))) := by
    have h2 := h
    rw [hw] at h2
    rw [hw]; exact h2
  obtain ⟨h0, h⟩ := has_c h
  obtain ⟨e1, e2, e3⟩ := s1_eq h0
  obtain ⟨hid, h⟩ := has_b h
  obtain ⟨i1, i2⟩ := has_tk hid q1.1 (p4 q1.2) (by decide)
  have i3 : s2R L = ⟨0 + 1 + 4, false⟩ := by unfold s2R; rw [e1]; exact i1
  have i4 : idV L = .vi w1.toI := by unfold idV; rw [e1]; exact congrArg Val.vi i2
  obtain ⟨m0, h⟩ := has_b h
  obtain ⟨u0, v0⟩ := has_tk m0 q4.1 (p8 q4.2) (by decide)
  obtain ⟨m1, h⟩ := has_c h
  obtain ⟨u1, v1⟩ := has_byte m1
  obtain ⟨mc2, h⟩ := has_c h
  obtain ⟨uc2, vc2⟩ := has_byte mc2
  have m2 := h
  have u2 := has_lp w10.toL (0 + 1 + 4 + 8 + 1 + 1) [] (rows_at c4 qr L) m2
  have j3 : s3R L = ⟨0 + 1 + 4 + 8, false⟩ := by unfold s3R; rw [i3]; exact u0
  have j4 : s4R L = ⟨0 + 1 + 4 + 8 + 1, false⟩ := by unfold s4R; rw [j3]; exact u1
  have j5 : s5R L = ⟨0 + 1 + 4 + 8 + 1 + 1, false⟩ := by unfold s5R; rw [j4]; exact uc2
  have jn : (tkN L (s4R L) 1).toNat = w10.toL.length := by rw [j4, vc2]; omega
  have jr : rowsR L = (0, ⟨0 + 1 + 4 + 8 + 1 + 1 + (w10.toL.flatMap rowW).length, false⟩, w10.toL.map fun r => .vl (G7 r)) := by
    unfold rowsR; rw [jn, j5]; exact u2
  have jf : tkN L (s3R L) 1 = if w3.toB = true then 1 else 0 := by rw [j3]; exact v1
  have jo : decide (1 < tkN L (s3R L) 1) = false := by rw [jf]; cases w3.toB <;> rfl
  have jl : decide (tkN L (s3R L) 1 = 1) = w3.toB := by rw [jf]; cases w3.toB <;> rfl
  have hp : parseV L = finV L ⟨0 + 1 + 4 + 8 + 1 + 1 + (w10.toL.flatMap rowW).length, false⟩ false [.vi 1, .vi w1.toI, .vi 0, .vb w3.toB, .vi w4.toI, .vi 0, .vi 0, .vi 0, .vi 0, .vi 0, .vl (w10.toL.map fun r => .vl (G7 r)), .vl []] := by
    rw [parse_kind e3 (by omega), e2]
    show finV L (rowsR L).2.1 (decide (1 < tkN L (s3R L) 1)) _ = _
    rw [jo, jl, jr, i3, v0, i4]
  rw [fin_eq (by omega) hA] at hp
  obtain ⟨g1, g2⟩ := prs_eq hp
  exact ⟨g1, by rw [g2]; exact hrep⟩
theorem fwd2 {w0 w1 w2 w3 w4 w5 w6 w7 w8 w9 w10 w11 : Val} (hr : rightM (repM [w0, w1, w2, w3, w4, w5, w6, w7, w8, w9, w10, w11]) = true) (hk : w0.toI = 2) (ho : RangesOk [w0, w1, w2, w3, w4, w5, w6, w7, w8, w9, w10, w11]) : (arg (parseV (putV [w0, w1, w2, w3, w4, w5, w6, w7, w8, w9, w10, w11])) 10).toI = 0 ∧ repM (prs (putV [w0, w1, w2, w3, w4, w5, w6, w7, w8, w9, w10, w11])) = repM [w0, w1, w2, w3, w4, w5, w6, w7, w8, w9, w10, w11] := by
  obtain ⟨_, _, c3, c4, c5, c6⟩ := right_parts hr
  have hrest := c6
  simp [restM, repM, arg_0, arg_s, hk, rowsM, panesM] at hrest
  have hrep : repM [.vi 2, .vi w1.toI, .vi 0, .vb false, .vi w4.toI, .vi 0, .vi w6.toI, .vi w7.toI, .vi 0, .vi 0, .vl [], .vl []] = repM [w0, w1, w2, w3, w4, w5, w6, w7, w8, w9, w10, w11] := by
    simp only [repM, arg_0, arg_s, RepM.mk.injEq, toI_vi, toB_vb, rows_G, panes_G]
    simp [hk, hrest, rowsM, panesM]
  have hA : rightM (repM [.vi 2, .vi w1.toI, .vi 0, .vb false, .vi w4.toI, .vi 0, .vi w6.toI, .vi w7.toI, .vi 0, .vi 0, .vl [], .vl []]) = true := by rw [hrep]; exact hr
  obtain ⟨q1, q2, q4, q5, q6, q7, q8, q9, qr, qg⟩ := ho
  simp only [arg_0, arg_s] at q1 q2 q4 q5 q6 q7 q8 q9 qr qg c3 c4 c5
  obtain ⟨L, hL⟩ : ∃ L, putV [w0, w1, w2, w3, w4, w5, w6, w7, w8, w9, w10, w11] = L := ⟨_, rfl⟩
  rw [hL]
  have h := has_self L
  have hw : L = [byteV 2] ++ (beV w1.toI 4 ++ (beV w7.toI 8 ++ (beV w4.toI 8 ++ (beV w6.toI 8)))) := by
    rw [← hL]
    simp only [putV, arg_0, arg_s, hk, (by decide : ¬ ((1 : Int) = 4)), (by decide : ¬ ((2 : Int) = 1 ∨ (2 : Int) = 4)), (by decide : ¬ ((3 : Int) = 1 ∨ (3 : Int) = 4)), (by decide : ¬ ((5 : Int) = 1 ∨ (5 : Int) = 4)), (by decide : ¬ ((6 : Int) = 1 ∨ (6 : Int) = 4)), (by decide : ¬ ((7 : Int) = 1 ∨ (7 : Int) = 4)), (by decide : ¬ ((5 : Int) = 2 ∨ (5 : Int) = 3)), (by decide : ¬ ((6 : Int) = 2 ∨ (6 : Int) = 3)), (by decide : ¬ ((7 : Int) = 2 ∨ (7 : Int) = 3)), (by decide : ¬ ((6 : Int) = 5)), (by decide : ¬ ((7 : Int) = 5)), (by decide : ¬ ((6 : Int) = 7)), true_or, or_true, if_true, if_false, List.append_nil, List.append_assoc]

  have hlen := congrArg List.length hw
  simp only [List.length_append, List.length_cons, List.length_nil, beV_len] at hlen
  have h : Has L 0 ([byteV 2] ++ (beV w1.toI 4 ++ (beV w7.toI 8 ++ (beV w4.toI 8 ++ (beV w6.toI 8))))) := by
    have h2 := h
    rw [hw] at h2
    rw [hw]; exact h2
  obtain ⟨h0, h⟩ := has_c h
  obtain ⟨e1, e2, e3⟩ := s1_eq h0
  obtain ⟨hid, h⟩ := has_b h
  obtain ⟨i1, i2⟩ := has_tk hid q1.1 (p4 q1.2) (by decide)
  have i3 : s2R L = ⟨0 + 1 + 4, false⟩ := by unfold s2R; rw [e1]; exact i1
  have i4 : idV L = .vi w1.toI := by unfold idV; rw [e1]; exact congrArg Val.vi i2
  obtain ⟨m0, h⟩ := has_b h
  obtain ⟨u0, v0⟩ := has_tk m0 q7.1 (p8 q7.2) (by decide)
  obtain ⟨m1, h⟩ := has_b h
  obtain ⟨u1, v1⟩ := has_tk m1 q4.1 (p8 q4.2) (by decide)
  have m2 := h
  obtain ⟨u2, v2⟩ := has_tk m2 q6.1 (p8 q6.2) (by decide)
  have hp : parseV L = finV L ⟨0 + 1 + 4 + 8 + 8 + 8, false⟩ false [.vi 2, .vi w1.toI, .vi 0, .vb false, .vi w4.toI, .vi 0, .vi w6.toI, .vi w7.toI, .vi 0, .vi 0, .vl [], .vl []] := by
    rw [parse_kind e3 (by omega), e2]
    rw [show parseK L 2 = finV L (tkS L (tkS L (tkS L (s2R L) 8) 8) 8) false [.vi 2, idV L, .vi 0, .vb false, .vi (tkN L (tkS L (s2R L) 8) 8), .vi 0, .vi (tkN L (tkS L (tkS L (s2R L) 8) 8) 8), .vi (tkN L (s2R L) 8), .vi 0, .vi 0, .vl [], .vl []] from rfl]
    simp only [i3, i4, u0, v0, u1, v1, u2, v2]
  rw [fin_eq (by omega) hA] at hp
  obtain ⟨g1, g2⟩ := prs_eq hp
  exact ⟨g1, by rw [g2]; exact hrep⟩
theorem fwd3 {w0 w1 w2 w3 w4 w5 w6 w7 w8 w9 w10 w11 : Val} (hr : rightM (repM [w0, w1, w2, w3, w4, w5, w6, w7, w8, w9, w10, w11]) = true) (hk : w0.toI = 3) (ho : RangesOk [w0, w1, w2, w3, w4, w5, w6, w7, w8, w9, w10, w11]) : (arg (parseV (putV [w0, w1, w2, w3, w4, w5, w6, w7, w8, w9, w10, w11])) 10).toI = 0 ∧ repM (prs (putV [w0, w1, w2, w3, w4, w5, w6, w7, w8, w9, w10, w11])) = repM [w0, w1, w2, w3, w4, w5, w6, w7, w8, w9, w10, w11] := by
  obtain ⟨_, _, c3, c4, c5, c6⟩ := right_parts hr
  have hrest := c6
  simp [restM, repM, arg_0, arg_s, hk, rowsM, panesM] at hrest
  have hrep : repM [.vi 3, .vi w1.toI, .vi 0, .vb false, .vi w4.toI, .vi 0, .vi w6.toI, .vi w7.toI, .vi 0, .vi 0, .vl [], .vl []] = repM [w0, w1, w2, w3, w4, w5, w6, w7, w8, w9, w10, w11] := by
    simp only [repM, arg_0, arg_s, RepM.mk.injEq, toI_vi, toB_vb, rows_G, panes_G]
    simp [hk, hrest, rowsM, panesM]
  have hA : rightM (repM [.vi 3, .vi w1.toI, .vi 0, .vb false, .vi w4.toI, .vi 0, .vi w6.toI, .vi w7.toI, .vi 0, .vi 0, .vl [], .vl []]) = true := by rw [hrep]; exact hr
  obtain ⟨q1, q2, q4, q5, q6, q7, q8, q9, qr, qg⟩ := ho
  simp only [arg_0, arg_s] at q1 q2 q4 q5 q6 q7 q8 q9 qr qg c3 c4 c5
  obtain ⟨L, hL⟩ : ∃ L, putV [w0, w1, w2, w3, w4, w5, w6, w7, w8, w9, w10, w11] = L := ⟨_, rfl⟩
  rw [hL]
  have h := has_self L
  have hw : L = [byteV 3] ++ (beV w1.toI 4 ++ (beV w7.toI 8 ++ (beV w4.toI 8 ++ (beV w6.toI 8)))) := by
    rw [← hL]
    simp only [putV, arg_0, arg_s, hk, (by decide : ¬ ((1 : Int) = 4)), (by decide : ¬ ((2 : Int) = 1 ∨ (2 : Int) = 4)), (by decide : ¬ ((3 : Int) = 1 ∨ (3 : Int) = 4)), (by decide : ¬ ((5 : Int) = 1 ∨ (5 : Int) = 4)), (by decide : ¬ ((6 : Int) = 1 ∨ (6 : Int) = 4)), (by decide : ¬ ((7 : Int) = 1 ∨ (7 : Int) = 4)), (by decide : ¬ ((5 : Int) = 2 ∨ (5 : Int) = 3)), (by decide : ¬ ((6 : Int) = 2 ∨ (6 : Int) = 3)), (by decide : ¬ ((7 : Int) = 2 ∨ (7 : Int) = 3)), (by decide : ¬ ((6 : Int) = 5)), (by decide : ¬ ((7 : Int) = 5)), (by decide : ¬ ((6 : Int) = 7)), true_or, or_true, if_true, if_false, List.append_nil, List.append_assoc]

  have hlen := congrArg List.length hw
  simp only [List.length_append, List.length_cons, List.length_nil, beV_len] at hlen
  have h : Has L 0 ([byteV 3] ++ (beV w1.toI 4 ++ (beV w7.toI 8 ++ (beV w4.toI 8 ++ (beV w6.toI 8))))) := by
    have h2 := h
    rw [hw] at h2
    rw [hw]; exact h2
  obtain ⟨h0, h⟩ := has_c h
  obtain ⟨e1, e2, e3⟩ := s1_eq h0
  obtain ⟨hid, h⟩ := has_b h
  obtain ⟨i1, i2⟩ := has_tk hid q1.1 (p4 q1.2) (by decide)
  have i3 : s2R L = ⟨0 + 1 + 4, false⟩ := by unfold s2R; rw [e1]; exact i1
  have i4 : idV L = .vi w1.toI := by unfold idV; rw [e1]; exact congrArg Val.vi i2
  obtain ⟨m0, h⟩ := has_b h
  obtain ⟨u0, v0⟩ := has_tk m0 q7.1 (p8 q7.2) (by decide)
  obtain ⟨m1, h⟩ := has_b h
  obtain ⟨u1, v1⟩ := has_tk m1 q4.1 (p8 q4.2) (by decide)
  have m2 := h
  obtain ⟨u2, v2⟩ := has_tk m2 q6.1 (p8 q6.2) (by decide)
  have hp : parseV L = finV L ⟨0 + 1 + 4 + 8 + 8 + 8, false⟩ false [.vi 3, .vi w1.toI, .vi 0, .vb false, .vi w4.toI, .vi 0, .vi w6.toI, .vi w7.toI, .vi 0, .vi 0, .vl [], .vl []] := by
    rw [parse_kind e3 (by omega), e2]
    rw [show parseK L 3 = finV L (tkS L (tkS L (tkS L (s2R L) 8) 8) 8) false [.vi 3, idV L, .vi 0, .vb false, .vi (tkN L (tkS L (s2R L) 8) 8), .vi 0, .vi (tkN L (tkS L (tkS L (s2R L) 8) 8) 8), .vi (tkN L (s2R L) 8), .vi 0, .vi 0, .vl [], .vl []] from rfl]
    simp only [i3, i4, u0, v0, u1, v1, u2, v2]
  rw [fin_eq (by omega) hA] at hp
  obtain ⟨g1, g2⟩ := prs_eq hp
  exact ⟨g1, by rw [g2]; exact hrep⟩
theorem fwd4 {w0 w1 w2 w3 w4 w5 w6 w7 w8 w9 w10 w11 : Val} (hr : rightM (repM [w0, w1, w2, w3, w4, w5, w6, w7, w8, w9, w10, w11]) = true) (hk : w0.toI = 4) (ho : RangesOk [w0, w1, w2, w3, w4, w5, w6, w7, w8, w9, w10, w11]) : (arg (parseV (putV [w0, w1, w2, w3, w4, w5, w6, w7, w8, w9, w10, w11])) 10).toI = 0 ∧ repM (prs (putV [w0, w1, w2, w3, w4, w5, w6, w7, w8, w9, w10, w11])) = repM [w0, w1, w2, w3, w4, w5, w6, w7, w8, w9, w10, w11] := by
  obtain ⟨_, _, c3, c4, c5, c6⟩ := right_parts hr
  have hrest := c6
  simp [restM, repM, arg_0, arg_s, hk, rowsM, panesM] at hrest
  have hrep : repM [.vi 4, .vi w1.toI, .vi 0, .vb w3.toB, .vi w4.toI, .vi 0, .vi 0, .vi 0, .vi 0, .vi 0, .vl (w10.toL.map fun r => .vl (G7 r)), .vl (w11.toL.map fun r => .vl (G3 r))] = repM [w0, w1, w2, w3, w4, w5, w6, w7, w8, w9, w10, w11] := by
    simp only [repM, arg_0, arg_s, RepM.mk.injEq, toI_vi, toB_vb, rows_G, panes_G]
    simp [hk, hrest, rowsM, panesM]
  have hA : rightM (repM [.vi 4, .vi w1.toI, .vi 0, .vb w3.toB, .vi w4.toI, .vi 0, .vi 0, .vi 0, .vi 0, .vi 0, .vl (w10.toL.map fun r => .vl (G7 r)), .vl (w11.toL.map fun r => .vl (G3 r))]) = true := by rw [hrep]; exact hr
  obtain ⟨q1, q2, q4, q5, q6, q7, q8, q9, qr, qg⟩ := ho
  simp only [arg_0, arg_s] at q1 q2 q4 q5 q6 q7 q8 q9 qr qg c3 c4 c5
  obtain ⟨L, hL⟩ : ∃ L, putV [w0, w1, w2, w3, w4, w5, w6, w7, w8, w9, w10, w11] = L := ⟨_, rfl⟩
  rw [hL]
  have h := has_self L
  have hw : L = [byteV 4] ++ (beV w1.toI 4 ++ (beV w4.toI 8 ++ ([byteV (if w3.toB = true then 1 else 0)] ++ ([byteV ((w10.toL.length : Int) % 256)] ++ (w10.toL.flatMap rowW ++ ([byteV ((w11.toL.length : Int) % 256)] ++ (w11.toL.flatMap paneW))))))) := by
    rw [← hL]
    simp only [putV, arg_0, arg_s, hk, (by decide : ¬ ((1 : Int) = 4)), (by decide : ¬ ((2 : Int) = 1 ∨ (2 : Int) = 4)), (by decide : ¬ ((3 : Int) = 1 ∨ (3 : Int) = 4)), (by decide : ¬ ((5 : Int) = 1 ∨ (5 : Int) = 4)), (by decide : ¬ ((6 : Int) = 1 ∨ (6 : Int) = 4)), (by decide : ¬ ((7 : Int) = 1 ∨ (7 : Int) = 4)), (by decide : ¬ ((5 : Int) = 2 ∨ (5 : Int) = 3)), (by decide : ¬ ((6 : Int) = 2 ∨ (6 : Int) = 3)), (by decide : ¬ ((7 : Int) = 2 ∨ (7 : Int) = 3)), (by decide : ¬ ((6 : Int) = 5)), (by decide : ¬ ((7 : Int) = 5)), (by decide : ¬ ((6 : Int) = 7)), true_or, or_true, if_true, if_false, List.append_nil, List.append_assoc]
    rfl
  have hlen := congrArg List.length hw
  simp only [List.length_append, List.length_cons, List.length_nil, beV_len] at hlen
  have h : Has L 0 ([byteV 4] ++ (beV w1.toI 4 ++ (beV w4.toI 8 ++ ([byteV (if w3.toB = true then 1 else 0)] ++ ([byteV ((w10.toL.length : Int) % 256)] ++ (w10.toL.flatMap rowW ++ ([byteV ((w11.toL.length : Int) % 256)] ++ (w11.toL.flatMap paneW)))))))) := by
    have h2 := h
    rw [hw] at h2
    rw [hw]; exact h2
  obtain ⟨h0, h⟩ := has_c h
  obtain ⟨e1, e2, e3⟩ := s1_eq h0
  obtain ⟨hid, h⟩ := has_b h
  obtain ⟨i1, i2⟩ := has_tk hid q1.1 (p4 q1.2) (by decide)
  have i3 : s2R L = ⟨0 + 1 + 4, false⟩ := by unfold s2R; rw [e1]; exact i1
  have i4 : idV L = .vi w1.toI := by unfold idV; rw [e1]; exact congrArg Val.vi i2
  obtain ⟨m0, h⟩ := has_b h
  obtain ⟨u0, v0⟩ := has_tk m0 q4.1 (p8 q4.2) (by decide)
  obtain ⟨m1, h⟩ := has_c h
  obtain ⟨u1, v1⟩ := has_byte m1
  obtain ⟨mc2, h⟩ := has_c h
  obtain ⟨uc2, vc2⟩ := has_byte mc2
  obtain ⟨m2, h⟩ := has_app h
  have u2 := has_lp w10.toL (0 + 1 + 4 + 8 + 1 + 1) [] (rows_at c4 qr L) m2
  obtain ⟨mc3, h⟩ := has_c h
  obtain ⟨uc3, vc3⟩ := has_byte mc3
  have m3 := h
  have u3 := has_lp w11.toL (0 + 1 + 4 + 8 + 1 + 1 + (w10.toL.flatMap rowW).length + 1) [] (panes_at c5 qg L) m3
  have j3 : s3R L = ⟨0 + 1 + 4 + 8, false⟩ := by unfold s3R; rw [i3]; exact u0
  have j4 : s4R L = ⟨0 + 1 + 4 + 8 + 1, false⟩ := by unfold s4R; rw [j3]; exact u1
  have j5 : s5R L = ⟨0 + 1 + 4 + 8 + 1 + 1, false⟩ := by unfold s5R; rw [j4]; exact uc2
  have jn : (tkN L (s4R L) 1).toNat = w10.toL.length := by rw [j4, vc2]; omega
  have jr : rowsR L = (0, ⟨0 + 1 + 4 + 8 + 1 + 1 + (w10.toL.flatMap rowW).length, false⟩, w10.toL.map fun r => .vl (G7 r)) := by
    unfold rowsR; rw [jn, j5]; exact u2
  have jf : tkN L (s3R L) 1 = if w3.toB = true then 1 else 0 := by rw [j3]; exact v1
  have jo : decide (1 < tkN L (s3R L) 1) = false := by rw [jf]; cases w3.toB <;> rfl
  have jl : decide (tkN L (s3R L) 1 = 1) = w3.toB := by rw [jf]; cases w3.toB <;> rfl
  have j6 : s6R L = ⟨0 + 1 + 4 + 8 + 1 + 1 + (w10.toL.flatMap rowW).length + 1, false⟩ := by unfold s6R; rw [jr]; exact uc3
  have jm : (tkN L (rowsR L).2.1 1).toNat = w11.toL.length := by rw [jr]; show (tkN L ⟨_, false⟩ 1).toNat = _; rw [vc3]; omega
  have jg : goneR L = (0, ⟨0 + 1 + 4 + 8 + 1 + 1 + (w10.toL.flatMap rowW).length + 1 + (w11.toL.flatMap paneW).length, false⟩, w11.toL.map fun r => .vl (G3 r)) := by
    unfold goneR; rw [jm, j6]; exact u3
  have hp : parseV L = finV L ⟨0 + 1 + 4 + 8 + 1 + 1 + (w10.toL.flatMap rowW).length + 1 + (w11.toL.flatMap paneW).length, false⟩ false [.vi 4, .vi w1.toI, .vi 0, .vb w3.toB, .vi w4.toI, .vi 0, .vi 0, .vi 0, .vi 0, .vi 0, .vl (w10.toL.map fun r => .vl (G7 r)), .vl (w11.toL.map fun r => .vl (G3 r))] := by
    rw [parse_kind e3 (by omega), e2]
    show finV L (goneR L).2.1 (decide (1 < tkN L (s3R L) 1)) _ = _
    rw [jo, jl, jr, jg, i3, v0, i4]
  rw [fin_eq (by omega) hA] at hp
  obtain ⟨g1, g2⟩ := prs_eq hp
  exact ⟨g1, by rw [g2]; exact hrep⟩
theorem fwd5 {w0 w1 w2 w3 w4 w5 w6 w7 w8 w9 w10 w11 : Val} (hr : rightM (repM [w0, w1, w2, w3, w4, w5, w6, w7, w8, w9, w10, w11]) = true) (hk : w0.toI = 5) (ho : RangesOk [w0, w1, w2, w3, w4, w5, w6, w7, w8, w9, w10, w11]) : (arg (parseV (putV [w0, w1, w2, w3, w4, w5, w6, w7, w8, w9, w10, w11])) 10).toI = 0 ∧ repM (prs (putV [w0, w1, w2, w3, w4, w5, w6, w7, w8, w9, w10, w11])) = repM [w0, w1, w2, w3, w4, w5, w6, w7, w8, w9, w10, w11] := by
  obtain ⟨_, _, c3, c4, c5, c6⟩ := right_parts hr
  have hrest := c6
  simp [restM, repM, arg_0, arg_s, hk, rowsM, panesM] at hrest
  have hrep : repM [.vi 5, .vi w1.toI, .vi 0, .vb false, .vi w4.toI, .vi w5.toI, .vi 0, .vi 0, .vi w8.toI, .vi w9.toI, .vl [], .vl []] = repM [w0, w1, w2, w3, w4, w5, w6, w7, w8, w9, w10, w11] := by
    simp only [repM, arg_0, arg_s, RepM.mk.injEq, toI_vi, toB_vb, rows_G, panes_G]
    simp [hk, hrest, rowsM, panesM]
  have hA : rightM (repM [.vi 5, .vi w1.toI, .vi 0, .vb false, .vi w4.toI, .vi w5.toI, .vi 0, .vi 0, .vi w8.toI, .vi w9.toI, .vl [], .vl []]) = true := by rw [hrep]; exact hr
  obtain ⟨q1, q2, q4, q5, q6, q7, q8, q9, qr, qg⟩ := ho
  simp only [arg_0, arg_s] at q1 q2 q4 q5 q6 q7 q8 q9 qr qg c3 c4 c5
  obtain ⟨L, hL⟩ : ∃ L, putV [w0, w1, w2, w3, w4, w5, w6, w7, w8, w9, w10, w11] = L := ⟨_, rfl⟩
  rw [hL]
  have h := has_self L
  have hw : L = [byteV 5] ++ (beV w1.toI 4 ++ (beV w4.toI 8 ++ (beV w5.toI 8 ++ (beV w8.toI 8 ++ (beV w9.toI 8))))) := by
    rw [← hL]
    simp only [putV, arg_0, arg_s, hk, (by decide : ¬ ((1 : Int) = 4)), (by decide : ¬ ((2 : Int) = 1 ∨ (2 : Int) = 4)), (by decide : ¬ ((3 : Int) = 1 ∨ (3 : Int) = 4)), (by decide : ¬ ((5 : Int) = 1 ∨ (5 : Int) = 4)), (by decide : ¬ ((6 : Int) = 1 ∨ (6 : Int) = 4)), (by decide : ¬ ((7 : Int) = 1 ∨ (7 : Int) = 4)), (by decide : ¬ ((5 : Int) = 2 ∨ (5 : Int) = 3)), (by decide : ¬ ((6 : Int) = 2 ∨ (6 : Int) = 3)), (by decide : ¬ ((7 : Int) = 2 ∨ (7 : Int) = 3)), (by decide : ¬ ((6 : Int) = 5)), (by decide : ¬ ((7 : Int) = 5)), (by decide : ¬ ((6 : Int) = 7)), true_or, or_true, if_true, if_false, List.append_nil, List.append_assoc]

  have hlen := congrArg List.length hw
  simp only [List.length_append, List.length_cons, List.length_nil, beV_len] at hlen
  have h : Has L 0 ([byteV 5] ++ (beV w1.toI 4 ++ (beV w4.toI 8 ++ (beV w5.toI 8 ++ (beV w8.toI 8 ++ (beV w9.toI 8)))))) := by
    have h2 := h
    rw [hw] at h2
    rw [hw]; exact h2
  obtain ⟨h0, h⟩ := has_c h
  obtain ⟨e1, e2, e3⟩ := s1_eq h0
  obtain ⟨hid, h⟩ := has_b h
  obtain ⟨i1, i2⟩ := has_tk hid q1.1 (p4 q1.2) (by decide)
  have i3 : s2R L = ⟨0 + 1 + 4, false⟩ := by unfold s2R; rw [e1]; exact i1
  have i4 : idV L = .vi w1.toI := by unfold idV; rw [e1]; exact congrArg Val.vi i2
  obtain ⟨m0, h⟩ := has_b h
  obtain ⟨u0, v0⟩ := has_tk m0 q4.1 (p8 q4.2) (by decide)
  obtain ⟨m1, h⟩ := has_b h
  obtain ⟨u1, v1⟩ := has_tk m1 q5.1 (p8 q5.2) (by decide)
  obtain ⟨m2, h⟩ := has_b h
  obtain ⟨u2, v2⟩ := has_tk m2 q8.1 (p8 q8.2) (by decide)
  have m3 := h
  obtain ⟨u3, v3⟩ := has_tk m3 q9.1 (p8 q9.2) (by decide)
  have hp : parseV L = finV L ⟨0 + 1 + 4 + 8 + 8 + 8 + 8, false⟩ false [.vi 5, .vi w1.toI, .vi 0, .vb false, .vi w4.toI, .vi w5.toI, .vi 0, .vi 0, .vi w8.toI, .vi w9.toI, .vl [], .vl []] := by
    rw [parse_kind e3 (by omega), e2]
    rw [show parseK L 5 = finV L (tkS L (tkS L (tkS L (tkS L (s2R L) 8) 8) 8) 8) false [.vi 5, idV L, .vi 0, .vb false, .vi (tkN L (s2R L) 8), .vi (tkN L (tkS L (s2R L) 8) 8), .vi 0, .vi 0, .vi (tkN L (tkS L (tkS L (s2R L) 8) 8) 8), .vi (tkN L (tkS L (tkS L (tkS L (s2R L) 8) 8) 8) 8), .vl [], .vl []] from rfl]
    simp only [i3, i4, u0, v0, u1, v1, u2, v2, u3, v3]
  rw [fin_eq (by omega) hA] at hp
  obtain ⟨g1, g2⟩ := prs_eq hp
  exact ⟨g1, by rw [g2]; exact hrep⟩
theorem fwd6 {w0 w1 w2 w3 w4 w5 w6 w7 w8 w9 w10 w11 : Val} (hr : rightM (repM [w0, w1, w2, w3, w4, w5, w6, w7, w8, w9, w10, w11]) = true) (hk : w0.toI = 6) (ho : RangesOk [w0, w1, w2, w3, w4, w5, w6, w7, w8, w9, w10, w11]) : (arg (parseV (putV [w0, w1, w2, w3, w4, w5, w6, w7, w8, w9, w10, w11])) 10).toI = 0 ∧ repM (prs (putV [w0, w1, w2, w3, w4, w5, w6, w7, w8, w9, w10, w11])) = repM [w0, w1, w2, w3, w4, w5, w6, w7, w8, w9, w10, w11] := by
  obtain ⟨_, _, c3, c4, c5, c6⟩ := right_parts hr
  have hrest := c6
  simp [restM, repM, arg_0, arg_s, hk, rowsM, panesM] at hrest
  have hrep : repM [.vi 6, .vi w1.toI, .vi 0, .vb false, .vi 0, .vi 0, .vi 0, .vi 0, .vi 0, .vi 0, .vl [], .vl []] = repM [w0, w1, w2, w3, w4, w5, w6, w7, w8, w9, w10, w11] := by
    simp only [repM, arg_0, arg_s, RepM.mk.injEq, toI_vi, toB_vb, rows_G, panes_G]
    simp [hk, hrest, rowsM, panesM]
  have hA : rightM (repM [.vi 6, .vi w1.toI, .vi 0, .vb false, .vi 0, .vi 0, .vi 0, .vi 0, .vi 0, .vi 0, .vl [], .vl []]) = true := by rw [hrep]; exact hr
  obtain ⟨q1, q2, q4, q5, q6, q7, q8, q9, qr, qg⟩ := ho
  simp only [arg_0, arg_s] at q1 q2 q4 q5 q6 q7 q8 q9 qr qg c3 c4 c5
  obtain ⟨L, hL⟩ : ∃ L, putV [w0, w1, w2, w3, w4, w5, w6, w7, w8, w9, w10, w11] = L := ⟨_, rfl⟩
  rw [hL]
  have h := has_self L
  have hw : L = [byteV 6] ++ (beV w1.toI 4) := by
    rw [← hL]
    simp only [putV, arg_0, arg_s, hk, (by decide : ¬ ((1 : Int) = 4)), (by decide : ¬ ((2 : Int) = 1 ∨ (2 : Int) = 4)), (by decide : ¬ ((3 : Int) = 1 ∨ (3 : Int) = 4)), (by decide : ¬ ((5 : Int) = 1 ∨ (5 : Int) = 4)), (by decide : ¬ ((6 : Int) = 1 ∨ (6 : Int) = 4)), (by decide : ¬ ((7 : Int) = 1 ∨ (7 : Int) = 4)), (by decide : ¬ ((5 : Int) = 2 ∨ (5 : Int) = 3)), (by decide : ¬ ((6 : Int) = 2 ∨ (6 : Int) = 3)), (by decide : ¬ ((7 : Int) = 2 ∨ (7 : Int) = 3)), (by decide : ¬ ((6 : Int) = 5)), (by decide : ¬ ((7 : Int) = 5)), (by decide : ¬ ((6 : Int) = 7)), true_or, or_true, if_true, if_false, List.append_nil, List.append_assoc]

  have hlen := congrArg List.length hw
  simp only [List.length_append, List.length_cons, List.length_nil, beV_len] at hlen
  have h : Has L 0 ([byteV 6] ++ (beV w1.toI 4)) := by
    have h2 := h
    rw [hw] at h2
    rw [hw]; exact h2
  obtain ⟨h0, h⟩ := has_c h
  obtain ⟨e1, e2, e3⟩ := s1_eq h0
  have hid := h
  obtain ⟨i1, i2⟩ := has_tk hid q1.1 (p4 q1.2) (by decide)
  have i3 : s2R L = ⟨0 + 1 + 4, false⟩ := by unfold s2R; rw [e1]; exact i1
  have i4 : idV L = .vi w1.toI := by unfold idV; rw [e1]; exact congrArg Val.vi i2
  have hp : parseV L = finV L ⟨0 + 1 + 4, false⟩ false [.vi 6, .vi w1.toI, .vi 0, .vb false, .vi 0, .vi 0, .vi 0, .vi 0, .vi 0, .vi 0, .vl [], .vl []] := by
    rw [parse_kind e3 (by omega), e2]
    rw [show parseK L 6 = finV L (s2R L) false [.vi 6, idV L, .vi 0, .vb false, .vi 0, .vi 0, .vi 0, .vi 0, .vi 0, .vi 0, .vl [], .vl []] from rfl]
    simp only [i3, i4]
  rw [fin_eq (by omega) hA] at hp
  obtain ⟨g1, g2⟩ := prs_eq hp
  exact ⟨g1, by rw [g2]; exact hrep⟩
theorem fwd7 {w0 w1 w2 w3 w4 w5 w6 w7 w8 w9 w10 w11 : Val} (hr : rightM (repM [w0, w1, w2, w3, w4, w5, w6, w7, w8, w9, w10, w11]) = true) (hk : w0.toI = 7) (ho : RangesOk [w0, w1, w2, w3, w4, w5, w6, w7, w8, w9, w10, w11]) : (arg (parseV (putV [w0, w1, w2, w3, w4, w5, w6, w7, w8, w9, w10, w11])) 10).toI = 0 ∧ repM (prs (putV [w0, w1, w2, w3, w4, w5, w6, w7, w8, w9, w10, w11])) = repM [w0, w1, w2, w3, w4, w5, w6, w7, w8, w9, w10, w11] := by
  obtain ⟨_, _, c3, c4, c5, c6⟩ := right_parts hr
  have hrest := c6
  simp [restM, repM, arg_0, arg_s, hk, rowsM, panesM] at hrest
  have hrep : repM [.vi 7, .vi w1.toI, .vi w2.toI, .vb false, .vi 0, .vi w5.toI, .vi 0, .vi 0, .vi 0, .vi 0, .vl [], .vl []] = repM [w0, w1, w2, w3, w4, w5, w6, w7, w8, w9, w10, w11] := by
    simp only [repM, arg_0, arg_s, RepM.mk.injEq, toI_vi, toB_vb, rows_G, panes_G]
    simp [hk, hrest, rowsM, panesM]
  have hA : rightM (repM [.vi 7, .vi w1.toI, .vi w2.toI, .vb false, .vi 0, .vi w5.toI, .vi 0, .vi 0, .vi 0, .vi 0, .vl [], .vl []]) = true := by rw [hrep]; exact hr
  obtain ⟨q1, q2, q4, q5, q6, q7, q8, q9, qr, qg⟩ := ho
  simp only [arg_0, arg_s] at q1 q2 q4 q5 q6 q7 q8 q9 qr qg c3 c4 c5
  obtain ⟨L, hL⟩ : ∃ L, putV [w0, w1, w2, w3, w4, w5, w6, w7, w8, w9, w10, w11] = L := ⟨_, rfl⟩
  rw [hL]
  have h := has_self L
  have hw : L = [byteV 7] ++ (beV w1.toI 4 ++ (beV w2.toI 2 ++ (beV w5.toI 8))) := by
    rw [← hL]
    simp only [putV, arg_0, arg_s, hk, (by decide : ¬ ((1 : Int) = 4)), (by decide : ¬ ((2 : Int) = 1 ∨ (2 : Int) = 4)), (by decide : ¬ ((3 : Int) = 1 ∨ (3 : Int) = 4)), (by decide : ¬ ((5 : Int) = 1 ∨ (5 : Int) = 4)), (by decide : ¬ ((6 : Int) = 1 ∨ (6 : Int) = 4)), (by decide : ¬ ((7 : Int) = 1 ∨ (7 : Int) = 4)), (by decide : ¬ ((5 : Int) = 2 ∨ (5 : Int) = 3)), (by decide : ¬ ((6 : Int) = 2 ∨ (6 : Int) = 3)), (by decide : ¬ ((7 : Int) = 2 ∨ (7 : Int) = 3)), (by decide : ¬ ((6 : Int) = 5)), (by decide : ¬ ((7 : Int) = 5)), (by decide : ¬ ((6 : Int) = 7)), true_or, or_true, if_true, if_false, List.append_nil, List.append_assoc]

  have hlen := congrArg List.length hw
  simp only [List.length_append, List.length_cons, List.length_nil, beV_len] at hlen
  have h : Has L 0 ([byteV 7] ++ (beV w1.toI 4 ++ (beV w2.toI 2 ++ (beV w5.toI 8)))) := by
    have h2 := h
    rw [hw] at h2
    rw [hw]; exact h2
  obtain ⟨h0, h⟩ := has_c h
  obtain ⟨e1, e2, e3⟩ := s1_eq h0
  obtain ⟨hid, h⟩ := has_b h
  obtain ⟨i1, i2⟩ := has_tk hid q1.1 (p4 q1.2) (by decide)
  have i3 : s2R L = ⟨0 + 1 + 4, false⟩ := by unfold s2R; rw [e1]; exact i1
  have i4 : idV L = .vi w1.toI := by unfold idV; rw [e1]; exact congrArg Val.vi i2
  obtain ⟨m0, h⟩ := has_b h
  obtain ⟨u0, v0⟩ := has_tk m0 q2.1 (p2 q2.2) (by decide)
  have m1 := h
  obtain ⟨u1, v1⟩ := has_tk m1 q5.1 (p8 q5.2) (by decide)
  have hp : parseV L = finV L ⟨0 + 1 + 4 + 2 + 8, false⟩ false [.vi 7, .vi w1.toI, .vi w2.toI, .vb false, .vi 0, .vi w5.toI, .vi 0, .vi 0, .vi 0, .vi 0, .vl [], .vl []] := by
    rw [parse_kind e3 (by omega), e2]
    rw [show parseK L 7 = finV L (tkS L (tkS L (s2R L) 2) 8) false [.vi 7, idV L, .vi (tkN L (s2R L) 2), .vb false, .vi 0, .vi (tkN L (tkS L (s2R L) 2) 8), .vi 0, .vi 0, .vi 0, .vi 0, .vl [], .vl []] from rfl]
    simp only [i3, i4, u0, v0, u1, v1]
  rw [fin_eq (by omega) hA] at hp
  obtain ⟨g1, g2⟩ := prs_eq hp
  exact ⟨g1, by rw [g2]; exact hrep⟩
theorem fwd {w0 w1 w2 w3 w4 w5 w6 w7 w8 w9 w10 w11 : Val} (hr : rightM (repM [w0, w1, w2, w3, w4, w5, w6, w7, w8, w9, w10, w11]) = true) (ho : RangesOk [w0, w1, w2, w3, w4, w5, w6, w7, w8, w9, w10, w11]) : (arg (parseV (putV [w0, w1, w2, w3, w4, w5, w6, w7, w8, w9, w10, w11])) 10).toI = 0 ∧ repM (prs (putV [w0, w1, w2, w3, w4, w5, w6, w7, w8, w9, w10, w11])) = repM [w0, w1, w2, w3, w4, w5, w6, w7, w8, w9, w10, w11] := by
  obtain ⟨k1, k2, _⟩ := right_parts hr
  simp only [arg_0] at k1 k2
  have : w0.toI = 1 ∨ w0.toI = 2 ∨ w0.toI = 3 ∨ w0.toI = 4 ∨ w0.toI = 5 ∨ w0.toI = 6 ∨ w0.toI = 7 := by omega
  rcases this with k | k | k | k | k | k | k
  · exact fwd1 hr k ho
  · exact fwd2 hr k ho
  · exact fwd3 hr k ho
  · exact fwd4 hr k ho
  · exact fwd5 hr k ho
  · exact fwd6 hr k ho
  · exact fwd7 hr k ho

theorem few_lens {a : List Val} (h : fewM a = true) : (arg a 10).toL.length ≤ 80 ∧ (arg a 11).toL.length ≤ 80 ∧ (arg a 10).toL.any fewB = false ∧ (arg a 11).toL.any fewB = false := by
  simp only [fewM, Bool.and_eq_true, decide_eq_true_eq, Bool.not_eq_true'] at h
  exact ⟨h.1.1.1, h.1.1.2, h.1.2, h.2⟩
theorem upd_10 (ω : Opq) (l : List Val) : (ω.upd 2000 l).w 10 = ω.w 10 := rfl
theorem upd_11 (ω : Opq) (l : List Val) : (ω.upd 2000 l).w 11 = ω.w 11 := rfl
theorem upd_a (ω : Opq) (x : Val) (l : List Val) : (ω.upd 2000 (x :: l)).w 2000 = x := rfl
theorem upd_b (ω : Opq) (x y : Val) (l : List Val) : (ω.upd 2000 (x :: y :: l)).w 2001 = y := rfl
theorem upd_c (ω : Opq) (x y z : Val) (l : List Val) : (ω.upd 2000 (x :: y :: z :: l)).w 2002 = z := rfl
theorem F4_congr {a b : List Val} (h : repM a = repM b) : F 4 a = F 4 b := by simp only [F, h]
theorem paneW_len (r : Val) : (paneW r).length = 18 + (colV r 0).toS.length := by
  rw [paneW, List.length_append, List.length_append, textV_len, beV_len, beV_len]; omega
theorem rowW_len (r : Val) : (rowW r).length = 50 + (colV r 0).toS.length := by
  rw [rowW]; simp only [List.length_append, paneW_len, beV_len]; omega
theorem few_at {l : List Val} (h : l.any fewB = false) (i : Nat) : (colV (atV l i) 0).toS.length ≤ 60 := by
  rw [List.any_eq_false] at h
  by_cases hi : i < l.length
  · have := h (atV l i) (by rw [atV, List.getD_eq_getElem?_getD, List.getElem?_eq_getElem hi]; exact List.getElem_mem hi)
    simpa [fewB] using this
  · have : atV l i = .vl [] := by rw [atV, List.getD_eq_getElem?_getD, List.getElem?_eq_none (by omega)]; rfl
    rw [this]; exact Nat.zero_le _
theorem gathF_len {a0 : List Val} {g : Val → List Val} {l : List Val} {m : Nat} (hg : ∀ i, (g (atV l i)).length ≤ m) : (gathF a0 g l).length ≤ a0.length + l.length * m := by
  rw [gathF, List.length_append]
  have := gath_len (g := fun i => g (atV l i)) hg l.length
  omega
theorem gathF_eq (a0 : List Val) (g : Val → List Val) (l : List Val) : gathF a0 g l = a0 ++ l.flatMap g := by
  rw [gathF, gath_range]
  congr 1
  exact flat_range g (.vl []) l
theorem right_len {a : List Val} (h : rightM (repM a) = true) : (arg a 10).toL.length + (arg a 11).toL.length ≤ 64 := by
  rw [rightM_eq] at h
  simp only [checksM, Bool.and_eq_true, decide_eq_true_eq] at h
  exact h.2.1.1.1
theorem getR1 (j : Nat) (x y : Val) (p : List Val) : getV (encR (j, x :: y :: p)).toL 1 1 = y := rfl
theorem getR2 (j : Nat) (x y z : Val) (p : List Val) : getV (encR (j, x :: y :: z :: p)).toL 1 2 = z := rfl
theorem gath_loop' {step : List Val → Option (Nat × List Val)} {n : Nat} {a0 : List Val} {g : Nat → List Val} (mk : Nat → List Val → List Val) {s0 : List Val} (h0 : s0 = mk 0 a0)
    (h1 : ∀ i, i < n → step (mk i (a0 ++ gath g i)) = some (0, mk (i + 1) (a0 ++ gath g i ++ g i))) (h2 : step (mk n (a0 ++ gath g n)) = some (1, mk n (a0 ++ gath g n))) : loopOf step s0 = some (0, mk n (a0 ++ gath g n)) := gath_loop mk h0 h1 h2
theorem gath_flat (g : Val → List Val) (l : List Val) : gath (fun i => g (atV l i)) l.length = l.flatMap g := by
  rw [gath_range]; exact flat_range g (.vl []) l
theorem be_one (k : Int) : beV k 1 = [byteV (k % 256)] := by simp [beV]
theorem t_put2 {ω : Opq} (hf : ∀ i a, ω.f i a = F i a) (hk : (ω.w 0).toI = 2) (hw : fewM [ω.w 0, ω.w 1, ω.w 2, ω.w 3, ω.w 4, ω.w 5, ω.w 6, ω.w 7, ω.w 8, ω.w 9, ω.w 10, ω.w 11] = true) : evalT T_put2 ω = some (0, [F 6 [ω.w 0, ω.w 1, ω.w 2, ω.w 3, ω.w 4, ω.w 5, ω.w 6, ω.w 7, ω.w 8, ω.w 9, ω.w 10, ω.w 11], F 5 [ω.w 0, ω.w 1, ω.w 2, ω.w 3, ω.w 4, ω.w 5, ω.w 6, ω.w 7, ω.w 8, ω.w 9, ω.w 10, ω.w 11]]) := by
  obtain ⟨q1, q2, q3, q4⟩ := few_lens hw
  simp only [arg_0, arg_s] at q1 q2 q3 q4
  have e1 : (1 : Int).toNat = 1 := rfl
  have e2 : (2 : Int).toNat = 2 := rfl
  have e4 : (4 : Int).toNat = 4 := rfl
  have e8 : (8 : Int).toNat = 8 := rfl
  obtain ⟨B, hB⟩ : ∃ B : Int, (1000000 : Int) = B := ⟨_, rfl⟩
  obtain ⟨D, hD⟩ : ∃ B : Int, (100000 : Int) = B := ⟨_, rfl⟩
  have hR : rightM (repM [.vi 2, ω.w 1, ω.w 2, ω.w 3, ω.w 4, ω.w 5, ω.w 6, ω.w 7, ω.w 8, ω.w 9, ω.w 10, ω.w 11]) = rightM (repM [ω.w 0, ω.w 1, ω.w 2, ω.w 3, ω.w 4, ω.w 5, ω.w 6, ω.w 7, ω.w 8, ω.w 9, ω.w 10, ω.w 11]) := by
    simp only [repM, arg_0, arg_s, toI_vi, hk]
  have n1 : ((ω.w 10).toL.length : Int) ≤ 1000 := by omega
  have n2 : ((ω.w 11).toL.length : Int) ≤ 1000 := by omega
  simp only [T_put2, put2_0, put2_1, put2_2, put2_3, hB, hD, evalT, evalTs, dens, den, dB, prim, hf, toB_vb, toI_vi, toL_vl, cmpI_lss, cmpI_leq, cmpI_gtr, cmpI_eql, Bool.and_eq_true, decide_eq_true_eq, List.cons_append, List.nil_append]
  refine (if_pos ⟨n1, n2⟩).trans ?_
  cases hr : rightM (repM [ω.w 0, ω.w 1, ω.w 2, ω.w 3, ω.w 4, ω.w 5, ω.w 6, ω.w 7, ω.w 8, ω.w 9, ω.w 10, ω.w 11]) with
  | false => simp only [F, hR, hr, Bool.not_false, if_true, toB_vb, cond_false]
  | true =>
  have hr' : (F 4 [.vi 2, ω.w 1, ω.w 2, ω.w 3, ω.w 4, ω.w 5, ω.w 6, ω.w 7, ω.w 8, ω.w 9, ω.w 10, ω.w 11]).toB = true := by simp only [F, hR, hr, toB_vb]
  have h5 : F 5 [ω.w 0, ω.w 1, ω.w 2, ω.w 3, ω.w 4, ω.w 5, ω.w 6, ω.w 7, ω.w 8, ω.w 9, ω.w 10, ω.w 11] = .vl (putV [ω.w 0, ω.w 1, ω.w 2, ω.w 3, ω.w 4, ω.w 5, ω.w 6, ω.w 7, ω.w 8, ω.w 9, ω.w 10, ω.w 11]) := by simp only [F, hr, cond_true]
  have h6 : F 6 [ω.w 0, ω.w 1, ω.w 2, ω.w 3, ω.w 4, ω.w 5, ω.w 6, ω.w 7, ω.w 8, ω.w 9, ω.w 10, ω.w 11] = .vi 0 := by simp only [F, hr, cond_true]
  rw [hr', h5, h6]
  simp only [Bool.not_true, Bool.false_eq_true, if_false, F, arg_0, arg_s, toI_vi, toL_vl]
  refine (if_pos (by simp only [List.length_append, List.length_cons, List.length_nil, beV_len, textV_len, e1, e2, e4, e8]; omega)).trans ?_
  refine (if_pos (by simp only [List.length_append, List.length_cons, List.length_nil, beV_len, textV_len, e1, e2, e4, e8]; omega)).trans ?_
  refine (if_pos (by simp only [List.length_append, List.length_cons, List.length_nil, beV_len, textV_len, e1, e2, e4, e8]; omega)).trans ?_
  refine (if_pos (by simp only [List.length_append, List.length_cons, List.length_nil, beV_len, textV_len, e1, e2, e4, e8]; omega)).trans ?_
  simp only [e1, e2, e4, e8, beV_u64 _ (Nat.le_refl 8), beV_u64 _ (show 4 ≤ 8 by decide), beV_u64 _ (show 2 ≤ 8 by decide), be_one]
  simp [putV, arg_0, arg_s, hk, byteV]
theorem t_put3 {ω : Opq} (hf : ∀ i a, ω.f i a = F i a) (hk : (ω.w 0).toI = 3) (hw : fewM [ω.w 0, ω.w 1, ω.w 2, ω.w 3, ω.w 4, ω.w 5, ω.w 6, ω.w 7, ω.w 8, ω.w 9, ω.w 10, ω.w 11] = true) : evalT T_put3 ω = some (0, [F 6 [ω.w 0, ω.w 1, ω.w 2, ω.w 3, ω.w 4, ω.w 5, ω.w 6, ω.w 7, ω.w 8, ω.w 9, ω.w 10, ω.w 11], F 5 [ω.w 0, ω.w 1, ω.w 2, ω.w 3, ω.w 4, ω.w 5, ω.w 6, ω.w 7, ω.w 8, ω.w 9, ω.w 10, ω.w 11]]) := by
  obtain ⟨q1, q2, q3, q4⟩ := few_lens hw
  simp only [arg_0, arg_s] at q1 q2 q3 q4
  have e1 : (1 : Int).toNat = 1 := rfl
  have e2 : (2 : Int).toNat = 2 := rfl
  have e4 : (4 : Int).toNat = 4 := rfl
  have e8 : (8 : Int).toNat = 8 := rfl
  obtain ⟨B, hB⟩ : ∃ B : Int, (1000000 : Int) = B := ⟨_, rfl⟩
  obtain ⟨D, hD⟩ : ∃ B : Int, (100000 : Int) = B := ⟨_, rfl⟩
  have hR : rightM (repM [.vi 3, ω.w 1, ω.w 2, ω.w 3, ω.w 4, ω.w 5, ω.w 6, ω.w 7, ω.w 8, ω.w 9, ω.w 10, ω.w 11]) = rightM (repM [ω.w 0, ω.w 1, ω.w 2, ω.w 3, ω.w 4, ω.w 5, ω.w 6, ω.w 7, ω.w 8, ω.w 9, ω.w 10, ω.w 11]) := by
    simp only [repM, arg_0, arg_s, toI_vi, hk]
  have n1 : ((ω.w 10).toL.length : Int) ≤ 1000 := by omega
  have n2 : ((ω.w 11).toL.length : Int) ≤ 1000 := by omega
  simp only [T_put3, put3_0, put3_1, put3_2, put3_3, hB, hD, evalT, evalTs, dens, den, dB, prim, hf, toB_vb, toI_vi, toL_vl, cmpI_lss, cmpI_leq, cmpI_gtr, cmpI_eql, Bool.and_eq_true, decide_eq_true_eq, List.cons_append, List.nil_append]
  refine (if_pos ⟨n1, n2⟩).trans ?_
  cases hr : rightM (repM [ω.w 0, ω.w 1, ω.w 2, ω.w 3, ω.w 4, ω.w 5, ω.w 6, ω.w 7, ω.w 8, ω.w 9, ω.w 10, ω.w 11]) with
  | false => simp only [F, hR, hr, Bool.not_false, if_true, toB_vb, cond_false]
  | true =>
  have hr' : (F 4 [.vi 3, ω.w 1, ω.w 2, ω.w 3, ω.w 4, ω.w 5, ω.w 6, ω.w 7, ω.w 8, ω.w 9, ω.w 10, ω.w 11]).toB = true := by simp only [F, hR, hr, toB_vb]
  have h5 : F 5 [ω.w 0, ω.w 1, ω.w 2, ω.w 3, ω.w 4, ω.w 5, ω.w 6, ω.w 7, ω.w 8, ω.w 9, ω.w 10, ω.w 11] = .vl (putV [ω.w 0, ω.w 1, ω.w 2, ω.w 3, ω.w 4, ω.w 5, ω.w 6, ω.w 7, ω.w 8, ω.w 9, ω.w 10, ω.w 11]) := by simp only [F, hr, cond_true]
  have h6 : F 6 [ω.w 0, ω.w 1, ω.w 2, ω.w 3, ω.w 4, ω.w 5, ω.w 6, ω.w 7, ω.w 8, ω.w 9, ω.w 10, ω.w 11] = .vi 0 := by simp only [F, hr, cond_true]
  rw [hr', h5, h6]
  simp only [Bool.not_true, Bool.false_eq_true, if_false, F, arg_0, arg_s, toI_vi, toL_vl]
  refine (if_pos (by simp only [List.length_append, List.length_cons, List.length_nil, beV_len, textV_len, e1, e2, e4, e8]; omega)).trans ?_
  refine (if_pos (by simp only [List.length_append, List.length_cons, List.length_nil, beV_len, textV_len, e1, e2, e4, e8]; omega)).trans ?_
  refine (if_pos (by simp only [List.length_append, List.length_cons, List.length_nil, beV_len, textV_len, e1, e2, e4, e8]; omega)).trans ?_
  refine (if_pos (by simp only [List.length_append, List.length_cons, List.length_nil, beV_len, textV_len, e1, e2, e4, e8]; omega)).trans ?_
  simp only [e1, e2, e4, e8, beV_u64 _ (Nat.le_refl 8), beV_u64 _ (show 4 ≤ 8 by decide), beV_u64 _ (show 2 ≤ 8 by decide), be_one]
  simp [putV, arg_0, arg_s, hk, byteV]
theorem t_put5 {ω : Opq} (hf : ∀ i a, ω.f i a = F i a) (hk : (ω.w 0).toI = 5) (hw : fewM [ω.w 0, ω.w 1, ω.w 2, ω.w 3, ω.w 4, ω.w 5, ω.w 6, ω.w 7, ω.w 8, ω.w 9, ω.w 10, ω.w 11] = true) : evalT T_put5 ω = some (0, [F 6 [ω.w 0, ω.w 1, ω.w 2, ω.w 3, ω.w 4, ω.w 5, ω.w 6, ω.w 7, ω.w 8, ω.w 9, ω.w 10, ω.w 11], F 5 [ω.w 0, ω.w 1, ω.w 2, ω.w 3, ω.w 4, ω.w 5, ω.w 6, ω.w 7, ω.w 8, ω.w 9, ω.w 10, ω.w 11]]) := by
  obtain ⟨q1, q2, q3, q4⟩ := few_lens hw
  simp only [arg_0, arg_s] at q1 q2 q3 q4
  have e1 : (1 : Int).toNat = 1 := rfl
  have e2 : (2 : Int).toNat = 2 := rfl
  have e4 : (4 : Int).toNat = 4 := rfl
  have e8 : (8 : Int).toNat = 8 := rfl
  obtain ⟨B, hB⟩ : ∃ B : Int, (1000000 : Int) = B := ⟨_, rfl⟩
  obtain ⟨D, hD⟩ : ∃ B : Int, (100000 : Int) = B := ⟨_, rfl⟩
  have hR : rightM (repM [.vi 5, ω.w 1, ω.w 2, ω.w 3, ω.w 4, ω.w 5, ω.w 6, ω.w 7, ω.w 8, ω.w 9, ω.w 10, ω.w 11]) = rightM (repM [ω.w 0, ω.w 1, ω.w 2, ω.w 3, ω.w 4, ω.w 5, ω.w 6, ω.w 7, ω.w 8, ω.w 9, ω.w 10, ω.w 11]) := by
    simp only [repM, arg_0, arg_s, toI_vi, hk]
  have n1 : ((ω.w 10).toL.length : Int) ≤ 1000 := by omega
  have n2 : ((ω.w 11).toL.length : Int) ≤ 1000 := by omega
  simp only [T_put5, put5_0, put5_1, put5_2, put5_3, put5_4, hB, hD, evalT, evalTs, dens, den, dB, prim, hf, toB_vb, toI_vi, toL_vl, cmpI_lss, cmpI_leq, cmpI_gtr, cmpI_eql, Bool.and_eq_true, decide_eq_true_eq, List.cons_append, List.nil_append]
  refine (if_pos ⟨n1, n2⟩).trans ?_
  cases hr : rightM (repM [ω.w 0, ω.w 1, ω.w 2, ω.w 3, ω.w 4, ω.w 5, ω.w 6, ω.w 7, ω.w 8, ω.w 9, ω.w 10, ω.w 11]) with
  | false => simp only [F, hR, hr, Bool.not_false, if_true, toB_vb, cond_false]
  | true =>
  have hr' : (F 4 [.vi 5, ω.w 1, ω.w 2, ω.w 3, ω.w 4, ω.w 5, ω.w 6, ω.w 7, ω.w 8, ω.w 9, ω.w 10, ω.w 11]).toB = true := by simp only [F, hR, hr, toB_vb]
  have h5 : F 5 [ω.w 0, ω.w 1, ω.w 2, ω.w 3, ω.w 4, ω.w 5, ω.w 6, ω.w 7, ω.w 8, ω.w 9, ω.w 10, ω.w 11] = .vl (putV [ω.w 0, ω.w 1, ω.w 2, ω.w 3, ω.w 4, ω.w 5, ω.w 6, ω.w 7, ω.w 8, ω.w 9, ω.w 10, ω.w 11]) := by simp only [F, hr, cond_true]
  have h6 : F 6 [ω.w 0, ω.w 1, ω.w 2, ω.w 3, ω.w 4, ω.w 5, ω.w 6, ω.w 7, ω.w 8, ω.w 9, ω.w 10, ω.w 11] = .vi 0 := by simp only [F, hr, cond_true]
  rw [hr', h5, h6]
  simp only [Bool.not_true, Bool.false_eq_true, if_false, F, arg_0, arg_s, toI_vi, toL_vl]
  refine (if_pos (by simp only [List.length_append, List.length_cons, List.length_nil, beV_len, textV_len, e1, e2, e4, e8]; omega)).trans ?_
  refine (if_pos (by simp only [List.length_append, List.length_cons, List.length_nil, beV_len, textV_len, e1, e2, e4, e8]; omega)).trans ?_
  refine (if_pos (by simp only [List.length_append, List.length_cons, List.length_nil, beV_len, textV_len, e1, e2, e4, e8]; omega)).trans ?_
  refine (if_pos (by simp only [List.length_append, List.length_cons, List.length_nil, beV_len, textV_len, e1, e2, e4, e8]; omega)).trans ?_
  refine (if_pos (by simp only [List.length_append, List.length_cons, List.length_nil, beV_len, textV_len, e1, e2, e4, e8]; omega)).trans ?_
  simp only [e1, e2, e4, e8, beV_u64 _ (Nat.le_refl 8), beV_u64 _ (show 4 ≤ 8 by decide), beV_u64 _ (show 2 ≤ 8 by decide), be_one]
  simp [putV, arg_0, arg_s, hk, byteV]
theorem t_put6 {ω : Opq} (hf : ∀ i a, ω.f i a = F i a) (hk : (ω.w 0).toI = 6) (hw : fewM [ω.w 0, ω.w 1, ω.w 2, ω.w 3, ω.w 4, ω.w 5, ω.w 6, ω.w 7, ω.w 8, ω.w 9, ω.w 10, ω.w 11] = true) : evalT T_put6 ω = some (0, [F 6 [ω.w 0, ω.w 1, ω.w 2, ω.w 3, ω.w 4, ω.w 5, ω.w 6, ω.w 7, ω.w 8, ω.w 9, ω.w 10, ω.w 11], F 5 [ω.w 0, ω.w 1, ω.w 2, ω.w 3, ω.w 4, ω.w 5, ω.w 6, ω.w 7, ω.w 8, ω.w 9, ω.w 10, ω.w 11]]) := by
  obtain ⟨q1, q2, q3, q4⟩ := few_lens hw
  simp only [arg_0, arg_s] at q1 q2 q3 q4
  have e1 : (1 : Int).toNat = 1 := rfl
  have e2 : (2 : Int).toNat = 2 := rfl
  have e4 : (4 : Int).toNat = 4 := rfl
  have e8 : (8 : Int).toNat = 8 := rfl
  obtain ⟨B, hB⟩ : ∃ B : Int, (1000000 : Int) = B := ⟨_, rfl⟩
  obtain ⟨D, hD⟩ : ∃ B : Int, (100000 : Int) = B := ⟨_, rfl⟩
  have hR : rightM (repM [.vi 6, ω.w 1, ω.w 2, ω.w 3, ω.w 4, ω.w 5, ω.w 6, ω.w 7, ω.w 8, ω.w 9, ω.w 10, ω.w 11]) = rightM (repM [ω.w 0, ω.w 1, ω.w 2, ω.w 3, ω.w 4, ω.w 5, ω.w 6, ω.w 7, ω.w 8, ω.w 9, ω.w 10, ω.w 11]) := by
    simp only [repM, arg_0, arg_s, toI_vi, hk]
  have n1 : ((ω.w 10).toL.length : Int) ≤ 1000 := by omega
  have n2 : ((ω.w 11).toL.length : Int) ≤ 1000 := by omega
  simp only [T_put6, put6_0, hB, hD, evalT, evalTs, dens, den, dB, prim, hf, toB_vb, toI_vi, toL_vl, cmpI_lss, cmpI_leq, cmpI_gtr, cmpI_eql, Bool.and_eq_true, decide_eq_true_eq, List.cons_append, List.nil_append]
  refine (if_pos ⟨n1, n2⟩).trans ?_
  cases hr : rightM (repM [ω.w 0, ω.w 1, ω.w 2, ω.w 3, ω.w 4, ω.w 5, ω.w 6, ω.w 7, ω.w 8, ω.w 9, ω.w 10, ω.w 11]) with
  | false => simp only [F, hR, hr, Bool.not_false, if_true, toB_vb, cond_false]
  | true =>
  have hr' : (F 4 [.vi 6, ω.w 1, ω.w 2, ω.w 3, ω.w 4, ω.w 5, ω.w 6, ω.w 7, ω.w 8, ω.w 9, ω.w 10, ω.w 11]).toB = true := by simp only [F, hR, hr, toB_vb]
  have h5 : F 5 [ω.w 0, ω.w 1, ω.w 2, ω.w 3, ω.w 4, ω.w 5, ω.w 6, ω.w 7, ω.w 8, ω.w 9, ω.w 10, ω.w 11] = .vl (putV [ω.w 0, ω.w 1, ω.w 2, ω.w 3, ω.w 4, ω.w 5, ω.w 6, ω.w 7, ω.w 8, ω.w 9, ω.w 10, ω.w 11]) := by simp only [F, hr, cond_true]
  have h6 : F 6 [ω.w 0, ω.w 1, ω.w 2, ω.w 3, ω.w 4, ω.w 5, ω.w 6, ω.w 7, ω.w 8, ω.w 9, ω.w 10, ω.w 11] = .vi 0 := by simp only [F, hr, cond_true]
  rw [hr', h5, h6]
  simp only [Bool.not_true, Bool.false_eq_true, if_false, F, arg_0, arg_s, toI_vi, toL_vl]
  refine (if_pos (by simp only [List.length_append, List.length_cons, List.length_nil, beV_len, textV_len, e1, e2, e4, e8]; omega)).trans ?_
  simp only [e1, e2, e4, e8, beV_u64 _ (Nat.le_refl 8), beV_u64 _ (show 4 ≤ 8 by decide), beV_u64 _ (show 2 ≤ 8 by decide), be_one]
  simp [putV, arg_0, arg_s, hk, byteV]
theorem t_put7 {ω : Opq} (hf : ∀ i a, ω.f i a = F i a) (hk : (ω.w 0).toI = 7) (hw : fewM [ω.w 0, ω.w 1, ω.w 2, ω.w 3, ω.w 4, ω.w 5, ω.w 6, ω.w 7, ω.w 8, ω.w 9, ω.w 10, ω.w 11] = true) : evalT T_put7 ω = some (0, [F 6 [ω.w 0, ω.w 1, ω.w 2, ω.w 3, ω.w 4, ω.w 5, ω.w 6, ω.w 7, ω.w 8, ω.w 9, ω.w 10, ω.w 11], F 5 [ω.w 0, ω.w 1, ω.w 2, ω.w 3, ω.w 4, ω.w 5, ω.w 6, ω.w 7, ω.w 8, ω.w 9, ω.w 10, ω.w 11]]) := by
  obtain ⟨q1, q2, q3, q4⟩ := few_lens hw
  simp only [arg_0, arg_s] at q1 q2 q3 q4
  have e1 : (1 : Int).toNat = 1 := rfl
  have e2 : (2 : Int).toNat = 2 := rfl
  have e4 : (4 : Int).toNat = 4 := rfl
  have e8 : (8 : Int).toNat = 8 := rfl
  obtain ⟨B, hB⟩ : ∃ B : Int, (1000000 : Int) = B := ⟨_, rfl⟩
  obtain ⟨D, hD⟩ : ∃ B : Int, (100000 : Int) = B := ⟨_, rfl⟩
  have hR : rightM (repM [.vi 7, ω.w 1, ω.w 2, ω.w 3, ω.w 4, ω.w 5, ω.w 6, ω.w 7, ω.w 8, ω.w 9, ω.w 10, ω.w 11]) = rightM (repM [ω.w 0, ω.w 1, ω.w 2, ω.w 3, ω.w 4, ω.w 5, ω.w 6, ω.w 7, ω.w 8, ω.w 9, ω.w 10, ω.w 11]) := by
    simp only [repM, arg_0, arg_s, toI_vi, hk]
  have n1 : ((ω.w 10).toL.length : Int) ≤ 1000 := by omega
  have n2 : ((ω.w 11).toL.length : Int) ≤ 1000 := by omega
  simp only [T_put7, put7_0, put7_1, put7_2, hB, hD, evalT, evalTs, dens, den, dB, prim, hf, toB_vb, toI_vi, toL_vl, cmpI_lss, cmpI_leq, cmpI_gtr, cmpI_eql, Bool.and_eq_true, decide_eq_true_eq, List.cons_append, List.nil_append]
  refine (if_pos ⟨n1, n2⟩).trans ?_
  cases hr : rightM (repM [ω.w 0, ω.w 1, ω.w 2, ω.w 3, ω.w 4, ω.w 5, ω.w 6, ω.w 7, ω.w 8, ω.w 9, ω.w 10, ω.w 11]) with
  | false => simp only [F, hR, hr, Bool.not_false, if_true, toB_vb, cond_false]
  | true =>
  have hr' : (F 4 [.vi 7, ω.w 1, ω.w 2, ω.w 3, ω.w 4, ω.w 5, ω.w 6, ω.w 7, ω.w 8, ω.w 9, ω.w 10, ω.w 11]).toB = true := by simp only [F, hR, hr, toB_vb]
  have h5 : F 5 [ω.w 0, ω.w 1, ω.w 2, ω.w 3, ω.w 4, ω.w 5, ω.w 6, ω.w 7, ω.w 8, ω.w 9, ω.w 10, ω.w 11] = .vl (putV [ω.w 0, ω.w 1, ω.w 2, ω.w 3, ω.w 4, ω.w 5, ω.w 6, ω.w 7, ω.w 8, ω.w 9, ω.w 10, ω.w 11]) := by simp only [F, hr, cond_true]
  have h6 : F 6 [ω.w 0, ω.w 1, ω.w 2, ω.w 3, ω.w 4, ω.w 5, ω.w 6, ω.w 7, ω.w 8, ω.w 9, ω.w 10, ω.w 11] = .vi 0 := by simp only [F, hr, cond_true]
  rw [hr', h5, h6]
  simp only [Bool.not_true, Bool.false_eq_true, if_false, F, arg_0, arg_s, toI_vi, toL_vl]
  refine (if_pos (by simp only [List.length_append, List.length_cons, List.length_nil, beV_len, textV_len, e1, e2, e4, e8]; omega)).trans ?_
  refine (if_pos (by simp only [List.length_append, List.length_cons, List.length_nil, beV_len, textV_len, e1, e2, e4, e8]; omega)).trans ?_
  refine (if_pos (by simp only [List.length_append, List.length_cons, List.length_nil, beV_len, textV_len, e1, e2, e4, e8]; omega)).trans ?_
  simp only [e1, e2, e4, e8, beV_u64 _ (Nat.le_refl 8), beV_u64 _ (show 4 ≤ 8 by decide), beV_u64 _ (show 2 ≤ 8 by decide), be_one]
  simp [putV, arg_0, arg_s, hk, byteV]
theorem t_put1 {ω : Opq} (hf : ∀ i a, ω.f i a = F i a) (hk : (ω.w 0).toI = 1) (hw : fewM [ω.w 0, ω.w 1, ω.w 2, ω.w 3, ω.w 4, ω.w 5, ω.w 6, ω.w 7, ω.w 8, ω.w 9, ω.w 10, ω.w 11] = true) : evalT T_put1 ω = some (0, [F 6 [ω.w 0, ω.w 1, ω.w 2, ω.w 3, ω.w 4, ω.w 5, ω.w 6, ω.w 7, ω.w 8, ω.w 9, ω.w 10, ω.w 11], F 5 [ω.w 0, ω.w 1, ω.w 2, ω.w 3, ω.w 4, ω.w 5, ω.w 6, ω.w 7, ω.w 8, ω.w 9, ω.w 10, ω.w 11]]) := by
  obtain ⟨q1, q2, q3, q4⟩ := few_lens hw
  simp only [arg_0, arg_s] at q1 q2 q3 q4
  have e1 : (1 : Int).toNat = 1 := rfl
  have e2 : (2 : Int).toNat = 2 := rfl
  have e4 : (4 : Int).toNat = 4 := rfl
  have e8 : (8 : Int).toNat = 8 := rfl
  obtain ⟨B, hB⟩ : ∃ B : Int, (1000000 : Int) = B := ⟨_, rfl⟩
  obtain ⟨D, hD⟩ : ∃ B : Int, (100000 : Int) = B := ⟨_, rfl⟩
  have hR : rightM (repM [.vi 1, ω.w 1, ω.w 2, ω.w 3, ω.w 4, ω.w 5, ω.w 6, ω.w 7, ω.w 8, ω.w 9, ω.w 10, ω.w 11]) = rightM (repM [ω.w 0, ω.w 1, ω.w 2, ω.w 3, ω.w 4, ω.w 5, ω.w 6, ω.w 7, ω.w 8, ω.w 9, ω.w 10, ω.w 11]) := by
    simp only [repM, arg_0, arg_s, toI_vi, hk]
  have n1 : ((ω.w 10).toL.length : Int) ≤ 1000 := by omega
  have n2 : ((ω.w 11).toL.length : Int) ≤ 1000 := by omega
  simp only [T_put1, put1_0, put1_1, put1_2, put1_3, put1_4, put1_5, put1_6, put1_7, put1_8, put1_9, put1_10, hB, hD, evalT, evalTs, dens, den, dB, prim, hf, toB_vb, toI_vi, toL_vl, cmpI_lss, cmpI_leq, cmpI_gtr, cmpI_eql, Bool.and_eq_true, decide_eq_true_eq, List.cons_append, List.nil_append]
  refine (if_pos ⟨n1, n2⟩).trans ?_
  cases hr : rightM (repM [ω.w 0, ω.w 1, ω.w 2, ω.w 3, ω.w 4, ω.w 5, ω.w 6, ω.w 7, ω.w 8, ω.w 9, ω.w 10, ω.w 11]) with
  | false => simp only [F, hR, hr, Bool.not_false, if_true, toB_vb, cond_false]
  | true =>
  have hr' : (F 4 [.vi 1, ω.w 1, ω.w 2, ω.w 3, ω.w 4, ω.w 5, ω.w 6, ω.w 7, ω.w 8, ω.w 9, ω.w 10, ω.w 11]).toB = true := by simp only [F, hR, hr, toB_vb]
  have h5 : F 5 [ω.w 0, ω.w 1, ω.w 2, ω.w 3, ω.w 4, ω.w 5, ω.w 6, ω.w 7, ω.w 8, ω.w 9, ω.w 10, ω.w 11] = .vl (putV [ω.w 0, ω.w 1, ω.w 2, ω.w 3, ω.w 4, ω.w 5, ω.w 6, ω.w 7, ω.w 8, ω.w 9, ω.w 10, ω.w 11]) := by simp only [F, hr, cond_true]
  have h6 : F 6 [ω.w 0, ω.w 1, ω.w 2, ω.w 3, ω.w 4, ω.w 5, ω.w 6, ω.w 7, ω.w 8, ω.w 9, ω.w 10, ω.w 11] = .vi 0 := by simp only [F, hr, cond_true]
  rw [hr', h5, h6]
  simp only [Bool.not_true, Bool.false_eq_true, if_false, F, arg_0, arg_s, toI_vi, toL_vl]
  have g1 := gath_len (g := fun i => rowW (atV (ω.w 10).toL i)) (m := 110) (fun i => by rw [rowW_len]; have := few_at q3 i; omega) (ω.w 10).toL.length
  have g2 := gath_len (g := fun i => paneW (atV (ω.w 11).toL i)) (m := 110) (fun i => by rw [paneW_len]; have := few_at q4 i; omega) (ω.w 11).toL.length
  refine ifp (by simp only [List.length_append, List.length_cons, List.length_nil, beV_len, textV_len, e1, e2, e4, e8]; omega) ?_
  refine ifp (by simp only [List.length_append, List.length_cons, List.length_nil, beV_len, textV_len, e1, e2, e4, e8]; omega) ?_
  cases hb : (ω.w 3).toB
  all_goals
    simp only [Bool.false_eq_true, if_false, if_true]
    refine ifp (by simp only [List.length_append, List.length_cons, List.length_nil, beV_len, textV_len, e1, e2, e4, e8]; omega) ?_
    refine ifp (by simp only [List.length_append, List.length_cons, List.length_nil, beV_len, textV_len, e1, e2, e4, e8]; omega) ?_
    rw [gath_loop' (fun i acc => [.vi i, .vi acc.length, .vl acc]) (n := (ω.w 10).toL.length) (g := fun i => rowW (atV (ω.w 10).toL i))]
    case h0 => exact rfl
    case h1 =>
      intro i hi
      have hg := gath_len (g := fun i => rowW (atV (ω.w 10).toL i)) (m := 110) (fun i => by rw [rowW_len]; have := few_at q3 i; omega) i
      have hkey := few_at q3 i
      generalize gath (fun i => rowW (atV (ω.w 10).toL i)) i = acc at hg ⊢
      simp only [L114, L115, hB, hD, evalT, dens, den, dB, prim, upd_f, upd_a, upd_b, upd_c, upd_10, upd_11, toI_vi, toB_vb, toL_vl, toS_vs, cmpI_lss, cmpI_leq, cmpI_gtr, cmpI_eql, Bool.and_eq_true, decide_eq_true_eq, getV_0, getV_1, getV_2, getV_3, getV_4, getV_5, getV_6, hf, F, arg_0, arg_s]
      refine ifp (by omega) ?_
      refine ifp (by omega) ?_
      refine ifp (by omega) ?_
      refine ifp (by simp only [List.length_append, List.length_cons, List.length_nil, beV_len, textV_len, paneW_len, rowW_len, e1, e2, e4, e8]; omega) ?_
      refine ifp (⟨trivial, by simp only [List.length_append, List.length_cons, List.length_nil, beV_len, textV_len, paneW_len, rowW_len, e1, e2, e4, e8]; omega⟩) ?_
      refine ifp (by simp only [List.length_append, List.length_cons, List.length_nil, beV_len, textV_len, paneW_len, rowW_len, e1, e2, e4, e8]; omega) ?_
      refine ifp (by simp only [List.length_append, List.length_cons, List.length_nil, beV_len, textV_len, paneW_len, rowW_len, e1, e2, e4, e8]; omega) ?_
      simp only [arI_add1 (show i ≤ 10000000 by omega), rowW, paneW, beV_u64 _ (Nat.le_refl 8), List.append_assoc, e8]
    case h2 =>
      simp only [L114, L115, hB, hD, evalT, dens, den, dB, prim, upd_f, upd_a, upd_b, upd_c, upd_10, upd_11, toI_vi, toB_vb, toL_vl, toS_vs, cmpI_lss, cmpI_leq, cmpI_gtr, cmpI_eql, Bool.and_eq_true, decide_eq_true_eq, getV_0, getV_1, getV_2, getV_3, getV_4, getV_5, getV_6, hf, F, arg_0, arg_s]
      rw [if_neg (by omega)]
    simp only [hB, hD, lastA, hf, F, arg_0, arg_s, gathF, List.length_cons, List.length_nil, Nat.reduceAdd, Nat.reduceSub, if_true, evalTs, evalT, dens, den, dB, prim, getR1, getR2, getR0, List.cons_append, List.nil_append, toI_vi, toB_vb, toL_vl, cmpI_eql, cmpI_leq, Bool.and_eq_true, decide_eq_true_eq]
    simp only [e1, e2, e4, e8, beV_u64 _ (Nat.le_refl 8), beV_u64 _ (show 4 ≤ 8 by decide), beV_u64 _ (show 2 ≤ 8 by decide), be_one, gath_flat, wu8]
    simp [putV, arg_0, arg_s, hk, hb, byteV]
theorem t_put4 {ω : Opq} (hf : ∀ i a, ω.f i a = F i a) (hk : (ω.w 0).toI = 4) (hw : fewM [ω.w 0, ω.w 1, ω.w 2, ω.w 3, ω.w 4, ω.w 5, ω.w 6, ω.w 7, ω.w 8, ω.w 9, ω.w 10, ω.w 11] = true) : evalT T_put4 ω = some (0, [F 6 [ω.w 0, ω.w 1, ω.w 2, ω.w 3, ω.w 4, ω.w 5, ω.w 6, ω.w 7, ω.w 8, ω.w 9, ω.w 10, ω.w 11], F 5 [ω.w 0, ω.w 1, ω.w 2, ω.w 3, ω.w 4, ω.w 5, ω.w 6, ω.w 7, ω.w 8, ω.w 9, ω.w 10, ω.w 11]]) := by
  obtain ⟨q1, q2, q3, q4⟩ := few_lens hw
  simp only [arg_0, arg_s] at q1 q2 q3 q4
  have e1 : (1 : Int).toNat = 1 := rfl
  have e2 : (2 : Int).toNat = 2 := rfl
  have e4 : (4 : Int).toNat = 4 := rfl
  have e8 : (8 : Int).toNat = 8 := rfl
  obtain ⟨B, hB⟩ : ∃ B : Int, (1000000 : Int) = B := ⟨_, rfl⟩
  obtain ⟨D, hD⟩ : ∃ B : Int, (100000 : Int) = B := ⟨_, rfl⟩
  have hR : rightM (repM [.vi 4, ω.w 1, ω.w 2, ω.w 3, ω.w 4, ω.w 5, ω.w 6, ω.w 7, ω.w 8, ω.w 9, ω.w 10, ω.w 11]) = rightM (repM [ω.w 0, ω.w 1, ω.w 2, ω.w 3, ω.w 4, ω.w 5, ω.w 6, ω.w 7, ω.w 8, ω.w 9, ω.w 10, ω.w 11]) := by
    simp only [repM, arg_0, arg_s, toI_vi, hk]
  have n1 : ((ω.w 10).toL.length : Int) ≤ 1000 := by omega
  have n2 : ((ω.w 11).toL.length : Int) ≤ 1000 := by omega
  simp only [T_put4, put4_0, put4_1, put4_2, put4_3, put4_4, put4_5, put4_6, put4_7, put4_8, put4_9, put4_10, put4_11, put4_12, put4_13, put4_14, put4_15, put4_16, put4_17, hB, hD, evalT, evalTs, dens, den, dB, prim, hf, toB_vb, toI_vi, toL_vl, cmpI_lss, cmpI_leq, cmpI_gtr, cmpI_eql, Bool.and_eq_true, decide_eq_true_eq, List.cons_append, List.nil_append]
  refine (if_pos ⟨n1, n2⟩).trans ?_
  cases hr : rightM (repM [ω.w 0, ω.w 1, ω.w 2, ω.w 3, ω.w 4, ω.w 5, ω.w 6, ω.w 7, ω.w 8, ω.w 9, ω.w 10, ω.w 11]) with
  | false => simp only [F, hR, hr, Bool.not_false, if_true, toB_vb, cond_false]
  | true =>
  have hr' : (F 4 [.vi 4, ω.w 1, ω.w 2, ω.w 3, ω.w 4, ω.w 5, ω.w 6, ω.w 7, ω.w 8, ω.w 9, ω.w 10, ω.w 11]).toB = true := by simp only [F, hR, hr, toB_vb]
  have h5 : F 5 [ω.w 0, ω.w 1, ω.w 2, ω.w 3, ω.w 4, ω.w 5, ω.w 6, ω.w 7, ω.w 8, ω.w 9, ω.w 10, ω.w 11] = .vl (putV [ω.w 0, ω.w 1, ω.w 2, ω.w 3, ω.w 4, ω.w 5, ω.w 6, ω.w 7, ω.w 8, ω.w 9, ω.w 10, ω.w 11]) := by simp only [F, hr, cond_true]
  have h6 : F 6 [ω.w 0, ω.w 1, ω.w 2, ω.w 3, ω.w 4, ω.w 5, ω.w 6, ω.w 7, ω.w 8, ω.w 9, ω.w 10, ω.w 11] = .vi 0 := by simp only [F, hr, cond_true]
  rw [hr', h5, h6]
  simp only [Bool.not_true, Bool.false_eq_true, if_false, F, arg_0, arg_s, toI_vi, toL_vl]
  have g1 := gath_len (g := fun i => rowW (atV (ω.w 10).toL i)) (m := 110) (fun i => by rw [rowW_len]; have := few_at q3 i; omega) (ω.w 10).toL.length
  have g2 := gath_len (g := fun i => paneW (atV (ω.w 11).toL i)) (m := 110) (fun i => by rw [paneW_len]; have := few_at q4 i; omega) (ω.w 11).toL.length
  refine ifp (by simp only [List.length_append, List.length_cons, List.length_nil, beV_len, textV_len, e1, e2, e4, e8]; omega) ?_
  refine ifp (by simp only [List.length_append, List.length_cons, List.length_nil, beV_len, textV_len, e1, e2, e4, e8]; omega) ?_
  cases hb : (ω.w 3).toB
  all_goals
    simp only [Bool.false_eq_true, if_false, if_true]
    refine ifp (by simp only [List.length_append, List.length_cons, List.length_nil, beV_len, textV_len, e1, e2, e4, e8]; omega) ?_
    refine ifp (by simp only [List.length_append, List.length_cons, List.length_nil, beV_len, textV_len, e1, e2, e4, e8]; omega) ?_
    rw [gath_loop' (fun i acc => [.vi i, .vi acc.length, .vl acc]) (n := (ω.w 10).toL.length) (g := fun i => rowW (atV (ω.w 10).toL i))]
    case h0 => exact rfl
    case h1 =>
      intro i hi
      have hg := gath_len (g := fun i => rowW (atV (ω.w 10).toL i)) (m := 110) (fun i => by rw [rowW_len]; have := few_at q3 i; omega) i
      have hkey := few_at q3 i
      generalize gath (fun i => rowW (atV (ω.w 10).toL i)) i = acc at hg ⊢
      simp only [L114, L115, hB, hD, evalT, dens, den, dB, prim, upd_f, upd_a, upd_b, upd_c, upd_10, upd_11, toI_vi, toB_vb, toL_vl, toS_vs, cmpI_lss, cmpI_leq, cmpI_gtr, cmpI_eql, Bool.and_eq_true, decide_eq_true_eq, getV_0, getV_1, getV_2, getV_3, getV_4, getV_5, getV_6, hf, F, arg_0, arg_s]
      refine ifp (by omega) ?_
      refine ifp (by omega) ?_
      refine ifp (by omega) ?_
      refine ifp (by simp only [List.length_append, List.length_cons, List.length_nil, beV_len, textV_len, paneW_len, rowW_len, e1, e2, e4, e8]; omega) ?_
      refine ifp (⟨trivial, by simp only [List.length_append, List.length_cons, List.length_nil, beV_len, textV_len, paneW_len, rowW_len, e1, e2, e4, e8]; omega⟩) ?_
      refine ifp (by simp only [List.length_append, List.length_cons, List.length_nil, beV_len, textV_len, paneW_len, rowW_len, e1, e2, e4, e8]; omega) ?_
      refine ifp (by simp only [List.length_append, List.length_cons, List.length_nil, beV_len, textV_len, paneW_len, rowW_len, e1, e2, e4, e8]; omega) ?_
      simp only [arI_add1 (show i ≤ 10000000 by omega), rowW, paneW, beV_u64 _ (Nat.le_refl 8), List.append_assoc, e8]
    case h2 =>
      simp only [L114, L115, hB, hD, evalT, dens, den, dB, prim, upd_f, upd_a, upd_b, upd_c, upd_10, upd_11, toI_vi, toB_vb, toL_vl, toS_vs, cmpI_lss, cmpI_leq, cmpI_gtr, cmpI_eql, Bool.and_eq_true, decide_eq_true_eq, getV_0, getV_1, getV_2, getV_3, getV_4, getV_5, getV_6, hf, F, arg_0, arg_s]
      rw [if_neg (by omega)]
    simp only [hB, hD, lastA, hf, F, arg_0, arg_s, gathF, List.length_cons, List.length_nil, Nat.reduceAdd, Nat.reduceSub, if_true, evalTs, evalT, dens, den, dB, prim, getR1, getR2, getR0, List.cons_append, List.nil_append, toI_vi, toB_vb, toL_vl, cmpI_eql, cmpI_leq, Bool.and_eq_true, decide_eq_true_eq]
    refine ifp ⟨trivial, by simp only [List.length_append, List.length_cons, List.length_nil, beV_len, textV_len, paneW_len, rowW_len, e1, e2, e4, e8]; omega⟩ ?_
    rw [gath_loop' (fun i acc => [.vi i, .vi acc.length, .vl acc]) (n := (ω.w 11).toL.length) (g := fun i => paneW (atV (ω.w 11).toL i))]
    case h0 => exact rfl
    case h1 =>
      intro i hi
      have hg := gath_len (g := fun i => paneW (atV (ω.w 11).toL i)) (m := 110) (fun i => by rw [paneW_len]; have := few_at q4 i; omega) i
      have hkey := few_at q4 i
      generalize gath (fun i => paneW (atV (ω.w 11).toL i)) i = acc at hg ⊢
      simp only [L114, L115, hB, hD, evalT, dens, den, dB, prim, upd_f, upd_a, upd_b, upd_c, upd_10, upd_11, toI_vi, toB_vb, toL_vl, toS_vs, cmpI_lss, cmpI_leq, cmpI_gtr, cmpI_eql, Bool.and_eq_true, decide_eq_true_eq, getV_0, getV_1, getV_2, getV_3, getV_4, getV_5, getV_6, hf, F, arg_0, arg_s]
      refine ifp (by omega) ?_
      refine ifp (by omega) ?_
      refine ifp (by omega) ?_
      refine ifp (by simp only [List.length_append, List.length_cons, List.length_nil, beV_len, textV_len, paneW_len, rowW_len, e1, e2, e4, e8]; omega) ?_
      refine ifp (⟨trivial, by simp only [List.length_append, List.length_cons, List.length_nil, beV_len, textV_len, paneW_len, rowW_len, e1, e2, e4, e8]; omega⟩) ?_
      simp only [arI_add1 (show i ≤ 10000000 by omega), rowW, paneW, beV_u64 _ (Nat.le_refl 8), List.append_assoc, e8]
    case h2 =>
      simp only [L114, L115, hB, hD, evalT, dens, den, dB, prim, upd_f, upd_a, upd_b, upd_c, upd_10, upd_11, toI_vi, toB_vb, toL_vl, toS_vs, cmpI_lss, cmpI_leq, cmpI_gtr, cmpI_eql, Bool.and_eq_true, decide_eq_true_eq, getV_0, getV_1, getV_2, getV_3, getV_4, getV_5, getV_6, hf, F, arg_0, arg_s]
      rw [if_neg (by omega)]
    simp only [hB, hD, lastA, hf, F, arg_0, arg_s, gathF, List.length_cons, List.length_nil, Nat.reduceAdd, Nat.reduceSub, if_true, evalTs, evalT, dens, den, dB, prim, getR1, getR2, getR0, List.cons_append, List.nil_append, toI_vi, toB_vb, toL_vl, cmpI_eql, cmpI_leq, Bool.and_eq_true, decide_eq_true_eq]
    simp only [e1, e2, e4, e8, beV_u64 _ (Nat.le_refl 8), beV_u64 _ (show 4 ≤ 8 by decide), beV_u64 _ (show 2 ≤ 8 by decide), be_one, gath_flat, wu8]
    simp [putV, arg_0, arg_s, hk, hb, byteV]
theorem t_put0 {ω : Opq} (hf : ∀ i a, ω.f i a = F i a) (hk : ¬ (1 ≤ (ω.w 0).toI ∧ (ω.w 0).toI ≤ 7)) (hw : fewM [ω.w 0, ω.w 1, ω.w 2, ω.w 3, ω.w 4, ω.w 5, ω.w 6, ω.w 7, ω.w 8, ω.w 9, ω.w 10, ω.w 11] = true) : evalT T_put0 ω = some (0, [F 6 [ω.w 0, ω.w 1, ω.w 2, ω.w 3, ω.w 4, ω.w 5, ω.w 6, ω.w 7, ω.w 8, ω.w 9, ω.w 10, ω.w 11], F 5 [ω.w 0, ω.w 1, ω.w 2, ω.w 3, ω.w 4, ω.w 5, ω.w 6, ω.w 7, ω.w 8, ω.w 9, ω.w 10, ω.w 11]]) := by
  have hr : rightM (repM [ω.w 0, ω.w 1, ω.w 2, ω.w 3, ω.w 4, ω.w 5, ω.w 6, ω.w 7, ω.w 8, ω.w 9, ω.w 10, ω.w 11]) = false := by
    rw [rightM_eq]
    simp only [arg_0, arg_s]
    by_cases h1 : 1 ≤ (ω.w 0).toI
    · have h2 : ¬ (ω.w 0).toI ≤ 7 := by omega
      simp [h2]
    · simp [h1]
  obtain ⟨q1, q2, _, _⟩ := few_lens hw
  simp only [arg_0, arg_s] at q1 q2
  have n1 : ((ω.w 10).toL.length : Int) ≤ 1000 := by omega
  have n2 : ((ω.w 11).toL.length : Int) ≤ 1000 := by omega
  have h4 : F 4 [ω.w 0, ω.w 1, ω.w 2, ω.w 3, ω.w 4, ω.w 5, ω.w 6, ω.w 7, ω.w 8, ω.w 9, ω.w 10, ω.w 11] = .vb false := by simp only [F, hr]
  have h5 : F 5 [ω.w 0, ω.w 1, ω.w 2, ω.w 3, ω.w 4, ω.w 5, ω.w 6, ω.w 7, ω.w 8, ω.w 9, ω.w 10, ω.w 11] = .vl [] := by simp only [F, hr, cond_false]
  have h6 : F 6 [ω.w 0, ω.w 1, ω.w 2, ω.w 3, ω.w 4, ω.w 5, ω.w 6, ω.w 7, ω.w 8, ω.w 9, ω.w 10, ω.w 11] = .vi 81 := by simp only [F, hr, cond_false]
  simp only [T_put0, evalT, dens, den, dB, prim, hf, n1, n2, cmpI_leq, toI_vi, Bool.and_eq_true, decide_eq_true_eq, decide_true, and_self, Bool.and_self, h4, h5, h6, toB_vb, if_true, Bool.not_false]
theorem okBy_app {a b : List Val} (h1 : okBy a = true) (h2 : okBy b = true) : okBy (a ++ b) = true := by
  simp only [okBy, List.all_append, Bool.and_eq_true] at *; exact ⟨h1, h2⟩
theorem okBy_one {x : Int} (h0 : 0 ≤ x) (h1 : x < 256) : okBy [byteV x] = true := by
  show ((decide (0 ≤ x) && decide (x < 256)) && true) = true
  rw [decide_eq_true h0, decide_eq_true h1]; rfl
theorem okBy_be (x : Int) : ∀ n, okBy (beV x n) = true
  | 0 => rfl
  | n + 1 => okBy_app (a := [byteV (x / 256 ^ n % 256)]) (okBy_one (by omega) (by omega)) (okBy_be x n)
theorem okBy_map : ∀ s : List UInt8, okBy (s.map fun b => byteV b.toNat) = true
  | [] => rfl
  | b :: s => okBy_app (a := [byteV (b.toNat : Int)]) (okBy_one (by omega) (by have := b.toNat_lt; omega)) (okBy_map s)
theorem okBy_tx (s : List UInt8) : okBy (textV s) = true := by
  unfold textV
  exact okBy_app (okBy_be _ _) (okBy_map s)
theorem okBy_pn (r : Val) : okBy (paneW r) = true := by
  unfold paneW
  exact okBy_app (okBy_app (okBy_tx _) (okBy_be _ _)) (okBy_be _ _)
theorem okBy_rw (r : Val) : okBy (rowW r) = true := by
  unfold rowW
  exact okBy_app (okBy_pn r) (okBy_app (okBy_app (okBy_app (okBy_be _ _) (okBy_be _ _)) (okBy_be _ _)) (okBy_be _ _))
theorem okBy_flat {W : Val → List Val} (h : ∀ r, okBy (W r) = true) : ∀ l : List Val, okBy (l.flatMap W) = true
  | [] => rfl
  | r :: l => by rw [List.flatMap_cons]; exact okBy_app (h r) (okBy_flat h l)
theorem put_by {a : List Val} (h : rightM (repM a) = true) : okBy (putV a) = true := by
  obtain ⟨h1, h2, _⟩ := right_parts h
  have z : okBy [] = true := rfl
  unfold putV
  refine okBy_app (okBy_app (okBy_one (by omega) (by omega)) (okBy_be _ _)) ?_
  split
  · refine okBy_app (okBy_app (okBy_app (okBy_app (okBy_be _ _) ?_) (okBy_one (by omega) (by omega))) (okBy_flat okBy_rw _)) ?_
    · split
      · exact okBy_one (by omega) (by omega)
      · exact okBy_one (by omega) (by omega)
    · split
      · exact okBy_app (okBy_one (by omega) (by omega)) (okBy_flat okBy_pn _)
      · exact z
  · split
    · exact okBy_app (okBy_app (okBy_be _ _) (okBy_be _ _)) (okBy_be _ _)
    · split
      · exact okBy_app (okBy_app (okBy_app (okBy_be _ _) (okBy_be _ _)) (okBy_be _ _)) (okBy_be _ _)
      · split
        · exact okBy_app (okBy_be _ _) (okBy_be _ _)
        · exact z
theorem flat_le {W : Val → List Val} {m : Nat} : ∀ {l : List Val}, (∀ r ∈ l, (W r).length ≤ m) → (l.flatMap W).length ≤ m * l.length
  | [], _ => by simp
  | r :: l, h => by
    have h1 := h r (List.mem_cons_self ..)
    have h2 := flat_le (l := l) (fun x hx => h x (List.mem_cons_of_mem _ hx))
    rw [List.flatMap_cons, List.length_append, List.length_cons, Nat.mul_add]; omega
theorem put_len {a : List Val} (h : rightM (repM a) = true) : (putV a).length ≤ 5300 := by
  obtain ⟨_, _, h3, h4, h5, _⟩ := right_parts h
  have r1 : ((arg a 10).toL.flatMap rowW).length ≤ 82 * (arg a 10).toL.length := flat_le fun r hr => by
    have h6 : rowBV r = false := by
      simp only [List.any_eq_false] at h4
      simpa using h4 r hr
    rw [rowBV_f] at h6
    rw [rowW_len]; omega
  have r2 : ((arg a 11).toL.flatMap paneW).length ≤ 50 * (arg a 11).toL.length := flat_le fun r hr => by
    have h6 : paneBV r = false := by
      simp only [List.any_eq_false] at h5
      simpa using h5 r hr
    rw [paneBV_f] at h6
    rw [paneW_len]; omega
  unfold putV
  simp only [List.length_append, List.length_cons, List.length_nil, beV_len]
  repeat' split
  all_goals (try simp only [List.length_append, List.length_cons, List.length_nil, beV_len])
  all_goals omega
theorem few_right {a : List Val} (h : rightM (repM a) = true) : fewM a = true := by
  obtain ⟨_, _, h3, h4, h5, _⟩ := right_parts h
  have k1 : (arg a 10).toL.any fewB = false := by
    simp only [List.any_eq_false] at h4 ⊢
    intro r hr
    have h6 : rowBV r = false := by simpa using h4 r hr
    rw [rowBV_f] at h6
    simp only [fewB, decide_eq_true_eq]; omega
  have k2 : (arg a 11).toL.any fewB = false := by
    simp only [List.any_eq_false] at h5 ⊢
    intro r hr
    have h6 : paneBV r = false := by simpa using h5 r hr
    rw [paneBV_f] at h6
    simp only [fewB, decide_eq_true_eq]; omega
  unfold fewM
  rw [k1, k2, decide_eq_true (by omega), decide_eq_true (by omega)]; rfl
theorem fin_blank {l : List Val} {s : Rd} {odd : Bool} {a : List Val} (h : ¬ (arg (finV l s odd a) 10).toI = 0) : ∃ e, finV l s odd a = blankV e := by
  unfold finV at h ⊢
  cases hb : s.bad with
  | true => exact ⟨_, rfl⟩
  | false =>
    cases hp : decide (s.pos < l.length) with
    | true => exact ⟨_, rfl⟩
    | false =>
      cases ho : (odd || !rightM (repM a)) with
      | true => exact ⟨_, rfl⟩
      | false => rw [hb, hp, ho] at h; exact absurd rfl h
theorem parse_bl {l : List Val} (h : ¬ (arg (parseV l) 10).toI = 0) : ∃ e, parseV l = blankV e := by
  unfold parseV parseK at h ⊢
  repeat' split at h
  all_goals (try simp only [*, if_true, if_false])
  all_goals first
    | exact ⟨_, rfl⟩
    | exact fin_blank h
    | skip
theorem F4s (a : List Val) : F 4 a = .vb (rightM (repM a)) := rfl
theorem F5s (a : List Val) : F 5 a = .vl (bif rightM (repM a) then putV a else []) := rfl
theorem F6s (a : List Val) : F 6 a = .vi (bif rightM (repM a) then 0 else 81) := rfl
theorem F8s (a : List Val) : F 8 a = .vb (fewM a) := rfl
theorem F60s (v : Val) : F 60 [v] = arg (parseV v.toL) 10 := rfl
theorem F12s (a b : Val) : F 12 [a, b] = .vb (eqB (bytesM a) (bytesM b)) := rfl
theorem prs_len {l : List Val} (h : okL l = true) : (arg (prs l) 10).toL.length ≤ 255 ∧ (arg (prs l) 11).toL.length ≤ 255 := ⟨parse_rows h, parse_gone h⟩
theorem t_replyBack {ω : Opq} (hf : ∀ i a, ω.f i a = F i a) (hb : okBy (ω.w 12).toL = true) (ho : RangesOk [ω.w 0, ω.w 1, ω.w 2, ω.w 3, ω.w 4, ω.w 5, ω.w 6, ω.w 7, ω.w 8, ω.w 9, ω.w 10, ω.w 11]) : evalT T_replyBack ω = some (0, [.vb true]) := by
  obtain ⟨B, hB⟩ : ∃ B : Int, (1000000 : Int) = B := ⟨_, rfl⟩
  simp only [T_replyBack, replyBack_0, replyBack_1, replyBack_2, replyBack_3, replyBack_4, replyBack_5, replyBack_6, replyBack_7, replyBack_8, replyBack_9, replyBack_10, replyBack_11, replyBack_12, replyBack_13, replyBack_14, hB, evalT, dens, den, dB, prim, bok_prim, hf]
  cases hw : fewM [ω.w 0, ω.w 1, ω.w 2, ω.w 3, ω.w 4, ω.w 5, ω.w 6, ω.w 7, ω.w 8, ω.w 9, ω.w 10, ω.w 11] with
  | false =>
    have h8 : F 8 [ω.w 0, ω.w 1, ω.w 2, ω.w 3, ω.w 4, ω.w 5, ω.w 6, ω.w 7, ω.w 8, ω.w 9, ω.w 10, ω.w 11] = .vb false := by rw [F8s, hw]
    simp only [h8, toB_vb, Bool.not_false, if_true]
  | true =>
  have h8 : F 8 [ω.w 0, ω.w 1, ω.w 2, ω.w 3, ω.w 4, ω.w 5, ω.w 6, ω.w 7, ω.w 8, ω.w 9, ω.w 10, ω.w 11] = .vb true := by rw [F8s, hw]
  simp only [h8, toB_vb, toI_vi, toL_vl, Bool.not_true, Bool.false_eq_true, if_false, cmpI_gtr, cmpI_leq, cmpI_eql, cmpI_neq, Bool.and_eq_true, decide_eq_true_eq]
  by_cases h12 : 3000 < ((ω.w 12).toL.length : Int)
  · exact ifp h12 rfl
  refine ifn h12 ?_
  obtain ⟨q1, q2, _, _⟩ := few_lens hw
  simp only [arg_0, arg_s] at q1 q2
  refine ifp (by omega) ?_
  have hl : okL (ω.w 12).toL = true := by
    unfold okL; rw [hb, decide_eq_true (by omega)]; rfl
  have r1 : (F 61 [ω.w 12]).toL.length ≤ 255 := parse_rows hl
  have r2 : (F 62 [ω.w 12]).toL.length ≤ 255 := parse_gone hl
  -- what is read is packed as it was
  have hB2 : ∀ T : Option (Nat × List Val), T = (if ((ω.w 12).toL.length : Int) ≤ B ∧ okBy (ω.w 12).toL = true then (if ((!decide ((F 60 [ω.w 12]).toI = 0)) = true) then (if ((F 61 [ω.w 12]).toL.length : Int) ≤ B ∧ ((F 62 [ω.w 12]).toL.length : Int) ≤ B then (if (F 7 [F 50 [ω.w 12], F 51 [ω.w 12], F 52 [ω.w 12], F 53 [ω.w 12], F 54 [ω.w 12], F 55 [ω.w 12], F 56 [ω.w 12], F 57 [ω.w 12], F 58 [ω.w 12], F 59 [ω.w 12], F 61 [ω.w 12], F 62 [ω.w 12], .vi 0, .vi 0, .vi 0, .vb false, .vi 0, .vi 0, .vi 0, .vi 0, .vi 0, .vi 0, .vl [], .vl []]).toB = true then some (0, [F 7 [F 50 [ω.w 12], F 51 [ω.w 12], F 52 [ω.w 12], F 53 [ω.w 12], F 54 [ω.w 12], F 55 [ω.w 12], F 56 [ω.w 12], F 57 [ω.w 12], F 58 [ω.w 12], F 59 [ω.w 12], F 61 [ω.w 12], F 62 [ω.w 12], .vi 0, .vi 0, .vi 0, .vb false, .vi 0, .vi 0, .vi 0, .vi 0, .vi 0, .vi 0, .vl [], .vl []]]) else some (0, [.vb false])) else none) else (if (F 8 [F 50 [ω.w 12], F 51 [ω.w 12], F 52 [ω.w 12], F 53 [ω.w 12], F 54 [ω.w 12], F 55 [ω.w 12], F 56 [ω.w 12], F 57 [ω.w 12], F 58 [ω.w 12], F 59 [ω.w 12], F 61 [ω.w 12], F 62 [ω.w 12]]).toB = true then (if (F 6 [F 50 [ω.w 12], F 51 [ω.w 12], F 52 [ω.w 12], F 53 [ω.w 12], F 54 [ω.w 12], F 55 [ω.w 12], F 56 [ω.w 12], F 57 [ω.w 12], F 58 [ω.w 12], F 59 [ω.w 12], F 61 [ω.w 12], F 62 [ω.w 12]]).toI = 0 then (if ((F 61 [ω.w 12]).toL.length : Int) ≤ 1000 ∧ ((F 62 [ω.w 12]).toL.length : Int) ≤ 1000 then (if (F 4 [F 50 [ω.w 12], F 51 [ω.w 12], F 52 [ω.w 12], F 53 [ω.w 12], F 54 [ω.w 12], F 55 [ω.w 12], F 56 [ω.w 12], F 57 [ω.w 12], F 58 [ω.w 12], F 59 [ω.w 12], F 61 [ω.w 12], F 62 [ω.w 12]]).toB = true then (if ((F 5 [F 50 [ω.w 12], F 51 [ω.w 12], F 52 [ω.w 12], F 53 [ω.w 12], F 54 [ω.w 12], F 55 [ω.w 12], F 56 [ω.w 12], F 57 [ω.w 12], F 58 [ω.w 12], F 59 [ω.w 12], F 61 [ω.w 12], F 62 [ω.w 12]]).toL.length : Int) ≤ B then (if (F 12 [F 5 [F 50 [ω.w 12], F 51 [ω.w 12], F 52 [ω.w 12], F 53 [ω.w 12], F 54 [ω.w 12], F 55 [ω.w 12], F 56 [ω.w 12], F 57 [ω.w 12], F 58 [ω.w 12], F 59 [ω.w 12], F 61 [ω.w 12], F 62 [ω.w 12]], ω.w 12]).toB = true then some (0, [F 12 [F 5 [F 50 [ω.w 12], F 51 [ω.w 12], F 52 [ω.w 12], F 53 [ω.w 12], F 54 [ω.w 12], F 55 [ω.w 12], F 56 [ω.w 12], F 57 [ω.w 12], F 58 [ω.w 12], F 59 [ω.w 12], F 61 [ω.w 12], F 62 [ω.w 12]], ω.w 12]]) else some (0, [.vb false])) else none) else some (0, [.vb false])) else none) else some (0, [.vb false])) else none)) else none) → T = some (0, [.vb true]) := by
    intro T hT
    rw [hT]
    refine ifp ⟨by omega, hb⟩ ?_
    by_cases he : (arg (parseV (ω.w 12).toL) 10).toI = 0
    · have h60 : (F 60 [ω.w 12]).toI = 0 := he
      obtain ⟨b1, b2⟩ := back hl he
      have hV : [F 50 [ω.w 12], F 51 [ω.w 12], F 52 [ω.w 12], F 53 [ω.w 12], F 54 [ω.w 12], F 55 [ω.w 12], F 56 [ω.w 12], F 57 [ω.w 12], F 58 [ω.w 12], F 59 [ω.w 12], F 61 [ω.w 12], F 62 [ω.w 12]] = prs (ω.w 12).toL := rfl
      refine ifn (by rw [h60]; decide) ?_
      rw [hV, F8s, few_right b1, F6s, b1, F4s, b1, F5s, b1]
      have hlen : (putV (prs (ω.w 12).toL)).length = (ω.w 12).toL.length := by
        have := congrArg List.length b2
        simpa using this
      have h13 : F 12 [.vl (putV (prs (ω.w 12).toL)), ω.w 12] = .vb true := by
        rw [F12s]
        exact congrArg Val.vb (eqB_e b2)
      simp only [cond_true, h13, toB_vb, toI_vi, toL_vl, if_true]
      refine ifp (by omega) ?_
      exact ifp (by omega) rfl
    · obtain ⟨e, hz⟩ := parse_bl he
      have h7 : F 7 [F 50 [ω.w 12], F 51 [ω.w 12], F 52 [ω.w 12], F 53 [ω.w 12], F 54 [ω.w 12], F 55 [ω.w 12], F 56 [ω.w 12], F 57 [ω.w 12], F 58 [ω.w 12], F 59 [ω.w 12], F 61 [ω.w 12], F 62 [ω.w 12], .vi 0, .vi 0, .vi 0, .vb false, .vi 0, .vi 0, .vi 0, .vi 0, .vi 0, .vi 0, .vl [], .vl []] = .vb true := by
        show Val.vb (eqB (repM [arg (parseV (ω.w 12).toL) 0, arg (parseV (ω.w 12).toL) 1, arg (parseV (ω.w 12).toL) 2, arg (parseV (ω.w 12).toL) 3, arg (parseV (ω.w 12).toL) 4, arg (parseV (ω.w 12).toL) 5, arg (parseV (ω.w 12).toL) 6, arg (parseV (ω.w 12).toL) 7, arg (parseV (ω.w 12).toL) 8, arg (parseV (ω.w 12).toL) 9, arg (parseV (ω.w 12).toL) 11, arg (parseV (ω.w 12).toL) 12]) (repM [.vi 0, .vi 0, .vi 0, .vb false, .vi 0, .vi 0, .vi 0, .vi 0, .vi 0, .vi 0, .vl [], .vl []])) = _
        rw [hz]
        exact congrArg Val.vb (eqB_self _)
      have h60 : ¬ (F 60 [ω.w 12]).toI = 0 := he
      refine ifp (by rw [decide_eq_false h60]; rfl) ?_
      refine ifp (by omega) ?_
      rw [h7]; rfl
  cases hr : rightM (repM [ω.w 0, ω.w 1, ω.w 2, ω.w 3, ω.w 4, ω.w 5, ω.w 6, ω.w 7, ω.w 8, ω.w 9, ω.w 10, ω.w 11]) with
  | false =>
    have h4 : F 4 [ω.w 0, ω.w 1, ω.w 2, ω.w 3, ω.w 4, ω.w 5, ω.w 6, ω.w 7, ω.w 8, ω.w 9, ω.w 10, ω.w 11] = .vb false := by rw [F4s, hr]
    have h6 : F 6 [ω.w 0, ω.w 1, ω.w 2, ω.w 3, ω.w 4, ω.w 5, ω.w 6, ω.w 7, ω.w 8, ω.w 9, ω.w 10, ω.w 11] = .vi 81 := by rw [F6s, hr]; rfl
    simp only [h4, h6, toB_vb, toI_vi, (by decide : ¬ ((81 : Int) = 0)), decide_false, beq_self_eq_true, Bool.not_true, Bool.false_eq_true, if_false]
    exact hB2 _ rfl
  | true =>
    have h4 : F 4 [ω.w 0, ω.w 1, ω.w 2, ω.w 3, ω.w 4, ω.w 5, ω.w 6, ω.w 7, ω.w 8, ω.w 9, ω.w 10, ω.w 11] = .vb true := by rw [F4s, hr]
    have h6 : F 6 [ω.w 0, ω.w 1, ω.w 2, ω.w 3, ω.w 4, ω.w 5, ω.w 6, ω.w 7, ω.w 8, ω.w 9, ω.w 10, ω.w 11] = .vi 0 := by rw [F6s, hr]; rfl
    have h5 : F 5 [ω.w 0, ω.w 1, ω.w 2, ω.w 3, ω.w 4, ω.w 5, ω.w 6, ω.w 7, ω.w 8, ω.w 9, ω.w 10, ω.w 11] = .vl (putV [ω.w 0, ω.w 1, ω.w 2, ω.w 3, ω.w 4, ω.w 5, ω.w 6, ω.w 7, ω.w 8, ω.w 9, ω.w 10, ω.w 11]) := by rw [F5s, hr]; rfl
    obtain ⟨f1, f2⟩ := fwd hr ho
    have p1 := put_len hr
    have p2 := put_by hr
    have hl2 : okL (putV [ω.w 0, ω.w 1, ω.w 2, ω.w 3, ω.w 4, ω.w 5, ω.w 6, ω.w 7, ω.w 8, ω.w 9, ω.w 10, ω.w 11]) = true := by
      unfold okL; rw [p2, decide_eq_true (by omega)]; rfl
    have h60 : (F 60 [.vl (putV [ω.w 0, ω.w 1, ω.w 2, ω.w 3, ω.w 4, ω.w 5, ω.w 6, ω.w 7, ω.w 8, ω.w 9, ω.w 10, ω.w 11])]).toI = 0 := f1
    have s1 : (F 61 [.vl (putV [ω.w 0, ω.w 1, ω.w 2, ω.w 3, ω.w 4, ω.w 5, ω.w 6, ω.w 7, ω.w 8, ω.w 9, ω.w 10, ω.w 11])]).toL.length ≤ 255 := parse_rows hl2
    have s2 : (F 62 [.vl (putV [ω.w 0, ω.w 1, ω.w 2, ω.w 3, ω.w 4, ω.w 5, ω.w 6, ω.w 7, ω.w 8, ω.w 9, ω.w 10, ω.w 11])]).toL.length ≤ 255 := parse_gone hl2
    have h7 : F 7 [F 50 [.vl (putV [ω.w 0, ω.w 1, ω.w 2, ω.w 3, ω.w 4, ω.w 5, ω.w 6, ω.w 7, ω.w 8, ω.w 9, ω.w 10, ω.w 11])], F 51 [.vl (putV [ω.w 0, ω.w 1, ω.w 2, ω.w 3, ω.w 4, ω.w 5, ω.w 6, ω.w 7, ω.w 8, ω.w 9, ω.w 10, ω.w 11])], F 52 [.vl (putV [ω.w 0, ω.w 1, ω.w 2, ω.w 3, ω.w 4, ω.w 5, ω.w 6, ω.w 7, ω.w 8, ω.w 9, ω.w 10, ω.w 11])], F 53 [.vl (putV [ω.w 0, ω.w 1, ω.w 2, ω.w 3, ω.w 4, ω.w 5, ω.w 6, ω.w 7, ω.w 8, ω.w 9, ω.w 10, ω.w 11])], F 54 [.vl (putV [ω.w 0, ω.w 1, ω.w 2, ω.w 3, ω.w 4, ω.w 5, ω.w 6, ω.w 7, ω.w 8, ω.w 9, ω.w 10, ω.w 11])], F 55 [.vl (putV [ω.w 0, ω.w 1, ω.w 2, ω.w 3, ω.w 4, ω.w 5, ω.w 6, ω.w 7, ω.w 8, ω.w 9, ω.w 10, ω.w 11])], F 56 [.vl (putV [ω.w 0, ω.w 1, ω.w 2, ω.w 3, ω.w 4, ω.w 5, ω.w 6, ω.w 7, ω.w 8, ω.w 9, ω.w 10, ω.w 11])], F 57 [.vl (putV [ω.w 0, ω.w 1, ω.w 2, ω.w 3, ω.w 4, ω.w 5, ω.w 6, ω.w 7, ω.w 8, ω.w 9, ω.w 10, ω.w 11])], F 58 [.vl (putV [ω.w 0, ω.w 1, ω.w 2, ω.w 3, ω.w 4, ω.w 5, ω.w 6, ω.w 7, ω.w 8, ω.w 9, ω.w 10, ω.w 11])], F 59 [.vl (putV [ω.w 0, ω.w 1, ω.w 2, ω.w 3, ω.w 4, ω.w 5, ω.w 6, ω.w 7, ω.w 8, ω.w 9, ω.w 10, ω.w 11])], F 61 [.vl (putV [ω.w 0, ω.w 1, ω.w 2, ω.w 3, ω.w 4, ω.w 5, ω.w 6, ω.w 7, ω.w 8, ω.w 9, ω.w 10, ω.w 11])], F 62 [.vl (putV [ω.w 0, ω.w 1, ω.w 2, ω.w 3, ω.w 4, ω.w 5, ω.w 6, ω.w 7, ω.w 8, ω.w 9, ω.w 10, ω.w 11])], ω.w 0, ω.w 1, ω.w 2, ω.w 3, ω.w 4, ω.w 5, ω.w 6, ω.w 7, ω.w 8, ω.w 9, ω.w 10, ω.w 11] = .vb true := by
      show Val.vb (eqB (repM (prs (putV [ω.w 0, ω.w 1, ω.w 2, ω.w 3, ω.w 4, ω.w 5, ω.w 6, ω.w 7, ω.w 8, ω.w 9, ω.w 10, ω.w 11]))) (repM [ω.w 0, ω.w 1, ω.w 2, ω.w 3, ω.w 4, ω.w 5, ω.w 6, ω.w 7, ω.w 8, ω.w 9, ω.w 10, ω.w 11])) = _
      exact congrArg Val.vb (eqB_e f2)
    simp only [h4, h6, h5, h7, h60, toB_vb, toI_vi, toL_vl, decide_true, beq_self_eq_true, Bool.not_true, Bool.false_eq_true, if_false, if_true]
    refine ifp ⟨by omega, p2⟩ ?_
    refine ifp (by omega) ?_
    refine ifn (by omega) ?_
    refine ifn (by omega) ?_
    exact hB2 _ rfl
end Go.Ev
