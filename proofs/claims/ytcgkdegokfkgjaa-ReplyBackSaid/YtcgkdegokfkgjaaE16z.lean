/- The evaluator: stores into rows told as lists; slices of them. -/
import Derived.Test.YtcgkdegokfkgjaaE16y
set_option linter.unusedVariables false
set_option linter.unusedSimpArgs false
namespace Go.Ev
open Go

variable {E : Env} {β : Bij} {ω : Opq} {K : Nat → Prop} {w0 w : World} {h : Heap} {ρA : Operand → Option AV} {ρ : Operand → Value}

/-! ### Rows put into lists -/
theorem flatV_set (sig : List CT) (r : Val) : ∀ (l : List Val) (k : Nat), k < l.length → flatV sig (l.set k r) = (flatV sig l).take (k * sig.length) ++ (rowV sig r ++ (flatV sig l).drop (k * sig.length + sig.length))
  | [], k, h => by simp at h
  | a :: l, 0, h => by
    have e : flatV sig (a :: l) = rowV sig a ++ flatV sig l := by simp [flatV]
    have e2 : flatV sig ((a :: l).set 0 r) = rowV sig r ++ flatV sig l := by simp [flatV]
    have hl := rowV_length sig a
    rw [e, e2, Nat.zero_mul, List.take_zero, List.nil_append, Nat.zero_add, List.drop_append_of_le_length (by omega), List.drop_of_length_le (by omega), List.nil_append]
  | a :: l, k + 1, h => by
    have e : flatV sig (a :: l) = rowV sig a ++ flatV sig l := by simp [flatV]
    have e2 : flatV sig ((a :: l).set (k + 1) r) = rowV sig a ++ flatV sig (l.set k r) := by simp [flatV]
    have hl := rowV_length sig a
    have ih := flatV_set sig r l k (by simpa using h)
    have t1 : (rowV sig a ++ flatV sig l).take (k * sig.length + sig.length) = rowV sig a ++ (flatV sig l).take (k * sig.length) := by
      rw [show k * sig.length + sig.length = (rowV sig a).length + k * sig.length by omega, List.take_length_add_append]
    have t2 : (rowV sig a ++ flatV sig l).drop (k * sig.length + sig.length + sig.length) = (flatV sig l).drop (k * sig.length + sig.length) := by
      rw [show k * sig.length + sig.length + sig.length = (rowV sig a).length + (k * sig.length + sig.length) by omega, List.drop_length_add_append]
    rw [e2, ih, e, Nat.add_mul, Nat.one_mul, t1, t2, List.append_assoc]
theorem rowV_eq (sig : List CT) (r : Val) (j : Nat) (hj : j < sig.length) : (rowV sig r)[j]? = some (cellV (sig.getD j .bool) (r.toL.getD j default)) := rowV_get hj
theorem rowV_mix {sig : List CT} {old : Val} {c0 es c1 : List Val} {j n : Nat} (hj : j + n ≤ sig.length) (h0 : c0 = (List.range' 0 j).map fun t => old.toL.getD t default) (hn : es.length = n) (h1 : c1 = (List.range' (j + n) (sig.length - (j + n))).map fun t => old.toL.getD t default) :
    rowV sig (.vl (c0 ++ (es ++ c1))) = (rowV sig old).take j ++ (rowV ((sig.drop j).take n) (.vl es) ++ (rowV sig old).drop (j + n)) := by
  have l0 : c0.length = j := by rw [h0]; simp
  have l1 : c1.length = sig.length - (j + n) := by rw [h1]; simp
  apply List.ext_getElem?
  intro i
  have hsub : ((sig.drop j).take n).length = n := by simp; omega
  have hold := rowV_length sig old
  rcases Nat.lt_or_ge i sig.length with hi | hi
  · rw [rowV_get hi]
    show some (cellV _ ((c0 ++ (es ++ c1)).getD i default)) = _
    rcases Nat.lt_or_ge i j with q | q
    · rw [List.getElem?_append_left (by rw [List.length_take]; omega), List.getElem?_take, if_pos q, rowV_get hi]
      congr 2
      rw [List.getD_eq_getElem?_getD, List.getElem?_append_left (by omega), h0]
      simp [q]
    · rcases Nat.lt_or_ge i (j + n) with q2 | q2
      · rw [List.getElem?_append_right (by rw [List.length_take]; omega), List.length_take, Nat.min_eq_left (by omega)]
        rw [List.getElem?_append_left (by rw [rowV_length, hsub]; omega), rowV_get (by rw [hsub]; omega)]
        congr 2
        · rw [List.getD_eq_getElem?_getD, List.getD_eq_getElem?_getD, List.getElem?_take, if_pos (by omega), List.getElem?_drop, show j + (i - j) = i by omega]
        · show _ = es.getD (i - j) default
          rw [List.getD_eq_getElem?_getD, List.getD_eq_getElem?_getD, List.getElem?_append_right (by omega), l0, List.getElem?_append_left (by omega)]
      · rw [List.getElem?_append_right (by rw [List.length_take]; omega), List.length_take, Nat.min_eq_left (by omega)]
        rw [List.getElem?_append_right (by rw [rowV_length, hsub]; omega), rowV_length, hsub, List.getElem?_drop, show j + n + (i - j - n) = i by omega, rowV_get hi]
        congr 2
        rw [List.getD_eq_getElem?_getD, List.getElem?_append_right (by omega), List.getElem?_append_right (by omega), l0, hn, h1]
        rw [List.getElem?_map, List.getElem?_range' (by omega)]
        simp only [Option.map_some, Option.getD_some]
        congr 1; omega
  · rw [List.getElem?_eq_none (by rw [rowV_length]; exact hi), List.getElem?_eq_none]
    rw [List.length_append, List.length_append, List.length_take, List.length_drop, rowV_length, rowV_length, hsub]; omega
theorem dens_app' (ω : Opq) : ∀ a b : List SX, dens ω (a ++ b) = dens ω a ++ dens ω b
  | [], b => rfl
  | x :: a, b => by simp only [List.cons_append, dens, dens_app' ω a b]
theorem dens_cols (l idx : SX) : ∀ n j, dens ω (yCols l idx j n) = (List.range' j n).map fun (t : Nat) => getV (dL ω l) (dI ω idx) (t : Int)
  | 0, j => rfl
  | n + 1, j => by
    simp only [yCols, dens, dens_cols l idx n (j + 1), List.range'_succ, List.map_cons]; rfl
theorem unleaf_one {c : CT} {v : AV} {e : SX} (h : unleaf c v = some e) : v.one = true := by
  unfold unleaf at h
  split at h
  · split at h
    · rename_i k' e' hs
      unfold symI at hs
      split at hs <;> first | rfl | cases hs
    · cases h
  · unfold symS at h
    split at h <;> first | rfl | cases h
  · unfold symB at h
    split at h <;> first | rfl | cases h
theorem unleafs_one : ∀ {sig : List CT} {vs : List AV} {es : List SX}, unleafs sig vs = some es → vs.all AV.one = true ∧ es.length = vs.length
  | [], [], es, h => by simp only [unleafs, Option.some.injEq] at h; subst h; exact ⟨rfl, rfl⟩
  | [], _ :: _, es, h => by cases h
  | _ :: _, [], es, h => by cases h
  | c :: cs, v :: vs, es, h => by
    simp only [unleafs] at h
    split at h
    · rename_i e es' h1 h2
      simp only [Option.some.injEq] at h; subst h
      obtain ⟨a, b⟩ := unleafs_one h2
      simp only [List.all_cons, Bool.and_eq_true, List.length_cons]
      exact ⟨⟨unleaf_one h1, a⟩, by rw [b]⟩
    · cases h
theorem dens_len (ω : Opq) : ∀ l : List SX, (dens ω l).length = l.length
  | [] => rfl
  | a :: r => by simp only [dens, List.length_cons, dens_len ω r]

theorem VRs_det_take {cs : List AV} {vs : List Value} {n : Nat} (hd : ∀ (β : Bij) us, VRs β ω cs us → us = vs) (h0 : ∀ β : Bij, VRs β ω cs vs) {β : Bij} {us : List Value} (hu : VRs β ω (cs.take n) us) : us = vs.take n := by
  have h1 := hu.append ((h0 β).drop n)
  rw [List.take_append_drop] at h1
  have h2 := hd β _ h1
  have hl := hu.length
  have hv := (h0 β).length
  rw [← h2]
  rw [List.length_take] at hl
  rcases Nat.le_total n cs.length with q | q
  · rw [List.take_append_of_le_length (by omega), List.take_of_length_le (by omega)]
  · have : vs.drop n = [] := List.drop_of_length_le (by omega)
    rw [this, List.append_nil, List.take_of_length_le (by omega)]
theorem VRs_det_drop {cs : List AV} {vs : List Value} {n : Nat} (hd : ∀ (β : Bij) us, VRs β ω cs us → us = vs) (h0 : ∀ β : Bij, VRs β ω cs vs) {β : Bij} {us : List Value} (hu : VRs β ω (cs.drop n) us) : us = vs.drop n := by
  have h1 := ((h0 β).take n).append hu
  rw [List.take_append_drop] at h1
  have h2 := hd β _ h1
  have hv := (h0 β).length
  rw [← h2]
  rcases Nat.le_total n cs.length with q | q
  · rw [List.drop_append_of_le_length (by rw [List.length_take]; omega), List.drop_of_length_le (by rw [List.length_take]; omega), List.nil_append]
  · have hul := hu.length
    have : us = [] := List.eq_nil_of_length_eq_zero (by rw [hul, List.length_drop]; omega)
    rw [this, List.append_nil, List.drop_of_length_le (by rw [List.length_take]; omega)]
theorem yStore_ok (hfx : ∀ t, ω.fix t = fixT E.P t) (r : HR β ω K w0 h w) (o : OpR β ω ρA ρ) (t : TypeId) (x y : Operand) : SOk E β ω K w0 w h (do Instr.storeAt t (ρ x) (ρ y); pure .skip) (yStore E.P t h (ρA x) (ρA y)) := by
  unfold yStore
  split
  · rename_i b idx j sz v n hx hy hn
    unfold yStore2
    split
    · rename_i el sig l hg
      cases hc : (Nat.beq sig.length sz && Nat.ble (j + n) sz && v.nt && Nat.beq v.cells.length n && Nat.ble h.wm b && Nat.blt 0 n && !(fixT E.P el) && !(Nat.beq el anyE)) with
      | false => trivial
      | true =>
        obtain ⟨hc, c8⟩ := and_t hc
        have hne : el ≠ anyE := fun e => by rw [e, show Nat.beq anyE anyE = true from rfl] at c8; cases c8
        obtain ⟨hc, c7⟩ := and_t hc
        have hnf : ω.fix el = false := by rw [hfx]; simpa using c7
        obtain ⟨hc, c6⟩ := and_t hc
        obtain ⟨hc, c5⟩ := and_t hc
        obtain ⟨hc, c4⟩ := and_t hc
        obtain ⟨hc, c3⟩ := and_t hc
        obtain ⟨c1, c2⟩ := and_t hc
        obtain rfl := beq_iff'.1 c1
        rw [beq_iff'] at c4
        rw [ble_iff] at c2 c5
        rw [blt_iff] at c6
        simp only [cond_true]
        unfold yStore3
        split
        · rename_i es hes
          intro hd
          obtain ⟨d1, d2⟩ := idxIn_ok hd
          rw [dI_llen] at d2
          have hk : (dI ω idx).toNat < (dL ω l).length := by omega
          have hvx := o x _ hx
          have hvy := o y _ hy
          simp only [VR] at hvx
          obtain ⟨L, hL, hvx⟩ := hvx
          have hb65 := Heap.get_lim h b _ hg
          have hget : ∀ (hh : Heap) (x : Option Blk) (z : Nat), (hh.put b x).get z = if z = b then (if b < 65536 then x else none) else hh.get z := fun hh x z => Heap.get_put _ _ _ _
          obtain ⟨ocs, m1, m2, m3, m4⟩ := avs ω sig (dL ω l)
          have m3' : ocs.length = (dL ω l).length * sig.length := by rw [m3, flatV_length]
          have r2 : HR β ω K w0 (h.put b (some (.cells el 0 ocs))) w := by
            refine HR.retell (y := .cells el 0 ocs) r hg (.inl c5) ?_ rfl rfl (fun z => by rw [hget, if_pos hb65])
            intro L' hL' hbr
            obtain ⟨C, e', lo, hi, z1, z0, z2, z3, z4, z5⟩ := hbr
            rw [z0.resolve_right hne] at z1
            refine ⟨C, lo, hi, flatV sig (dL ω l), z1, z2, by rw [m3, flatV_length]; exact z3, all_A m2, m1 β, fun k hk => ?_, fun k _ hk => z5 k hk, fun hh => by rw [hnf] at hh; cases hh⟩
            have hk' : k < (flatV sig (dL ω l)).length := by rw [← m3]; exact hk
            rw [List.getElem?_eq_getElem hk']
            exact z4 k _ (List.getElem?_eq_getElem hk')
          have hg2 : (h.put b (some (.cells el 0 ocs))).get b = some (.cells el 0 ocs) := by rw [hget, if_pos rfl, if_pos hb65]
          obtain ⟨hone, helen⟩ := unleafs_one hes
          have hkk : (dI ω idx).toNat * sig.length + sig.length ≤ (dL ω l).length * sig.length := by
            have := Nat.mul_le_mul_right sig.length (show (dI ω idx).toNat + 1 ≤ (dL ω l).length from hk)
            rw [Nat.add_mul, Nat.one_mul] at this; exact this
          have hst : storeE E.P t (.ptr b ((dI ω idx).toNat * sig.length + j)) v (h.put b (some (.cells el 0 ocs))) = some ((h.put b (some (.cells el 0 ocs))).put b (some (.cells el 0 (splice ocs ((dI ω idx).toNat * sig.length + j) v.cells)))) := by
            simp only [storeE, hn, c3, c4, Bool.true_and, show Nat.beq n n = true from beq_iff'.2 rfl, cond_true]
            cases hcs : v.cells with
            | nil => rw [hcs] at c4; simp at c4; omega
            | cons a as =>
              rw [← hcs]
              simp only [putCells, hcs]
              rw [← hcs, hg2]
              simp only [Heap.wm_put]
              rw [show (Nat.ble h.wm b && Nat.ble 0 ((dI ω idx).toNat * sig.length + j) && Nat.ble ((dI ω idx).toNat * sig.length + j + v.cells.length) ocs.length && v.cells.all AV.one) = true by
                rw [hone, ble_iff.2 c5, ble_iff.2 (Nat.zero_le _), ble_iff.2 (by rw [c4, m3']; omega)]; rfl]
              rfl
          obtain ⟨w', e1, e2, e3⟩ := storeE_ok (P := E.P) r2 hst (vx := ρ x) (vv := ρ y) ⟨L, hL, by rw [hvx, Nat.add_assoc]⟩ hvy
          have hrow := unleafs_ok hes (VR.cells hvy c3)
          -- the new list
          have hnew : dL ω (.op .lset [l, idx, .op .row (yCols l idx 0 j ++ (es ++ yCols l idx (j + n) (sig.length - (j + n))))]) = (dL ω l).set (dI ω idx).toNat (.vl (dens ω (yCols l idx 0 j) ++ (dens ω es ++ dens ω (yCols l idx (j + n) (sig.length - (j + n)))))) := by
            show (dL ω l).set (dI ω idx).toNat (.vl (dens ω _)) = _
            rw [dens_app', dens_app']
          have hgv : ∀ c : Nat, getV (dL ω l) (dI ω idx) c = ((dL ω l).getD (dI ω idx).toNat (.vl [])).toL.getD c default := fun c => by simp [getV]
          have hmix := rowV_mix (sig := sig) (old := (dL ω l).getD (dI ω idx).toNat (.vl [])) (c0 := dens ω (yCols l idx 0 j)) (es := dens ω es) (c1 := dens ω (yCols l idx (j + n) (sig.length - (j + n)))) (j := j) (n := n) c2
            (by rw [dens_cols]; exact List.map_congr_left fun c _ => hgv c) (by rw [dens_len, helen, c4]) (by rw [dens_cols]; exact List.map_congr_left fun c _ => hgv c)
          have hflat : flatV sig (dL ω (.op .lset [l, idx, .op .row (yCols l idx 0 j ++ (es ++ yCols l idx (j + n) (sig.length - (j + n))))])) =
              (flatV sig (dL ω l)).take ((dI ω idx).toNat * sig.length + j) ++ ((ρ y).cells.toList ++ (flatV sig (dL ω l)).drop ((dI ω idx).toNat * sig.length + j + n)) := by
            rw [hnew, flatV_set sig _ _ _ hk, hmix, ← hrow]
            have hfl := flatV_length sig (dL ω l)
            -- the old row
            have hold : rowV sig ((dL ω l).getD (dI ω idx).toNat (.vl [])) = ((flatV sig (dL ω l)).drop ((dI ω idx).toNat * sig.length)).take sig.length := by
              apply List.ext_getElem?
              intro c
              rcases Nat.lt_or_ge c sig.length with q | q
              · rw [rowV_get q, List.getElem?_take, if_pos q, List.getElem?_drop, flatV_get q hk]
              · rw [List.getElem?_eq_none (by rw [rowV_length]; exact q), List.getElem?_take, if_neg (by omega)]
            rw [hold]
            generalize flatV sig (dL ω l) = F at hfl ⊢
            generalize (dI ω idx).toNat * sig.length = q at hkk ⊢
            rw [← hfl] at hkk
            apply List.ext_getElem?
            intro c
            have hcl : (ρ y).cells.toList.length = n := by rw [← c4]; exact (VR.cells hvy c3).length
            rcases Nat.lt_or_ge c q with q1 | q1
            · rw [List.getElem?_append_left (by rw [List.length_take]; omega), List.getElem?_append_left (by rw [List.length_take]; omega), List.getElem?_take, if_pos q1, List.getElem?_take, if_pos (by omega)]
            · rw [List.getElem?_append_right (by rw [List.length_take]; omega), List.length_take, Nat.min_eq_left (by omega)]
              rcases Nat.lt_or_ge c (q + j) with q2 | q2
              · rw [List.getElem?_append_left (by simp only [List.length_append, List.length_take, List.length_drop]; omega), List.getElem?_append_left (by simp only [List.length_take, List.length_drop]; omega), List.getElem?_take, if_pos (by omega), List.getElem?_take, if_pos (by omega), List.getElem?_drop, show q + (c - q) = c by omega,
                  List.getElem?_append_left (by rw [List.length_take]; omega), List.getElem?_take, if_pos q2]
              · rw [List.getElem?_append_right (l₁ := F.take (q + j)) (by rw [List.length_take]; omega), List.length_take, Nat.min_eq_left (by omega)]
                rcases Nat.lt_or_ge c (q + j + n) with q3 | q3
                · rw [List.getElem?_append_left (by simp only [List.length_append, List.length_take, List.length_drop, hcl]; omega), List.getElem?_append_right (by simp only [List.length_take, List.length_drop]; omega), List.getElem?_append_left (by simp only [List.length_take, List.length_drop, hcl]; omega),
                    List.getElem?_append_left (by rw [hcl]; omega)]
                  congr 1
                  simp only [List.length_take, List.length_drop]; omega
                · rcases Nat.lt_or_ge c (q + sig.length) with q4 | q4
                  · rw [List.getElem?_append_left (by simp only [List.length_append, List.length_take, List.length_drop, hcl]; omega), List.getElem?_append_right (by simp only [List.length_take, List.length_drop]; omega), List.getElem?_append_right (by simp only [List.length_take, List.length_drop, hcl]; omega),
                      List.getElem?_append_right (by rw [hcl]; omega), List.getElem?_drop, List.getElem?_take, List.getElem?_drop, List.getElem?_drop, if_pos (by simp only [List.length_take, List.length_drop, hcl]; omega)]
                    congr 1
                    simp only [List.length_take, List.length_drop, hcl]; omega
                  · rw [List.getElem?_append_right (by simp only [List.length_append, List.length_take, List.length_drop, hcl]; omega), List.getElem?_append_right (l₁ := (ρ y).cells.toList) (by rw [hcl]; omega), List.getElem?_drop, List.getElem?_drop]
                    congr 1
                    simp only [List.length_append, List.length_take, List.length_drop, hcl]; omega
          refine ⟨β, Go.undef, w', .inr ⟨rfl, by rw [Sem.run_bind, e1]; rfl⟩, ⟨#[], rfl, rfl⟩, ?_, ?_⟩
          · refine HR.retell (y := .arr el sig (.op .lset [l, idx, .op .row (yCols l idx 0 j ++ (es ++ yCols l idx (j + n) (sig.length - (j + n))))])) e2 (b := b) (x := .cells el 0 (splice ocs ((dI ω idx).toNat * sig.length + j) v.cells)) (by rw [hget, if_pos rfl, if_pos hb65]) (.inr rfl) ?_ rfl rfl (fun z => ?_)
            · intro L' hL' hbr
              obtain ⟨C, lo, hi, vs, q1, q2, q3, q4, q5, q6, q7, q8⟩ := hbr
              have hvs : vs = flatV sig (dL ω (.op .lset [l, idx, .op .row (yCols l idx 0 j ++ (es ++ yCols l idx (j + n) (sig.length - (j + n))))])) := by
                rw [hflat]
                unfold splice at q5
                have hl1 : (ocs.take ((dI ω idx).toNat * sig.length + j)).length = (dI ω idx).toNat * sig.length + j := by rw [List.length_take, m3']; omega
                have hdet : ∀ (β : Bij) us, VRs β ω v.cells us → us = (ρ y).cells.toList := fun β us hu => (unleafs_ok hes hu).trans hrow.symm
                have hdet1 : ∀ (β : Bij) us, VRs β ω (ocs.take ((dI ω idx).toNat * sig.length + j)) us → us = (flatV sig (dL ω l)).take ((dI ω idx).toNat * sig.length + j) := fun β us hu => VRs_det_take m4 m1 hu
                have hdet2 : ∀ (β : Bij) us, VRs β ω (ocs.drop ((dI ω idx).toNat * sig.length + j + v.cells.length)) us → us = (flatV sig (dL ω l)).drop ((dI ω idx).toNat * sig.length + j + v.cells.length) := fun β us hu => VRs_det_drop m4 m1 hu
                have t1 := q5.take (ocs.take ((dI ω idx).toNat * sig.length + j) ++ v.cells).length
                have t2 := q5.drop (ocs.take ((dI ω idx).toNat * sig.length + j) ++ v.cells).length
                rw [List.take_left] at t1
                rw [List.drop_left] at t2
                have t3 := t1.take (ocs.take ((dI ω idx).toNat * sig.length + j)).length
                have t4 := t1.drop (ocs.take ((dI ω idx).toNat * sig.length + j)).length
                rw [List.take_left] at t3
                rw [List.drop_left] at t4
                rw [← List.take_append_drop (ocs.take ((dI ω idx).toNat * sig.length + j) ++ v.cells).length vs, hdet2 _ _ t2, c4]
                rw [← List.take_append_drop (ocs.take ((dI ω idx).toNat * sig.length + j)).length (vs.take (ocs.take ((dI ω idx).toNat * sig.length + j) ++ v.cells).length), hdet1 _ _ t3, hdet _ _ t4, List.append_assoc]
              subst hvs
              have hll : (splice ocs ((dI ω idx).toNat * sig.length + j) v.cells).length = (dL ω l).length * sig.length := by
                rw [← q5.length, flatV_length, hnew, List.length_set]
              refine ⟨C, _, lo, hi, q1, .inl rfl, q2, by rw [hnew, List.length_set, ← hll]; exact q3, fun i v2 hi' => ?_, fun i hi' => q7 i (Nat.zero_le _) hi'⟩
              rw [q6 i (by
                rcases Nat.lt_or_ge i (splice ocs ((dI ω idx).toNat * sig.length + j) v.cells).length with hh | hh
                · exact hh
                · rw [List.getElem?_eq_none (by rw [q5.length]; exact hh)] at hi'; cases hi')]
              exact hi'
            · rw [hget, hget, hget]
              by_cases hz : z = b
              · rw [if_pos hz, if_pos hz, if_pos hb65]
              · rw [if_neg hz, if_neg hz, if_neg hz, if_neg hz]
          · refine ⟨Nat.le_refl _, fun _ _ => rfl, fun z hz hzn => ?_, rfl⟩
            left
            rw [hget, if_neg (fun hh => by rw [hh, hL] at hzn; cases hzn)]
        · trivial
    · trivial
  · trivial

/-! ### Slices -/
theorem slIn_ok {lo hi n : SX} (h : dB ω (slIn lo hi n) = true) : 0 ≤ dI ω lo ∧ dI ω lo ≤ dI ω hi ∧ dI ω hi ≤ dI ω n := by
  unfold slIn at h
  obtain ⟨h1, h2⟩ := andS_ok h
  obtain ⟨h2, h3⟩ := andS_ok h2
  refine ⟨?_, of_decide_eq_true h2, ?_⟩
  · cases hc : SX.beq lo (.ci 0) with
    | true => rw [SX.beq_eq _ _ hc, dI_ci]; omega
    | false => rw [hc] at h1; exact of_decide_eq_true h1
  · cases hc : SX.beq hi n with
    | true => rw [SX.beq_eq _ _ hc]; omega
    | false => rw [hc] at h3; exact of_decide_eq_true h3
theorem dI_subO (a b : SX) : dI ω (subO a b) = dI ω a - dI ω b := by
  unfold subO
  split
  · rw [dI_ci]; omega
  · rfl
/-- A bound's value. -/
theorem ySlX_ok {x : Option (Option AV)} {d e : SX} {vx : Option Value} {k : Nat} (h : ySlX x d = some e) (hx : ∀ y, x = some y → OR β ω y vx) (h0 : 0 ≤ dI ω e) (hd : (dI ω d).toNat = k) : ∃ y : Option AV, OR β ω y vx ∧ bound y k = some (dI ω e).toNat := by
  unfold ySlX at h
  split at h
  · simp only [Option.some.injEq] at h; subst h
    exact ⟨none, hx _ rfl, by show some k = _; rw [hd]⟩
  · rename_i v
    obtain ⟨p, hp, rfl⟩ := Option.map_eq_some_iff.1 h
    obtain ⟨u, hu, ru⟩ := hx _ rfl
    have := symI_ok (k := p.1) (e := p.2) hp ru
    refine ⟨some (.int p.1 (dI ω p.2)), ⟨u, hu, this⟩, ?_⟩
    show natOf (dI ω p.2) = _
    obtain ⟨m, hm⟩ := Int.eq_ofNat_of_zero_le h0
    rw [hm]; rfl
  · cases h
theorem slice_run {P : Program} {t elem : TypeId} {s l en n cap : Nat} {a : Addr} {lo hi : Option AV} {vl vh : Option Value} (ht : P.underlying t = some (.slice elem)) (hs : szOf P elem = some s) (rl : OR β ω lo vl) (rh : OR β ω hi vh) (hl : bound lo 0 = some l) (he : bound hi n = some en) (h1 : l ≤ en) (h2 : en ≤ cap) (w : World) :
    (Instr.sliceAt t (.slice (some a) n cap) vl vh none).run P w = .ok (.slice (if cap = l then some a else some (a.add (l * s))) (en - l) (cap - l)) w := by
  have hb := sliceBounds_run (P := P) (mx := none) (vm := none) (cap := cap) true rl rh rfl hl he (m := cap) rfl h1 h2 (Nat.le_refl _) (fun _ => rfl) w
  by_cases hml : cap = l
  · subst hml; simp [Instr.sliceAt, Sem.run_bind, run_under ht, Instr.slice, hb, run_szOf hs]
  · simp [Instr.sliceAt, Sem.run_bind, run_under ht, Instr.slice, hb, run_szOf hs, hml]
theorem slice_run0 {P : Program} {t elem : TypeId} {s n : Nat} {lo hi : Option AV} {vl vh : Option Value} (ht : P.underlying t = some (.slice elem)) (hs : szOf P elem = some s) (rl : OR β ω lo vl) (rh : OR β ω hi vh) (hl : bound lo 0 = some 0) (he : bound hi 0 = some 0) (w : World) :
    (Instr.sliceAt t (.slice none 0 0) vl vh none).run P w = .ok (.slice none 0 0) w := by
  have hb := sliceBounds_run (P := P) (mx := none) (vm := none) (cap := 0) true rl rh rfl hl he (m := 0) rfl (Nat.le_refl _) (Nat.le_refl _) (Nat.le_refl _) (fun _ => rfl) w
  simp [Instr.sliceAt, Sem.run_bind, run_under ht, Instr.slice, hb, run_szOf hs]
theorem ySlice_ok (r : HR β ω K w0 h w) (o : OpR β ω ρA ρ) (t : TypeId) (x : Operand) (lo hi mx : Option Operand) :
    SOk E β ω K w0 w h (do pure (.value (← Instr.sliceAt t (ρ x) (lo.map ρ) (hi.map ρ) (mx.map ρ)))) (ySlice E.P t h (ρA x) (evo ρA lo) (evo ρA hi) (evo ρA mx)) := by
  have fin : ∀ {v : AV} {u : Value}, VR β ω v u → (Instr.sliceAt t (ρ x) (lo.map ρ) (hi.map ρ) (mx.map ρ)).run E.P w = .ok u w → SVal E β ω K w0 w h (do pure (.value (← Instr.sliceAt t (ρ x) (lo.map ρ) (hi.map ρ) (mx.map ρ)))) v h := by
    intro v u hv hr
    exact SVal.pureV r hv (by rw [Sem.run_bind, hr]; rfl)
  have hlo : ∀ y, evo ρA lo = some y → OR β ω y (lo.map ρ) := fun y hy => evo_ok o hy
  have hhi : ∀ y, evo ρA hi = some y → OR β ω y (hi.map ρ) := fun y hy => evo_ok o hy
  unfold ySlice
  split
  · rename_i a hx hm
    have hmx : mx.map ρ = none := evo_ok o hm
    have rv := o x _ hx
    split
    · rename_i ht
      split
      · rename_i s hs
        have hv := symS_ok hs rv
        unfold ySlStr
        split
        · rename_i l e h1 h2
          intro hd
          obtain ⟨d1, d2, d3⟩ := slIn_ok hd
          rw [dI_slen] at d3
          obtain ⟨y1, r1, b1⟩ := ySlX_ok (k := 0) h1 hlo d1 rfl
          obtain ⟨y2, r2, b2⟩ := ySlX_ok (k := (dS ω s).length) h2 hhi (by omega) (by rw [dI_slen]; simp)
          have hb := sliceBounds_run (P := E.P) (mx := none) (vm := none) (cap := (dS ω s).length) (len := (dS ω s).length) false r1 r2 rfl b1 b2 (m := (dS ω s).length) rfl (by omega) (by omega) (Nat.le_refl _) (fun _ => rfl)
          have hsz : (ByteArray.mk (dS ω s).toArray).size = (dS ω s).length := by simp [ByteArray.size]
          refine fin (u := .string ⟨(((dS ω s).drop (dI ω l).toNat).take ((dI ω e).toNat - (dI ω l).toNat)).toArray⟩) ?_ ?_
          · show _ = Value.string ⟨(((dS ω s).drop (dI ω l).toNat).take (dI ω e - dI ω l).toNat).toArray⟩
            rw [show (dI ω e).toNat - (dI ω l).toNat = (dI ω e - dI ω l).toNat by omega]
          · rw [hv, hmx]
            simp only [Instr.sliceAt, Sem.run_bind, run_under ht, Result.andThen_ok, Instr.slice, hsz, Option.isSome_none, Bool.false_eq_true, if_false, Sem.run_pure, hb, ByteArray.extract_mk]
        · trivial
      · trivial
    · rename_i elem ht
      split
      · rename_i s b off len sz hs
        cases hc : Nat.beq s sz with
        | false => trivial
        | true =>
          obtain rfl := beq_iff'.1 hc
          simp only [cond_true]
          unfold ySlOsl
          split
          · rename_i l e h1 h2
            intro hd
            obtain ⟨d0, hd⟩ := andS_ok hd
            obtain ⟨d1, d2, d3⟩ := slIn_ok hd
            have d0 : 0 ≤ dI ω off := by
              cases hq : SX.beq off (.ci 0) with
              | true => rw [SX.beq_eq _ _ hq, dI_ci]; omega
              | false => rw [hq] at d0; exact of_decide_eq_true d0
            obtain ⟨y1, r1, b1⟩ := ySlX_ok (k := 0) h1 hlo d1 rfl
            obtain ⟨y2, r2, b2⟩ := ySlX_ok (k := (dI ω len).toNat) h2 hhi (by omega) rfl
            have hle : dI ω (subO e l) = dI ω e - dI ω l := dI_subO _ _
            have hlt : ((dI ω e).toNat - (dI ω l).toNat) = (dI ω (subO e l)).toNat := by rw [hle]; omega
            simp only [VR] at rv
            rcases rv with ⟨L, cap, ad, hL, hv, hcap, had⟩ | ⟨ad, cap, hv, hac, hz⟩
            · refine fin ?_ (by rw [hv, hmx]; exact slice_run ht hs r1 r2 b1 b2 (by omega) (by omega) w)
              simp only [VR]
              rw [hlt]
              by_cases hcl : cap = (dI ω l).toNat
              · rw [if_pos hcl]
                exact .inl ⟨L, _, ad, hL, rfl, by rw [hle]; omega, fun hp => by rw [hle] at hp; omega⟩
              · rw [if_neg hcl]
                refine .inl ⟨L, _, _, hL, rfl, by rw [hle]; omega, fun hp => ?_⟩
                rw [hle] at hp
                rw [had (by omega), add_mk, dI_sumO, Int.toNat_add d0 d1, Nat.add_mul]
                simp [Nat.add_assoc]
            · rw [hz] at b2 d3
              have hl0 : dI ω l = 0 := by omega
              have he0 : dI ω e = 0 := by omega
              rw [hl0] at b1
              rw [he0] at b2
              cases ad with
              | none =>
                obtain rfl := hac rfl
                refine fin ?_ (by rw [hv, hmx]; exact slice_run0 (n := 0) ht hs r1 r2 b1 b2 w)
                exact .inr ⟨none, 0, rfl, fun _ => rfl, by rw [hle, hl0, he0]; rfl⟩
              | some ad =>
                refine fin ?_ (by rw [hv, hmx]; exact slice_run (n := 0) ht hs r1 r2 b1 b2 (Nat.le_refl _) (Nat.zero_le _) w)
                by_cases hcl : cap = (0 : Int).toNat
                · rw [if_pos hcl]; exact .inr ⟨some ad, _, rfl, (fun hh => (by cases hh)), by rw [hle, hl0, he0]; rfl⟩
                · rw [if_neg hcl]; exact .inr ⟨some _, _, rfl, (fun hh => (by cases hh)), by rw [hle, hl0, he0]; rfl⟩
          · trivial
      · rename_i s b len sz hs
        cases hc : Nat.beq s sz with
        | false => trivial
        | true =>
          obtain rfl := beq_iff'.1 hc
          simp only [cond_true]
          unfold ySlOus
          split
          · rename_i l e h1 h2
            have main : 0 ≤ dI ω l → dI ω l ≤ dI ω e → dI ω e ≤ dI ω len → ∀ z : AV, ((∀ L cap, β b = some L → cap * s = L.ext → (dI ω len).toNat ≤ cap → VR β ω z (.slice (if cap = (dI ω l).toNat then some ⟨L.blk, L.off, none⟩ else some ⟨L.blk, L.off + (dI ω l).toNat * s, none⟩) ((dI ω e).toNat - (dI ω l).toNat) (cap - (dI ω l).toNat))) ∧ (dI ω len = 0 → VR β ω z (.slice none 0 0))) →
                SVal E β ω K w0 w h (do pure (.value (← Instr.sliceAt t (ρ x) (lo.map ρ) (hi.map ρ) (mx.map ρ)))) z h := by
              intro d1 d2 d3 z ⟨hz1, hz2⟩
              obtain ⟨y1, r1, b1⟩ := ySlX_ok (k := 0) h1 hlo d1 rfl
              obtain ⟨y2, r2, b2⟩ := ySlX_ok (k := (dI ω len).toNat) h2 hhi (by omega) rfl
              simp only [VR] at rv
              rcases rv with ⟨L, cap, hL, hext, hv, hcap⟩ | ⟨hv, hz⟩
              · refine fin (hz1 L cap hL hext hcap) ?_
                have := slice_run (a := ⟨L.blk, L.off, none⟩) ht hs r1 r2 b1 b2 (by omega) (show (dI ω e).toNat ≤ cap by omega) w
                rw [hv, hmx, this, add_mk]
              · have hl0 : dI ω l = 0 := by omega
                have he0 : dI ω e = 0 := by omega
                rw [hl0] at b1
                rw [he0, hz] at b2
                exact fin (hz2 hz) (by rw [hv, hmx]; exact slice_run0 (n := 0) ht hs r1 r2 b1 b2 w)
            cases hq : SX.beq l (.ci 0) with
            | true =>
              intro hd
              obtain ⟨d1, d2, d3⟩ := slIn_ok hd
              have hl0 : dI ω l = 0 := by rw [SX.beq_eq _ _ hq, dI_ci]
              rw [dI_ci] at d1 d2
              refine main (by omega) (by omega) d3 _ ⟨fun L cap hL hext hcap => ?_, fun hz => .inr ⟨rfl, by omega⟩⟩
              simp only [VR]
              refine .inl ⟨L, cap, hL, hext, ?_, by omega⟩
              rw [hl0]
              by_cases hcl : cap = (0 : Int).toNat
              · rw [if_pos hcl]; simp
              · rw [if_neg hcl]; simp
            | false =>
              intro hd
              obtain ⟨d1, d2, d3⟩ := slIn_ok hd
              have hle : dI ω (subO e l) = dI ω e - dI ω l := dI_subO _ _
              have hlt : ((dI ω e).toNat - (dI ω l).toNat) = (dI ω (subO e l)).toNat := by rw [hle]; omega
              refine main d1 d2 d3 _ ⟨fun L cap hL hext hcap => ?_, fun hz => .inr ⟨none, 0, rfl, fun _ => rfl, by rw [hle]; omega⟩⟩
              simp only [VR]
              rw [hlt]
              by_cases hcl : cap = (dI ω l).toNat
              · rw [if_pos hcl]
                exact .inl ⟨L, _, _, hL, rfl, by rw [hle]; omega, fun hp => by rw [hle] at hp; omega⟩
              · rw [if_neg hcl]
                exact .inl ⟨L, _, _, hL, rfl, by rw [hle]; omega, fun _ => rfl⟩
          · trivial
      · trivial
    · trivial
  · trivial

theorem stepY_ok (hfx : ∀ t, ω.fix t = fixT E.P t) (r : HR β ω K w0 h w) (ro : OpR β ω ρA ρ) (o : Oper) : SOk E β ω K w0 w h (execOp ρ o) (stepY E ρA o h) := by
  obtain ⟨dst, op, ty, pos, after, guard⟩ := o
  cases op with
  | binOp op t x y _ => exact yBin2_ok r ro op t x y
  | unOp op _ x => exact yUn_ok r ro op x
  | convert s d x => exact yConv_ok r ro s d x
  | pick c a b => exact yPick_ok r ro c a b
  | load t a => exact yLoad_ok r ro t a
  | indexAddr t x i => exact yIndexAddr_ok r ro t x i
  | fieldAddr s x f => exact yFieldAddr_ok r ro s f x
  | index t x i => exact yIndex_ok r ro t x i
  | store t a x => exact yStore_ok hfx r ro t a x
  | slice t x lo hi mx => exact ySlice_ok r ro t x lo hi mx
  | call c => exact yCall_ok hfx r ro c ty
  | _ => trivial

end Go.Ev
