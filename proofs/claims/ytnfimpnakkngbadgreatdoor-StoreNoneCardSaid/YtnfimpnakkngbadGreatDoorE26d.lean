/- The evaluator: loops that are told by a pattern: rows of the loop's own. -/
import Derived.Test.YtnfimpnakkngbadGreatDoorE26c
set_option linter.unusedVariables false
set_option linter.unusedSimpArgs false
namespace Go.Ev
open Go

variable {β β' : Bij} {ω : Opq} {K : Nat → Prop} {w0 w : World} {h : Heap}

def Bij.at_ (β : Bij) (b : Nat) (L : Option Loc) : Bij := fun x => if x = b then L else β x

theorem ne_of_nb {c b : Nat} (h : (!(Nat.beq c b)) = true) : c ≠ b := by
  intro e
  rw [beq_iff'.2 e] at h; cases h
mutual
theorem VR_no {b : Nat} (hb : ∀ x, x ≠ b → β' x = β x) : ∀ (x : AV) (v : Value), noB b x = true → VR β ω x v → VR β' ω x v
  | .bool _, v, _, r => r
  | .int _ _, v, _, r => r
  | .str _, v, _, r => r
  | .nilp, v, _, r => r
  | .ptr c _, v, h, ⟨L, e, q⟩ => ⟨L, (hb c (ne_of_nb (by simpa only [noB] using h))).trans e, q⟩
  | .glob _, v, _, r => r
  | .nils, v, _, r => r
  | .sl c _ _ _, v, h, ⟨L, e, q⟩ => ⟨L, (hb c (ne_of_nb (by simpa only [noB] using h))).trans e, q⟩
  | .us c _ _ _, v, h, ⟨L, cc, e, q⟩ => ⟨L, cc, (hb c (ne_of_nb (by simpa only [noB] using h))).trans e, q⟩
  | .es c _ _, v, h, ⟨L, a, cc, e, q⟩ => ⟨L, a, cc, (hb c (ne_of_nb (by simpa only [noB] using h))).trans e, q⟩
  | .es0, v, _, r => r
  | .nilm, v, _, r => r
  | .map c, v, h, ⟨L, e, q⟩ => ⟨L, (hb c (ne_of_nb (by simpa only [noB] using h))).trans e, q⟩
  | .nilf, v, _, r => r
  | .func fn x y, v, h, ⟨n, p, q, e, r1, r2⟩ => by
    simp only [noB, Bool.and_eq_true] at h
    exact ⟨n, p, q, e, VRs_no hb x _ h.1 r1, VRs_no hb y _ h.2 r2⟩
  | .yield c, v, h, ⟨L, e, q⟩ => ⟨L, (hb c (ne_of_nb (by simpa only [noB] using h))).trans e, q⟩
  | .nili, v, _, r => r
  | .iface t x, v, h, ⟨y, e, q⟩ => ⟨y, e, VR_no hb x y (by simpa [noB] using h) q⟩
  | .agg l, v, h, ⟨xs, e, q⟩ => ⟨xs, e, VRs_no hb l _ (by simpa [noB] using h) q⟩
  | .tup l, v, h, ⟨xs, e, q⟩ => ⟨xs, e, VRs_no hb l _ (by simpa [noB] using h) q⟩
  | .opq n, v, _, r => r
  | .oint k e, v, h, r => r
  | .ostr e, v, h, r => r
  | .obool e, v, h, r => r
  | .osl c x y sz, v, h, r => by
    have := hb c (ne_of_nb (by simpa only [noB] using h))
    simp only [VR] at r ⊢
    rw [this]; exact r
  | .optr c x j sz, v, h, r => by
    have := hb c (ne_of_nb (by simpa only [noB] using h))
    simp only [VR] at r ⊢
    rw [this]; exact r
  | .ous c x sz, v, h, r => by
    have := hb c (ne_of_nb (by simpa only [noB] using h))
    simp only [VR] at r ⊢
    rw [this]; exact r
  | .atl _, v, _, r => r
  | .any, _, _, _ => trivial
theorem VRs_no {b : Nat} (hb : ∀ x, x ≠ b → β' x = β x) : ∀ (l : List AV) (vs : List Value), noBs b l = true → VRs β ω l vs → VRs β' ω l vs
  | [], vs, _, r => r
  | a :: l, vs, h, ⟨v, vr, e, p, q⟩ => by
    simp only [noBs, Bool.and_eq_true] at h
    exact ⟨v, vr, e, VR_no hb a v h.1 p, VRs_no hb l vr h.2 q⟩
end
theorem ents_no {b : Nat} (hb : ∀ x, x ≠ b → β' x = β x) : ∀ {es : List Ent} {m : List MapEntry}, (es.all fun e => noB b e.key && noB b e.val) = true → ERs β ω es m → ERs β' ω es m := by
  intro es m h r
  induction r with
  | nil => exact .nil
  | cons r1 r2 r3 ih =>
    simp only [List.all_cons, Bool.and_eq_true] at h
    exact .cons (VR_no hb _ _ h.1.1 r1) (VR_no hb _ _ h.1.2 r2) (ih h.2)
theorem BR_no {b : Nat} (hb : ∀ x, x ≠ b → β' x = β x) {L : Loc} {o : Option Obj} {x : Blk} (h : noBB b (some x) = true) (r : BR β ω L o x) : BR β' ω L o x := by
  cases x with
  | cells e fz cs =>
    obtain ⟨C, lo, hi, vs, q1, q2, q3, q4, q5, q6⟩ := r
    exact ⟨C, lo, hi, vs, q1, q2, q3, q4, VRs_no hb cs vs h q5, q6⟩
  | arr e sig l => exact r
  | map es c =>
    obtain ⟨Es, q1, q2⟩ := r
    exact ⟨Es, q1, ents_no hb h q2⟩
  | _ => cases h
theorem noFr_at {b t : Nat} {a : Fr} : ∀ {n : Nat}, noFr b t a n = true → ∀ s, s < n → s ≠ t → noB b (a.slot s) = true
  | 0, _, s, hs, _ => by omega
  | n + 1, h, s, hs, ht => by
    simp only [noFr, Bool.and_eq_true, Bool.or_eq_true, Nat.beq_eq] at h
    by_cases e : s = n
    · subst e
      rcases h.1 with h1 | h1
      · exact absurd h1 ht
      · exact h1
    · exact noFr_at h.2 s (by omega) ht
theorem noFr_ds {b t : Nat} {a : Fr} : ∀ {n : Nat}, noFr b t a n = true → a.ds = []
  | 0, h => List.isEmpty_iff.1 h
  | n + 1, h => by
    simp only [noFr, Bool.and_eq_true] at h
    exact noFr_ds h.2
theorem noHp_at {b : Nat} {h0 : Heap} : ∀ {n : Nat}, noHp b h0 n = true → ∀ s, s < n → noBB b (h0.get s) = true
  | 0, _, s, hs => by omega
  | n + 1, h, s, hs => by
    simp only [noHp, Bool.and_eq_true] at h
    by_cases e : s = n
    · subst e; exact h.1
    · exact noHp_at h.2 s (by omega)

/-- A block gets another name. -/
theorem moveTo {o : OwnP} {a : Fr} {act : Act} {l : SX} {L : Option Loc} (hds : a.ds = []) (f : FrR β ω a act) (r : HR β ω K w0 h w) (hslot : o.slot < a.nt) (hblk : o.blk < h.next) (h65 : o.blk < 65536) (hnone : h.get o.blk = none)
    (hfr : ∀ s, s < a.nt → s ≠ o.slot → noB o.blk (a.slot s) = true) (hhp : ∀ z y, h.get z = some y → noBB o.blk (some y) = true) (hlt : ∀ M, L = some M → M.blk < w.heap.size) (hsep : ∀ M x y M', L = some M → h.get x = some y → β x = some M' → M.blk ≠ M'.blk) (hfree : ∀ M, L = some M → ¬ K M.blk)
    (hbr : ∀ M, L = some M → BR β ω M w.heap[M.blk]? (.arr o.elem o.sig l)) (hv : ∀ u, VR β ω (a.slot o.slot) u → VR (β.at_ o.blk L) ω (.ous o.blk (.op .llen [l]) o.sig.length) u) :
    FrR (β.at_ o.blk L) ω (ownTo o a h l).1 act ∧ HR (β.at_ o.blk L) ω K w0 (ownTo o a h l).2 w := by
  have hb : ∀ x, x ≠ o.blk → (β.at_ o.blk L) x = β x := fun x hx => by simp only [Bij.at_]; rw [if_neg hx]
  have hb0 : (β.at_ o.blk L) o.blk = L := by simp [Bij.at_]
  have hget : ∀ z, (h.put o.blk (some (.arr o.elem o.sig l))).get z = if z = o.blk then some (.arr o.elem o.sig l) else h.get z := fun z => by rw [Heap.get_put, if_pos h65]
  constructor
  · refine ⟨by show act.tmps.size = (a.put _ _).nt; rw [Fr.put_nt]; exact f.size, by show (a.put _ _).nt ≤ 256; rw [Fr.put_nt]; exact f.lim, fun t _ => ?_, by show DsR _ ω (a.put _ _).ds act.defers; rw [Fr.put_ds, hds]; have := f.defers; rw [hds] at this; exact this, fun p hp => f.pcs p (by have : (a.put (some o.slot) (.ous o.blk (.op .llen [l]) o.sig.length)).pc = a.pc := Fr.put_pc _ _ _; rw [← this]; exact hp)⟩
    show VR _ ω ((a.put (some o.slot) (.ous o.blk (.op .llen [l]) o.sig.length)).slot t) _
    rw [Fr.put_slot f.lim]
    by_cases ht : t = o.slot
    · subst ht
      rw [if_pos ⟨rfl, hslot⟩]
      exact hv _ (f.slot _ id)
    · rw [if_neg (fun hh => ht (by have := hh.1; simp only [Option.some.injEq] at this; exact this.symm))]
      by_cases hn : t < a.nt
      · exact VR_no hb _ _ (hfr t hn ht) (f.slot t id)
      · have := f.slot t id
        rw [Array.getD_eq_getD_getElem?, Array.getElem?_eq_none (by rw [f.size]; exact Nat.le_of_not_lt hn)] at this ⊢
        exact VR_undef this
  · have key : ∀ z y, (h.put o.blk (some (.arr o.elem o.sig l))).get z = some y → (z = o.blk ∧ y = .arr o.elem o.sig l) ∨ (z ≠ o.blk ∧ h.get z = some y) := by
      intro z y hy
      rw [hget] at hy
      by_cases hz : z = o.blk
      · rw [if_pos hz] at hy; simp only [Option.some.injEq] at hy; exact .inl ⟨hz, hy.symm⟩
      · rw [if_neg hz] at hy; exact .inr ⟨hz, hy⟩
    refine ⟨fun z y M hy hM => ?_, fun z z' y y' M M' hy hy' hM hM' hne => ?_, fun z hz => ?_, fun z hz => ?_, fun z M hM => ?_, r.kin, r.keep, fun z y M hy hw hM => ?_, r.size, r.os, r.tape, r.out⟩
    · rcases key z y hy with ⟨rfl, rfl⟩ | ⟨hz, hy⟩
      · rw [hb0] at hM; exact hbr M hM
      · rw [hb z hz] at hM
        exact BR_no hb (hhp z y hy) (r.blk z y M hy hM)
    · rcases key z y hy with ⟨rfl, rfl⟩ | ⟨hz, hy⟩
      · rw [hb0] at hM
        rcases key z' y' hy' with ⟨rfl, _⟩ | ⟨hz', hy'⟩
        · exact absurd rfl hne
        · rw [hb z' hz'] at hM'; exact hsep M z' y' M' hM hy' hM'
      · rw [hb z hz] at hM
        rcases key z' y' hy' with ⟨rfl, rfl⟩ | ⟨hz', hy'⟩
        · rw [hb0] at hM'; exact (hsep M' z y M hM' hy hM).symm
        · rw [hb z' hz'] at hM'; exact r.sep z z' y y' M M' hy hy' hM hM' hne
    · have hz : h.next ≤ z := hz
      rw [hb z (by omega)]; exact r.fresh z hz
    · have hz : h.next ≤ z := hz
      show (h.put o.blk (some (.arr o.elem o.sig l))).get z = none
      rw [hget, if_neg (by omega)]; exact r.fget z hz
    · by_cases hz : z = o.blk
      · rw [hz, hb0] at hM; exact hlt M hM
      · rw [hb z hz] at hM; exact r.lt z M hM
    · rcases key z y hy with ⟨rfl, rfl⟩ | ⟨hz, hy⟩
      · rw [hb0] at hM; exact hfree M hM
      · rw [hb z hz] at hM; exact r.free z y M hy hw hM


structure Conv (ω : Opq) (K : Nat → Prop) (w0 w : World) (a a' : Fr) (h h' : Heap) (act : Act) (β β' : Bij) (P : Nat → Prop) : Prop where
  fr : FrR β' ω a' act
  hr : HR β' ω K w0 h' w
  bij : ∀ x, ¬ P x → β' x = β x
  nt : a'.nt = a.nt
  next : h'.next = h.next
  wm : h'.wm = h.wm
  get : ∀ b, h'.get b = h.get b ∨ h'.get b = none ∨ P b
theorem conv1_ok {o : OwnP} {a a' : Fr} {h' : Heap} {act : Act} (e : conv1 o a h = some (a', h')) (f : FrR β ω a act) (r : HR β ω K w0 h w) : ∃ β', Conv ω K w0 w a a' h h' act β β' (· = o.blk) := by
  have common : ∀ {c : Bool}, (Nat.blt o.slot a.nt && Nat.blt o.blk h.next && Nat.blt o.blk 65536 && (h.get o.blk).isNone && noFr o.blk o.slot a a.nt && noHp o.blk h h.next) = true →
      a.ds = [] ∧ o.slot < a.nt ∧ o.blk < h.next ∧ o.blk < 65536 ∧ h.get o.blk = none ∧ (∀ s, s < a.nt → s ≠ o.slot → noB o.blk (a.slot s) = true) ∧ (∀ z y, h.get z = some y → noBB o.blk (some y) = true) := by
    intro c hc
    obtain ⟨hc, c6⟩ := and_t hc
    obtain ⟨hc, c5⟩ := and_t hc
    obtain ⟨hc, c4⟩ := and_t hc
    obtain ⟨hc, c3⟩ := and_t hc
    obtain ⟨c1, c2⟩ := and_t hc
    rw [blt_iff] at c1 c2 c3
    refine ⟨noFr_ds c5, c1, c2, c3, by simpa using c4, noFr_at c5, fun z y hy => ?_⟩
    have hlt : z < h.next := by
      rcases Nat.lt_or_ge z h.next with hh | hh
      · exact hh
      · rw [r.fget z hh] at hy; cases hy
    have := noHp_at c6 z hlt
    rw [hy] at this; exact this
  have gput : ∀ (hh : Heap) (l : SX), o.blk < 65536 → ∀ b, (ownTo o a hh l).2.get b = if b = o.blk then some (.arr o.elem o.sig l) else hh.get b := by
    intro hh l hl b
    show (hh.put o.blk (some (.arr o.elem o.sig l))).get b = _
    rw [Heap.get_put, if_pos hl]
  have bij : ∀ (L : Option Loc) x, ¬ (x = o.blk) → (β.at_ o.blk L) x = β x := fun L x hx => by simp only [Bij.at_]; rw [if_neg hx]
  unfold conv1 at e
  split at e
  · rename_i b len sz hsl
    cases hq : Nat.beq b o.blk with
    | true =>
      rw [hq] at e
      simp only [cond_true] at e
      split at e
      · obtain ⟨_, e⟩ := cond_some e
        simp only [Option.some.injEq, Prod.mk.injEq] at e
        obtain ⟨rfl, rfl⟩ := e
        exact ⟨β, f, r, fun _ _ => rfl, rfl, rfl, rfl, fun _ => .inl rfl⟩
      · cases e
    | false =>
      rw [hq] at e
      simp only [cond_false] at e
      replace e := cond_some e
      obtain ⟨hc, e⟩ := e
      obtain ⟨hc, c7⟩ := and_t hc
      rw [ble_iff] at c7
      obtain ⟨c0, c1, c2, c3, c4, c5, c6⟩ := common (c := true) hc
      split at e
      · rename_i el sig l hg
        replace e := cond_some e
        obtain ⟨hd, e⟩ := e
        obtain ⟨hd, d4⟩ := and_t hd
        obtain ⟨hd, d3⟩ := and_t hd
        obtain ⟨d1, d2⟩ := and_t hd
        rw [beq_iff'] at d1 d3
        have d2 := sigBeq_eq d2
        have d4 := SX.beq_eq _ _ d4
        simp only [Option.some.injEq] at e
        obtain ⟨r1, _⟩ := r.drop b
        have g1 : ∀ z y, (h.put b none).get z = some y → z ≠ b ∧ h.get z = some y := by
          intro z y hy
          rw [Heap.get_put] at hy
          by_cases hz : z = b
          · rw [if_pos hz] at hy; split at hy <;> cases hy
          · rw [if_neg hz] at hy; exact ⟨hz, hy⟩
        have hbn : o.blk ≠ b := fun hh => by rw [hh] at c4; rw [c4] at hg; cases hg
        have m := moveTo (o := o) (l := l) (L := β b) c0 f r1 c1 c2 c3 (by rw [Heap.get_put, if_neg hbn]; exact c4) c5 (fun z y hy => c6 z y (g1 z y hy).2) (fun M hM => r.lt b M hM)
          (fun M x y M' hM hx hxM => r.sep b x _ y M M' hg (g1 x y hx).2 hM hxM (g1 x y hx).1.symm) (fun M hM => r.free b _ M hg c7 hM)
          (fun M hM => by rw [← d1, ← d2]; exact r.blk b _ M hg hM) (fun u hu => by
            rw [hsl] at hu
            simp only [VR] at hu ⊢
            rw [d4] at hu
            rcases hu with ⟨L, cap, h1, h2, h3, h4⟩ | hu
            · exact .inl ⟨L, cap, by simp [Bij.at_, h1], by rw [← d2, ← d3]; exact h2, h3, h4⟩
            · exact .inr hu)
        rw [e] at m
        have e1 : a' = (ownTo o a (h.put b none) l).1 := by rw [e]
        have e2 : h' = (ownTo o a (h.put b none) l).2 := by rw [e]
        refine ⟨_, m.1, m.2, bij _, by rw [e1]; exact Fr.put_nt _ _ _, by rw [e2]; rfl, by rw [e2]; rfl, fun x => ?_⟩
        rw [e2, gput _ _ c3]
        by_cases hx : x = o.blk
        · exact .inr (.inr hx)
        · rw [if_neg hx, Heap.get_put]
          by_cases hx2 : x = b
          · right; left; rw [if_pos hx2]; split <;> rfl
          · left; rw [if_neg hx2]
      · cases e
  · rename_i hsl
    obtain ⟨hc, e⟩ := cond_some e
    obtain ⟨c0, c1, c2, c3, c4, c5, c6⟩ := common (c := true) hc
    simp only [Option.some.injEq] at e
    have m := moveTo (o := o) (l := .op .row []) (L := none) c0 f r c1 c2 c3 c4 c5 c6 (fun M hM => by cases hM) (fun M x y M' hM => by cases hM) (fun M hM => by cases hM) (fun M hM => by cases hM) (fun u hu => by
      rw [hsl] at hu
      exact .inr ⟨hu, rfl⟩)
    rw [e] at m
    have e1 : a' = (ownTo o a h (.op .row [])).1 := by rw [e]
    have e2 : h' = (ownTo o a h (.op .row [])).2 := by rw [e]
    refine ⟨_, m.1, m.2, bij _, by rw [e1]; exact Fr.put_nt _ _ _, by rw [e2]; rfl, by rw [e2]; rfl, fun x => ?_⟩
    rw [e2, gput _ _ c3]
    by_cases hx : x = o.blk
    · exact .inr (.inr hx)
    · rw [if_neg hx]; exact .inl rfl
  · rename_i b n sz hsl
    replace e := cond_some e
    obtain ⟨hc, e⟩ := e
    obtain ⟨hc, c8⟩ := and_t hc
    obtain ⟨hc, c7⟩ := and_t hc
    rw [ble_iff] at c7
    rw [blt_iff] at c8
    obtain ⟨c0, c1, c2, c3, c4, c5, c6⟩ := common (c := true) hc
    split at e
    · rename_i el cs hg
      replace e := cond_some e
      obtain ⟨hd, e⟩ := e
      obtain ⟨hd, d3⟩ := and_t hd
      obtain ⟨d1, d2⟩ := and_t hd
      rw [beq_iff'] at d1 d2 d3
      split at e
      · rename_i rs hrs
        simp only [Option.some.injEq] at e
        obtain ⟨r1, _⟩ := r.drop b
        have g1 : ∀ z y, (h.put b none).get z = some y → z ≠ b ∧ h.get z = some y := by
          intro z y hy
          rw [Heap.get_put] at hy
          by_cases hz : z = b
          · rw [if_pos hz] at hy; split at hy <;> cases hy
          · rw [if_neg hz] at hy; exact ⟨hz, hy⟩
        have hbn : o.blk ≠ b := fun hh => by rw [hh] at c4; rw [c4] at hg; cases hg
        have hcell : ∀ M, β b = some M → ∃ C lo hi, w.heap[M.blk]? = some (.cells C el (lo, hi)) ∧ M.off + M.ext ≤ C.size ∧ cs.length ≤ M.ext ∧ (dens ω rs).length = n ∧
            (∀ i v, (flatV o.sig (dens ω rs))[i]? = some v → C[M.off + i]? = some v) ∧ (∀ i, i < M.ext → ¬ (lo ≤ M.off + i ∧ M.off + i < hi)) := by
          intro M hM
          obtain ⟨C, lo, hi, vs, q1, q2, q3, q4, q5, q6, q7⟩ := r.cells hg hM
          obtain ⟨z1, z2⟩ := rowsC_ok hrs d3 q5
          have hvl := q5.length
          refine ⟨C, lo, hi, q1, q2, q3, z2, fun i v hi' => ?_, fun i hi' => q7 i (Nat.zero_le _) hi'⟩
          rw [← z1] at hi'
          rw [q6 i (by
            rcases Nat.lt_or_ge i vs.length with hh | hh
            · omega
            · rw [List.getElem?_eq_none hh] at hi'; cases hi')]
          exact hi'
        have m := moveTo (o := o) (l := .op .row rs) (L := β b) c0 f r1 c1 c2 c3 (by rw [Heap.get_put, if_neg hbn]; exact c4) c5 (fun z y hy => c6 z y (g1 z y hy).2) (fun M hM => r.lt b M hM)
          (fun M x y M' hM hx hxM => r.sep b x _ y M M' hg (g1 x y hx).2 hM hxM (g1 x y hx).1.symm) (fun M hM => r.free b _ M hg c7 hM)
          (fun M hM => by
            obtain ⟨C, lo, hi, q1, q2, q3, q4, q5, q6⟩ := hcell M hM
            rw [← d1]
            refine ⟨C, lo, hi, q1, q2, ?_, q5, q6⟩
            show (dens ω rs).length * o.sig.length ≤ M.ext
            rw [q4, ← d2, ← d3]; exact q3) (fun u hu => by
            rw [hsl] at hu
            simp only [VR] at hu ⊢
            obtain ⟨M, cap, h1, h2, h3⟩ := hu
            obtain ⟨C, lo, hi, q1, q2, q3, q4, q5, q6⟩ := hcell M h1
            have hn : (dI ω (.op .llen [.op .row rs])).toNat = n := by
              rw [dI_llen]
              show (((dens ω rs).length : Nat) : Int).toNat = n
              rw [q4]; simp
            have hle : n ≤ cap := by
              rw [d3, ← show cap * sz = M.ext by omega] at q3
              exact Nat.le_of_mul_le_mul_right q3 c8
            exact .inl ⟨M, cap, by simp [Bij.at_, h1], by rw [← d2]; omega, by rw [hn]; simpa using h3, by rw [hn]; exact hle⟩)
        rw [e] at m
        have e1 : a' = (ownTo o a (h.put b none) (.op .row rs)).1 := by rw [e]
        have e2 : h' = (ownTo o a (h.put b none) (.op .row rs)).2 := by rw [e]
        refine ⟨_, m.1, m.2, bij _, by rw [e1]; exact Fr.put_nt _ _ _, by rw [e2]; rfl, by rw [e2]; rfl, fun x => ?_⟩
        rw [e2, gput _ _ c3]
        by_cases hx : x = o.blk
        · exact .inr (.inr hx)
        · rw [if_neg hx, Heap.get_put]
          by_cases hx2 : x = b
          · right; left; rw [if_pos hx2]; split <;> rfl
          · left; rw [if_neg hx2]
      · cases e
    · cases e
  · cases e
theorem convs_ok : ∀ {l : List OwnP} {a a' : Fr} {h h' : Heap} {act : Act} {β : Bij}, convs l a h = some (a', h') → FrR β ω a act → HR β ω K w0 h w → ∃ β', Conv ω K w0 w a a' h h' act β β' (fun x => ∃ o ∈ l, x = o.blk)
  | [], a, a', h, h', act, β, e, f, r => by
    simp only [convs, Option.some.injEq, Prod.mk.injEq] at e
    obtain ⟨rfl, rfl⟩ := e
    exact ⟨β, f, r, fun _ _ => rfl, rfl, rfl, rfl, fun _ => .inl rfl⟩
  | o :: l, a, a', h, h', act, β, e, f, r => by
    simp only [convs] at e
    split at e
    · rename_i p hp
      obtain ⟨β1, c1⟩ := conv1_ok (a' := p.1) (h' := p.2) hp f r
      obtain ⟨β2, c2⟩ := convs_ok e c1.fr c1.hr
      refine ⟨β2, c2.fr, c2.hr, fun x hx => ?_, c2.nt.trans c1.nt, c2.next.trans c1.next, c2.wm.trans c1.wm, fun b => ?_⟩
      · rw [c2.bij x (fun ⟨o', h1, h2⟩ => hx ⟨o', .tail _ h1, h2⟩), c1.bij x (fun h2 => hx ⟨o, .head _, h2⟩)]
      · rcases c2.get b with q | q | ⟨o', q1, q2⟩
        · rcases c1.get b with z | z | z
          · exact .inl (q.trans z)
          · exact .inr (.inl (q.trans z))
          · exact .inr (.inr ⟨o, .head _, z⟩)
        · exact .inr (.inl q)
        · exact .inr (.inr ⟨o', .tail _ q1, q2⟩)
    · cases e

theorem FrR.layDead {a : Fr} {act : Act} (f : FrR β ω a act) : ∀ (l : List Nat) , FrR β ω (Go.Ev.layDead a l) act := by
  intro l
  induction l generalizing a with
  | nil => exact f
  | cons t l ih =>
    refine ih ⟨by rw [Fr.put_nt]; exact f.size, by rw [Fr.put_nt]; exact f.lim, fun s _ => ?_, by rw [Fr.put_ds]; exact f.defers, fun p hp => f.pcs p (by rw [Fr.put_pc] at hp; exact hp)⟩
    rw [Fr.put_slot f.lim]
    split
    · simp only [VR]
    · exact f.slot s id
theorem HR.upto {w : World} {h : Heap} (r : HR β ω K w0 h w) {n : Nat} (hn : h.next ≤ n) : HR β ω K w0 (h.upto n) w := by
  have g : ∀ b, (h.upto n).get b = h.get b := fun b => Heap.get_upto _ _ _
  refine ⟨fun z y M hy hM => r.blk z y M (by rw [← g]; exact hy) hM, fun z z' y y' M M' hy hy' hM hM' hne => r.sep z z' y y' M M' (by rw [← g]; exact hy) (by rw [← g]; exact hy') hM hM' hne,
    fun z hz => r.fresh z (by rw [Heap.next_upto] at hz; omega), fun z hz => by rw [g]; exact r.fget z (by rw [Heap.next_upto] at hz; omega), r.lt, r.kin, r.keep,
    fun z y M hy hw hM => r.free z y M (by rw [← g]; exact hy) (by rw [← Heap.wm_upto h n]; exact hw) hM, r.size, r.os, r.tape, r.out⟩
theorem prep_ok {sp : LSpec} {a : Fr} {act : Act} (f : FrR β ω a act) (r : HR β ω K w0 h w) : ∃ β', Conv ω K w0 w a (prep sp a h).1 h (prep sp a h).2 act β β' (fun x => ∃ o ∈ sp.owns, x = o.blk) := by
  unfold prep
  cases hc : convs sp.owns (Go.Ev.layDead a sp.dead) h with
  | none => exact ⟨β, f.layDead _, r, fun _ _ => rfl, layDead_nt _ _, rfl, rfl, fun _ => .inl rfl⟩
  | some p =>
    obtain ⟨β', c⟩ := convs_ok (a' := p.1) (h' := p.2) hc (f.layDead _) r
    exact ⟨β', c.fr, c.hr, c.bij, c.nt.trans (layDead_nt _ _), c.next, c.wm, c.get⟩

end Go.Ev
