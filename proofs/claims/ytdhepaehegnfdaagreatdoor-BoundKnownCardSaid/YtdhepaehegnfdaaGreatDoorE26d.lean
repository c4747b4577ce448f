import Derived.Test.YtdhepaehegnfdaaGreatDoorE26c
set_option linter.unusedVariables false
set_option linter.unusedSimpArgs false
namespace Go.Ev
open Go
variable {β β' : Bij} {ω : Opq} {K : Nat → Prop} {w0 w : World} {h : Heap}
def Bij.at_ (β : Bij) (b : Nat) (L : Option Loc) : Bij := fun x => if x = b then L else β x
theorem D1 {c b : Nat} (h : (!(Nat.beq c b)) = true) : c ≠ b := by
 intro e
 rw [j0.2 e] at h; cases h
mutual
theorem b44 {b : Nat} (hb : ∀ x, x ≠ b → β' x = β x) : ∀ (x : AV) (v : Value), noB b x = true → VR β ω x v → VR β' ω x v
 | .bool _, v, _, r => r
 | .int _ _, v, _, r => r
 | .str _, v, _, r => r
 | .nilp, v, _, r => r
 | .ptr c _, v, h, ⟨L, e, q⟩ => ⟨L, (hb c (D1 (by simpa only [noB] using h))).trans e, q⟩
 | .glob _, v, _, r => r
 | .nils, v, _, r => r
 | .sl c _ _ _, v, h, ⟨L, e, q⟩ => ⟨L, (hb c (D1 (by simpa only [noB] using h))).trans e, q⟩
 | .us c _ _ _, v, h, ⟨L, cc, e, q⟩ => ⟨L, cc, (hb c (D1 (by simpa only [noB] using h))).trans e, q⟩
 | .es c _ _, v, h, ⟨L, a, cc, e, q⟩ => ⟨L, a, cc, (hb c (D1 (by simpa only [noB] using h))).trans e, q⟩
 | .es0, v, _, r => r
 | .nilm, v, _, r => r
 | .map c, v, h, ⟨L, e, q⟩ => ⟨L, (hb c (D1 (by simpa only [noB] using h))).trans e, q⟩
 | .nilf, v, _, r => r
 | .func fn x y, v, h, ⟨n, p, q, e, r1, r2⟩ => by
   simp only [noB, Bool.and_eq_true] at h
   exact ⟨n, p, q, e, aq0 hb x _ h.1 r1, aq0 hb y _ h.2 r2⟩
 | .yield c, v, h, ⟨L, e, q⟩ => ⟨L, (hb c (D1 (by simpa only [noB] using h))).trans e, q⟩
 | .nili, v, _, r => r
 | .iface t x, v, h, ⟨y, e, q⟩ => ⟨y, e, b44 hb x y (by simpa [noB] using h) q⟩
 | .agg l, v, h, ⟨xs, e, q⟩ => ⟨xs, e, aq0 hb l _ (by simpa [noB] using h) q⟩
 | .tup l, v, h, ⟨xs, e, q⟩ => ⟨xs, e, aq0 hb l _ (by simpa [noB] using h) q⟩
 | .opq n, v, _, r => r
 | .oint k e, v, h, r => r
 | .ostr e, v, h, r => r
 | .obool e, v, h, r => r
 | .osl c x y sz, v, h, r => by
   have := hb c (D1 (by simpa only [noB] using h))
   simp only [VR] at r ⊢
   rw [this]; exact r
 | .optr c x j sz, v, h, r => by
   have := hb c (D1 (by simpa only [noB] using h))
   simp only [VR] at r ⊢
   rw [this]; exact r
 | .ous c x sz, v, h, r => by
   have := hb c (D1 (by simpa only [noB] using h))
   simp only [VR] at r ⊢
   rw [this]; exact r
 | .atl _, v, _, r => r
 | .any, _, _, _ => trivial
theorem aq0 {b : Nat} (hb : ∀ x, x ≠ b → β' x = β x) : ∀ (l : List AV) (vs : List Value), ba9 b l = true → VRs β ω l vs → VRs β' ω l vs
 | [], vs, _, r => r
 | a :: l, vs, h, ⟨v, vr, e, p, q⟩ => by
   simp only [ba9, Bool.and_eq_true] at h
   exact ⟨v, vr, e, b44 hb a v h.1 p, aq0 hb l vr h.2 q⟩
end
theorem cc5 {b : Nat} (hb : ∀ x, x ≠ b → β' x = β x) : ∀ {es : List Ent} {m : List MapEntry}, (es.all fun e => noB b e.key && noB b e.val) = true → ERs β ω es m → ERs β' ω es m := by
 intro es m h r
 induction r with
 | nil => exact .nil
 | cons r1 r2 r3 ih =>
   simp only [List.all_cons, Bool.and_eq_true] at h
   exact .cons (b44 hb _ _ h.1.1 r1) (b44 hb _ _ h.1.2 r2) (ih h.2)
theorem cp6 {b : Nat} (hb : ∀ x, x ≠ b → β' x = β x) {L : Loc} {o : Option Obj} {x : Blk} (h : bQ3 b (some x) = true) (r : BR β ω L o x) : BR β' ω L o x := by
 cases x with
 | cells e fz cs =>
   obtain ⟨C, lo, hi, vs, q1, q2, q3, q4, q5, q6⟩ := r
   exact ⟨C, lo, hi, vs, q1, q2, q3, q4, aq0 hb cs vs h q5, q6⟩
 | arr e sig l => exact r
 | map es c =>
   obtain ⟨Es, q1, q2⟩ := r
   exact ⟨Es, q1, cc5 hb h q2⟩
 | marr ks vs l => exact r
 | _ => cases h
theorem b45 {b t : Nat} {a : Fr} : ∀ {n : Nat}, bv3 b t a n = true → ∀ s, s < n → s ≠ t → noB b (a.slot s) = true
 | 0, _, s, hs, _ => by omega
 | n + 1, h, s, hs, ht => by
   simp only [bv3, Bool.and_eq_true, Bool.or_eq_true, Nat.beq_eq] at h
   by_cases e : s = n
   · subst e
     rcases h.1 with h1 | h1
     · exact absurd h1 ht
     · exact h1
   · exact b45 h.2 s (by omega) ht
theorem b46 {b t : Nat} {a : Fr} : ∀ {n : Nat}, bv3 b t a n = true → a.ds = []
 | 0, h => List.isEmpty_iff.1 h
 | n + 1, h => by
   simp only [bv3, Bool.and_eq_true] at h
   exact b46 h.2
theorem bE1 {b : Nat} {h0 : Heap} : ∀ {n : Nat}, c20 b h0 n = true → ∀ s, s < n → bQ3 b (h0.get s) = true
 | 0, _, s, hs => by omega
 | n + 1, h, s, hs => by
   simp only [c20, Bool.and_eq_true] at h
   by_cases e : s = n
   · subst e; exact h.1
   · exact bE1 h.2 s (by omega)
theorem be9 {o : OwnP} {a : Fr} {act : Act} {l : SX} {L : Option Loc} (hds : a.ds = []) (f : FrR β ω a act) (r : HR β ω K w0 h w) (hslot : o.slot < a.nt) (hblk : o.blk < h.next) (h65 : o.blk < 65536) (hnone : h.get o.blk = none)
 (hfr : ∀ s, s < a.nt → s ≠ o.slot → noB o.blk (a.slot s) = true) (hhp : ∀ z y, h.get z = some y → bQ3 o.blk (some y) = true) (hlt : ∀ M, L = some M → M.blk < w.heap.size) (hsep : ∀ M x y M', L = some M → h.get x = some y → β x = some M' → M.blk ≠ M'.blk) (hfree : ∀ M, L = some M → ¬ K M.blk)
 (hbr : ∀ M, L = some M → BR β ω M w.heap[M.blk]? (.arr o.elem o.sig l)) (hv : ∀ u, VR β ω (a.slot o.slot) u → VR (β.at_ o.blk L) ω (.ous o.blk (.op .llen [l]) o.sig.length) u) :
 FrR (β.at_ o.blk L) ω (a16 o a h l).1 act ∧ HR (β.at_ o.blk L) ω K w0 (a16 o a h l).2 w := by
 have hb : ∀ x, x ≠ o.blk → (β.at_ o.blk L) x = β x := fun x hx => by simp only [Bij.at_]; rw [if_neg hx]
 have hb0 : (β.at_ o.blk L) o.blk = L := by simp [Bij.at_]
 have F3 : ∀ z, (h.put o.blk (some (.arr o.elem o.sig l))).get z = if z = o.blk then some (.arr o.elem o.sig l) else h.get z := fun z => by rw [Heap.get_put, if_pos h65]
 constructor
 · refine ⟨by show act.tmps.size = (a.put _ _).nt; rw [Fr.put_nt]; exact f.size, by show (a.put _ _).nt ≤ 256; rw [Fr.put_nt]; exact f.lim, fun t _ => ?_, by show DsR _ ω (a.put _ _).ds act.defers; rw [Fr.put_ds, hds]; have := f.defers; rw [hds] at this; exact this, fun p hp => f.pcs p (by have : (a.put (some o.slot) (.ous o.blk (.op .llen [l]) o.sig.length)).pc = a.pc := Fr.put_pc _ _ _; rw [← this]; exact hp)⟩
   show VR _ ω ((a.put (some o.slot) (.ous o.blk (.op .llen [l]) o.sig.length)).slot t) _
   rw [Fr.put_slot f.lim]
   by_cases ht : t = o.slot
   · subst ht
     rw [if_pos ⟨rfl, hslot⟩]
     exact hv _ (f.slot _ id)
   · rw [if_neg (fun hh => ht (by have := hh.1; simp only [Option.some.injEq] at this; exact this.symm))]
     by_cases hn : t < a.nt
     · exact b44 hb _ _ (hfr t hn ht) (f.slot t id)
     · have := f.slot t id
       rw [Array.getD_eq_getD_getElem?, Array.getElem?_eq_none (by rw [f.size]; exact Nat.le_of_not_lt hn)] at this ⊢
       exact Z2 this
 · have key : ∀ z y, (h.put o.blk (some (.arr o.elem o.sig l))).get z = some y → (z = o.blk ∧ y = .arr o.elem o.sig l) ∨ (z ≠ o.blk ∧ h.get z = some y) := by
    intro z y hy
    rw [F3] at hy
    by_cases hz : z = o.blk
    · rw [if_pos hz] at hy; simp only [Option.some.injEq] at hy; exact .inl ⟨hz, hy.symm⟩
    · rw [if_neg hz] at hy; exact .inr ⟨hz, hy⟩
   refine ⟨fun z y M hy hM => ?_, fun z z' y y' M M' hy hy' hM hM' hne hw => ?_, fun z hz => ?_, fun z hz => ?_, fun z M hM => ?_, r.kin, r.keep, fun z y M hy hw hM => ?_, r.size, r.os, r.tape, r.out, r.dr⟩
   · rcases key z y hy with ⟨rfl, rfl⟩ | ⟨hz, hy⟩
     · rw [hb0] at hM; exact hbr M hM
     · rw [hb z hz] at hM
       exact cp6 hb (hhp z y hy) (r.blk z y M hy hM)
   · rcases key z y hy with ⟨rfl, rfl⟩ | ⟨hz, hy⟩
     · rw [hb0] at hM
       rcases key z' y' hy' with ⟨rfl, _⟩ | ⟨hz', hy'⟩
       · exact absurd rfl hne
       · rw [hb z' hz'] at hM'; exact hsep M z' y' M' hM hy' hM'
     · rw [hb z hz] at hM
       rcases key z' y' hy' with ⟨rfl, rfl⟩ | ⟨hz', hy'⟩
       · rw [hb0] at hM'; exact (hsep M' z y M hM' hy hM).symm
       · rw [hb z' hz'] at hM'; exact r.sep z z' y y' M M' hy hy' hM hM' hne hw
   · have hz : h.next ≤ z := hz
     rw [hb z (by omega)]; exact r.fresh z hz
   · have hz : h.next ≤ z := hz
     show (h.put o.blk (some (.arr o.elem o.sig l))).get z = none
     rw [F3, if_neg (by omega)]; exact r.fget z hz
   · by_cases hz : z = o.blk
     · rw [hz, hb0] at hM; exact hlt M hM
     · rw [hb z hz] at hM; exact r.lt z M hM
   · rcases key z y hy with ⟨rfl, rfl⟩ | ⟨hz, hy⟩
     · rw [hb0] at hM; exact hfree M hM
     · rw [hb z hz] at hM; exact r.free z y M hy hw hM
structure Conv (ω : Opq) (K : Nat → Prop) (w0 w : World) (a a' : Fr) (h h' : Heap) (act : Act) (β β' : Bij) (P : Nat → Prop) : Prop where
 fr : FrR β' ω a' act
 hr : HR β' ω K w0 h' w
 bij : ∀ x, ¬ P x → β' x = β x
 nt : a'.nt = a.nt
 next : h'.next = h.next
 wm : h'.wm = h.wm
 get : ∀ b, h'.get b = h.get b ∨ h'.get b = none ∨ P b ∨ β b ≠ none
theorem bf0 {len l : SX} (h : bQ4 len l = true) : dI ω len = dI ω (.op .llen [l]) := by
 unfold bQ4 at h
 rw [Bool.or_eq_true] at h
 rcases h with h | h
 · rw [SX.beq_eq _ _ h]
 · split at h
   · rfl
   · cases h
theorem bE2 {o : OwnP} {a a' : Fr} {h' : Heap} {act : Act} (e : bv4 o a h = some (a', h')) (f : FrR β ω a act) (r : HR β ω K w0 h w) : ∃ β', Conv ω K w0 w a a' h h' act β β' (· = o.blk) := by
 have common : ∀ {c : Bool}, (Nat.blt o.slot a.nt && Nat.blt o.blk h.next && Nat.blt o.blk 65536 && (h.get o.blk).isNone && bv3 o.blk o.slot a a.nt && c20 o.blk h h.next) = true →
  a.ds = [] ∧ o.slot < a.nt ∧ o.blk < h.next ∧ o.blk < 65536 ∧ h.get o.blk = none ∧ (∀ s, s < a.nt → s ≠ o.slot → noB o.blk (a.slot s) = true) ∧ (∀ z y, h.get z = some y → bQ3 o.blk (some y) = true) := by
  intro c hc
  obtain ⟨hc, c6⟩ := g9 hc
  obtain ⟨hc, c5⟩ := g9 hc
  obtain ⟨hc, c4⟩ := g9 hc
  obtain ⟨hc, c3⟩ := g9 hc
  obtain ⟨c1, c2⟩ := g9 hc
  rw [k8] at c1 c2 c3
  refine ⟨b46 c5, c1, c2, c3, by simpa using c4, b45 c5, fun z y hy => ?_⟩
  have hlt : z < h.next := by
   rcases Nat.lt_or_ge z h.next with hh | hh
   · exact hh
   · rw [r.fget z hh] at hy; cases hy
  have := bE1 c6 z hlt
  rw [hy] at this; exact this
 have gput : ∀ (hh : Heap) (l : SX), o.blk < 65536 → ∀ b, (a16 o a hh l).2.get b = if b = o.blk then some (.arr o.elem o.sig l) else hh.get b := by
  intro hh l hl b
  show (hh.put o.blk (some (.arr o.elem o.sig l))).get b = _
  rw [Heap.get_put, if_pos hl]
 have bij : ∀ (L : Option Loc) x, ¬ (x = o.blk) → (β.at_ o.blk L) x = β x := fun L x hx => by simp only [Bij.at_]; rw [if_neg hx]
 unfold bv4 at e
 split at e
 · rename_i b len sz hsl
   cases hq : Nat.beq b o.blk with
   | true =>
     rw [hq] at e
     simp only [cond_true] at e
     split at e
     · obtain ⟨_, e⟩ := a8 e
       simp only [Option.some.injEq, Prod.mk.injEq] at e
       obtain ⟨rfl, rfl⟩ := e
       exact ⟨β, f, r, fun _ _ => rfl, rfl, rfl, rfl, fun _ => .inl rfl⟩
     · cases e
   | false =>
     rw [hq] at e
     simp only [cond_false] at e
     replace e := a8 e
     obtain ⟨hc, e⟩ := e
     obtain ⟨hc, c7⟩ := g9 hc
     rw [j2] at c7
     obtain ⟨c0, c1, c2, c3, c4, c5, c6⟩ := common (c := true) hc
     split at e
     · rename_i el sig l hg
       replace e := a8 e
       obtain ⟨hd, e⟩ := e
       obtain ⟨hd, d4⟩ := g9 hd
       obtain ⟨hd, d3⟩ := g9 hd
       obtain ⟨d1, d2⟩ := g9 hd
       rw [j0] at d1 d3
       have d2 := C6 d2
       have d4 := bf0 (ω := ω) d4
       simp only [Option.some.injEq] at e
       obtain ⟨r1, _⟩ := r.drop b
       have g1 : ∀ z y, (h.put b none).get z = some y → z ≠ b ∧ h.get z = some y := by
        intro z y hy
        rw [Heap.get_put] at hy
        by_cases hz : z = b
        · rw [if_pos hz] at hy; split at hy <;> cases hy
        · rw [if_neg hz] at hy; exact ⟨hz, hy⟩
       have hbn : o.blk ≠ b := fun hh => by rw [hh] at c4; rw [c4] at hg; cases hg
       have m := be9 (o := o) (l := l) (L := β b) c0 f r1 c1 c2 c3 (by rw [Heap.get_put, if_neg hbn]; exact c4) c5 (fun z y hy => c6 z y (g1 z y hy).2) (fun M hM => r.lt b M hM)
         (fun M x y M' hM hx hxM => r.sep b x _ y M M' hg (g1 x y hx).2 hM hxM (g1 x y hx).1.symm (.inl c7)) (fun M hM => r.free b _ M hg c7 hM)
         (fun M hM => by rw [← d1, ← d2]; exact r.blk b _ M hg hM) (fun u hu => by
           rw [hsl] at hu
           simp only [VR] at hu ⊢
           rw [d4] at hu
           rcases hu with ⟨L, cap, h1, h2, h3, h4⟩ | hu
           · exact .inl ⟨L, cap, by simp [Bij.at_, h1], by rw [← d2, ← d3]; exact h2, h3, h4⟩
           · exact .inr hu)
       rw [e] at m
       have e1 : a' = (a16 o a (h.put b none) l).1 := by rw [e]
       have e2 : h' = (a16 o a (h.put b none) l).2 := by rw [e]
       refine ⟨_, m.1, m.2, bij _, by rw [e1]; exact Fr.put_nt _ _ _, by rw [e2]; rfl, by rw [e2]; rfl, fun x => ?_⟩
       rw [e2, gput _ _ c3]
       by_cases hx : x = o.blk
       · exact .inr (.inr (.inl hx))
       · rw [if_neg hx, Heap.get_put]
         by_cases hx2 : x = b
         · right; left; rw [if_pos hx2]; split <;> rfl
         · left; rw [if_neg hx2]
     · cases e
 · rename_i hsl
   obtain ⟨hc, e⟩ := a8 e
   obtain ⟨c0, c1, c2, c3, c4, c5, c6⟩ := common (c := true) hc
   simp only [Option.some.injEq] at e
   have m := be9 (o := o) (l := .op .row []) (L := none) c0 f r c1 c2 c3 c4 c5 c6 (fun M hM => by cases hM) (fun M x y M' hM => by cases hM) (fun M hM => by cases hM) (fun M hM => by cases hM) (fun u hu => by
     rw [hsl] at hu
     exact .inr ⟨hu, rfl⟩)
   rw [e] at m
   have e1 : a' = (a16 o a h (.op .row [])).1 := by rw [e]
   have e2 : h' = (a16 o a h (.op .row [])).2 := by rw [e]
   refine ⟨_, m.1, m.2, bij _, by rw [e1]; exact Fr.put_nt _ _ _, by rw [e2]; rfl, by rw [e2]; rfl, fun x => ?_⟩
   rw [e2, gput _ _ c3]
   by_cases hx : x = o.blk
   · exact .inr (.inr (.inl hx))
   · rw [if_neg hx]; exact .inl rfl
 · rename_i b n sz hsl
   replace e := a8 e
   obtain ⟨hc, e⟩ := e
   obtain ⟨hc, c8⟩ := g9 hc
   obtain ⟨hc, c7⟩ := g9 hc
   rw [j2] at c7
   rw [k8] at c8
   obtain ⟨c0, c1, c2, c3, c4, c5, c6⟩ := common (c := true) hc
   split at e
   · rename_i el cs hg
     replace e := a8 e
     obtain ⟨hd, e⟩ := e
     obtain ⟨hd, d3⟩ := g9 hd
     obtain ⟨d1, d2⟩ := g9 hd
     rw [j0] at d1 d2 d3
     split at e
     · rename_i rs hrs
       simp only [Option.some.injEq] at e
       obtain ⟨r1, _⟩ := r.drop b
       have g1 : ∀ z y, (h.put b none).get z = some y → z ≠ b ∧ h.get z = some y := by
        intro z y hy
        rw [Heap.get_put] at hy
        by_cases hz : z = b
        · rw [if_pos hz] at hy; split at hy <;> cases hy
        · rw [if_neg hz] at hy; exact ⟨hz, hy⟩
       have hbn : o.blk ≠ b := fun hh => by rw [hh] at c4; rw [c4] at hg; cases hg
       have hcell : ∀ M, β b = some M → ∃ C lo hi, w.heap[M.blk]? = some (.cells C el (lo, hi)) ∧ M.off + M.ext ≤ C.size ∧ cs.length ≤ M.ext ∧ (k5 ω rs).length = n ∧
        (∀ i v, (j9 o.sig (k5 ω rs))[i]? = some v → C[M.off + i]? = some v) ∧ (∀ i, i < M.ext → ¬ (lo ≤ M.off + i ∧ M.off + i < hi)) := by
        intro M hM
        obtain ⟨C, lo, hi, vs, q1, q2, q3, q4, q5, q6, q7⟩ := r.cells hg hM
        obtain ⟨z1, z2⟩ := K6 hrs d3 q5
        have hvl := q5.length
        refine ⟨C, lo, hi, q1, q2, q3, z2, fun i v hi' => ?_, fun i hi' => q7 i (Nat.zero_le _) hi'⟩
        rw [← z1] at hi'
        rw [q6 i (by
         rcases Nat.lt_or_ge i vs.length with hh | hh
         · omega
         · rw [List.getElem?_eq_none hh] at hi'; cases hi')]
        exact hi'
       have m := be9 (o := o) (l := .op .row rs) (L := β b) c0 f r1 c1 c2 c3 (by rw [Heap.get_put, if_neg hbn]; exact c4) c5 (fun z y hy => c6 z y (g1 z y hy).2) (fun M hM => r.lt b M hM)
         (fun M x y M' hM hx hxM => r.sep b x _ y M M' hg (g1 x y hx).2 hM hxM (g1 x y hx).1.symm (.inl c7)) (fun M hM => r.free b _ M hg c7 hM)
         (fun M hM => by
          obtain ⟨C, lo, hi, q1, q2, q3, q4, q5, q6⟩ := hcell M hM
          rw [← d1]
          refine ⟨C, _, lo, hi, q1, .inl rfl, q2, ?_, q5, q6⟩
          show (k5 ω rs).length * o.sig.length ≤ M.ext
          rw [q4, ← d2, ← d3]; exact q3) (fun u hu => by
          rw [hsl] at hu
          simp only [VR] at hu ⊢
          obtain ⟨M, cap, h1, h2, h3⟩ := hu
          obtain ⟨C, lo, hi, q1, q2, q3, q4, q5, q6⟩ := hcell M h1
          have hn : (dI ω (.op .llen [.op .row rs])).toNat = n := by
           rw [v7]
           show (((k5 ω rs).length : Nat) : Int).toNat = n
           rw [q4]; simp
          have hle : n ≤ cap := by
           rw [d3, ← show cap * sz = M.ext by omega] at q3
           exact Nat.le_of_mul_le_mul_right q3 c8
          exact .inl ⟨M, cap, by simp [Bij.at_, h1], by rw [← d2]; omega, by rw [hn]; simpa using h3, by rw [hn]; exact hle⟩)
       rw [e] at m
       have e1 : a' = (a16 o a (h.put b none) (.op .row rs)).1 := by rw [e]
       have e2 : h' = (a16 o a (h.put b none) (.op .row rs)).2 := by rw [e]
       refine ⟨_, m.1, m.2, bij _, by rw [e1]; exact Fr.put_nt _ _ _, by rw [e2]; rfl, by rw [e2]; rfl, fun x => ?_⟩
       rw [e2, gput _ _ c3]
       by_cases hx : x = o.blk
       · exact .inr (.inr (.inl hx))
       · rw [if_neg hx, Heap.get_put]
         by_cases hx2 : x = b
         · right; left; rw [if_pos hx2]; split <;> rfl
         · left; rw [if_neg hx2]
     · cases e
   · cases e
 · rename_i b p n c hsl
   replace e := a8 e
   obtain ⟨hc, e⟩ := e
   obtain ⟨hc, c7⟩ := g9 hc
   rw [j2] at c7
   obtain ⟨c0, c1, c2, c3, c4, c5, c6⟩ := common (c := true) hc
   split at e
   · rename_i el fz cs hg
     replace e := a8 e
     obtain ⟨hd, e⟩ := e
     obtain ⟨hd, d4⟩ := g9 hd
     obtain ⟨hd, d3⟩ := g9 hd
     obtain ⟨d1, d2⟩ := g9 hd
     rw [j0] at d1
     rw [j2] at d2 d3 d4
     split at e
     · rename_i rs hrs
       simp only [Option.some.injEq] at e
       have hvr := f.slot o.slot id
       rw [hsl] at hvr
       simp only [VR] at hvr
       obtain ⟨L, hL, hv0⟩ := hvr
       obtain ⟨r1, _⟩ := r.drop b
       have g1 : ∀ z y, (h.put b none).get z = some y → z ≠ b ∧ h.get z = some y := by
        intro z y hy
        rw [Heap.get_put] at hy
        by_cases hz : z = b
        · rw [if_pos hz] at hy; split at hy <;> cases hy
        · rw [if_neg hz] at hy; exact ⟨hz, hy⟩
       have hbn : o.blk ≠ b := fun hh => by rw [hh] at c4; rw [c4] at hg; cases hg
       obtain ⟨C, lo, hi, vs, q1, q2, q3, q4, q5, q6, q7⟩ := r.cells hg hL
       obtain ⟨z1, z2⟩ := K6 hrs (by simp only [List.length_take, List.length_drop]; have := Nat.mul_le_mul_right o.sig.length d4; omega) ((q5.drop p).take (n * o.sig.length))
       have hvl := q5.length
       have hns : n * o.sig.length ≤ c * o.sig.length := Nat.mul_le_mul_right _ d4
       have m := be9 (o := o) (l := .op .row rs) (L := some ⟨L.blk, L.off + p, c * o.sig.length⟩) c0 f r1 c1 c2 c3 (by rw [Heap.get_put, if_neg hbn]; exact c4) c5 (fun z y hy => c6 z y (g1 z y hy).2) (fun M hM => by cases hM; exact r.lt b L hL)
         (fun M x y M' hM hx hxM => by cases hM; exact r.sep b x _ y L M' hg (g1 x y hx).2 hL hxM (g1 x y hx).1.symm (.inl c7)) (fun M hM => by cases hM; exact r.free b _ L hg c7 hL)
         (fun M hM => by
          cases hM
          rw [← d1]
          refine ⟨C, _, lo, hi, q1, .inl rfl, by show L.off + p + c * o.sig.length ≤ C.size; omega, ?_, fun i v hi' => ?_, fun i hi' => ?_⟩
          · show (k5 ω rs).length * o.sig.length ≤ c * o.sig.length
            rw [z2]; exact hns
          · show C[L.off + p + i]? = some v
            have hi' : (j9 o.sig (k5 ω rs))[i]? = some v := hi'
            rw [← z1] at hi'
            have hlt : i < n * o.sig.length := by
             rcases Nat.lt_or_ge i (n * o.sig.length) with hh | hh
             · exact hh
             · rw [List.getElem?_eq_none (by simp; omega)] at hi'; cases hi'
            rw [show L.off + p + i = L.off + (p + i) by omega, q6 (p + i) (by omega)]
            rw [List.getElem?_take, if_pos hlt, List.getElem?_drop] at hi'
            exact hi'
          · have hi' : i < c * o.sig.length := hi'
            have := q7 (p + i) (by omega) (by omega)
            show ¬ (lo ≤ L.off + p + i ∧ L.off + p + i < hi)
            rw [show L.off + p + i = L.off + (p + i) by omega]; exact this) (fun u hu => by
          rw [hsl] at hu
          simp only [VR] at hu ⊢
          obtain ⟨M, hM, h3⟩ := hu
          rw [hL, Option.some.injEq] at hM
          subst hM
          have hn : (dI ω (.op .llen [.op .row rs])).toNat = n := by
           rw [v7]
           show (((k5 ω rs).length : Nat) : Int).toNat = n
           rw [z2]; simp
          exact .inl ⟨⟨L.blk, L.off + p, c * o.sig.length⟩, c, by simp [Bij.at_], rfl, by rw [hn]; exact h3, by rw [hn]; exact d4⟩)
       rw [e] at m
       have e1 : a' = (a16 o a (h.put b none) (.op .row rs)).1 := by rw [e]
       have e2 : h' = (a16 o a (h.put b none) (.op .row rs)).2 := by rw [e]
       refine ⟨_, m.1, m.2, bij _, by rw [e1]; exact Fr.put_nt _ _ _, by rw [e2]; rfl, by rw [e2]; rfl, fun x => ?_⟩
       rw [e2, gput _ _ c3]
       by_cases hx : x = o.blk
       · exact .inr (.inr (.inl hx))
       · rw [if_neg hx, Heap.get_put]
         by_cases hx2 : x = b
         · right; left; rw [if_pos hx2]; split <;> rfl
         · left; rw [if_neg hx2]
     · cases e
   · cases e
 · cases e
theorem bE3 {b : Nat} {y : AV} (hb : ∀ x, x ≠ b → β' x = β x) : ∀ {cs : List AV} {vs : List Value} {i : Nat}, VRs β ω cs vs → ba9 b (cs.set i .nils) = true → (∀ x u, cs[i]? = some x → VR β ω x u → VR β' ω y u) → VRs β' ω (cs.set i y) vs
 | [], _, _, r, _, _ => r
 | a :: cs, vs, 0, ⟨v, vr, e, p, q⟩, hn, hy => by
   simp only [List.set_cons_zero, ba9, Bool.and_eq_true] at hn
   exact ⟨v, vr, e, hy a v rfl p, aq0 hb _ _ hn.2 q⟩
 | a :: cs, vs, i + 1, ⟨v, vr, e, p, q⟩, hn, hy => by
   simp only [List.set_cons_succ, ba9, Bool.and_eq_true] at hn
   exact ⟨v, vr, e, b44 hb _ _ hn.1 p, bE3 hb q hn.2 (fun x u hx hu => hy x u (by simpa using hx) hu)⟩
theorem bf1 {b c : Nat} {cs : List AV} {h0 : Heap} : ∀ {n : Nat}, bQ5 b c cs h0 n = true → ba9 b cs = true ∧ ∀ s, s < n → s ≠ c → bQ3 b (h0.get s) = true
 | 0, h => ⟨h, fun s hs => by omega⟩
 | n + 1, h => by
   simp only [bQ5, Bool.and_eq_true, Bool.or_eq_true, Nat.beq_eq] at h
   obtain ⟨h1, h2⟩ := bf1 h.2
   refine ⟨h1, fun s hs hc => ?_⟩
   by_cases e : s = n
   · subst e
     exact h.1.resolve_left hc
   · exact h2 s (by omega) hc
theorem bE4 {o : OwnP} {a : Fr} {act : Act} {l : SX} {L : Option Loc} {c i e fz : Nat} {cs : List AV} (hds : a.ds = []) (f : FrR β ω a act) (r : HR β ω K w0 h w) (hblk : o.blk < h.next) (h65 : o.blk < 65536) (hnone : h.get o.blk = none) (hc : c ≠ o.blk)
 (hg : h.get c = some (.cells e fz cs)) (hfr : ∀ s, s < a.nt → noB o.blk (a.slot s) = true) (hhp : ∀ z y, z ≠ c → h.get z = some y → bQ3 o.blk (some y) = true) (hcs : ba9 o.blk (cs.set i .nils) = true) (hlt : ∀ M, L = some M → M.blk < w.heap.size) (hsep : ∀ M x y M', L = some M → h.get x = some y → β x = some M' → M.blk ≠ M'.blk) (hfree : ∀ M, L = some M → ¬ K M.blk)
 (hbr : ∀ M, L = some M → BR β ω M w.heap[M.blk]? (.arr o.elem o.sig l)) (hv : ∀ x u, cs[i]? = some x → VR β ω x u → VR (β.at_ o.blk L) ω (.ous o.blk (.op .llen [l]) o.sig.length) u) :
 FrR (β.at_ o.blk L) ω a act ∧ HR (β.at_ o.blk L) ω K w0 (a04 o c i e fz cs h l) w := by
 have hb : ∀ x, x ≠ o.blk → (β.at_ o.blk L) x = β x := fun x hx => by simp only [Bij.at_]; rw [if_neg hx]
 have hb0 : (β.at_ o.blk L) o.blk = L := by simp [Bij.at_]
 have h65c := Heap.get_lim h c _ hg
 have hcn : c < h.next := by
  rcases Nat.lt_or_ge c h.next with hh | hh
  · exact hh
  · rw [r.fget c hh] at hg; cases hg
 have F3 : ∀ z, (a04 o c i e fz cs h l).get z = if z = o.blk then some (.arr o.elem o.sig l) else if z = c then some (.cells e fz (cs.set i (.ous o.blk (.op .llen [l]) o.sig.length))) else h.get z := fun z => by
  unfold a04
  rw [Heap.get_put, if_pos h65, Heap.get_put, if_pos h65c]
 constructor
 · refine ⟨f.size, f.lim, fun t _ => ?_, by have := f.defers; rw [hds] at this ⊢; exact this, f.pcs⟩
   by_cases hn : t < a.nt
   · exact b44 hb _ _ (hfr t hn) (f.slot t id)
   · have := f.slot t id
     rw [Array.getD_eq_getD_getElem?, Array.getElem?_eq_none (by rw [f.size]; exact Nat.le_of_not_lt hn)] at this ⊢
     exact Z2 this
 · have key : ∀ z y, (a04 o c i e fz cs h l).get z = some y → (z = o.blk ∧ y = .arr o.elem o.sig l) ∨ (z ≠ o.blk ∧ ∃ y', h.get z = some y' ∧ y'.isArr = y.isArr ∧ ∀ M, β z = some M → BR β ω M w.heap[M.blk]? y' → BR (β.at_ o.blk L) ω M w.heap[M.blk]? y) := by
    intro z y hy
    rw [F3] at hy
    by_cases hz : z = o.blk
    · rw [if_pos hz] at hy; simp only [Option.some.injEq] at hy; exact .inl ⟨hz, hy.symm⟩
    · rw [if_neg hz] at hy
      refine .inr ⟨hz, ?_⟩
      by_cases hzc : z = c
      · subst hzc
        rw [if_pos rfl] at hy; simp only [Option.some.injEq] at hy; subst hy
        refine ⟨_, hg, rfl, fun M hM hbr' => ?_⟩
        obtain ⟨C, lo, hi, vs, q1, q2, q3, q4, q5, q6⟩ := hbr'
        refine ⟨C, lo, hi, vs, q1, q2, by rw [List.length_set]; exact q3, ?_, bE3 hb q5 hcs hv, by rw [List.length_set]; exact q6⟩
        rw [List.all_eq_true] at q4 ⊢
        intro x hx
        rcases List.mem_or_eq_of_mem_set hx with q | rfl
        · exact q4 x q
        · rfl
      · rw [if_neg hzc] at hy
        exact ⟨y, hy, rfl, fun M hM hbr' => cp6 hb (hhp z y hzc hy) hbr'⟩
   refine ⟨fun z y M hy hM => ?_, fun z z' y y' M M' hy hy' hM hM' hne hw => ?_, fun z hz => ?_, fun z hz => ?_, fun z M hM => ?_, r.kin, r.keep, fun z y M hy hw hM => ?_, r.size, r.os, r.tape, r.out, r.dr⟩
   · rcases key z y hy with ⟨rfl, rfl⟩ | ⟨hz, y0, hy0, _, hk⟩
     · rw [hb0] at hM; exact hbr M hM
     · rw [hb z hz] at hM
       exact hk M hM (r.blk z y0 M hy0 hM)
   · rcases key z y hy with ⟨rfl, rfl⟩ | ⟨hz, y0, hy0, k1, _⟩
     · rw [hb0] at hM
       rcases key z' y' hy' with ⟨rfl, _⟩ | ⟨hz', y0', hy0', _⟩
       · exact absurd rfl hne
       · rw [hb z' hz'] at hM'; exact hsep M z' y0' M' hM hy0' hM'
     · rw [hb z hz] at hM
       rcases key z' y' hy' with ⟨rfl, rfl⟩ | ⟨hz', y0', hy0', k2, _⟩
       · rw [hb0] at hM'; exact (hsep M' z y0 M hM' hy0 hM).symm
       · rw [hb z' hz'] at hM'; exact r.sep z z' y0 y0' M M' hy0 hy0' hM hM' hne (by rw [k1, k2]; exact hw)
   · have hz : h.next ≤ z := hz
     rw [hb z (by omega)]; exact r.fresh z hz
   · have hz : h.next ≤ z := hz
     rw [F3, if_neg (by omega), if_neg (by omega)]; exact r.fget z hz
   · by_cases hz : z = o.blk
     · rw [hz, hb0] at hM; exact hlt M hM
     · rw [hb z hz] at hM; exact r.lt z M hM
   · rcases key z y hy with ⟨rfl, rfl⟩ | ⟨hz, y0, hy0, _⟩
     · rw [hb0] at hM; exact hfree M hM
     · rw [hb z hz] at hM; exact r.free z y0 M hy0 hw hM
theorem bV3 {c : Nat} {x : AV} {v : Value} (h : c73 c x = true) (r : VR β ω x v) : β c ≠ none := by
 unfold c73 at h
 split at h
 · obtain rfl := j0.1 h
   obtain ⟨L, hL, _⟩ := r
   rw [hL]; simp
 · cases h
theorem bV4 {b : Nat} {x : Option AV} (h : c72 b x = true) : ∃ len sz, x = some (.ous b len sz) := by
 unfold c72 at h
 split at h
 · obtain rfl := j0.1 h
   exact ⟨_, _, rfl⟩
 · cases h
theorem bV5 {o : OwnP} {c i : Nat} {a a' : Fr} {h' : Heap} {act : Act} (e : c74 o c i a h = some (a', h')) (f : FrR β ω a act) (r : HR β ω K w0 h w) : ∃ β', Conv ω K w0 w a a' h h' act β β' (· = o.blk) := by
 have bij : ∀ (L : Option Loc) x, ¬ (x = o.blk) → (β.at_ o.blk L) x = β x := fun L x hx => by simp only [Bij.at_]; rw [if_neg hx]
 unfold c74 at e
 split at e
 · rename_i e0 fz cs hg
   obtain ⟨hc, e⟩ := a8 e
   obtain ⟨hc, hc2⟩ := g9 hc
   obtain ⟨hc, hi⟩ := g9 hc
   obtain ⟨hp, hs⟩ := g9 hc
   have hβc := bV3 hp (f.slot o.slot id)
   rw [Bool.or_eq_true] at hc2
   have same : (a', h') = (a, h) → ∃ β', Conv ω K w0 w a a' h h' act β β' (· = o.blk) := by
    intro hh
    simp only [Prod.mk.injEq] at hh
    obtain ⟨rfl, rfl⟩ := hh
    exact ⟨β, f, r, fun _ _ => rfl, rfl, rfl, rfl, fun _ => .inl rfl⟩
   rcases hc2 with hown | hc2
   · obtain ⟨len, sz, hx⟩ := bV4 hown
     unfold bv5 at e
     rw [hx] at e
     simp only [j0.2 (rfl : o.blk = o.blk), cond_true] at e
     split at e
     · obtain ⟨_, e⟩ := a8 e
       simp only [Option.some.injEq] at e
       exact same e.symm
     · cases e
   · obtain ⟨hc2, c6⟩ := g9 hc2
     obtain ⟨hc2, c5⟩ := g9 hc2
     obtain ⟨hc2, c4⟩ := g9 hc2
     obtain ⟨hc2, c3⟩ := g9 hc2
     obtain ⟨c1, c2⟩ := g9 hc2
     rw [k8] at c1 c2
     have c3 : h.get o.blk = none := by simpa using c3
     have c4 := D1 c4
     have hfr : ∀ s, s < a.nt → noB o.blk (a.slot s) = true := fun s hs => b45 c5 s hs (by omega)
     obtain ⟨hcs, hhp0⟩ := bf1 c6
     have hhp : ∀ z y, z ≠ c → h.get z = some y → bQ3 o.blk (some y) = true := fun z y hz hy => by
      have hlt : z < h.next := by
       rcases Nat.lt_or_ge z h.next with hh | hh
       · exact hh
       · rw [r.fget z hh] at hy; cases hy
      have := hhp0 z hlt hz
      rw [hy] at this; exact this
     have hds := b46 c5
     have drop : ∀ (b : Nat) (l : SX), b ≠ c → h.wm ≤ b → (∃ y, h.get b = some y) → (∀ M, β b = some M → BR β ω M w.heap[M.blk]? (.arr o.elem o.sig l)) →
      (∀ x u, cs[i]? = some x → VR β ω x u → VR (β.at_ o.blk (β b)) ω (.ous o.blk (.op .llen [l]) o.sig.length) u) → (a', h') = (a, a04 o c i e0 fz cs (h.put b none) l) → ∃ β', Conv ω K w0 w a a' h h' act β β' (· = o.blk) := by
      intro b l hbc hwm hy0 hbr hv hh
      obtain ⟨y0, hy0⟩ := hy0
      simp only [Prod.mk.injEq] at hh
      obtain ⟨rfl, rfl⟩ := hh
      obtain ⟨r1, _⟩ := r.drop b
      have g1 : ∀ z y, (h.put b none).get z = some y → z ≠ b ∧ h.get z = some y := by
       intro z y hy
       rw [Heap.get_put] at hy
       by_cases hz : z = b
       · rw [if_pos hz] at hy; split at hy <;> cases hy
       · rw [if_neg hz] at hy; exact ⟨hz, hy⟩
      have hbn : o.blk ≠ b := fun hh => by rw [hh] at c3; rw [c3] at hy0; cases hy0
      have m := bE4 (o := o) (l := l) (L := β b) (i := i) hds f r1 c1 c2 (by rw [Heap.get_put, if_neg hbn]; exact c3) c4 (by rw [Heap.get_put, if_neg (Ne.symm hbc)]; exact hg) hfr (fun z y hz hy => hhp z y hz (g1 z y hy).2) hcs
        (fun M hM => r.lt b M hM) (fun M x y M' hM hx hxM => r.sep b x _ y M M' hy0 (g1 x y hx).2 hM hxM (g1 x y hx).1.symm (.inl hwm)) (fun M hM => r.free b _ M hy0 hwm hM) hbr hv
      refine ⟨_, m.1, m.2, bij _, rfl, rfl, rfl, fun x => ?_⟩
      unfold a04
      rw [Heap.get_put, if_pos c2, Heap.get_put, Heap.get_put]
      by_cases hx : x = o.blk
      · exact .inr (.inr (.inl hx))
      · rw [if_neg hx]
        by_cases hx1 : x = c
        · subst hx1; exact .inr (.inr (.inr hβc))
        · rw [if_neg hx1]
          by_cases hx2 : x = b
          · right; left; rw [if_pos hx2]; split <;> rfl
          · left; rw [if_neg hx2]
     unfold bv5 at e
     split at e
     · rename_i b len sz hx
       cases hq : Nat.beq b o.blk with
       | true =>
         rw [hq] at e
         simp only [cond_true] at e
         split at e
         · obtain ⟨_, e⟩ := a8 e
           simp only [Option.some.injEq] at e
           exact same e.symm
         · cases e
       | false =>
         rw [hq] at e
         simp only [cond_false] at e
         obtain ⟨hd, e⟩ := a8 e
         obtain ⟨c7, c8⟩ := g9 hd
         rw [j2] at c7
         have c8 := D1 c8
         split at e
         · rename_i el sig l hgb
           obtain ⟨hd, e⟩ := a8 e
           obtain ⟨hd, d4⟩ := g9 hd
           obtain ⟨hd, d3⟩ := g9 hd
           obtain ⟨d1, d2⟩ := g9 hd
           rw [j0] at d1 d3
           have d2 := C6 d2
           have d4 := bf0 (ω := ω) d4
           simp only [Option.some.injEq] at e
           refine drop b l c8 c7 ⟨_, hgb⟩ (fun M hM => by rw [← d1, ← d2]; exact r.blk b _ M hgb hM) (fun x u hxi hu => ?_) e.symm
           rw [hx, Option.some.injEq] at hxi
           subst hxi
           simp only [VR] at hu ⊢
           rw [d4] at hu
           rcases hu with ⟨L, cap, h1, h2, h3, h4⟩ | hu
           · exact .inl ⟨L, cap, by simp [Bij.at_, h1], by rw [← d2, ← d3]; exact h2, h3, h4⟩
           · exact .inr hu
         · cases e
     · rename_i hx
       simp only [Option.some.injEq] at e
       simp only [Prod.mk.injEq] at e
       obtain ⟨rfl, rfl⟩ := e
       have m := bE4 (o := o) (l := .op .row []) (L := none) (i := i) hds f r c1 c2 c3 c4 hg hfr hhp hcs (fun M hM => by cases hM) (fun M x y M' hM => by cases hM) (fun M hM => by cases hM) (fun M hM => by cases hM) (fun x u hxi hu => by
         rw [hx, Option.some.injEq] at hxi
         subst hxi
         exact .inr ⟨hu, rfl⟩)
       refine ⟨_, m.1, m.2, bij _, rfl, rfl, rfl, fun x => ?_⟩
       unfold a04
       rw [Heap.get_put, if_pos c2, Heap.get_put]
       by_cases hx : x = o.blk
       · exact .inr (.inr (.inl hx))
       · rw [if_neg hx]
         by_cases hx1 : x = c
         · subst hx1; exact .inr (.inr (.inr hβc))
         · rw [if_neg hx1]; exact .inl rfl
     · rename_i b n sz hx
       obtain ⟨hd, e⟩ := a8 e
       obtain ⟨hd, c9⟩ := g9 hd
       obtain ⟨c7, c8⟩ := g9 hd
       rw [j2] at c7
       rw [k8] at c8
       have c9 := D1 c9
       split at e
       · rename_i el ds hgb
         obtain ⟨hd, e⟩ := a8 e
         obtain ⟨hd, d3⟩ := g9 hd
         obtain ⟨d1, d2⟩ := g9 hd
         rw [j0] at d1 d2 d3
         split at e
         · rename_i rs hrs
           simp only [Option.some.injEq] at e
           have hcell : ∀ M, β b = some M → ∃ C lo hi, w.heap[M.blk]? = some (.cells C el (lo, hi)) ∧ M.off + M.ext ≤ C.size ∧ ds.length ≤ M.ext ∧ (k5 ω rs).length = n ∧
            (∀ i v, (j9 o.sig (k5 ω rs))[i]? = some v → C[M.off + i]? = some v) ∧ (∀ i, i < M.ext → ¬ (lo ≤ M.off + i ∧ M.off + i < hi)) := by
            intro M hM
            obtain ⟨C, lo, hi, vs, q1, q2, q3, q4, q5, q6, q7⟩ := r.cells hgb hM
            obtain ⟨z1, z2⟩ := K6 hrs d3 q5
            have hvl := q5.length
            refine ⟨C, lo, hi, q1, q2, q3, z2, fun i v hi' => ?_, fun i hi' => q7 i (Nat.zero_le _) hi'⟩
            rw [← z1] at hi'
            rw [q6 i (by
             rcases Nat.lt_or_ge i vs.length with hh | hh
             · omega
             · rw [List.getElem?_eq_none hh] at hi'; cases hi')]
            exact hi'
           refine drop b (.op .row rs) c9 c7 ⟨_, hgb⟩ (fun M hM => ?_) (fun x u hxi hu => ?_) e.symm
           · obtain ⟨C, lo, hi, q1, q2, q3, q4, q5, q6⟩ := hcell M hM
             rw [← d1]
             refine ⟨C, _, lo, hi, q1, .inl rfl, q2, ?_, q5, q6⟩
             show (k5 ω rs).length * o.sig.length ≤ M.ext
             rw [q4, ← d2, ← d3]; exact q3
           · rw [hx, Option.some.injEq] at hxi
             subst hxi
             simp only [VR] at hu ⊢
             obtain ⟨M, cap, h1, h2, h3⟩ := hu
             obtain ⟨C, lo, hi, q1, q2, q3, q4, q5, q6⟩ := hcell M h1
             have hn : (dI ω (.op .llen [.op .row rs])).toNat = n := by
              rw [v7]
              show (((k5 ω rs).length : Nat) : Int).toNat = n
              rw [q4]; simp
             have hle : n ≤ cap := by
              rw [d3, ← show cap * sz = M.ext by omega] at q3
              exact Nat.le_of_mul_le_mul_right q3 c8
             exact .inl ⟨M, cap, by simp [Bij.at_, h1], by rw [← d2]; omega, by rw [hn]; simpa using h3, by rw [hn]; exact hle⟩
         · cases e
       · cases e
     · cases e
 · cases e
theorem bV6 {o : OwnP} {a a' : Fr} {h' : Heap} {act : Act} (e : c75 o a h = some (a', h')) (f : FrR β ω a act) (r : HR β ω K w0 h w) : ∃ β', Conv ω K w0 w a a' h h' act β β' (· = o.blk) := by
 unfold c75 at e
 split at e
 · exact bE2 e f r
 · exact bV5 e f r
theorem aJ2 : ∀ {l : List OwnP} {a a' : Fr} {h h' : Heap} {act : Act} {β : Bij}, b07 l a h = some (a', h') → FrR β ω a act → HR β ω K w0 h w → ∃ β', Conv ω K w0 w a a' h h' act β β' (fun x => ∃ o ∈ l, x = o.blk)
 | [], a, a', h, h', act, β, e, f, r => by
   simp only [b07, Option.some.injEq, Prod.mk.injEq] at e
   obtain ⟨rfl, rfl⟩ := e
   exact ⟨β, f, r, fun _ _ => rfl, rfl, rfl, rfl, fun _ => .inl rfl⟩
 | o :: l, a, a', h, h', act, β, e, f, r => by
   simp only [b07] at e
   split at e
   · rename_i p hp
     obtain ⟨β1, c1⟩ := bV6 (a' := p.1) (h' := p.2) hp f r
     obtain ⟨β2, c2⟩ := aJ2 e c1.fr c1.hr
     refine ⟨β2, c2.fr, c2.hr, fun x hx => ?_, c2.nt.trans c1.nt, c2.next.trans c1.next, c2.wm.trans c1.wm, fun b => ?_⟩
     · rw [c2.bij x (fun ⟨o', h1, h2⟩ => hx ⟨o', .tail _ h1, h2⟩), c1.bij x (fun h2 => hx ⟨o, .head _, h2⟩)]
     · rcases c2.get b with q | q | ⟨o', q1, q2⟩ | q
       · rcases c1.get b with z | z | z | z
         · exact .inl (q.trans z)
         · exact .inr (.inl (q.trans z))
         · exact .inr (.inr (.inl ⟨o, .head _, z⟩))
         · exact .inr (.inr (.inr z))
       · exact .inr (.inl q)
       · exact .inr (.inr (.inl ⟨o', .tail _ q1, q2⟩))
       · by_cases hb : b = o.blk
         · exact .inr (.inr (.inl ⟨o, .head _, hb⟩))
         · exact .inr (.inr (.inr (by rw [← c1.bij b hb]; exact q)))
   · cases e
theorem FrR.layDead {a : Fr} {act : Act} (f : FrR β ω a act) : ∀ (l : List Nat) , FrR β ω (Go.Ev.layDead a l) act := by
 intro l
 induction l generalizing a with
 | nil => exact f
 | cons t l ih =>
   refine ih ⟨by rw [Fr.put_nt]; exact f.size, by rw [Fr.put_nt]; exact f.lim, fun s _ => ?_, by rw [Fr.put_ds]; exact f.defers, fun p hp => f.pcs p (by rw [Fr.put_pc] at hp; exact hp)⟩
   rw [Fr.put_slot f.lim]
   split
   · simp only [VR]
   · exact f.slot s id
theorem HR.upto {w : World} {h : Heap} (r : HR β ω K w0 h w) {n : Nat} (hn : h.next ≤ n) : HR β ω K w0 (h.upto n) w := by
 have g : ∀ b, (h.upto n).get b = h.get b := fun b => Heap.get_upto _ _ _
 refine ⟨fun z y M hy hM => r.blk z y M (by rw [← g]; exact hy) hM, fun z z' y y' M M' hy hy' hM hM' hne hw => r.sep z z' y y' M M' (by rw [← g]; exact hy) (by rw [← g]; exact hy') hM hM' hne (by rw [Heap.wm_upto] at hw; exact hw),
   fun z hz => r.fresh z (by rw [Heap.next_upto] at hz; omega), fun z hz => by rw [g]; exact r.fget z (by rw [Heap.next_upto] at hz; omega), r.lt, r.kin, r.keep,
   fun z y M hy hw hM => r.free z y M (by rw [← g]; exact hy) (by rw [← Heap.wm_upto h n]; exact hw) hM, r.size, r.os, r.tape, r.out, r.dr⟩
theorem b47 {sp : LSpec} {a : Fr} {act : Act} (f : FrR β ω a act) (r : HR β ω K w0 h w) : ∃ β', Conv ω K w0 w a (ay3 sp a h).1 h (ay3 sp a h).2 act β β' (fun x => ∃ o ∈ sp.owns, x = o.blk) := by
 unfold ay3
 cases hc : b07 sp.owns (Go.Ev.layDead a sp.dead) h with
 | none => exact ⟨β, f.layDead _, r, fun _ _ => rfl, A3 _ _, rfl, rfl, fun _ => .inl rfl⟩
 | some p =>
   obtain ⟨β', c⟩ := aJ2 (a' := p.1) (h' := p.2) hc (f.layDead _) r
   exact ⟨β', c.fr, c.hr, c.bij, c.nt.trans (A3 _ _), c.next, c.wm, c.get⟩
end Go.Ev
