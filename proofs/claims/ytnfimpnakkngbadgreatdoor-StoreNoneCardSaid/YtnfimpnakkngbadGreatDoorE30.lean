/- The evaluator: calls, and the run. -/
import Derived.Test.YtnfimpnakkngbadGreatDoorE29
set_option linter.unusedVariables false
set_option linter.unusedSimpArgs false
namespace Go.Ev
open Go

variable {E : Env} {ω : Opq} {K : Nat → Prop} {w0 w w' : World} {h h' : Heap} {β β' : Bij}

theorem outOf1_cases {n : Nat} {v : AV} {o : Out} (e : outOf1 n h' v = some o) : (plainCell v = true ∧ o = .plain v) ∨
    (∃ b len sz t cs, v = .us b 0 len sz ∧ n ≤ b ∧ h'.get b = some (.cells t 0 cs) ∧ cs.length = len * sz ∧ cs.all plainCell = true ∧ o = .row t len sz cs) := by
  unfold outOf1 at e
  split at e
  · rename_i b len sz
    cases hb : Nat.ble n b with
    | false => rw [hb] at e; cases e
    | true =>
      rw [hb] at e
      simp only [cond_true] at e
      split at e
      · rename_i t cs hg
        cases hc : (Nat.beq cs.length (len * sz) && cs.all plainCell) with
        | false => rw [hc] at e; cases e
        | true =>
          rw [hc] at e
          simp only [cond_true, Option.some.injEq] at e
          simp only [Bool.and_eq_true, Nat.beq_eq] at hc
          exact .inr ⟨b, len, sz, t, cs, rfl, ble_iff.1 hb, hg, hc.1, hc.2, e.symm⟩
      · cases e
  · cases hp : plainCell v with
    | false => rw [hp] at e; cases e
    | true => rw [hp] at e; simp only [cond_true, Option.some.injEq] at e; exact .inl ⟨rfl, e.symm⟩

theorem layOuts_plain {β'' : Bij} {n : Nat} : ∀ {vs : List AV} {us : List Value} {l : List Out}, outsOf n h' vs = some l → rowsN l = 0 → VRs β' ω vs us → ∀ h, (layOuts l h).2 = h ∧ VRs β'' ω (layOuts l h).1 us
  | [], us, l, e, hr, r, h => by
    simp only [outsOf, Option.some.injEq] at e; subst e
    exact ⟨rfl, r⟩
  | v :: vs, us, l, e, hr, ⟨u, ur, e2, p, q⟩, h => by
    simp only [outsOf] at e
    split at e
    · rename_i o os h1 h2
      simp only [Option.some.injEq] at e; subst e
      rcases outOf1_cases h1 with ⟨hp, rfl⟩ | ⟨b, len, sz, t, cs, rfl, _, _, _, _, rfl⟩
      · obtain ⟨g1, g2⟩ := layOuts_plain (β'' := β'') h2 (by simpa [rowsN] using hr) q h
        exact ⟨g1, u, ur, e2, plain_VR hp p, g2⟩
      · simp [rowsN] at hr
    · cases e

/-- What the rows of a call's end are to the heap that they are laid on. -/
def Apart (K : Nat → Prop) (hd : Heap) (β : Bij) (h' : Heap) (β' : Bij) : Prop :=
  ∀ b L y, h'.get b = some y → hd.next ≤ b → β' b = some L → (∀ b2 x M, hd.get b2 = some x → β b2 = some M → M.blk ≠ L.blk) ∧ ¬ K L.blk
theorem layOuts_one {K' : Nat → Prop} {w1 : World} (rh : HR β ω K w0 h w') (r' : HR β' ω K' w1 h' w') (hap : Apart K h β h' β') : ∀ {vs : List AV} {us : List Value} {l : List Out},
    outsOf h.next h' vs = some l → rowsN l ≤ 1 → VRs β' ω vs us → ∃ β'', VRs β'' ω (layOuts l h).1 us ∧ HR β'' ω K w0 (layOuts l h).2 w' ∧ St h β (layOuts l h).2 β''
  | [], us, l, e, hr, ra => by
    simp only [outsOf, Option.some.injEq] at e; subst e
    exact ⟨β, ra, rh, .refl _ _⟩
  | v :: vs, us, l, e, hr, ⟨u, ur, e2, p, q⟩ => by
    simp only [outsOf] at e
    split at e
    · rename_i o os h1 h2
      simp only [Option.some.injEq] at e; subst e
      rcases outOf1_cases h1 with ⟨hp, rfl⟩ | ⟨b, len, sz, t, cs, rfl, hb, hg, hl, hall, rfl⟩
      · obtain ⟨β'', g1, g2, g3⟩ := layOuts_one rh r' hap h2 (by simpa [rowsN] using hr) q
        exact ⟨β'', ⟨u, ur, e2, plain_VR hp p, g1⟩, g2, g3⟩
      · obtain ⟨L, cap, hL, hcap, hu⟩ := p
        obtain ⟨ha1, ha2⟩ := hap b L _ hg hb hL
        obtain ⟨C, lo, hi, xs, b1, b2, b3, b4, b5, b6, b7, b8⟩ := r'.blk b _ L hg hL
        have hrow := HR.row rh L ha1 ha2 (r'.lt b L hL) (.cells t 0 cs) ⟨C, lo, hi, xs, b1, b2, b3, b4, plains_VRs hall b5, b6, b7, b8⟩
        obtain ⟨k1, k2⟩ := layOuts_plain (β'' := β.add h.next L) h2 (by simp [rowsN] at hr; exact hr) q (h.new (.cells t 0 cs))
        have hlay1 : (layOuts (Out.row t len sz cs :: os) h).1 = .us h.next 0 len sz :: (layOuts os (h.new (.cells t 0 cs))).1 := rfl
        have hlay2 : (layOuts (Out.row t len sz cs :: os) h).2 = (layOuts os (h.new (.cells t 0 cs))).2 := rfl
        refine ⟨β.add h.next L, ?_, ?_, ?_⟩
        · rw [hlay1]
          refine ⟨u, ur, e2, ⟨L, cap, ?_, hcap, hu⟩, k2⟩
          simp [Bij.add]
        · rw [hlay2, k1]; exact hrow.1
        · rw [hlay2, k1]; exact hrow.2
    · cases e

theorem layOut_ok {K' : Nat → Prop} {w1 : World} (rh : HR β ω K w0 h w') (r' : HR β' ω K' w1 h' w') (hap : Apart K h β h' β') {v : AV} {u : Value} {b : Bool} {l : List Out}
    (e : outOf h.next h' v = some (b, l)) (p : VR β' ω v u) : ∃ β'', VR β'' ω (layOut b l h).1 u ∧ HR β'' ω K w0 (layOut b l h).2 w' ∧ St h β (layOut b l h).2 β'' := by
  have one : ∀ {c : Bool} {m : List Out}, oneRow c m = some (b, l) → c = b ∧ m = l ∧ rowsN l ≤ 1 := by
    intro c m hh
    unfold oneRow at hh
    cases hc : Nat.ble (rowsN m) 1 with
    | false => rw [hc] at hh; cases hh
    | true =>
      rw [hc] at hh
      simp only [cond_true, Option.some.injEq, Prod.mk.injEq] at hh
      obtain ⟨rfl, rfl⟩ := hh
      exact ⟨rfl, rfl, ble_iff.1 hc⟩
  unfold outOf at e
  split at e
  · rename_i vs
    cases ho : outsOf h.next h' vs with
    | none => rw [ho] at e; cases e
    | some m =>
      rw [ho] at e
      obtain ⟨rfl, rfl, h1⟩ := one e
      obtain ⟨xs, rfl, q⟩ := p
      obtain ⟨β'', g1, g2, g3⟩ := layOuts_one rh r' hap ho h1 q
      exact ⟨β'', ⟨xs, rfl, g1⟩, g2, g3⟩
  · rename_i hnt
    cases ho : outsOf h.next h' [v] with
    | none => rw [ho] at e; cases e
    | some m =>
      rw [ho] at e
      obtain ⟨rfl, rfl, h1⟩ := one e
      obtain ⟨β'', g1, g2, g3⟩ := layOuts_one (vs := [v]) (us := [u]) rh r' hap ho h1 ⟨u, [], rfl, p, rfl⟩
      refine ⟨β'', ?_, g2, g3⟩
      obtain ⟨x, xr, e2, p2⟩ : ∃ a as, (layOuts m h).1 = a :: as ∧ VR β'' ω a u := by
        cases hh : (layOuts m h).1 with
        | nil => rw [hh] at g1; cases g1
        | cons a as =>
          rw [hh] at g1
          obtain ⟨y, yr, e3, p3, _⟩ := g1
          cases e3
          exact ⟨a, as, rfl, p3⟩
      show VR β'' ω ((layOuts m h).1.headD .undef) u
      rw [e2]; exact p2

/-- What a hook is asked for. -/
def HookOk (E : Env) (ω : Opq) : Prop := ∀ (f : FuncId) (args : List AV) (h : Heap) (v : AV) (h' : Heap), E.hook f args h = some (v, h') →
  ∀ (K : Nat → Prop) (w0 : World) (β : Bij) (w : World) (us : List Value), HR β ω K w0 h w → VRs β ω args us →
    Calls E.P f us.toArray w (fun e w' => ∃ u β', e = .returned u ∧ VR β' ω v u ∧ HR β' ω K w0 h' w' ∧ St h β h' β')

@[simp] theorem Heap.get_raise (h : Heap) (b : Nat) : h.raise.get b = h.get b := by cases h; rfl
@[simp] theorem Heap.next_raise (h : Heap) : h.raise.next = h.next := by cases h; rfl
@[simp] theorem Heap.wm_raise (h : Heap) : h.raise.wm = h.next := by cases h; rfl

theorem HR.raise (r : HR β ω K w0 h w) : HR β ω (· < w.heap.size) w h.raise w := by
  refine ⟨fun b x L hg hb => r.blk b x L (by simpa using hg) hb, fun b b' x x' L L' hg hg' => r.sep b b' x x' L L' (by simpa using hg) (by simpa using hg'), fun b hb => r.fresh b (by simpa using hb),
    fun b hb => by rw [Heap.get_raise]; exact r.fget b (by simpa using hb), r.lt, fun i hi => hi, fun i _ => rfl, ?_, Nat.le_refl _, rfl, rfl, rfl⟩
  intro b x L hg hw hb
  rw [Heap.wm_raise] at hw
  rw [r.fresh b hw] at hb; cases hb

theorem kOut_eq {n : Nat} {b : Bool} {l : List Out} {v : AV} (h1 : kOut n (some (b, l)) v h' = true) : outOf n h' v = some (b, l) := by
  simp only [kOut] at h1
  cases hx : outOf n h' v with
  | none => rw [hx] at h1; cases h1
  | some p =>
    rw [hx] at h1
    simp only [outEq, Bool.and_eq_true] at h1
    obtain ⟨c, m⟩ := p
    simp only at h1
    rw [outsBeq_eq h1.2]
    have := h1.1
    simp only [beq_iff_eq] at this
    rw [this]

/-- A call on the raised heap: what it leaves, laid on the heap as it was. -/
theorem raised_ok (r : HR β ω K w0 h w) (r' : HR β' ω (· < w.heap.size) w h' w') (s' : St h.raise β h' β') : HR β ω K w0 h w' ∧ Apart K h β h' β' := by
  refine ⟨r.later (fun i hi => r'.keep i hi) r'.size r'.os r'.tape r'.out, fun b L y hg hb hL => ?_⟩
  have hwm : h'.wm = h.next := s'.wm
  have hge : w.heap.size ≤ L.blk := by
    have := r'.free b _ L hg (by rw [hwm]; exact hb) hL
    omega
  refine ⟨fun b2 x M _ hM => ?_, fun hk => ?_⟩
  · have := r.lt b2 M hM; omega
  · have := Nat.lt_of_lt_of_le (r.kin _ hk) r.size; omega

theorem any_VRs : ∀ {n : Nat} {l : List Value}, l.length = n → VRs β ω (rep n [.any]) l
  | 0, [], _ => .nil
  | n + 1, v :: l, h => ⟨v, l, rfl, trivial, any_VRs (by simpa using h)⟩
theorem any_oneA : ∀ n : Nat, (rep n [AV.any]).all AV.oneA = true
  | 0 => rfl
  | n + 1 => any_oneA n
theorem any_length : ∀ n : Nat, (rep n [AV.any]).length = n
  | 0 => rfl
  | n + 1 => by show (rep n [AV.any]).length + 1 = n + 1; rw [any_length n]

/-- A row told anew, with so many cells behind it. -/
theorem BR.wide {L : Loc} {o : Option Obj} {e sz : Nat} {cs : List AV} (r : BR β ω L o (.cells e 0 cs)) (hs : cs.length + sz ≤ L.ext) : BR β ω L o (.cells e 0 (cs ++ rep sz [.any])) := by
  obtain ⟨C, lo, hi, vs, q1, q2, q3, q4, q5, q6, q7, q8⟩ := r
  have hl := q5.length
  have hlen : ((C.toList.drop (L.off + cs.length)).take sz).length = sz := by
    rw [List.length_take, List.length_drop, Array.length_toList]; omega
  refine ⟨C, lo, hi, vs ++ (C.toList.drop (L.off + cs.length)).take sz, q1, q2, by rw [List.length_append, any_length]; exact hs, by rw [List.all_append, q4, any_oneA]; rfl, q5.append (any_VRs hlen), fun i hi2 => ?_, q7, q8⟩
  rw [List.length_append, any_length] at hi2
  rcases Nat.lt_or_ge i cs.length with hlt | hge
  · rw [q6 i hlt, List.getElem?_append_left (by omega)]
  · rw [List.getElem?_append_right (by omega), List.getElem?_take, if_pos (by omega), List.getElem?_drop, Array.getElem?_toList]
    congr 1; omega

/-- The heap in which the row is the caller's own, with room behind it. -/
theorem HR.capH {b e sz : Nat} {cs : List AV} {L : Loc} (r : HR β ω K w0 h w) (hg : h.get b = some (.cells e 0 cs)) (hL : β b = some L) (hs : cs.length + sz ≤ L.ext) :
    HR (β.add h.next L) ω (fun i => i < w.heap.size ∧ i ≠ L.blk) w (capH h b e (cs ++ rep sz [.any])) w := by
  have hle : Le β (β.add h.next L) := by
    intro b' M hb
    simp only [Bij.add]
    by_cases e : b' = h.next
    · subst e; rw [r.fresh _ (Nat.le_refl _)] at hb; cases hb
    · rw [if_neg e]; exact hb
  have hget : ∀ z u, (Ev.capH h b e (cs ++ rep sz [.any])).get z = some u → z = h.next ∧ u = .cells e 0 (cs ++ rep sz [.any]) ∨ z ≠ h.next ∧ z ≠ b ∧ h.get z = some u := by
    intro z u hu
    simp only [Ev.capH] at hu
    rw [Heap.get_new] at hu
    simp only [Heap.next_raise, Heap.next_put, Heap.get_raise] at hu
    by_cases hz : z = h.next
    · rw [if_pos hz] at hu
      split at hu
      · simp only [Option.some.injEq] at hu; exact .inl ⟨hz, hu.symm⟩
      · cases hu
    · rw [if_neg hz, Heap.get_put] at hu
      by_cases hb : z = b
      · rw [if_pos hb] at hu; split at hu <;> cases hu
      · rw [if_neg hb] at hu; exact .inr ⟨hz, hb, hu⟩
  have hβ : ∀ z M, z ≠ h.next → (β.add h.next L) z = some M → β z = some M := by
    intro z M hz hM
    simp only [Bij.add] at hM; rwa [if_neg hz] at hM
  have hβ0 : ∀ M, (β.add h.next L) h.next = some M → M = L := by
    intro M hM
    rw [Bij.add_self, Option.some.injEq] at hM; exact hM.symm
  refine ⟨?_, ?_, ?_, ?_, ?_, fun i hi => hi.1, fun i _ => rfl, ?_, Nat.le_refl _, rfl, rfl, rfl⟩
  · intro z u M hu hM
    rcases hget z u hu with ⟨rfl, rfl⟩ | ⟨h1, h2, h3⟩
    · obtain rfl := hβ0 _ hM
      exact BR.wide ((r.blk b _ M hg hL).mono hle) hs
    · exact (r.blk z u M h3 (hβ z M h1 hM)).mono hle
  · intro z1 z2 u1 u2 M1 M2 g1 g2 m1 m2 hne
    rcases hget z1 u1 g1 with ⟨rfl, rfl⟩ | ⟨h1, h2, h3⟩
    · obtain rfl := hβ0 _ m1
      rcases hget z2 u2 g2 with ⟨rfl, rfl⟩ | ⟨k1, k2, k3⟩
      · exact absurd rfl hne
      · exact r.sep b z2 _ _ M1 M2 hg k3 hL (hβ z2 M2 k1 m2) (fun hh => k2 hh.symm)
    · rcases hget z2 u2 g2 with ⟨rfl, rfl⟩ | ⟨k1, k2, k3⟩
      · obtain rfl := hβ0 _ m2
        exact r.sep z1 b _ _ M1 M2 h3 hg (hβ z1 M1 h1 m1) hL h2
      · exact r.sep z1 z2 _ _ M1 M2 h3 k3 (hβ z1 M1 h1 m1) (hβ z2 M2 k1 m2) hne
  · intro z hz
    simp only [Ev.capH, Heap.next_new, Heap.next_raise, Heap.next_put] at hz
    simp only [Bij.add]; rw [if_neg (by omega)]; exact r.fresh z (by omega)
  · intro z hz
    simp only [Ev.capH, Heap.next_new, Heap.next_raise, Heap.next_put] at hz
    cases hu : (Ev.capH h b e (cs ++ rep sz [.any])).get z with
    | none => rfl
    | some u =>
      rcases hget z u hu with ⟨rfl, rfl⟩ | ⟨h1, h2, h3⟩
      · omega
      · rw [r.fget z (by omega)] at h3; cases h3
  · intro z M hM
    by_cases hz : z = h.next
    · subst hz
      obtain rfl := hβ0 _ hM
      exact r.lt b M hL
    · exact r.lt z M (hβ z M hz hM)
  · intro z u M hu hw hM hk
    rcases hget z u hu with ⟨rfl, rfl⟩ | ⟨h1, h2, h3⟩
    · obtain rfl := hβ0 _ hM
      exact hk.2 rfl
    · have hw : h.next ≤ z := hw
      rw [r.fget z hw] at h3; cases h3

/-- A call in that heap: what it leaves, laid on the heap without the row. -/
theorem wide_ok {b e sz : Nat} {cs : List AV} {L : Loc} (r : HR β ω K w0 h w) (hg : h.get b = some (.cells e 0 cs)) (hL : β b = some L) (hwm : h.wm ≤ b)
    (r' : HR β' ω (fun i => i < w.heap.size ∧ i ≠ L.blk) w h' w') (s' : St (capH h b e (cs ++ rep sz [.any])) (β.add h.next L) h' β') :
    HR β ω K w0 (h.put b none) w' ∧ Apart K (h.put b none) β h' β' := by
  have hlive : ∀ z u M, (h.put b none).get z = some u → β z = some M → M.blk < w.heap.size ∧ M.blk ≠ L.blk := by
    intro z u M hu hM
    rw [Heap.get_put] at hu
    by_cases hb : z = b
    · rw [if_pos hb] at hu; split at hu <;> cases hu
    · rw [if_neg hb] at hu
      exact ⟨r.lt z M hM, r.sep z b _ _ M L hu hg hM hL hb⟩
  have hkl : ∀ i, K i → i ≠ L.blk := fun i hi hh => r.free b _ L hg hwm hL (hh ▸ hi)
  refine ⟨HR.later2 (r.drop b).1 (fun z u M hu hM => r'.keep _ (hlive z u M hu hM)) (fun i hi => r'.keep _ ⟨Nat.lt_of_lt_of_le (r.kin i hi) r.size, hkl i hi⟩) r'.size r'.os r'.tape r'.out, fun z M u hu hz hM => ?_⟩
  have hw : h'.wm = h.next := s'.wm
  have hf := r'.free z u M hu (by rw [hw]; exact hz) hM
  refine ⟨fun z2 u2 M2 hu2 hM2 hh => ?_, fun hk => ?_⟩
  · have := hlive z2 u2 M2 hu2 hM2
    rw [hh] at this
    exact hf this
  · exact hf ⟨Nat.lt_of_lt_of_le (r.kin _ hk) r.size, hkl _ hk⟩

theorem cap2_ok {args : List AV} {c : Cap2} (e : cap2 args h = some c) : ∃ (len sz e : Nat) (k : IntKind) (i : Int) (rest cs : List AV), args = .us c.b 0 len sz :: .int k i :: rest ∧ h.get c.b = some (.cells e 0 cs) ∧ h.wm ≤ c.b ∧ cs.length = len * sz ∧ 0 < sz ∧
    c.full = .sl c.b 0 len len :: .int k i :: rest ∧ c.wide = .us h.next 0 len sz :: .int k i :: rest ∧ c.h = capH h c.b e (cs ++ rep sz [.any]) := by
  unfold cap2 at e
  split at e
  · rename_i b len sz k i rest
    split at e
    · rename_i el cs hg
      obtain ⟨hc, e⟩ := cond_some e
      obtain ⟨hc, h4⟩ := and_t hc
      obtain ⟨hc, h3⟩ := and_t hc
      obtain ⟨h1, h2⟩ := and_t hc
      rw [ble_iff] at h1
      rw [blt_iff] at h4
      simp only [Option.some.injEq] at e; subst e
      exact ⟨len, sz, el, k, _, rest, cs, rfl, hg, h1, by simpa using h2, h4, rfl, rfl, rfl⟩
    · cases e
  · cases e

theorem call_step (hk : HookOk E ω) {n : Nat} (hb : BodyS E ω n) : CallS E ω (n + 1) := by
  intro R A T hA f args h k he0 K w0 β w us r ra
  have he : T (hCall E (ev E n) A f args h k (E.hook f args h)) := he0
  clear he0
  cases hh : E.hook f args h with
  | some p =>
    rw [hh] at he
    refine Calls.mono (hk f args h p.1 p.2 hh K w0 β w us r ra) ?_
    rintro e w' ⟨u, β', rfl, h1, h2, h3⟩
    exact ⟨u, β', p.1, p.2, rfl, he, h1, h2, h3⟩
  | none =>
    rw [hh] at he
    simp only [hCall] at he
    cases ham : E.amb f with
    | false =>
      rw [ham] at he
      simp only [cond_false] at he
      cases hcp : E.caps f with
      | false =>
        rw [hcp] at he
        exact hb R A T hA f args h k he K w0 β w us r ra
      | true =>
        rw [hcp] at he
        simp only [cond_true] at he
        unfold cCall at he
        split at he
        · exact hb R A T hA f args h k he K w0 β w us r ra
        · rename_i c hc
          unfold cCall2 at he
          split at he
          · exact absurd he hA.bad
          · rename_i v0 h0 hopt
            unfold cCall3 at he
            split at he
            · exact absurd he hA.bad
            · rename_i b l hout
              cases hrun : (ev E n Bool boolAlg (.body f c.full h.raise (kOut h.next (some (b, l)))) && ev E n Bool boolAlg (.body f c.wide c.h (kOut h.next (some (b, l))))) with
              | false => rw [hrun] at he; exact absurd he hA.bad
              | true =>
                rw [hrun] at he
                simp only [cond_true, kLay] at he
                simp only [Bool.and_eq_true] at hrun
                obtain ⟨run1, run2⟩ := hrun
                obtain ⟨len, sz, el, kk, i, rest, cs, rfl, hg, hwm, hlen, hsz, hf, hw, hch⟩ := cap2_ok hc
                obtain ⟨u0, ur, rfl, p0, p1⟩ := ra
                simp only [VR] at p0
                obtain ⟨L, cap, hL, hcap, rfl⟩ := p0
                have hdrop := r.drop c.b
                have hext : cs.length ≤ L.ext := (r.cells hg hL).choose_spec.choose_spec.choose_spec.choose_spec.2.2.1
                have hlc : len ≤ cap := by
                  rw [hlen, ← hcap, Nat.zero_add] at hext
                  exact Nat.le_of_mul_le_mul_right hext hsz
                by_cases hfull : cap = len
                · subst hfull
                  refine Calls.mono (hb Bool boolAlg (· = true) (boolAlg_ok ω) f c.full h.raise _ run1 (· < w.heap.size) w β w _ r.raise (by rw [hf]; exact ⟨_, ur, rfl, ⟨L, hL, rfl⟩, p1⟩)) ?_
                  rintro e w' ⟨u, β', v, h', rfl, h1, h2, h3, h4⟩
                  obtain ⟨g1, g2⟩ := raised_ok r h3 h4
                  have hnx : (h.put c.b none).next = h.next := by simp
                  obtain ⟨β'', q1, q2, q3⟩ := layOut_ok (h := h.put c.b none) (g1.drop c.b).1 h3 (fun z M y hy hz hM => by
                    obtain ⟨a1, a2⟩ := g2 z M y hy (by rw [← hnx]; exact hz) hM
                    refine ⟨fun z2 x2 M2 hx2 hM2 => ?_, a2⟩
                    rw [Heap.get_put] at hx2
                    by_cases hb2 : z2 = c.b
                    · rw [if_pos hb2] at hx2; split at hx2 <;> cases hx2
                    · rw [if_neg hb2] at hx2; exact a1 z2 x2 M2 hx2 hM2) (by rw [hnx]; exact kOut_eq h1) h2
                  exact ⟨u, β'', _, _, rfl, he, q1, q2, hdrop.2.trans q3⟩
                · have hmul : (len + 1) * sz ≤ cap * sz := Nat.mul_le_mul_right _ (by omega)
                  have hs : cs.length + sz ≤ L.ext := by rw [hlen, ← hcap, Nat.zero_add]; rw [Nat.add_mul, Nat.one_mul] at hmul; exact hmul
                  have r1 := r.capH (e := el) hg hL hs
                  have hle : Le β (β.add h.next L) := by
                    intro b' M hb'
                    simp only [Bij.add]
                    by_cases e : b' = h.next
                    · subst e; rw [r.fresh _ (Nat.le_refl _)] at hb'; cases hb'
                    · rw [if_neg e]; exact hb'
                  rw [hch] at run2
                  refine Calls.mono (hb Bool boolAlg (· = true) (boolAlg_ok ω) f c.wide _ _ run2 _ w _ w _ r1 (by rw [hw]; exact ⟨_, ur, rfl, ⟨L, cap, by simp [Bij.add], hcap, rfl⟩, VRs.mono hle _ _ p1⟩)) ?_
                  rintro e w' ⟨u, β', v, h', rfl, h1, h2, h3, h4⟩
                  obtain ⟨g1, g2⟩ := wide_ok r hg hL hwm h3 h4
                  have hnx : (h.put c.b none).next = h.next := by simp
                  obtain ⟨β'', q1, q2, q3⟩ := layOut_ok (h := h.put c.b none) g1 h3 g2 (by rw [hnx]; exact kOut_eq h1) h2
                  exact ⟨u, β'', _, _, rfl, he, q1, q2, hdrop.2.trans q3⟩
    | true =>
      rw [ham] at he
      simp only [cond_true] at he
      unfold aCall2 at he
      split at he
      · exact absurd he hA.bad
      · rename_i v0 h0 hopt
        unfold aCall3 at he
        split at he
        · exact absurd he hA.bad
        · rename_i b l hout
          cases hrun : ev E n Bool boolAlg (.body f args h.raise (kOut h.next (some (b, l)))) with
          | false => rw [hrun] at he; exact absurd he hA.bad
          | true =>
            rw [hrun] at he
            simp only [cond_true, kLay] at he
            refine Calls.mono (hb Bool boolAlg (· = true) (boolAlg_ok ω) f args h.raise _ hrun (· < w.heap.size) w β w us r.raise ra) ?_
            rintro e w' ⟨u, β', v, h', rfl, h1, h2, h3, h4⟩
            obtain ⟨a1, a2⟩ := raised_ok r h3 h4
            obtain ⟨β'', g1, g2, g3⟩ := layOut_ok a1 h3 a2 (kOut_eq h1) h2
            exact ⟨u, β'', _, _, rfl, he, g1, g2, g3⟩

/-- The run is sound. -/
theorem run_ok {Ω : Opq → Prop} (hΩ : ∀ ω v0 l, Ω ω → Ω (ω.upd v0 l)) (hE : ∀ ω, Ω ω → E.Ok ω) (hk : ∀ ω, Ω ω → HookOk E ω) (hm : E.P.follows .mixedOrders = true) : ∀ n, ∀ ω, Ω ω → (∀ m, m ≤ n → GoS E ω m) ∧ BodyS E ω n ∧ LoopS E ω n ∧ OpsS E ω n ∧ DBodyS E ω n ∧ LeaveS E ω n
  | 0 => by
      intro ω hω
      refine ⟨fun m hm => ?_, ?_, ?_, ?_, ?_, ?_⟩
      · obtain rfl : m = 0 := by omega
        refine ⟨?_, ?_⟩
        · intro R A T hA f args h k he; exact absurd he hA.bad
        · intro R A T hA c a h k he; exact absurd he hA.bad
      · intro R A T hA f args h k he; exact absurd he hA.bad
      · intro R A T hA c a h k he; exact absurd he hA.bad
      · intro R A T hA ops rest i a h k _ he; exact absurd he hA.bad
      · intro R A T hA f args h k he; exact absurd he hA.bad
      · intro R A T hA fn a ds h k he; exact absurd he hA.bad
  | n + 1 => by
    intro ω hω
    have ih := run_ok hΩ hE hk hm n
    obtain ⟨hc, hb, hl, ho, hdb, hlv⟩ := ih ω hω
    have hcd : CodeS E ω n := (hc n (Nat.le_refl _)).2
    refine ⟨fun m hmn => ?_, body_step hcd hlv, loop_step hcd hl, ops_step (hE ω hω) (hc n (Nat.le_refl _)) ho, dbody_step hcd, leave_step (hE ω hω) hlv hdb⟩
    rcases Nat.lt_or_ge m (n + 1) with hlt | hge
    · exact hc m (by omega)
    · obtain rfl : m = n + 1 := by omega
      exact ⟨call_step (hk ω hω) hb, code_step hΩ hω (hE ω hω) hm hc (fun ω' h' => ((ih ω' h').1 n (Nat.le_refl _)).2) hl ho⟩

end Go.Ev
