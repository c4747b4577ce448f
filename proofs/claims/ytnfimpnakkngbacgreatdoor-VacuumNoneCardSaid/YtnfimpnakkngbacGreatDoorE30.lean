/- The evaluator: calls, and the run. -/
import Derived.Test.YtnfimpnakkngbacGreatDoorE29
set_option linter.unusedVariables false
set_option linter.unusedSimpArgs false
namespace Go.Ev
open Go

variable {E : Env} {ω : Opq} {K : Nat → Prop} {w0 w w' : World} {h h' : Heap} {β β' : Bij}

theorem outOf1_cases {n : Nat} {v : AV} {o : Out} (e : outOf1 n h' v = some o) : (plainCell v = true ∧ o = .plain v) ∨
    (∃ b len sz t cs, v = .us b 0 len sz ∧ n ≤ b ∧ h'.get b = some (.cells t 0 cs) ∧ cs.length = len * sz ∧ cs.all plainCell = true ∧ o = .row t len sz cs) := by
  unfold outOf1 at e
  split at e
  · rename_i b len sz
    cases hb : Nat.ble n b with
    | false => rw [hb] at e; cases e
    | true =>
      rw [hb] at e
      simp only [cond_true] at e
      split at e
      · rename_i t cs hg
        cases hc : (Nat.beq cs.length (len * sz) && cs.all plainCell) with
        | false => rw [hc] at e; cases e
        | true =>
          rw [hc] at e
          simp only [cond_true, Option.some.injEq] at e
          simp only [Bool.and_eq_true, Nat.beq_eq] at hc
          exact .inr ⟨b, len, sz, t, cs, rfl, ble_iff.1 hb, hg, hc.1, hc.2, e.symm⟩
      · cases e
  · cases hp : plainCell v with
    | false => rw [hp] at e; cases e
    | true => rw [hp] at e; simp only [cond_true, Option.some.injEq] at e; exact .inl ⟨rfl, e.symm⟩

theorem layOuts_plain {β'' : Bij} {n : Nat} : ∀ {vs : List AV} {us : List Value} {l : List Out}, outsOf n h' vs = some l → rowsN l = 0 → VRs β' ω vs us → ∀ h, (layOuts l h).2 = h ∧ VRs β'' ω (layOuts l h).1 us
  | [], us, l, e, hr, r, h => by
    simp only [outsOf, Option.some.injEq] at e; subst e
    exact ⟨rfl, r⟩
  | v :: vs, us, l, e, hr, ⟨u, ur, e2, p, q⟩, h => by
    simp only [outsOf] at e
    split at e
    · rename_i o os h1 h2
      simp only [Option.some.injEq] at e; subst e
      rcases outOf1_cases h1 with ⟨hp, rfl⟩ | ⟨b, len, sz, t, cs, rfl, _, _, _, _, rfl⟩
      · obtain ⟨g1, g2⟩ := layOuts_plain (β'' := β'') h2 (by simpa [rowsN] using hr) q h
        exact ⟨g1, u, ur, e2, plain_VR hp p, g2⟩
      · simp [rowsN] at hr
    · cases e

theorem layOuts_one (r : HR β ω K w0 h w) (r' : HR β' ω (· < w.heap.size) w h' w') (s' : St h.raise β h' β') : ∀ {vs : List AV} {us : List Value} {l : List Out},
    outsOf h.next h' vs = some l → rowsN l ≤ 1 → VRs β' ω vs us → ∃ β'', VRs β'' ω (layOuts l h).1 us ∧ HR β'' ω K w0 (layOuts l h).2 w' ∧ St h β (layOuts l h).2 β''
  | [], us, l, e, hr, ra => by
    simp only [outsOf, Option.some.injEq] at e; subst e
    exact ⟨β, ra, r.later (fun i hi => r'.keep i hi) r'.size r'.os r'.tape r'.out, .refl _ _⟩
  | v :: vs, us, l, e, hr, ⟨u, ur, e2, p, q⟩ => by
    simp only [outsOf] at e
    split at e
    · rename_i o os h1 h2
      simp only [Option.some.injEq] at e; subst e
      rcases outOf1_cases h1 with ⟨hp, rfl⟩ | ⟨b, len, sz, t, cs, rfl, hb, hg, hl, hall, rfl⟩
      · obtain ⟨β'', g1, g2, g3⟩ := layOuts_one r r' s' h2 (by simpa [rowsN] using hr) q
        exact ⟨β'', ⟨u, ur, e2, plain_VR hp p, g1⟩, g2, g3⟩
      · obtain ⟨L, cap, hL, hcap, hu⟩ := p
        have hwm : h'.wm = h.next := s'.wm
        have hge : w.heap.size ≤ L.blk := by
          have := r'.free b _ L hg (by rw [hwm]; exact hb) hL
          omega
        obtain ⟨C, lo, hi, xs, b1, b2, b3, b4, b5, b6, b7, b8⟩ := r'.blk b _ L hg hL
        have hrow := HR.row (r.later (fun i hi => r'.keep i hi) r'.size r'.os r'.tape r'.out) w.heap.size (fun b L hb => r.lt b L hb)
          (fun i hi => Nat.lt_of_lt_of_le (r.kin i hi) r.size) L hge (r'.lt b L hL) (.cells t 0 cs) ⟨C, lo, hi, xs, b1, b2, b3, b4, plains_VRs hall b5, b6, b7, b8⟩
        obtain ⟨k1, k2⟩ := layOuts_plain (β'' := β.add h.next L) h2 (by simp [rowsN] at hr; exact hr) q (h.new (.cells t 0 cs))
        have hlay1 : (layOuts (Out.row t len sz cs :: os) h).1 = .us h.next 0 len sz :: (layOuts os (h.new (.cells t 0 cs))).1 := rfl
        have hlay2 : (layOuts (Out.row t len sz cs :: os) h).2 = (layOuts os (h.new (.cells t 0 cs))).2 := rfl
        refine ⟨β.add h.next L, ?_, ?_, ?_⟩
        · rw [hlay1]
          refine ⟨u, ur, e2, ⟨L, cap, ?_, hcap, hu⟩, k2⟩
          simp [Bij.add]
        · rw [hlay2, k1]; exact hrow.1
        · rw [hlay2, k1]; exact hrow.2
    · cases e

theorem layOut_ok (r : HR β ω K w0 h w) (r' : HR β' ω (· < w.heap.size) w h' w') (s' : St h.raise β h' β') {v : AV} {u : Value} {b : Bool} {l : List Out}
    (e : outOf h.next h' v = some (b, l)) (p : VR β' ω v u) : ∃ β'', VR β'' ω (layOut b l h).1 u ∧ HR β'' ω K w0 (layOut b l h).2 w' ∧ St h β (layOut b l h).2 β'' := by
  have one : ∀ {c : Bool} {m : List Out}, oneRow c m = some (b, l) → c = b ∧ m = l ∧ rowsN l ≤ 1 := by
    intro c m hh
    unfold oneRow at hh
    cases hc : Nat.ble (rowsN m) 1 with
    | false => rw [hc] at hh; cases hh
    | true =>
      rw [hc] at hh
      simp only [cond_true, Option.some.injEq, Prod.mk.injEq] at hh
      obtain ⟨rfl, rfl⟩ := hh
      exact ⟨rfl, rfl, ble_iff.1 hc⟩
  unfold outOf at e
  split at e
  · rename_i vs
    cases ho : outsOf h.next h' vs with
    | none => rw [ho] at e; cases e
    | some m =>
      rw [ho] at e
      obtain ⟨rfl, rfl, h1⟩ := one e
      obtain ⟨xs, rfl, q⟩ := p
      obtain ⟨β'', g1, g2, g3⟩ := layOuts_one r r' s' ho h1 q
      exact ⟨β'', ⟨xs, rfl, g1⟩, g2, g3⟩
  · rename_i hnt
    cases ho : outsOf h.next h' [v] with
    | none => rw [ho] at e; cases e
    | some m =>
      rw [ho] at e
      obtain ⟨rfl, rfl, h1⟩ := one e
      obtain ⟨β'', g1, g2, g3⟩ := layOuts_one (vs := [v]) (us := [u]) r r' s' ho h1 ⟨u, [], rfl, p, rfl⟩
      refine ⟨β'', ?_, g2, g3⟩
      obtain ⟨x, xr, e2, p2⟩ : ∃ a as, (layOuts m h).1 = a :: as ∧ VR β'' ω a u := by
        cases hh : (layOuts m h).1 with
        | nil => rw [hh] at g1; cases g1
        | cons a as =>
          rw [hh] at g1
          obtain ⟨y, yr, e3, p3, _⟩ := g1
          cases e3
          exact ⟨a, as, rfl, p3⟩
      show VR β'' ω ((layOuts m h).1.headD .undef) u
      rw [e2]; exact p2

/-- What a hook is asked for. -/
def HookOk (E : Env) (ω : Opq) : Prop := ∀ (f : FuncId) (args : List AV) (h : Heap) (v : AV) (h' : Heap), E.hook f args h = some (v, h') →
  ∀ (K : Nat → Prop) (w0 : World) (β : Bij) (w : World) (us : List Value), HR β ω K w0 h w → VRs β ω args us →
    Calls E.P f us.toArray w (fun e w' => ∃ u β', e = .returned u ∧ VR β' ω v u ∧ HR β' ω K w0 h' w' ∧ St h β h' β')

@[simp] theorem Heap.get_raise (h : Heap) (b : Nat) : h.raise.get b = h.get b := by cases h; rfl
@[simp] theorem Heap.next_raise (h : Heap) : h.raise.next = h.next := by cases h; rfl
@[simp] theorem Heap.wm_raise (h : Heap) : h.raise.wm = h.next := by cases h; rfl

theorem HR.raise (r : HR β ω K w0 h w) : HR β ω (· < w.heap.size) w h.raise w := by
  refine ⟨fun b x L hg hb => r.blk b x L (by simpa using hg) hb, fun b b' x x' L L' hg hg' => r.sep b b' x x' L L' (by simpa using hg) (by simpa using hg'), fun b hb => r.fresh b (by simpa using hb),
    fun b hb => by rw [Heap.get_raise]; exact r.fget b (by simpa using hb), r.lt, fun i hi => hi, fun i _ => rfl, ?_, Nat.le_refl _, rfl, rfl, rfl⟩
  intro b x L hg hw hb
  rw [Heap.wm_raise] at hw
  rw [r.fresh b hw] at hb; cases hb

theorem call_step (hk : HookOk E ω) {n : Nat} (hb : BodyS E ω n) : CallS E ω (n + 1) := by
  intro R A T hA f args h k he K w0 β w us r ra
  have he : T (hCall E (ev E n) A f args h k (E.hook f args h)) := he
  cases hh : E.hook f args h with
  | some p =>
    rw [hh] at he
    refine Calls.mono (hk f args h p.1 p.2 hh K w0 β w us r ra) ?_
    rintro e w' ⟨u, β', rfl, h1, h2, h3⟩
    exact ⟨u, β', p.1, p.2, rfl, he, h1, h2, h3⟩
  | none =>
    rw [hh] at he
    simp only [hCall] at he
    cases ham : E.amb f with
    | false =>
      rw [ham] at he
      exact hb R A T hA f args h k he K w0 β w us r ra
    | true =>
      rw [ham] at he
      simp only [cond_true] at he
      unfold aCall2 at he
      split at he
      · exact absurd he hA.bad
      · rename_i v0 h0 hopt
        unfold aCall3 at he
        split at he
        · exact absurd he hA.bad
        · rename_i b l hout
          cases hrun : ev E n Bool boolAlg (.body f args h.raise (kOut h.next (some (b, l)))) with
          | false => rw [hrun] at he; exact absurd he hA.bad
          | true =>
            rw [hrun] at he
            simp only [cond_true, kLay] at he
            refine Calls.mono (hb Bool boolAlg (· = true) (boolAlg_ok ω) f args h.raise _ hrun (· < w.heap.size) w β w us r.raise ra) ?_
            rintro e w' ⟨u, β', v, h', rfl, h1, h2, h3, h4⟩
            have ho : outOf h.next h' v = some (b, l) := by
              simp only [kOut] at h1
              cases hx : outOf h.next h' v with
              | none => rw [hx] at h1; cases h1
              | some p =>
                rw [hx] at h1
                simp only [outEq, Bool.and_eq_true] at h1
                obtain ⟨c, m⟩ := p
                simp only at h1
                rw [outsBeq_eq h1.2]
                have := h1.1
                simp only [beq_iff_eq] at this
                rw [this]
            obtain ⟨β'', g1, g2, g3⟩ := layOut_ok r h3 h4 ho h2
            exact ⟨u, β'', _, _, rfl, he, g1, g2, g3⟩

/-- The run is sound. -/
theorem run_ok {Ω : Opq → Prop} (hΩ : ∀ ω v0 l, Ω ω → Ω (ω.upd v0 l)) (hE : ∀ ω, Ω ω → E.Ok ω) (hk : ∀ ω, Ω ω → HookOk E ω) (hm : E.P.follows .mixedOrders = true) : ∀ n, ∀ ω, Ω ω → (∀ m, m ≤ n → GoS E ω m) ∧ BodyS E ω n ∧ LoopS E ω n ∧ OpsS E ω n ∧ DBodyS E ω n ∧ LeaveS E ω n
  | 0 => by
      intro ω hω
      refine ⟨fun m hm => ?_, ?_, ?_, ?_, ?_, ?_⟩
      · obtain rfl : m = 0 := by omega
        refine ⟨?_, ?_⟩
        · intro R A T hA f args h k he; exact absurd he hA.bad
        · intro R A T hA c a h k he; exact absurd he hA.bad
      · intro R A T hA f args h k he; exact absurd he hA.bad
      · intro R A T hA c a h k he; exact absurd he hA.bad
      · intro R A T hA ops rest i a h k _ he; exact absurd he hA.bad
      · intro R A T hA f args h k he; exact absurd he hA.bad
      · intro R A T hA fn a ds h k he; exact absurd he hA.bad
  | n + 1 => by
    intro ω hω
    have ih := run_ok hΩ hE hk hm n
    obtain ⟨hc, hb, hl, ho, hdb, hlv⟩ := ih ω hω
    have hcd : CodeS E ω n := (hc n (Nat.le_refl _)).2
    refine ⟨fun m hmn => ?_, body_step hcd hlv, loop_step hcd hl, ops_step (hE ω hω) (hc n (Nat.le_refl _)) ho, dbody_step hcd, leave_step (hE ω hω) hlv hdb⟩
    rcases Nat.lt_or_ge m (n + 1) with hlt | hge
    · exact hc m (by omega)
    · obtain rfl : m = n + 1 := by omega
      exact ⟨call_step (hk ω hω) hb, code_step hΩ hω (hE ω hω) hm hc (fun ω' h' => ((ih ω' h').1 n (Nat.le_refl _)).2) hl ho⟩

end Go.Ev
