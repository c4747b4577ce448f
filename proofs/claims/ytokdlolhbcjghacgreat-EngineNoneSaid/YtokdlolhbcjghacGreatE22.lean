/- The evaluator: a region that draws its order. -/
import Derived.Test.YtokdlolhbcjghacGreatE21
set_option linter.unusedVariables false
set_option linter.unusedSimpArgs false
namespace Go.Ev
open Go

variable {E : Env} {β : Bij} {ω : Opq} {K : Nat → Prop} {w0 w : World} {h h' : Heap}

/-- What a run of calls is asked for. -/
def CallS (E : Env) (ω : Opq) (n : Nat) : Prop := ∀ (f : FuncId) (args : List AV) (h : Heap) (k : AV → Heap → Bool), ev E n Bool boolAlg (.call f args h k) = true →
  ∀ (K : Nat → Prop) (w0 : World) (β : Bij) (w : World) (us : List Value), HR β ω K w0 h w → VRs β ω args us →
    Calls E.P f us.toArray w (fun e w' => ∃ u β' v h', e = .returned u ∧ k v h' = true ∧ VR β' ω v u ∧ HR β' ω K w0 h' w' ∧ St h β h' β')

/-- An operation of the order in which it stands. -/
theorem upon_val {o : Oper} {act : Act} {next : Act → World → Prop} {Q : Exit → Act → World → Prop} {v : AV} (hs : SVal E β ω K w0 w h (execOp act.eval o) v h')
    (hk : ∀ β' u w', VR β' ω v u → HR β' ω K w0 h' w' → St h β h' β' → next (act.put o.dst u) w') : o.wp E.P act w next Q := by
  obtain ⟨β', u, w', hr, hv, hh, hst⟩ := hs
  unfold Oper.wp
  rcases hr with hr | ⟨rfl, hr⟩
  · rw [hr]; exact hk β' u w' hv hh hst
  · rw [hr]; exact hk β' _ w' hv hh hst

theorem go_wp {n : Nat} (hc : CallS E ω n) {o : Oper} {act : Act} {next : Act → World → Prop} {Q : Exit → Act → World → Prop} {k' : AV → Heap → Bool} {res : Res} (r : HR β ω K w0 h w)
    (hs : SOk E β ω K w0 w h (execOp act.eval o) res) (he : evGo (ev E n) boolAlg h k' res = true)
    (hk : ∀ β' v u h' w', k' v h' = true → VR β' ω v u → HR β' ω K w0 h' w' → St h β h' β' → next (act.put o.dst u) w') : o.wp E.P act w next Q := by
  cases res with
  | val v h' => exact upon_val hs fun β' u w' hv hh hst => hk β' v u h' w' he hv hh hst
  | enter f args =>
    obtain ⟨us, hr, ra⟩ := hs
    unfold Oper.wp
    rw [hr]
    rw [Oper.upon_enter]
    refine Calls.mono (hc f args h k' he K w0 β w us r ra) ?_
    rintro e w' ⟨u, β', v, h', rfl, h1, h2, h3, h4⟩
    exact hk β' v u h' w' h1 h2 h3 h4
  | choice l =>
    obtain ⟨x, hx, hv⟩ := hs
    have := List.all_eq_true.1 he x hx
    exact upon_val hv fun β' u w' hv hh hst => hk β' x.1 u x.2 w' this hv hh hst
  | bad => cases he

/-- Only the operands matter. -/
theorem stepOp_okX (hE : E.Ok ω) {ρA : Operand → Option AV} {ρ : Operand → Value} (r : HR β ω K w0 h w) (o : Oper) (ro : ∀ x ∈ o.op.operands, ∀ a, ρA x = some a → VR β ω a (ρ x)) :
    SOk E β ω K w0 w h (execOp ρ o) (stepOp E ρA o h) := by
  classical
  rw [stepOp_congr (ρ := ρA) (ρ' := fun x => if x ∈ o.op.operands then ρA x else none) o (fun x hx => by simp only [hx, if_true]) h]
  refine stepOp_ok hE r (fun x a e => ?_) o
  split at e
  · rename_i hx; exact ro x hx a e
  · cases e

theorem HR.lay (r : HR β ω K w0 h w) (x : Blk) : HR β ω K w0 (h.new x) w := by
  have hn : ∀ b y, (h.new x).get b = some y → β b ≠ none → h.get b = some y := by
    intro b y hg hb
    rw [Heap.get_new] at hg
    by_cases e : b = h.next
    · subst e; exact absurd (r.fresh _ (Nat.le_refl _)) hb
    · rw [if_neg e] at hg; exact hg
  refine ⟨fun b y L hg hb => r.blk b y L (hn b y hg (by rw [hb]; simp)) hb, fun b b' y y' L L' g g' m m' hne => r.sep b b' y y' L L' (hn b y g (by rw [m]; simp)) (hn b' y' g' (by rw [m']; simp)) m m' hne,
    fun b hb => r.fresh b (by simp only [Heap.next_new] at hb; omega), fun b hb => ?_, r.lt, r.kin, r.keep, fun b y L hg hw hb => r.free b y L (hn b y hg (by rw [hb]; simp)) hw hb, r.size, r.os, r.tape, r.out⟩
  simp only [Heap.next_new] at hb
  rw [Heap.get_new, if_neg (by omega)]; exact r.fget b (by omega)

/-! ### Bits -/
theorem bit_or (done i j : Nat) : (done ||| 2 ^ i).testBit j = true ↔ done.testBit j = true ∨ j = i := by
  rw [Nat.testBit_or, Bool.or_eq_true, Nat.testBit_two_pow, decide_eq_true_eq]
  exact ⟨fun h => orMap id Eq.symm h, fun h => orMap id Eq.symm h⟩
theorem bits_sub {m done : Nat} (h : Nat.beq (m &&& done) m = true) (j : Nat) (hj : m.testBit j = true) : done.testBit j = true := by
  rw [beq_iff'] at h
  rw [← h, Nat.testBit_and, Bool.and_eq_true] at hj
  exact hj.2
theorem bits_beq {m done : Nat} (h : ∀ j, m.testBit j = true → done.testBit j = true) : Nat.beq (m &&& done) m = true := by
  rw [beq_iff']
  apply Nat.eq_of_testBit_eq
  intro j
  rw [Nat.testBit_and]
  cases hj : m.testBit j with
  | false => rfl
  | true => rw [h j hj]; rfl
theorem eager_out : ∀ (rest : List PO) (done : Nat), eager done rest = true → ∀ x ∈ rest, done.testBit x.i = false
  | [], _, _, x, hx => by cases hx
  | y :: r, done, h, x, hx => by
    simp only [eager, Bool.and_eq_true, Bool.not_eq_true'] at h
    obtain ⟨⟨⟨h1, h2⟩, h3⟩, h4⟩ := h
    cases hx with
    | head => exact h2
    | tail _ hx =>
      have := eager_out r _ h4 x hx
      cases hh : done.testBit x.i with
      | false => rfl
      | true => rw [(bit_or done y.i x.i).2 (.inl hh)] at this; cases this

/-! ### The invariant -/
section
variable (E ω K w0) (ops : Array Oper) (l : List PO) (hs : Heap) (βs : Bij)

/-- A float that the evaluator has run and the machine has not. -/
def FSq (a : Fr) (h : Heap) (pend : List Pend) (bid : Nat → Nat) (β : Bij) (x : PO) : Prop :=
  (wantedE ops.toList a x.o = some false ∧ ∀ d, x.o.dst = some d → d < a.nt → a.slot d = .undef) ∨
  (wantedE ops.toList a x.o = some true ∧ ∃ v, (∀ d, x.o.dst = some d → d < a.nt → a.slot d = v) ∧ (∃ p ∈ pend, p.i = x.i ∧ p.o = x.o ∧ p.v = v) ∧
    ((isAlloc x.o = false ∧ stepOp E a.ev x.o h = .val v h) ∨
     (isAlloc x.o = true ∧ ∃ mk blk, AllocA E a.ev x.o mk blk ∧ v = mk (bid x.i) ∧ hs.next ≤ bid x.i ∧ bid x.i < h.next ∧ β (bid x.i) = none ∧ (h.get (bid x.i) = some blk ∨ h.get (bid x.i) = none))))

def Lis (listed : Array Bool) (i : Nat) : Prop := listed.getD i false = true

structure DI (done : Nat) (rest : List PO) (pend : List Pend) (a : Fr) (h : Heap) (bid : Nat → Nat) (listed : Array Bool) (β : Bij) (act : Act) (w : World) : Prop where
  hr : HR β ω K w0 h w
  st : St hs βs h β
  lsz : listed.size = ops.size
  cd : ∀ x ∈ l, Lis listed x.i → done.testBit x.i = true
  cm : ∀ x ∈ l, Lis listed x.i → ∀ j, x.m.testBit j = true → Lis listed j
  dm : ∀ x ∈ l, done.testBit x.i = true → ∀ j, x.m.testBit j = true → done.testBit j = true
  eg : eager done rest = true
  rl : ∀ x ∈ rest, x ∈ l
  rd : ∀ x ∈ l, done.testBit x.i = false → x ∈ rest
  fr : FrP β ω (fun t => ∃ x ∈ l, done.testBit x.i = true ∧ ¬ Lis listed x.i ∧ x.o.dst = some t ∧ t < a.nt) a act
  fl : ∀ x ∈ l, done.testBit x.i = true → ¬ Lis listed x.i → x.fl = true ∧ FSq E ops hs a h pend bid β x
  inj : ∀ x ∈ l, ∀ y ∈ l, done.testBit x.i = true → ¬ Lis listed x.i → done.testBit y.i = true → ¬ Lis listed y.i → isAlloc x.o = true → isAlloc y.o = true →
    wantedE ops.toList a x.o = some true → wantedE ops.toList a y.o = some true → x ≠ y → bid x.i ≠ bid y.i
end

theorem lis_set {listed : Array Bool} {i j : Nat} (hi : i < listed.size) : Lis (listed.setIfInBounds i true) j ↔ Lis listed j ∨ j = i := by
  unfold Lis
  simp only [Array.getD_eq_getD_getElem?, Array.getElem?_setIfInBounds]
  by_cases e : i = j
  · subst e; simp [hi]
  · rw [if_neg e]; simp [Ne.symm e]

/-- Slots that an operation does not look at. -/
theorem readsOf_operand {ops : List Oper} {o : Oper} {t : Nat} (h : Operand.tmp t ∈ o.op.operands) : t ∈ readsOf ops o := by
  unfold readsOf
  refine List.mem_append_left _ (List.mem_flatMap.2 ⟨.tmp t, by simpa using h, by simp [slotOf]⟩)
theorem readsOf_guard {ops : List Oper} {o g : Oper} {j : Nat} {want : Bool} {d : Tmp} (h : o.guard = some (j, want)) (hj : ops[j]? = some g) (hd : g.dst = some d) : d ∈ readsOf ops o := by
  unfold readsOf
  refine List.mem_append_right _ ?_
  rw [h]; simp [hj, hd]

theorem ev_put {a : Fr} (hl : a.nt ≤ 256) {dst : Option Tmp} {v : AV} {x : Operand} (hx : ∀ t, x = .tmp t → dst ≠ some t) : (a.put dst v).ev x = a.ev x := by
  cases x with
  | tmp t => simp only [Fr.ev]; rw [Fr.put_slot hl, if_neg (fun hh => hx t rfl hh.1)]
  | _ => rfl
theorem wanted_put {ops : List Oper} {a : Fr} (hl : a.nt ≤ 256) {dst : Option Tmp} {v : AV} {o : Oper} (hx : ∀ d ∈ readsOf ops o, dst ≠ some d) : wantedE ops (a.put dst v) o = wantedE ops a o := by
  unfold wantedE
  split
  · rfl
  · rename_i j want hg
    cases hd : (ops[j]?).bind (·.dst) with
    | none => rfl
    | some d =>
      obtain ⟨g, g1, g2⟩ := Option.bind_eq_some_iff.1 hd
      simp only []
      rw [Fr.put_nt, Fr.put_slot hl, if_neg (fun hh => hx d (readsOf_guard hg g1 g2) hh.1)]
theorem step_put {ops : List Oper} {a : Fr} (hl : a.nt ≤ 256) {dst : Option Tmp} {v : AV} {o : Oper} (hx : ∀ d ∈ readsOf ops o, dst ≠ some d) (h : Heap) : stepOp E (a.put dst v).ev o h = stepOp E a.ev o h :=
  stepOp_congr o (fun x hm => ev_put hl fun t ht => hx t (readsOf_operand (ht ▸ hm))) h

end Go.Ev
