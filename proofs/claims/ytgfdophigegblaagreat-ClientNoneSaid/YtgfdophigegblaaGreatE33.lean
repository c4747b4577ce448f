/- The evaluator: a run that leaves conditions; a closed call that answers true. -/
import Derived.Test.YtgfdophigegblaaGreatE32
set_option linter.unusedVariables false
set_option linter.unusedSimpArgs false
namespace Go.Ev
open Go

variable {E : Env} {ω : Opq}

/-- What a path's conditions are to the symbols. -/
def PcOk (ω : Opq) (pc : PC) : Prop := ∀ p ∈ pc, dB ω p.1 = p.2
def VC.Ok (ω : Opq) (v : VC) : Prop := PcOk ω v.pc → dB ω v.cl = true

theorem boolEq_eq (a b : Bool) : boolEq a b = (a == b) := by cases a <;> cases b <;> rfl
theorem lt_not_le (a b : Int) : decide (b ≤ a) = !decide (a < b) := by
  rw [Bool.eq_iff_iff]; simp
theorem canon_ok (e : SX) : dB ω e = (dB ω (canon e).1 == (canon e).2) := by
  unfold canon
  split
  · rename_i p l
    unfold canonC
    split <;> simp only [dB, den, dens, prim, Val.toB, cmpI, cmpS, beq_true, beq_false, Bool.not_not]
    · exact lt_not_le _ _
    · exact lt_not_le _ _
  · simp
theorem findA_ok {e : SX} {b : Bool} : ∀ {pc : PC}, PcOk ω pc → findA e pc = some b → dB ω e = b
  | [], _, h => by cases h
  | p :: r, hp, h => by
    simp only [findA] at h
    cases hc : SX.beq e p.1 with
    | true =>
      rw [hc] at h
      simp only [cond_true, Option.some.injEq] at h
      rw [SX.beq_eq _ _ hc, ← h]
      exact hp p (by simp)
    | false => rw [hc] at h; exact findA_ok (fun q hq => hp q (by simp [hq])) h
theorem findC_ok {c : SX × Bool} {b : Bool} {pc : PC} (hp : PcOk ω pc) (h : findC c pc = some b) : (dB ω c.1 == c.2) = b := by
  unfold findC at h
  split at h
  · rename_i b0 h0
    simp only [Option.some.injEq] at h
    rw [findA_ok hp h0, ← h, boolEq_eq]
  · cases h
theorem and_ok {a b : Option Bool} {x y r : Bool} (ha : ∀ z, a = some z → x = z) (hb : ∀ z, b = some z → y = z) (h : andO a b = some r) : (x && y) = r := by
  unfold andO at h
  split at h
  · rw [ha _ rfl]; simpa using h
  · rw [ha _ rfl, hb _ h]; simp
  · split at h
    · rw [hb _ rfl]; simpa using h
    · cases h
theorem or_ok {a b : Option Bool} {x y r : Bool} (ha : ∀ z, a = some z → x = z) (hb : ∀ z, b = some z → y = z) (h : orO a b = some r) : (x || y) = r := by
  unfold orO at h
  split at h
  · rw [ha _ rfl]; simpa using h
  · rw [ha _ rfl, hb _ h]; simp
  · split at h
    · rw [hb _ rfl]; simpa using h
    · cases h
theorem dB_or (a b : SX) : dB ω (.op .or [a, b]) = (dB ω a || dB ω b) := rfl
theorem dB_not1 (a : SX) : dB ω (.op .not [a]) = !dB ω a := rfl
theorem dB_ite (c a b : SX) : dB ω (.op .ite [c, a, b]) = bif dB ω c then dB ω a else dB ω b := by
  show Val.toB (bif (den ω c).toB then den ω a else den ω b) = _
  unfold dB
  cases (den ω c).toB <;> rfl
theorem known_ok {pc : PC} (hp : PcOk ω pc) : ∀ (n : Nat) (e : SX) (b : Bool), known pc n e = some b → dB ω e = b
  | 0, e, b, h => by cases h
  | n + 1, e, b, h => by
    have ih := known_ok hp n
    have h : knownS pc (known pc n) e = some b := h
    unfold knownS at h
    split at h
    · rename_i b0 h0
      simp only [Option.some.injEq] at h; subst h
      rw [canon_ok e]; exact findC_ok hp h0
    · unfold knownN at h
      split at h
      · simp only [Option.some.injEq] at h; subst h; rfl
      · rename_i p l
        unfold knownP at h
        split at h
        · rename_i a
          rw [dB_not1]
          unfold notO at h
          split at h
          · rename_i b0 h0
            simp only [Option.some.injEq] at h
            rw [ih _ _ h0, h]
          · cases h
        · rw [dB_and]; exact and_ok (ih _) (ih _) h
        · rw [dB_or]; exact or_ok (ih _) (ih _) h
        · rw [dB_ite]
          unfold iteO at h
          split at h
          · rename_i h0; rw [ih _ _ h0]; exact ih _ _ h
          · rename_i h0; rw [ih _ _ h0]; exact ih _ _ h
          · cases h
        · exact sure_ok h
      · cases h
theorem pc_append {a b : PC} (ha : PcOk ω a) (hb : PcOk ω b) : PcOk ω (a ++ b) := by
  intro p hp
  rcases List.mem_append.1 hp with h | h
  · exact ha p h
  · exact hb p h
theorem pc_nil : PcOk ω [] := fun p hp => by cases hp
theorem facts_ok : ∀ (n : Nat) (e : SX) (b : Bool), dB ω e = b → PcOk ω (facts n e b)
  | 0, e, b, h => pc_nil
  | n + 1, e, b, h => by
    have ih := facts_ok n
    show PcOk ω (factsS (facts n) e b)
    unfold factsS
    intro p hp
    rcases List.mem_cons.1 hp with rfl | hp
    · unfold factC
      have := canon_ok (ω := ω) e
      rw [h] at this
      rw [boolEq_eq]
      show dB ω (canon e).1 = ((canon e).2 == b)
      rw [this]
      cases dB ω (canon e).1 <;> cases (canon e).2 <;> rfl
    · refine (?_ : PcOk ω (factsN (facts n) e b)) p hp
      unfold factsN
      split
      · rename_i q l
        unfold factsP
        split
        · rename_i a
          refine ih _ _ ?_
          rw [dB_not1] at h; rw [← h, Bool.not_not]
        · cases b with
          | true => rw [dB_and, Bool.and_eq_true] at h; exact pc_append (ih _ _ h.1) (ih _ _ h.2)
          | false => exact pc_nil
        · cases b with
          | true => exact pc_nil
          | false => rw [dB_or, Bool.or_eq_false_iff] at h; exact pc_append (ih _ _ h.1) (ih _ _ h.2)
        · rename_i c x
          cases b with
          | true =>
            rw [dB_ite] at h
            cases hc : dB ω c with
            | true => rw [hc] at h; exact pc_append (ih _ _ hc) (ih _ _ h)
            | false => rw [hc] at h; cases h
          | false => exact pc_nil
        · rename_i c y _
          cases b with
          | true => exact pc_nil
          | false =>
            rw [dB_ite] at h
            cases hc : dB ω c with
            | true => rw [hc] at h; cases h
            | false => rw [hc] at h; exact pc_append (ih _ _ hc) (ih _ _ h)
        · exact pc_nil
      · exact pc_nil

def TVC (ω : Opq) (r : RVC) : Prop := ∃ pc vcs, PcOk ω pc ∧ r pc = some vcs ∧ ∀ v ∈ vcs, v.Ok ω
theorem joinO_some {a b : Option (List VC)} {l : List VC} (h : joinO a b = some l) : ∃ x y, a = some x ∧ b = some y ∧ l = x ++ y := by
  unfold joinO at h
  split at h
  · split at h
    · simp only [Option.some.injEq] at h; exact ⟨_, _, rfl, rfl, h.symm⟩
    · cases h
  · cases h
theorem vcAmb_ok {f : AV × Heap → RVC} {pc : PC} (hp : PcOk ω pc) : ∀ (l : List (AV × Heap)) (vcs : List VC), vcAmb f pc l = some vcs → (∀ v ∈ vcs, v.Ok ω) → ∀ x ∈ l, TVC ω (f x)
  | [], vcs, h, hv => fun x hx => by cases hx
  | a :: l, vcs, h, hv => by
    obtain ⟨x, y, h1, h2, rfl⟩ := joinO_some h
    intro z hz
    rcases List.mem_cons.1 hz with rfl | hz
    · exact ⟨pc, x, hp, h1, fun v hv' => hv v (by simp [hv'])⟩
    · exact vcAmb_ok hp l y h2 (fun v hv' => hv v (by simp [hv'])) z hz
theorem vcAlg_ok (ω : Opq) : AlgOk vcAlg (TVC ω) ω := by
  refine ⟨fun h => ?_, fun l f h => ?_, fun e x y h => ?_, fun e x h => ?_, fun hd body ks h => ?_⟩
  · obtain ⟨pc, vcs, _, h, _⟩ := h; cases h
  · obtain ⟨pc, vcs, hp, h, hv⟩ := h
    exact vcAmb_ok hp l vcs h hv
  · obtain ⟨pc, vcs, hp, h, hv⟩ := h
    have h : vcIte e x y pc (known pc 8 e) = some vcs := h
    unfold vcIte at h
    split at h
    · rename_i hk
      have := known_ok hp 8 e _ hk
      exact ⟨fun _ => ⟨pc, vcs, hp, h, hv⟩, fun hf => by rw [this] at hf; cases hf⟩
    · rename_i hk
      have := known_ok hp 8 e _ hk
      exact ⟨fun hf => by (rw [this] at hf; cases hf), fun _ => ⟨pc, vcs, hp, h, hv⟩⟩
    · obtain ⟨a, b, h1, h2, rfl⟩ := joinO_some h
      exact ⟨fun hd => ⟨_, a, pc_append (facts_ok 8 e _ hd) hp, h1, fun v hv' => hv v (by simp [hv'])⟩, fun hd => ⟨_, b, pc_append (facts_ok 8 e _ hd) hp, h2, fun v hv' => hv v (by simp [hv'])⟩⟩
  · obtain ⟨pc, vcs, hp, h, hv⟩ := h
    have h : vcNeed e x pc (known pc 8 e) = some vcs := h
    unfold vcNeed at h
    split at h
    · rename_i hk
      exact ⟨known_ok hp 8 e _ hk, pc, vcs, hp, h, hv⟩
    · obtain ⟨a, b, h1, h2, rfl⟩ := joinO_some h
      simp only [Option.some.injEq] at h1; subst h1
      have hd : dB ω e = true := hv ⟨pc, e⟩ (by simp) hp
      exact ⟨hd, _, b, pc_append (facts_ok 8 e _ hd) hp, h2, fun v hv' => hv v (by simp [hv'])⟩
  · obtain ⟨pc, vcs, _, h, _⟩ := h; cases h
theorem kVC_ok {v : AV} {h : Heap} (he : TVC ω (kVC v h)) : v = .bool true ∨ ∃ e, v = .obool e ∧ dB ω e = true := by
  obtain ⟨pc, vcs, hp, h, hv⟩ := he
  unfold kVC at h
  split at h
  · exact .inl rfl
  · simp only [Option.some.injEq] at h; subst h
    have := hv ⟨pc, .cb false⟩ (by simp) hp
    cases this
  · rename_i e
    split at h
    · rename_i hk
      exact .inr ⟨e, rfl, known_ok hp 8 e _ hk⟩
    · simp only [Option.some.injEq] at h; subst h
      exact .inr ⟨e, rfl, hv ⟨pc, e⟩ (by simp) hp⟩
  · cases h

noncomputable def runVC (E : Env) (n : Nat) (f : FuncId) (args : List AV) : Option (List VC) := ev E n RVC vcAlg (.call f args Heap.empty kVC) []
theorem runVC_ok (hE : ∀ ω, (∀ t, ω.fix t = fixT E.P t) → E.Ok ω) (hk : ∀ ω, (∀ t, ω.fix t = fixT E.P t) → HookOk E ω) (hω : ∀ t, ω.fix t = fixT E.P t) (hm : E.P.follows .mixedOrders = true) {n : Nat} {f : FuncId} {args : List AV} {us : List Value} {vcs : List VC}
    (he : runVC E n f args = some vcs) (hv : ∀ v ∈ vcs, v.Ok ω) (w : World) (ra : VRs (fun _ => none) ω args us) :
    Calls E.P f us.toArray w (fun e w' => e = .returned (.bool true) ∧ RowKit.Below w.heap.size w w') := by
  refine Calls.mono (((run_ok (Ω := fun ω => ∀ t, ω.fix t = fixT E.P t) (fun _ _ _ h => h) hE hk hm n ω hω).1 n (Nat.le_refl _)).1 RVC vcAlg (TVC ω) (vcAlg_ok ω) f args _ _ ⟨[], vcs, pc_nil, he, hv⟩ (· < w.heap.size) w _ w us (HR.start w) ra) ?_
  rintro e w' ⟨u, β', v, h', rfl, h1, h2, h3, h4⟩
  refine ⟨?_, h3.os, h3.tape, h3.out, h3.size, h3.keep⟩
  rcases kVC_ok h1 with rfl | ⟨e, rfl, hd⟩
  · rw [show u = .bool true from h2]
  · rw [show u = .bool (dB ω e) from h2, hd]

/-- A closed call that answers true, whatever the world. -/
theorem hookTrue_ok {W : FuncId} (hw : ∀ w : World, Calls E.P W #[] w (fun e w' => e = .returned (.bool true) ∧ RowKit.Below w.heap.size w w'))
    (hh : ∀ f args h r, E.hook f args h = some r → f = W ∧ args = [] ∧ r = (.bool true, h)) : HookOk E ω := by
  intro f args h v h' e K w0 β w us r ra
  obtain ⟨rfl, rfl, hr⟩ := hh f args h _ e
  simp only [Prod.mk.injEq] at hr
  obtain ⟨rfl, rfl⟩ := hr
  obtain rfl : us = [] := ra
  refine Calls.mono (hw w) ?_
  rintro e w' ⟨rfl, hb⟩
  exact ⟨_, β, rfl, rfl, r.later hb.block hb.size hb.os hb.tape hb.output, .refl _ _⟩

/-! ### Conditions told as propositions -/
theorem dec_true (p : Prop) (i : Decidable p) : @decide p i = true ↔ p := decide_eq_true_iff
theorem dec_false (p : Prop) (i : Decidable p) : @decide p i = false ↔ ¬ p := decide_eq_false_iff_not
theorem lss_t (a b : SX) : dB ω (.op (.cmp .lss) [a, b]) = true ↔ dI ω a < dI ω b := dec_true _ _
theorem lss_f (a b : SX) : dB ω (.op (.cmp .lss) [a, b]) = false ↔ dI ω b ≤ dI ω a := (dec_false _ _).trans Int.not_lt
theorem leq_t (a b : SX) : dB ω (.op (.cmp .leq) [a, b]) = true ↔ dI ω a ≤ dI ω b := dec_true _ _
theorem leq_f (a b : SX) : dB ω (.op (.cmp .leq) [a, b]) = false ↔ dI ω b < dI ω a := (dec_false _ _).trans Int.not_le
theorem gtr_t (a b : SX) : dB ω (.op (.cmp .gtr) [a, b]) = true ↔ dI ω b < dI ω a := dec_true _ _
theorem gtr_f (a b : SX) : dB ω (.op (.cmp .gtr) [a, b]) = false ↔ dI ω a ≤ dI ω b := (dec_false _ _).trans Int.not_lt
theorem geq_t (a b : SX) : dB ω (.op (.cmp .geq) [a, b]) = true ↔ dI ω b ≤ dI ω a := dec_true _ _
theorem geq_f (a b : SX) : dB ω (.op (.cmp .geq) [a, b]) = false ↔ dI ω a < dI ω b := (dec_false _ _).trans Int.not_le
theorem eql_t (a b : SX) : dB ω (.op (.cmp .eql) [a, b]) = true ↔ dI ω a = dI ω b := dec_true _ _
theorem eql_f (a b : SX) : dB ω (.op (.cmp .eql) [a, b]) = false ↔ ¬ dI ω a = dI ω b := dec_false _ _
theorem seql_t (a b : SX) : dB ω (.op (.scmp .eql) [a, b]) = true ↔ dS ω a = dS ω b := dec_true _ _
theorem seql_f (a b : SX) : dB ω (.op (.scmp .eql) [a, b]) = false ↔ ¬ dS ω a = dS ω b := dec_false _ _
theorem ite_t (c a b : SX) : dB ω (.op .ite [c, a, b]) = true ↔ (dB ω c = true ∧ dB ω a = true ∨ dB ω c = false ∧ dB ω b = true) := by
  rw [dB_ite]; cases dB ω c <;> simp
theorem ite_f (c a b : SX) : dB ω (.op .ite [c, a, b]) = false ↔ (dB ω c = true ∧ dB ω a = false ∨ dB ω c = false ∧ dB ω b = false) := by
  rw [dB_ite]; cases dB ω c <;> simp
theorem and_t' (a b : SX) : dB ω (.op .and [a, b]) = true ↔ (dB ω a = true ∧ dB ω b = true) := by rw [dB_and, Bool.and_eq_true]
theorem and_f' (a b : SX) : dB ω (.op .and [a, b]) = false ↔ (dB ω a = false ∨ dB ω b = false) := by rw [dB_and, Bool.and_eq_false_iff]
theorem or_t' (a b : SX) : dB ω (.op .or [a, b]) = true ↔ (dB ω a = true ∨ dB ω b = true) := by rw [dB_or, Bool.or_eq_true]
theorem or_f' (a b : SX) : dB ω (.op .or [a, b]) = false ↔ (dB ω a = false ∧ dB ω b = false) := by rw [dB_or, Bool.or_eq_false_iff]
theorem not_t' (a : SX) : dB ω (.op .not [a]) = true ↔ dB ω a = false := by rw [dB_not1]; simp
theorem not_f' (a : SX) : dB ω (.op .not [a]) = false ↔ dB ω a = true := by rw [dB_not1]; simp
theorem cb_t (x : Bool) : dB ω (.cb x) = x := rfl
theorem dI_conv (k : IntKind) (a : SX) : dI ω (.op (.conv k) [a]) = k.wrap (dI ω a) := rfl
theorem PcOk_cons (e : SX) (b : Bool) (pc : PC) : PcOk ω ((e, b) :: pc) ↔ (dB ω e = b ∧ PcOk ω pc) := by
  unfold PcOk
  rw [List.forall_mem_cons]
theorem PcOk_nil : PcOk ω [] ↔ True := ⟨fun _ => trivial, fun _ => pc_nil⟩
theorem wrap_u16 {x : Int} (h1 : 0 ≤ x) (h2 : x < 65536) : IntKind.u16.wrap x = x := by
  simp [IntKind.wrap, IntKind.bits, IntKind.signed]; omega

end Go.Ev
