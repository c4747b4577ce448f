/- The evaluator: code, loops, calls. -/
import Derived.Test.YtnfimpnakkngbadGreatDoorE26d
import Derived.Scope
import Derived.RangeFuncLeaves
set_option linter.unusedVariables false
set_option linter.unusedSimpArgs false
namespace Go.Ev
open Go

variable {E : Env} {ω : Opq}

/-- A loop that is under way. -/
def LoopAt (F : Fence) (P : Program) (c : Code) (Q : Exit → Act → World → Prop) (a : Act) (w : World) : Prop :=
  ∀ (b : Frame) (k : List Item) (cs : List Frame), b.roundOf = F.round → F.fn b.fn → F.room (cs.length + 1 + 0) →
    ∃ e a' w', Q e a' w' ∧ ArrivesIn (Machine.fenced P F) P (lone (b.atR a (.code c :: .inLoop c :: k)) cs w) b k cs e a' w'
theorem loopAt_wp {F : Fence} {P : Program} {c : Code} {Q : Exit → Act → World → Prop} {a : Act} {w : World} (h : LoopAt F P c Q a w) : (Code.loop c).wpIn F 0 P Q a w := by
  intro b k cs hro hb hr
  obtain ⟨e, a', w', hq, harr⟩ := h b k cs hro hb hr
  exact ⟨e, a', w', hq, .of_steps (.one (fenced_calm hb hr rfl) stepR_loop) harr⟩
theorem loopAt_round {F : Fence} {P : Program} {c : Code} {Q : Exit → Act → World → Prop} {a : Act} {w : World} (h : c.wpIn F 0 P (Exit.then (LoopAt F P c Q) Q) a w) : LoopAt F P c Q a w := by
  intro b k cs hro hb hr
  obtain ⟨e, a₁, w₁, hq, harr⟩ := h b (.inLoop c :: k) cs hro hb hr
  cases e with
  | normal =>
    obtain ⟨e₂, a₂, w₂, hq₂, harr₂⟩ := hq b k cs hro hb hr
    exact ⟨e₂, a₂, w₂, hq₂, .of_steps (StepsIn.trans harr (.one (fenced_calm hb hr rfl) stepR_inLoop)) harr₂⟩
  | exit id => exact ⟨_, a₁, w₁, hq, .pass (x := .inLoop c) rfl (fun _ _ => .inl (by simp)) harr⟩
  | goto l => exact ⟨_, a₁, w₁, hq, .pass (x := .inLoop c) rfl (fun _ _ => .inl (by simp)) harr⟩
  | ret => exact ⟨_, a₁, w₁, hq, .pass (x := .inLoop c) rfl (fun _ _ => .inl (by simp)) harr⟩
  | panic ch => exact ⟨_, a₁, w₁, hq, .pass (x := .inLoop c) rfl (fun _ _ => .inl (by simp)) harr⟩
  | outgrown => exact ⟨_, a₁, w₁, hq, .pass (x := .inLoop c) rfl (fun _ _ => .inl (by simp)) harr⟩

section scope
variable {P : Program} {b : Frame} {a : Act} {k : List Item} {cs : List Frame} {w : World}
theorem stepR_scope {c : Code} : step P (lone (b.atR a (.code (.scope c) :: k)) cs w) = .next (lone (b.atR a (.code c :: .inScope c :: k)) cs w) :=
  step_lone_go (by simp [stepG, stepG.exec, Frame.atR])
theorem stepR_inScope {c : Code} : step P (lone (b.atR a (.inScope c :: k)) cs w) = .next (lone (b.atR a k) cs w) :=
  step_lone_go (by simp [stepG, stepG.exec, Frame.atR])
theorem wpIn_scope {F : Fence} {n : Nat} {Q : Exit → Act → World → Prop} {c : Code} (h : c.wpIn F n P (Exit.noGoto Q) a w) : (Code.scope c).wpIn F n P Q a w := by
  intro b k cs hro hb hr
  have h0 : (lone (b.atR a (.code (.scope c) :: k)) cs w).fenced P F := fenced_calm hb hr rfl
  obtain ⟨e, a₁, w₁, hq, harr⟩ := h b (.inScope c :: k) cs hro hb hr
  cases e with
  | normal => exact ⟨.normal, a₁, w₁, hq, .head h0 stepR_scope (StepsIn.trans harr (.one (fenced_calm hb hr rfl) stepR_inScope))⟩
  | exit id =>
    have hx : exitTo id (.inScope c :: k) = exitTo id k := by simp [exitTo]
    exact ⟨.exit id, a₁, w₁, hq, fun k' hk => .head h0 stepR_scope (harr.1 k' (by rw [hx]; exact hk)),
      fun hr' hk => let ⟨k₁, h1, h2⟩ := harr.2 hr' (by rw [hx]; exact hk); ⟨k₁, h1, .head h0 stepR_scope h2⟩⟩
  | goto l => exact hq.elim
  | ret => exact ⟨_, a₁, w₁, hq, .of_steps (.one h0 stepR_scope) harr⟩
  | panic ch => exact ⟨_, a₁, w₁, hq, .of_steps (.one h0 stepR_scope) harr⟩
  | outgrown => exact ⟨_, a₁, w₁, hq, .of_steps (.one h0 stepR_scope) harr⟩
end scope

def LoopS (E : Env) (ω : Opq) (n : Nat) : Prop := ∀ (R : Type) (A : Alg R) (T : R → Prop), AlgOk A T ω → ∀ (c : Code) (a : Fr) (h : Heap) (k : Ex → Fr → Heap → R), T (ev E n R A (.loop c a h k)) →
  ∀ (K : Nat → Prop) (w0 : World) (β : Bij) (act : Act) (w : World) (ro : Option Nat) (Q : Exit → Act → World → Prop), HR β ω K w0 h w → FrR β ω a act → RoR β a.ro ro → KOk T ω K w0 h β a.ro k Q → LoopAt (Fen ro) E.P c Q act w
def OpsS (E : Env) (ω : Opq) (n : Nat) : Prop := ∀ (R : Type) (A : Alg R) (T : R → Prop), AlgOk A T ω → ∀ (ops : Array Oper) (rest : List Oper) (i : Nat) (a : Fr) (h : Heap) (k : Fr → Heap → R), ops.toList.drop i = rest → T (ev E n R A (.ops ops.toList rest a h k)) →
  ∀ (K : Nat → Prop) (w0 : World) (β : Bij) (act : Act) (w : World) (ro : Option Nat) (Q : Exit → Act → World → Prop), HR β ω K w0 h w → FrR β ω a act → RoR β a.ro ro →
    (∀ a' h' β' act' w', T (k a' h') → FrR β' ω a' act' → HR β' ω K w0 h' w' → St h β h' β' → Q .normal act' w') → wpOpsIn (Fen ro) 0 E.P ops Q (List.range' i rest.length) act w
def BodyS (E : Env) (ω : Opq) (n : Nat) : Prop := ∀ (R : Type) (A : Alg R) (T : R → Prop), AlgOk A T ω → ∀ (f : FuncId) (args : List AV) (h : Heap) (k : AV → Heap → R), T (ev E n R A (.body f args h k)) →
  ∀ (K : Nat → Prop) (w0 : World) (β : Bij) (w : World) (us : List Value), HR β ω K w0 h w → VRs β ω args us →
    Calls E.P f us.toArray w (fun e w' => ∃ u β' v h', e = .returned u ∧ T (k v h') ∧ VR β' ω v u ∧ HR β' ω K w0 h' w' ∧ St h β h' β')
def DBodyS (E : Env) (ω : Opq) (n : Nat) : Prop := ∀ (R : Type) (A : Alg R) (T : R → Prop), AlgOk A T ω → ∀ (f : FuncId) (args : List AV) (h : Heap) (k : AV → Heap → R), T (ev E n R A (.dbody f args h k)) →
  ∀ (K : Nat → Prop) (w0 : World) (β : Bij) (w : World) (us : List Value) (m : FrameMode), HR β ω K w0 h w → VRs β ω args us →
    CallsDIn Fence.wide 0 E.P f us.toArray m w (fun e m' w' => m' = m ∧ ∃ u β' v h', e = .returned u ∧ T (k v h') ∧ VR β' ω v u ∧ HR β' ω K w0 h' w' ∧ St h β h' β')
def LeaveS (E : Env) (ω : Opq) (n : Nat) : Prop := ∀ (R : Type) (A : Alg R) (T : R → Prop), AlgOk A T ω → ∀ (fn : Func) (a : Fr) (ds : List ADef) (h : Heap) (k : AV → Heap → R), T (ev E n R A (.leave fn.results.toList a ds h k)) →
  ∀ (K : Nat → Prop) (w0 : World) (β : Bij) (act : Act) (w : World) (dd : List Deferred), HR β ω K w0 h w → FrR β ω a act → DsR β ω ds dd →
    LeavesInM Fence.wide 0 E.P fn act.tmps (fun e w' => ∃ u β' v h', e = .returned u ∧ T (k v h') ∧ VR β' ω v u ∧ HR β' ω K w0 h' w' ∧ St h β h' β') dd .returning w

theorem FrP.put' {β : Bij} {a : Fr} {act : Act} (f : FrR β ω a act) (dst : Option Tmp) {v : AV} {u : Value} (r : VR β ω v u) : FrR β ω (a.put dst v) (act.put dst u) :=
  (FrP.put f dst r).weaken fun _ hh => hh.1

/-! ### Operations in the order of the text -/
theorem ops_step (hE : E.Ok ω) {n : Nat} (hc : GoS E ω n) (ho : OpsS E ω n) : OpsS E ω (n + 1) := by
  intro R A T hA ops rest i a h k hdrop he K w0 β act w ro Q r f hR hk
  cases rest with
  | nil => exact hk a h β act w he f r (.refl _ _)
  | cons o rest =>
    have hlt : i < ops.toList.length := by
      rcases Nat.lt_or_ge i ops.toList.length with hh | hh
      · exact hh
      · rw [List.drop_eq_nil_of_le hh] at hdrop; cases hdrop
    have hcons := List.drop_eq_getElem_cons hlt
    rw [hdrop] at hcons
    obtain ⟨e1, e2⟩ := List.cons.inj hcons
    have hoi : ops[i]? = some o := by rw [e1]; simp at hlt; simp [hlt]
    have hd2 : ops.toList.drop (i + 1) = rest := e2.symm
    have he : T (oWant E (ev E n) A ops.toList rest o a h k (wantedE ops.toList a o)) := he
    cases hw : wantedE ops.toList a o with
    | none =>
      rw [hw] at he
      replace he : T (oBranch (ev E n) A ops.toList (o :: rest) a h k (wantS ops.toList a o)) := he
      cases hs : wantS ops.toList a o with
      | none => rw [hs] at he; exact absurd he hA.bad
      | some e =>
        rw [hs] at he
        obtain ⟨h1, h2⟩ := hA.ite _ _ _ he
        cases hd : dB ω e with
        | true => exact ho R A T hA ops (o :: rest) i _ h k hdrop (h1 hd) K w0 β act w ro Q r (f.cond hd) (by rw [Fr.cond_ro]; exact hR) hk
        | false => exact ho R A T hA ops (o :: rest) i _ h k hdrop (h2 hd) K w0 β act w ro Q r (f.cond hd) (by rw [Fr.cond_ro]; exact hR) hk
    | some b =>
      rw [hw] at he
      simp only [List.length_cons, List.range'_succ]
      show (match ops[i]? with
        | none => _
        | some o => _)
      rw [hoi]
      simp only []
      rw [wantedR_ok f rfl hw]
      cases b with
      | false =>
        simp only [Bool.false_eq_true, if_false]
        exact ⟨fun _ _ => trivial, ho R A T hA ops rest (i + 1) _ h k hd2 he K w0 β _ w ro Q r (f.put' o.dst ⟨#[], rfl, rfl⟩) (by rw [Fr.put_ro]; exact hR) hk⟩
      | true =>
        simp only [if_true]
        have fin : ∀ res, stepOp E a.ev o h = res → SOk E β ω K w0 w h (execOp act.eval o) res → T (evGo (ev E n) A h (kOp (ev E n) A ops.toList rest o.dst a k) res) →
            o.wpIn (Fen ro) 0 E.P act w (wpOpsIn (Fen ro) 0 E.P ops Q (List.range' (i + 1) rest.length)) Q := by
          intro res hres hs he
          refine go_wp hA hc r hres hs he ?_
          intro β' v u h' w' hkk hv hr' hst'
          exact ho R A T hA ops rest (i + 1) _ h' k hd2 hkk K w0 β' _ w' ro Q hr' ((f.mono (hst'.Le r)).put' o.dst hv) (by rw [Fr.put_ro]; exact hR.mono (hst'.Le r)) fun a2 h2 β2 act2 w2 g1 g2 g3 g4 => hk a2 h2 β2 act2 w2 g1 g2 g3 (hst'.trans g4)
        replace he : T (oGo (ev E n) A ops.toList rest o.dst a h k (stepOp E a.ev o h)) := he
        have hs := stepOp_ok hE r f.opR o
        generalize hres : stepOp E a.ev o h = res at he hs
        cases res with
        | defer d =>
          obtain ⟨dd, hrun, hd⟩ := hs
          simp only [oGo] at he
          cases hro : a.ro with
          | some l => rw [hro] at he; exact absurd he hA.bad
          | none =>
            rw [hro] at he hR
            obtain rfl : ro = none := hR
            refine ⟨fun _ _ => trivial, ?_⟩
            show Oper.uponIn (Fen none) 0 E.P o act _ Q ((execOp act.eval o).run E.P w)
            rw [hrun, Oper.uponIn_defer]
            exact ho R A T hA ops rest (i + 1) _ h k hd2 he K w0 β _ w none Q r (FrP.put' (f.mark1 hd) o.dst ⟨#[], rfl, rfl⟩) (by rw [Fr.put_ro, Fr.mark_ro, hro]; exact rfl) hk
        | val v h' => exact fin _ hres hs he
        | need e v h' => exact fin _ hres hs he
        | enter g args => exact fin _ hres hs he
        | choice l => exact fin _ hres hs he
        | yield l args => exact fin _ hres hs he
        | bad => exact fin _ hres hs he

/-! ### Loops that are told by a pattern -/
theorem upd_upd (ω : Opq) (v0 : Nat) (a b : List Val) : (ω.upd v0 a).upd v0 b = ω.upd v0 b := by
  unfold Opq.upd
  congr 1
  funext n
  by_cases h : v0 ≤ n
  · simp only [if_pos h]
  · simp only [if_neg h]
theorem layHp_none : ∀ (l : List (Nat × Option Blk)) (h : Heap) (n : Nat), (∀ p ∈ l, p.1 < n) → (∀ b, n ≤ b → h.get b = none) → ∀ b, n ≤ b → (layHp h l).get b = none
  | [], h, n, _, hh, b, hb => hh b hb
  | (t, v) :: r, h, n, hl, hh, b, hb => by
    simp only [layHp]
    refine layHp_none r _ n (fun p hp => hl p (.tail _ hp)) (fun b hb => ?_) b hb
    have := hl (t, v) (.head _)
    rw [Heap.get_put, if_neg (by simp only at this; omega)]
    exact hh b hb
theorem held_some {β : Bij} {a : Fr} {act : Act} (f : FrR β ω a act) {b : Nat} : ∀ (n : Nat), heldBy a b n = true → β b ≠ none
  | 0, h => by cases h
  | n + 1, h => by
    simp only [heldBy, Bool.or_eq_true] at h
    rcases h with h | h
    · have r := f.slot n id
      split at h
      · rename_i b' o hs
        rw [hs] at r
        obtain ⟨L, hL, _⟩ := r
        obtain rfl := beq_iff'.1 h
        rw [hL]; simp
      · rename_i b' hs
        rw [hs] at r
        obtain ⟨L, hL, _⟩ := r
        obtain rfl := beq_iff'.1 h
        rw [hL]; simp
      · cases h
    · exact held_some f n h
theorem blksOk_at {β : Bij} {a : Fr} {n0 : Nat} {act : Act} (f : FrR β ω a act) {next : Nat} {l : List (Nat × Option Blk)} (e : blksOk a n0 next l = true) : (∀ p ∈ l, p.1 < next) ∧ ∀ p ∈ l, p.1 < n0 → β p.1 ≠ none := by
  unfold blksOk at e
  rw [List.all_eq_true] at e
  refine ⟨fun p hp => ?_, fun p hp hlt => ?_⟩
  · have := (and_t (e p hp)).1
    exact blt_iff.1 this
  · have := (and_t (e p hp)).2
    rw [Bool.or_eq_true, ble_iff] at this
    rcases this with h1 | h1
    · omega
    · exact held_some f _ h1
theorem okFr_at {v0 nb : Nat} {a : Fr} : ∀ {n : Nat}, okFr v0 nb a n = true → ∀ s, s < n → okA v0 nb (a.slot s) = true
  | 0, _, s, hs => by omega
  | n + 1, h, s, hs => by
    simp only [okFr, Bool.and_eq_true] at h
    by_cases e : s = n
    · subst e; exact h.1
    · exact okFr_at h.2 s (by omega)
theorem okHp_at {v0 nb : Nat} {h0 : Heap} : ∀ {n : Nat}, okHp v0 nb h0 n = true → ∀ s, s < n → okB v0 nb (h0.get s) = true
  | 0, _, s, hs => by omega
  | n + 1, h, s, hs => by
    simp only [okHp, Bool.and_eq_true] at h
    by_cases e : s = n
    · subst e; exact h.1
    · exact okHp_at h.2 s (by omega)
theorem BR_move {β β' : Bij} {ω ω' : Opq} {v0 nb : Nat} (g : Agr v0 ω ω') (hb : ∀ b, b < nb → β' b = β b) {L : Loc} {o : Option Obj} {x : Blk} (h : okB v0 nb (some x) = true) (r : BR β ω L o x) : BR β' ω' L o x := by
  cases x with
  | cells e fz cs =>
    obtain ⟨C, lo, hi, vs, q1, q2, q3, q4, q5, q6, q7, q8⟩ := r
    exact ⟨C, lo, hi, vs, q1, q2, q3, q4, VRs_move g hb cs vs h q5, q6, q7, by rw [g.fix]; exact q8⟩
  | arr e sig l =>
    obtain ⟨C, lo, hi, q1, q2, q3, q4, q5⟩ := r
    have hd : dL ω' l = dL ω l := by unfold dL; rw [den_agr g l h]
    exact ⟨C, lo, hi, q1, q2, by rw [hd]; exact q3, by rw [hd]; exact q4, q5⟩
  | map es c =>
    obtain ⟨Es, q1, q2⟩ := r
    exact ⟨Es, q1, ents_move g hb h q2⟩
  | _ => cases h
theorem findEx_ok {sp : LSpec} {a a' : Fr} {h h' : Heap} {e : Ex} {m : Nat} {p : List Val} : ∀ (l : List (Ex × StP)) (j : Nat), evalT (findEx sp a h e a' h' l j) ω = some (m, p) →
    ∃ i x es, m = j + i + 1 ∧ l[i]? = some x ∧ exBeq x.1 e = true ∧ stMatch sp.v0 (exitSt sp a h x.2).a (exitSt sp a h x.2).h a' h' = some es ∧ p = dens ω es
  | [], j, he => by simp [findEx, evalT] at he
  | x :: r, j, he => by
    have tail : evalT (findEx sp a h e a' h' r (j + 1)) ω = some (m, p) → ∃ i y es, m = j + i + 1 ∧ (x :: r)[i]? = some y ∧ exBeq y.1 e = true ∧ stMatch sp.v0 (exitSt sp a h y.2).a (exitSt sp a h y.2).h a' h' = some es ∧ p = dens ω es := by
      intro hh
      obtain ⟨i, y, es, h1, h2, h3⟩ := findEx_ok r (j + 1) hh
      exact ⟨i + 1, y, es, by omega, by simpa using h2, h3⟩
    simp only [findEx] at he
    cases hx : exBeq x.1 e with
    | false => rw [hx] at he; exact tail he
    | true =>
      rw [hx] at he
      simp only [cond_true] at he
      split at he
      · rename_i es hes
        simp only [evalT, Option.some.injEq, Prod.mk.injEq] at he
        exact ⟨0, x, es, by omega, rfl, hx, hes, he.2.symm⟩
      · exact tail he
theorem exBeq_eq : ∀ {a b : Ex}, exBeq a b = true → a = b
  | .norm, .norm, _ => rfl
  | .ret, .ret, _ => rfl
  | .exit a, .exit b, h => by simp only [exBeq] at h; rw [beq_iff'.1 h]
  | .norm, .ret, h => by cases h
  | .norm, .exit _, h => by cases h
  | .ret, .norm, h => by cases h
  | .ret, .exit _, h => by cases h
  | .exit _, .norm, h => by cases h
  | .exit _, .ret, h => by cases h

theorem loopT_ok {Ω : Opq → Prop} (hΩ : ∀ ω v0 l, Ω ω → Ω (ω.upd v0 l)) (hω : Ω ω) {n : Nat} (hk : ∀ ω', Ω ω' → CodeS E ω' n) {R : Type} {A : Alg R} {T : R → Prop} (hA : AlgOk A T ω) {c : Code} {a : Fr} {h hs : Heap} {n0 : Nat} (hn0 : n0 = hs.next) {k : Ex → Fr → Heap → R} {sp : LSpec}
    (he : T (evLoopT (ev E n) A c n0 k sp a h)) {K : Nat → Prop} {w0 : World} {β βs : Bij} {act : Act} {w : World} {Q : Exit → Act → World → Prop} (r : HR β ω K w0 h w) (f : FrR β ω a act) (st0 : St hs βs h β) (q : KOk T ω K w0 hs βs none k Q) : LoopAt (Fen none) E.P c Q act w := by
  unfold evLoopT at he
  cases hok : spOk sp a h n0 with
  | false => rw [hok] at he; exact absurd he hA.bad
  | true =>
    rw [hok] at he
    simp only [cond_true] at he
    unfold spOk at hok
    obtain ⟨hok, o5⟩ := and_t hok
    obtain ⟨hok, o4⟩ := and_t hok
    obtain ⟨hok, o6⟩ := and_t hok
    obtain ⟨hds, hro⟩ := plainFr_at o6
    obtain ⟨hok, o3⟩ := and_t hok
    obtain ⟨hok, o2⟩ := and_t hok
    obtain ⟨o0, o1⟩ := and_t hok
    rw [List.all_eq_true] at o0
    have hnn : n0 ≤ h.next := by rw [hn0]; exact st0.le
    have hown : ∀ b, b < n0 → ¬ ∃ o ∈ sp.owns, b = o.blk := by
      rintro b hb ⟨o, hm, rfl⟩
      have := ble_iff.1 (o0 o hm)
      omega
    rw [List.all_eq_true] at o2
    split at he
    · rename_i s0 hs0
      obtain ⟨⟨i, p⟩, x, hloop, hlink, hks, hx⟩ := hA.loop _ _ _ he
      rw [loopOf_iff] at hloop
      simp only at hlink hks
      rw [List.getElem?_map, Option.map_eq_some_iff] at hks
      obtain ⟨xp, hxp, rfl⟩ := hks
      have hlim := f.lim
      have hb1 := blksOk_at f o1
      -- the head
      have hJn : (headSt sp a h).h.next = h.next := layHp_next _ _
      have hJfg : ∀ b, (headSt sp a h).h.next ≤ b → (headSt sp a h).h.get b = none := by
        intro b hb
        rw [hJn] at hb
        exact layHp_none _ _ h.next hb1.1 (fun b hb => r.fget b hb) b hb
      have hbase : ∀ s, a.nt ≤ s → ((baseSt sp a h).a.slot s = a.slot s) := by
        intro s hs
        show (layDead (layDead a sp.dead) _).slot s = _
        rw [layDead_high _ _ (by rw [layDead_nt]; exact hlim) s (by rw [layDead_nt]; exact hs), layDead_high _ _ hlim s hs]
      have hhiA : ∀ (g : Fr), g.nt = a.nt → ∀ s, a.nt ≤ s → g.slot s = a.slot s → ∃ x, g.slot s = x ∧ VR β ω x Go.undef := by
        intro g _ s hs e
        refine ⟨a.slot s, e, ?_⟩
        have := f.slot s id
        rw [Array.getD_eq_getD_getElem?, Array.getElem?_eq_none (by rw [f.size]; exact hs)] at this
        exact this
      have hJhi : ∀ s, a.nt ≤ s → (headSt sp a h).a.slot s = a.slot s := by
        intro s hs
        show ((laySl (layDead a sp.dead) sp.head.slots).clear).slot s = _
        rw [Fr.clear_slot, laySl_high _ _ (by rw [layDead_nt]; exact hlim) s (by rw [layDead_nt]; exact hs), layDead_high _ _ hlim s hs]
      have hJnt : (headSt sp a h).a.nt = a.nt := by
        show ((laySl (layDead a sp.dead) sp.head.slots).clear).nt = _
        rw [Fr.clear_nt, laySl_nt, layDead_nt]
      have hJpc : (headSt sp a h).a.pc = [] := Fr.clear_pc _
      have hJro : (headSt sp a h).a.ro = none := by
        show ((laySl (layDead a sp.dead) sp.head.slots).clear).ro = none
        rw [Fr.clear_ro, laySl_ro, layDead_ro]; exact hro
      have hundef : ∀ s, a.nt ≤ s → VR β ω (a.slot s) Go.undef := by
        intro s hs
        have := f.slot s id
        rw [Array.getD_eq_getD_getElem?, Array.getElem?_eq_none (by rw [f.size]; exact hs)] at this
        exact this
      -- the rounds
      have hXpc : (exitSt sp a h xp.2).a.pc = [] := Fr.clear_pc _
      have hBnt : (baseSt sp a h).a.nt = a.nt := by
        show (layDead (layDead a sp.dead) _).nt = _
        rw [layDead_nt, layDead_nt]
      have hXnt : (exitSt sp a h xp.2).a.nt = a.nt := by
        show ((laySl (baseSt sp a h).a xp.2.slots).clear).nt = _
        rw [Fr.clear_nt, laySl_nt, hBnt]
      have hBds : (baseSt sp a h).a.ds = [] := by
        show (layDead (layDead a sp.dead) _).ds = _
        rw [layDead_ds, layDead_ds]; exact hds
      have hBro : (baseSt sp a h).a.ro = none := by
        show (layDead (layDead a sp.dead) _).ro = _
        rw [layDead_ro, layDead_ro]; exact hro
      have hXds : (exitSt sp a h xp.2).a.ds = [] := by
        show ((laySl (baseSt sp a h).a xp.2.slots).clear).ds = _
        rw [Fr.clear_ds, laySl_ds, hBds]
      have hXhi : ∀ s, a.nt ≤ s → (exitSt sp a h xp.2).a.slot s = a.slot s := by
        intro s hs
        show ((laySl (baseSt sp a h).a xp.2.slots).clear).slot s = _
        rw [Fr.clear_slot, laySl_high _ _ (by rw [hBnt]; exact hlim) s (by rw [hBnt]; exact hs), hbase s hs]
      have hxm : xp ∈ sp.exits := List.mem_of_getElem? hxp
      have o2x := and_t (o2 xp hxm)
      have hnx : h.next ≤ xp.2.next := ble_iff.1 o2x.1
      have hb2 := blksOk_at f o2x.2
      have hBfg : ∀ b, h.next ≤ b → (baseSt sp a h).h.get b = none := by
        intro b hb
        refine layHp_none _ _ h.next (fun p hp => ?_) (fun b hb => r.fget b hb) b hb
        obtain ⟨p', hp', rfl⟩ := List.mem_map.1 hp
        exact hb1.1 p' hp'
      have hXfg : ∀ b, (exitSt sp a h xp.2).h.next ≤ b → (exitSt sp a h xp.2).h.get b = none := by
        intro b hb
        have hb : xp.2.next ≤ b := hb
        show ((layHp (baseSt sp a h).h xp.2.blks).upto xp.2.next).get b = none
        rw [Heap.get_upto]
        exact layHp_none _ _ xp.2.next hb2.1 (fun b hb => hBfg b (by omega)) b hb
      -- a way out, brought back
      have back : ∀ (vs : List Val) (β' : Bij) (a' : Fr) (h' : Heap) (act' : Act) (w' : World) (es : List SX), stMatch sp.v0 (exitSt sp a h xp.2).a (exitSt sp a h xp.2).h a' h' = some es → dens (ω.upd sp.v0 vs) es = p →
          FrR β' (ω.upd sp.v0 vs) a' act' → HR β' (ω.upd sp.v0 vs) K w0 h' w' → (∀ b, b < n0 → β' b = β b) → Q (exitR xp.1) act' w' := by
        intro vs β' a' h' act' w' es hes hp hf hr hβ
        have m := stMatch_met hes
        have hnt' : a'.nt = a.nt := by rw [← m.nt, hXnt]
        have g1 := m.fr hXpc (fun s hs => ⟨_, rfl, by rw [hXhi s (by rw [← hnt']; exact hs)]; exact VR_undef (hundef s (by rw [← hnt']; exact hs))⟩) hf
        have g2 := m.hr hXfg hr
        rw [hp, upd_upd] at g1 g2
        have hXn : (exitSt sp a h xp.2).h.next = xp.2.next := Heap.next_upto _ _
        rw [hXn] at g1 g2
        have ag : Agr sp.v0 ω (ω.upd sp.v0 p) := agr_upd ω sp.v0 p
        have hq : ∀ j e, es[j]? = some e → den ω (projX sp.id (s0 ++ sp.fv) (0 + j)) = (ω.upd sp.v0 p).w (sp.v0 + (0 + j)) := by
          intro j e hj
          have hlt : j < p.length := by
            rw [← hp, dens_length]
            rcases Nat.lt_or_ge j es.length with hh | hh
            · exact hh
            · rw [List.getElem?_eq_none hh] at hj; cases hj
          rw [Nat.zero_add, upd_w (List.getElem?_eq_getElem hlt)]
          show getV (ω.f sp.id (dens ω (s0 ++ sp.fv))).toL 1 j = _
          rw [hlink]
          simp [encR, getV, Val.toL, List.getD_eq_getElem?_getD, List.getElem?_eq_getElem hlt]
        refine q xp.1 _ _ (β'.cut xp.2.next) act' w' hx ?_ ?_ ?_ ?_
        · show (laySl (baseSt sp a h).a _).ro = none
          rw [laySl_ro, hBro]
        · -- slots
          have hOnt : (outSt sp (projX sp.id (s0 ++ sp.fv)) a h xp.2).a.nt = a.nt := by
            show (laySl (baseSt sp a h).a _).nt = _
            rw [laySl_nt, hBnt]
          refine ⟨by rw [hOnt, ← hXnt]; exact g1.size, by rw [hOnt]; exact hlim, fun t _ => ?_, ?_, fun pp hpp => ?_⟩
          · have gt := g1.slot t id
            by_cases ht : t < a.nt
            · have hXs : (exitSt sp a h xp.2).a.slot t = (laySl (baseSt sp a h).a xp.2.slots).slot t := Fr.clear_slot _ _
              rcases laySl_inst (instA sp.v0 (projX sp.id (s0 ++ sp.fv))) xp.2.slots (baseSt sp a h).a (baseSt sp a h).a t (by rw [hBnt]; exact hlim) rfl (by rw [hBnt]; exact ht) (.inr rfl) with e | ⟨e1, e2⟩
              · show VR _ ω ((laySl (baseSt sp a h).a (xp.2.slots.map fun p => (p.1, instA sp.v0 (projX sp.id (s0 ++ sp.fv)) p.2))).slot t) _
                rw [e, ← hXs]
                obtain ⟨n', es', z1, z2⟩ := m.sl (fun j e => den ω (projX sp.id (s0 ++ sp.fv) j) = (ω.upd sp.v0 p).w (sp.v0 + j)) hq t (by rw [hnt']; exact ht)
                exact instA_ok ag n' _ _ es' _ z1 z2 gt
              · show VR _ ω ((laySl (baseSt sp a h).a (xp.2.slots.map fun p => (p.1, instA sp.v0 (projX sp.id (s0 ++ sp.fv)) p.2))).slot t) _
                rw [e1]
                rw [hXs, e2] at gt
                exact VR_move (β' := β'.cut xp.2.next) ag.symm (fun _ _ => rfl) _ _ (okFr_at o4 t ht) gt
            · have ht := Nat.le_of_not_lt ht
              have e : (outSt sp (projX sp.id (s0 ++ sp.fv)) a h xp.2).a.slot t = a.slot t := by
                show (laySl (baseSt sp a h).a _).slot t = _
                rw [laySl_high _ _ (by rw [hBnt]; exact hlim) t (by rw [hBnt]; exact ht), hbase t ht]
              rw [e, Array.getD_eq_getD_getElem?, Array.getElem?_eq_none (by rw [g1.size, hXnt]; exact ht)]
              exact VR_undef (hundef t ht)
          · have := g1.defers
            rw [hXds] at this
            show DsR _ ω (laySl (baseSt sp a h).a _).ds act'.defers
            rw [laySl_ds, hBds]; exact this
          · have e : (outSt sp (projX sp.id (s0 ++ sp.fv)) a h xp.2).a.pc = a.pc := by
              show (laySl (layDead (layDead a sp.dead) _) _).pc = _
              rw [laySl_pc, layDead_pc, layDead_pc]
            rw [e] at hpp
            exact f.pcs pp hpp
        · -- blocks
          have hOn : (outSt sp (projX sp.id (s0 ++ sp.fv)) a h xp.2).h.next = xp.2.next := Heap.next_upto _ _
          have hOwm : (outSt sp (projX sp.id (s0 ++ sp.fv)) a h xp.2).h.wm = (exitSt sp a h xp.2).h.wm := by
            show ((layHp (baseSt sp a h).h _).upto _).wm = ((layHp (baseSt sp a h).h _).upto _).wm
            rw [Heap.wm_upto, Heap.wm_upto, layHp_wm, layHp_wm]
          have key : ∀ b y, (outSt sp (projX sp.id (s0 ++ sp.fv)) a h xp.2).h.get b = some y → ∃ z, (exitSt sp a h xp.2).h.get b = some z ∧ ∀ L o, BR (β'.cut xp.2.next) (ω.upd sp.v0 p) L o z → BR (β'.cut xp.2.next) ω L o y := by
            intro b y hy
            have hXs : (exitSt sp a h xp.2).h.get b = (layHp (baseSt sp a h).h xp.2.blks).get b := Heap.get_upto _ _ _
            have hOs : (outSt sp (projX sp.id (s0 ++ sp.fv)) a h xp.2).h.get b = (layHp (baseSt sp a h).h (xp.2.blks.map fun p => (p.1, instB sp.v0 (projX sp.id (s0 ++ sp.fv)) p.2))).get b := Heap.get_upto _ _ _
            rw [hOs] at hy
            have hblt : b < xp.2.next := by
              rcases Nat.lt_or_ge b xp.2.next with hh | hh
              · exact hh
              · exfalso
                rw [layHp_none _ _ xp.2.next (fun p hp => by
                  obtain ⟨p', hp', rfl⟩ := List.mem_map.1 hp
                  exact hb2.1 p' hp') (fun b hb => hBfg b (by omega)) b hh] at hy
                cases hy
            rcases layHp_inst (instB sp.v0 (projX sp.id (s0 ++ sp.fv))) rfl xp.2.blks (baseSt sp a h).h (baseSt sp a h).h b (.inr rfl) with e | ⟨e1, e2⟩
            · rw [e, ← hXs] at hy
              cases hz : (exitSt sp a h xp.2).h.get b with
              | none => rw [hz] at hy; cases hy
              | some z =>
                refine ⟨z, rfl, fun L o hbr => ?_⟩
                obtain ⟨n', es', z1, z2⟩ := m.hp (fun j e => den ω (projX sp.id (s0 ++ sp.fv) j) = (ω.upd sp.v0 p).w (sp.v0 + j)) hq b (by rw [hXn]; exact hblt)
                rw [hz] at z1 hy
                simp only [absOB] at z1
                split at z1
                · obtain ⟨p', z3, z4⟩ := instB_ok (β := β'.cut xp.2.next) ag z1 z2 hbr
                  rw [z3, Option.some.injEq] at hy
                  rw [← hy]; exact z4
                · cases z1
            · rw [e1] at hy
              refine ⟨y, by rw [hXs, e2]; exact hy, fun L o hbr => ?_⟩
              have hb : b < h.next := by
                rcases Nat.lt_or_ge b h.next with hh | hh
                · exact hh
                · rw [hBfg b hh] at hy; cases hy
              have := okHp_at o5 b hb
              rw [hy] at this
              exact BR_move ag.symm (fun _ _ => rfl) this hbr
          refine ⟨fun b y L hg hb => ?_, fun b b1 y y1 L L1 hg hg1 hb hb1 hne => ?_, fun b hb => g2.fresh b (by rw [hXn]; rw [hOn] at hb; exact hb), fun b hb => ?_, g2.lt, g2.kin, g2.keep, fun b y L hg hw hb => ?_, g2.size, g2.os, g2.tape, g2.out⟩
          · obtain ⟨z, z1, z2⟩ := key b y hg
            exact z2 L _ (g2.blk b z L z1 hb)
          · obtain ⟨z, z1, _⟩ := key b y hg
            obtain ⟨z', z1', _⟩ := key b1 y1 hg1
            exact g2.sep b b1 z z' L L1 z1 z1' hb hb1 hne
          · rw [hOn] at hb
            show ((layHp (baseSt sp a h).h _).upto _).get b = none
            rw [Heap.get_upto]
            refine layHp_none _ _ xp.2.next (fun p hp => ?_) (fun b hb => hBfg b (by omega)) b hb
            obtain ⟨p', hp', rfl⟩ := List.mem_map.1 hp
            exact hb2.1 p' hp'
          · obtain ⟨z, z1, _⟩ := key b y hg
            exact g2.free b z L z1 (by rw [← hOwm]; exact hw) hb
        · have hun : ∀ b, b < n0 → βs b = none → β b = none := fun b hb hn => (st0.ext b (by omega)).trans hn
          refine ⟨by show hs.next ≤ ((layHp (baseSt sp a h).h _).upto xp.2.next).next; rw [Heap.next_upto]; omega, fun b hb => by simp only [Bij.cut]; rw [if_pos (by omega)]; exact (hβ b (by omega)).trans (st0.ext b hb), fun b hb hn => ?_, ?_⟩
          · have hb : b < n0 := by omega
            have e : ((layHp (baseSt sp a h).h (xp.2.blks.map fun p => (p.1, instB sp.v0 (projX sp.id (s0 ++ sp.fv)) p.2))).upto xp.2.next).get b = h.get b := by
              rw [Heap.get_upto, layHp_other _ _ _ fun p hp e => by
                obtain ⟨p', hp', rfl⟩ := List.mem_map.1 hp
                exact hb2.2 p' hp' (by simp only at e; rw [e]; exact hb) (by simp only at e; rw [e]; exact hun b hb hn)]
              show (layHp h _).get b = _
              exact layHp_other _ _ _ fun p hp e => by
                obtain ⟨p', hp', rfl⟩ := List.mem_map.1 hp
                exact hb1.2 p' hp' (by simp only at e; rw [e]; exact hb) (by simp only at e; rw [e]; exact hun b hb hn)
            show ((layHp (baseSt sp a h).h _).upto _).get b = _ ∨ ((layHp (baseSt sp a h).h _).upto _).get b = _
            rw [e]
            exact st0.unm b (by omega) hn
          · show ((layHp (baseSt sp a h).h _).upto _).wm = _
            rw [Heap.wm_upto, layHp_wm]
            exact (layHp_wm _ _).trans st0.wm
      -- the rounds
      have main : ∀ vs j p', Iter (fun vs => evalT (ev E n VT treeAlg (.code c (headSt sp a h).a (headSt sp a h).h (kRound sp a h))) (ω.upd sp.v0 vs)) vs j p' → j = i → p' = p →
          ∀ (β1 : Bij) (act1 : Act) (w1 : World), FrR β1 (ω.upd sp.v0 vs) (headSt sp a h).a act1 → HR β1 (ω.upd sp.v0 vs) K w0 (headSt sp a h).h w1 → (∀ b, b < n0 → β1 b = β b) → LoopAt (Fen none) E.P c Q act1 w1 := by
        intro vs j p' hit
        induction hit with
        | @out vs p' j hstep =>
          rintro rfl rfl β1 act1 w1 f1 r1 s1
          refine loopAt_round (hk _ (hΩ _ _ _ hω) VT treeAlg _ (treeAlg_ok _ (j + 1, p')) c _ _ _ hstep K w0 β1 act1 w1 none _ r1 f1 (by rw [hJro]; exact rfl) ?_)
          intro e a' h' β' act' w' hke _ hf hr hst
          have hβ' : ∀ b, b < n0 → β' b = β b := fun b hb => (hst.ext b (by rw [hJn]; omega)).trans (s1 b hb)
          obtain ⟨β2, cv⟩ := prep_ok (sp := sp) hf hr
          have hβ2 : ∀ b, b < n0 → β2 b = β b := fun b hb => (cv.bij b (hown b hb)).trans (hβ' b hb)
          have fin : ∀ e', e = e' → evalT (findEx sp a h e' (prep sp a' h').1 (prep sp a' h').2 sp.exits 0) (ω.upd sp.v0 vs) = some (j + 1, p') → Q (exitR e) act' w' := by
            rintro e' rfl hh
            obtain ⟨i', x', es, q1, q2, q3, q4, q5⟩ := findEx_ok _ _ hh
            obtain rfl : i' = j := by omega
            rw [hxp, Option.some.injEq] at q2
            subst q2
            rw [← exBeq_eq q3]
            exact back vs β2 _ _ act' w' es q4 q5.symm cv.fr cv.hr hβ2
          cases e with
          | norm =>
            exfalso
            simp only [kRound, kRoundN] at hke
            split at hke
            · simp [evalT] at hke
            · simp [evalT] at hke
          | exit id => exact fin (.exit id) rfl hke
          | ret => exact fin .ret rfl hke
        | @more vs vs' p' j hstep hit ih =>
          rintro rfl rfl β1 act1 w1 f1 r1 s1
          refine loopAt_round (hk _ (hΩ _ _ _ hω) VT treeAlg _ (treeAlg_ok _ (0, vs')) c _ _ _ hstep K w0 β1 act1 w1 none _ r1 f1 (by rw [hJro]; exact rfl) ?_)
          intro e a' h' β' act' w' hke _ hf hr hst
          have hβ' : ∀ b, b < n0 → β' b = β b := fun b hb => (hst.ext b (by rw [hJn]; omega)).trans (s1 b hb)
          obtain ⟨β2, cv⟩ := prep_ok (sp := sp) hf hr
          have hβ2 : ∀ b, b < n0 → β2 b = β b := fun b hb => (cv.bij b (hown b hb)).trans (hβ' b hb)
          have no : ∀ e', evalT (findEx sp a h e' (prep sp a' h').1 (prep sp a' h').2 sp.exits 0) (ω.upd sp.v0 vs) = some (0, vs') → False := by
            intro e' hh
            obtain ⟨i', x', es, q1, _⟩ := findEx_ok _ _ hh
            omega
          cases e with
          | norm =>
            simp only [kRound, kRoundN] at hke
            split at hke
            · rename_i es hes
              simp only [evalT, Option.some.injEq, Prod.mk.injEq, true_and] at hke
              have m := stMatch_met hes
              have hnt' : (prep sp a' h').1.nt = a.nt := by rw [← m.nt, hJnt]
              have g1 := m.fr hJpc (fun s hs => ⟨_, rfl, by rw [hJhi s (by rw [← hnt']; exact hs)]; exact VR_undef (hundef s (by rw [← hnt']; exact hs))⟩) cv.fr
              have g2 := m.hr hJfg cv.hr
              rw [hke, upd_upd] at g1 g2
              exact ih rfl rfl _ act' w' g1 g2 fun b hb => by simp only [Bij.cut]; rw [if_pos (by rw [hJn]; omega)]; exact hβ2 b hb
            · simp [evalT] at hke
          | exit id => exact (no _ hke).elim
          | ret => exact (no _ hke).elim
      have m := stMatch_met hs0
      refine main _ _ _ hloop rfl rfl (β.cut (headSt sp a h).h.next) act w ?_ ?_ ?_
      · exact m.fr hJpc (fun s hs => hhiA _ hJnt s hs (hJhi s hs)) f
      · exact m.hr hJfg r
      · exact fun b hb => by simp only [Bij.cut]; rw [if_pos (by rw [hJn]; omega)]
    · exact absurd he hA.bad

theorem loopSpec_ok {Ω : Opq → Prop} (hΩ : ∀ ω v0 l, Ω ω → Ω (ω.upd v0 l)) (hω : Ω ω) {n : Nat} (hk : ∀ ω', Ω ω' → CodeS E ω' n) {R : Type} {A : Alg R} {T : R → Prop} (hA : AlgOk A T ω) {c : Code} {a : Fr} {h : Heap} {k : Ex → Fr → Heap → R} {sp : LSpec}
    (he : T (evLoopS (ev E n) A c a h k sp)) {K : Nat → Prop} {w0 : World} {β : Bij} {act : Act} {w : World} {Q : Exit → Act → World → Prop} {ro : Option Nat} (r : HR β ω K w0 h w) (f : FrR β ω a act) (hR : RoR β a.ro ro) (q : KOk T ω K w0 h β a.ro k Q) : (Code.loop c).wpIn (Fen ro) 0 E.P Q act w := by
  obtain ⟨hpl, he⟩ : plainFr a = true ∧ T (evLoopP (ev E n) A c h.next k sp (prep sp a (h.upto (Nat.add h.next sp.owns.length)))) := by
    unfold evLoopS at he
    cases hp : plainFr a with
    | false => rw [hp] at he; exact absurd he hA.bad
    | true => rw [hp] at he; exact ⟨rfl, he⟩
  obtain ⟨_, hro⟩ := plainFr_at hpl
  rw [hro] at hR q
  obtain rfl : ro = none := hR
  obtain ⟨β', cv⟩ := prep_ok (sp := sp) f (r.upto (n := Nat.add h.next sp.owns.length) (Nat.le_add_right _ _))
  have he : T (evLoopT (ev E n) A c h.next k sp (prep sp a (h.upto (Nat.add h.next sp.owns.length))).1 (prep sp a (h.upto (Nat.add h.next sp.owns.length))).2) := he
  have ho : ∀ o ∈ sp.owns, h.next ≤ o.blk := by
    intro o hm
    have he' := he
    unfold evLoopT at he'
    cases hok : spOk sp (prep sp a (h.upto (Nat.add h.next sp.owns.length))).1 (prep sp a (h.upto (Nat.add h.next sp.owns.length))).2 h.next with
    | false => rw [hok] at he'; exact absurd he' hA.bad
    | true =>
      unfold spOk at hok
      obtain ⟨hok, _⟩ := and_t hok
      obtain ⟨hok, _⟩ := and_t hok
      obtain ⟨hok, _⟩ := and_t hok
      obtain ⟨hok, _⟩ := and_t hok
      obtain ⟨hok, _⟩ := and_t hok
      obtain ⟨o0, _⟩ := and_t hok
      rw [List.all_eq_true] at o0
      exact ble_iff.1 (o0 o hm)
  refine loopAt_wp (loopT_ok hΩ hω hk hA rfl he cv.hr cv.fr ⟨?_, fun b hb => cv.bij b ?_, fun b hb hn => ?_, ?_⟩ q)
  · show h.next ≤ _
    rw [cv.next, Heap.next_upto]; exact Nat.le_add_right _ _
  · rintro ⟨o, hm, rfl⟩
    have := ho o hm; omega
  · rcases cv.get b with e | e | ⟨o, hm, rfl⟩
    · exact .inl (e.trans (Heap.get_upto _ _ _))
    · exact .inr e
    · have := ho o hm; omega
  · rw [cv.wm, Heap.wm_upto]

/-! ### Ranges over functions -/
theorem DsR.append {as : List ADef} {ds : List Deferred} : ∀ {bs : List ADef} {es : List Deferred} {β : Bij}, DsR β ω bs es → DsR β ω as ds → DsR β ω (bs ++ as) (es ++ ds)
  | [], es, β, h, q => by rw [show es = [] from h]; exact q
  | b :: bs, es, β, ⟨d, dr, e, h1, h2⟩, q => by rw [e]; exact ⟨d, dr ++ ds, rfl, h1, DsR.append h2 q⟩
theorem FrP.markL {β : Bij} {X : Nat → Prop} {a : Fr} {act : Act} (f : FrP β ω X a act) {m : List ADef} {d : List Deferred} (h : DsR β ω m d) : FrP β ω X (a.mark m) { act with defers := d ++ act.defers } :=
  ⟨by simpa using f.size, by simpa using f.lim, fun t ht => by simpa using f.slot t ht, by rw [Fr.mark_ds]; exact h.append f.defers, fun p hp => f.pcs p (by simpa using hp)⟩

/-- The block for the rounds' deferred calls. -/
theorem around_ok {K : Nat → Prop} {w0 w : World} {h h1 : Heap} {β : Bij} {a : Fr} {ro : Option Nat} {d : Nat} {m : List ADef} (r : HR β ω K w0 h w) (hR : RoR β a.ro ro) (e : around h a.ro = some (d, h1, m)) :
    ∃ (w1 : World) (β1 : Bij) (Ld : Loc) (dm : List Deferred), HR β1 ω K w0 h1 w1 ∧ St h β h1 β1 ∧ β1 d = some Ld ∧ DsR β1 ω m dm ∧
      ∀ fn tmps ps assign body, (Instr.enterLoop fn tmps ps assign body ro).run E.P w = .ok (w1.heap.size, dm) (w1.alloc (.loop { state := .ready, pending := none, fn, tmps, params := ps, assign, body, defers := Ld.blk })) := by
  cases hro : a.ro with
  | none =>
    rw [hro] at e hR
    obtain rfl : ro = none := hR
    simp only [around, Option.some.injEq, Prod.mk.injEq] at e
    obtain ⟨rfl, rfl, rfl⟩ := e
    obtain ⟨r1, s1⟩ := r.new (.deferred (some [])) (.defd false) 0 0 rfl
    refine ⟨_, _, _, [{ target := .collected w.heap.size, args := #[] }], r1, s1, Bij.add_self _ _ _, ⟨_, _, rfl, ⟨_, Bij.add_self _ _ _, rfl⟩, rfl⟩, fun fn tmps ps assign body => ?_⟩
    rw [run_enterLoop_outer, World.size_alloc]
  | some l =>
    rw [hro] at e hR
    obtain ⟨L, hL, rfl⟩ := hR
    simp only [around] at e
    split at e
    · rename_i st pend fn0 tm nt ps0 as b d0 hg
      simp only [Option.some.injEq, Prod.mk.injEq] at e
      obtain ⟨rfl, rfl, rfl⟩ := e
      obtain ⟨tmps0, f', Ld, g1, g2, g3⟩ := r.blk l _ L hg hL
      refine ⟨w, β, Ld, [], r, .refl _ _, g2, rfl, fun fn tmps ps assign body => ?_⟩
      unfold Instr.enterLoop
      simp only [Sem.run_bind, run_getLoop g1, run_newObj_alloc, Result.andThen, Sem.run_pure]
    · cases e

theorem range_ok {R : Type} {A : Alg R} {T : R → Prop} (hA : AlgOk A T ω) (hE : E.Ok ω) {n : Nat} (hc : CallS E ω n) (hk1 : CodeS E ω n) {g : Operand} {ps : Array Tmp} {assign body : Code} {a : Fr} {h : Heap} {k : Ex → Fr → Heap → R}
    (he : T (cRange E (ev E n) A ps assign body a k (around h a.ro) (a.ev g))) {K : Nat → Prop} {w0 : World} {β : Bij} {act : Act} {w : World} {ro : Option Nat} {Q : Exit → Act → World → Prop} (r : HR β ω K w0 h w) (f : FrR β ω a act) (hR : RoR β a.ro ro)
    (q : KOk T ω K w0 h β a.ro k Q) : (Code.rangeFunc g ps assign body).wpIn (Fen ro) 0 E.P Q act w := by
  unfold cRange at he
  split at he
  · rename_i d h1 m har
    split at he
    · rename_i fv hfv
      obtain ⟨w1, β1, Ld, dm, r1, s1, hd, hdm, hent⟩ := around_ok (E := E) r hR har
      refine wpIn_rangeFunc ?_
      intro fn _
      have hadd' : Le β1 (β1.add h1.next ⟨w1.heap.size, 0, 0⟩) := by
        intro b M hb
        simp only [Bij.add]
        rw [if_neg]
        · exact hb
        · intro hh
          rw [r1.fresh b (Nat.le_of_eq hh.symm)] at hb
          cases hb
      have hadd : ∀ M, β1 d = some M → (β1.add h1.next ⟨w1.heap.size, 0, 0⟩) d = some M := fun M hM => hadd' d M hM
      obtain ⟨r2, s2⟩ := r1.new (.loop { state := .ready, pending := none, fn := fn, tmps := act.tmps, params := ps, assign := assign, body := body, defers := Ld.blk }) (.loop .ready none a.fn a.tm a.nt ps assign body d) 0 0
        ⟨act.tmps, fn, Ld, rfl, hadd _ hd, f.size, f.lim, fun t => VR.mono hadd' _ _ ((f.mono (s1.Le r)).slot t id)⟩
      have s12 := s1.trans s2
      have hle := s12.Le r
      have hcv := callVal_ok hE (args := [.yield h1.next]) (us := [.func (.yield w1.heap.size) #[] #[]]) r2 (VR.mono hle _ _ (f.opR g _ hfv)) ⟨_, _, rfl, ⟨_, Bij.add_self _ _ _, rfl⟩, rfl⟩
      unfold cRange2 at he
      split at he
      · rename_i gf args hres
        rw [hres] at hcv
        obtain ⟨us', hrun, ra'⟩ := hcv
        rw [Sem.run_bind] at hrun
        cases hdd : (Deferred.ofValue (act.eval g) ([.func (.yield w1.heap.size) #[] #[]] : List Value).toArray).run E.P (w1.alloc (.loop { state := .ready, pending := none, fn := fn, tmps := act.tmps, params := ps, assign := assign, body := body, defers := Ld.blk })) with
        | halt x w' => rw [hdd] at hrun; cases hrun
        | ok dd w1' =>
          rw [hdd, Result.andThen_ok] at hrun
          refine ⟨w1.heap.size, dm, _, dd, w1', gf, us'.toArray, _, hent fn act.tmps ps assign body, ?_, fun _ _ => trivial, hrun, (fun hh => by cases hh), callsFen.2 (Calls.mono (hc R A T hA gf args _ _ he K w0 _ _ us' r2 ra') ?_)⟩
          · have : (#[Operand.const (.func (.yield w1.heap.size) #[] #[])] : Array Operand).map act.eval = ([.func (.yield w1.heap.size) #[] #[]] : List Value).toArray := by simp [Act.eval]
            show (Deferred.ofValue (act.eval g) ((#[Operand.const (.func (.yield w1.heap.size) #[] #[])] : Array Operand).map act.eval)).run E.P _ = _
            rw [this]; exact hdd
          · rintro e w' ⟨u, β', v, h', rfl, hke, -, hr', hst'⟩
            unfold kRange at hke
            split at hke
            · rename_i st pend fn2 tm2 nt2 ps2 as2 b2 d2 hg
              obtain ⟨hwm, hke⟩ : Nat.ble h'.wm h1.next = true ∧ T (kIdle (ev E n) A (a.mark m) k (h'.put h1.next (some (.loop .exhausted pend fn2 tm2 nt2 ps2 as2 b2 d2))) pend st) := by
                cases hcc : Nat.ble h'.wm h1.next with
                | false => rw [hcc] at hke; exact absurd hke hA.bad
                | true => rw [hcc] at hke; exact ⟨rfl, hke⟩
              rw [ble_iff] at hwm
              have hL : β' h1.next = some ⟨w1.heap.size, 0, 0⟩ := by
                rw [hst'.ext _ (by simp)]
                exact Bij.add_self _ _ _
              obtain ⟨f', tmps', Ld', z1, z2, z3, z4⟩ := hr'.loopAt hg hL hwm
              obtain ⟨y1, y2⟩ := z4 .exhausted pend
              have hst : st ≠ .busy := by
                rintro rfl
                exact absurd hke hA.bad
              have hend := run_endLoop (P := E.P) z1 hst
              have s3 := (s12.trans hst').trans y2
              have hf := (f.mono (s3.Le r)).markL (hdm.mono ((s2.trans (hst'.trans y2)).Le r1))
              have hke : T (kJump (ev E n) A (a.mark m) k (h'.put h1.next (some (.loop .exhausted pend fn2 tm2 nt2 ps2 as2 b2 d2))) pend) := by
                cases st with
                | busy => exact absurd rfl hst
                | _ => exact hke
              refine ⟨pend, _, hend, ?_⟩
              cases pend with
              | none => exact q .norm (a.mark m) _ β' _ _ hke (Fr.mark_ro _ _) hf y1 s3
              | some c => exact hk1 R A T hA c (a.mark m) _ k hke K w0 β' _ _ ro Q y1 hf (by rw [Fr.mark_ro]; exact hR.mono (s3.Le r)) (by rw [Fr.mark_ro]; exact q.later s3)
            · exact absurd hke hA.bad
      · exact absurd he hA.bad
    · exact absurd he hA.bad
  · exact absurd he hA.bad

/-! ### Code -/
theorem code_step {Ω : Opq → Prop} (hΩ : ∀ ω v0 l, Ω ω → Ω (ω.upd v0 l)) (hω : Ω ω) (hE : E.Ok ω) (hm : E.P.follows .mixedOrders = true) {n : Nat} (hc : ∀ m, m ≤ n → GoS E ω m) (hk2 : ∀ ω', Ω ω' → CodeS E ω' n) (hl : LoopS E ω n) (ho : OpsS E ω n) : CodeS E ω (n + 1) := by
  intro R A T hA c a h k he K w0 β act w ro Q r f hR q
  have hk1 : CodeS E ω n := hk2 ω hω
  have he : T (evCode E (ev E n) A c a h k) := he
  cases c with
  | skip => exact wpIn_skip (q .norm a h β act w he rfl f r (.refl _ _))
  | label l => exact wpIn_label (q .norm a h β act w he rfl f r (.refl _ _))
  | ret => exact wpIn_ret (q .ret a h β act w he rfl f r (.refl _ _))
  | exit id => exact wpIn_exit (q (.exit id) a h β act w he rfl f r (.refl _ _))
  | rangeFunc g ps assign body => exact range_ok hA hE (hc n (Nat.le_refl _)).1 hk1 he r f hR q
  | seq x y =>
    refine wpIn_seq (hk1 R A T hA x a h _ he K w0 β act w ro _ r f hR ?_)
    intro e a' h' β' act' w' hke hro hf hr hst
    cases e with
    | norm => exact hk1 R A T hA y a' h' k hke K w0 β' act' w' ro Q hr hf (by rw [hro]; exact hR.mono (hst.Le r)) (by rw [hro]; exact q.later hst)
    | exit id => exact q (.exit id) a' h' β' act' w' hke hro hf hr hst
    | ret => exact q .ret a' h' β' act' w' hke hro hf hr hst
  | cond c x y =>
    have he : T (cCond (ev E n) A x y a h k (a.ev c)) := he
    have go : ∀ (b : Bool) (a' : Fr), a'.ro = a.ro → FrR β ω a' act → act.eval c = .bool b → T (ev E n R A (.code (bif b then x else y) a' h k)) → (Code.cond c x y).wpIn (Fen ro) 0 E.P Q act w := by
      intro b a' hro f' hv he'
      refine wpIn_cond hv ?_
      have := hk1 R A T hA _ a' h k he' K w0 β act w ro Q r f' (by rw [hro]; exact hR) (by rw [hro]; exact q)
      cases b <;> exact this
    unfold cCond at he
    split at he
    · rename_i b hb
      have hv := f.opR c _ hb
      simp only [VR] at hv
      exact go b a rfl f hv he
    · rename_i e hb
      have hv := f.opR c _ hb
      simp only [VR] at hv
      unfold cBranch at he
      split at he
      · rename_i b hp
        exact go b a rfl f (by rw [hv, pcFind_ok f.pcs hp]) he
      · obtain ⟨h1, h2⟩ := hA.ite _ _ _ he
        cases hd : dB ω e with
        | true => exact go true _ (Fr.cond_ro _ _) (f.cond hd) (by rw [hv, hd]) (h1 hd)
        | false => exact go false _ (Fr.cond_ro _ _) (f.cond hd) (by rw [hv, hd]) (h2 hd)
    · exact absurd he hA.bad
  | block id b =>
    refine wpIn_block (hk1 R A T hA b a h _ he K w0 β act w ro _ r f hR ?_)
    intro e a' h' β' act' w' hke hro hf hr hst
    cases e with
    | norm => exact q .norm a' h' β' act' w' hke hro hf hr hst
    | ret => exact q .ret a' h' β' act' w' hke hro hf hr hst
    | exit i =>
      simp only [kBlock] at hke
      show if i = id then _ else _
      by_cases hi : i = id
      · rw [if_pos hi]
        rw [beq_iff'.2 hi] at hke
        exact q .norm a' h' β' act' w' hke hro hf hr hst
      · rw [if_neg hi]
        rw [beq_f hi] at hke
        exact q (.exit i) a' h' β' act' w' hke hro hf hr hst
  | loop b =>
    have he : T (cLoop (ev E n) A b a h k (E.lspec a.fn (regionOf b))) := he
    cases hsp : E.lspec a.fn (regionOf b) with
    | none =>
      rw [hsp] at he
      exact loopAt_wp (hl R A T hA b a h k he K w0 β act w ro Q r f hR q)
    | some sp =>
      rw [hsp] at he
      exact loopSpec_ok hΩ hω hk2 hA he r f hR q
  | scope b =>
    refine wpIn_scope (hk1 R A T hA b a h k he K w0 β act w ro _ r f hR ?_)
    intro e a' h' β' act' w' hke hro hf hr hst
    cases e <;> exact q _ a' h' β' act' w' hke hro hf hr hst
  | region id ops draw =>
    have he : T (cRegion (ev E n) A ops.toList draw a h k) := he
    cases draw with
    | false =>
      refine wpIn_region ?_
      have := ho R A T hA ops ops.toList 0 a h (kNorm a.ro k) rfl he K w0 β act w ro Q r f hR (fun a' h' β' act' w' g1 g2 g3 g4 => q .norm _ h' β' act' w' g1 (Fr.back_ro _ _) (g2.back _) g3 g4)
      rw [List.range_eq_range']
      simpa using this
    | true =>
      have he : T (cDraw (ev E n) A ops.toList a h k (plan ops.toList)) := he
      cases hp : plan ops.toList with
      | none => rw [hp] at he; exact absurd he hA.bad
      | some rr =>
        rw [hp] at he
        obtain ⟨l, pk⟩ := plan_ok hp
        refine wpIn_region_any hm ?_
        have hno : ∀ i, ¬ Lis (Array.replicate ops.size false) i := by
          intro i hi
          unfold Lis at hi
          simp [Array.getD_eq_getD_getElem?, Array.getElem?_replicate] at hi
          split at hi <;> simp at hi
        refine dops_ok hA (hs := h) (βs := β) hE pk (N := n) (fun m hmn => hc m (by omega)) (k := kNorm a.ro k) (fun a' h' β' act' w' g1 g2 g3 g4 => q .norm _ h' β' act' w' g1 (Fr.back_ro _ _) (g2.back _) g3 g4)
          ops.size n 0 rr [] a h (fun _ => 0) _ β act _ (Nat.le_refl _) he ?_ ?_
        · refine ⟨r.drew, .refl _ _, by simp, fun x _ hx => absurd hx (hno _), fun x _ hx => absurd hx (hno _), fun x _ hx => by simp at hx, pk.eager, pk.rl, fun x hx _ => pk.lr x hx, ?_, fun x _ hx => by simp at hx, fun x _ y _ hx => by simp at hx⟩
          exact f.weaken fun _ hh => hh.elim
        · unfold left
          refine Nat.le_trans (List.length_filter_le _ _) (by simp)
  | _ => exact absurd he hA.bad

theorem loop_step {n : Nat} (hk1 : CodeS E ω n) (hl : LoopS E ω n) : LoopS E ω (n + 1) := by
  intro R A T hA c a h k he K w0 β act w ro Q r f hR q
  refine loopAt_round (hk1 R A T hA c a h _ he K w0 β act w ro _ r f hR ?_)
  intro e a' h' β' act' w' hke hro hf hr hst
  cases e with
  | norm => exact hl R A T hA c a' h' k hke K w0 β' act' w' ro Q hr hf (by rw [hro]; exact hR.mono (hst.Le r)) (by rw [hro]; exact q.later hst)
  | exit id => exact q (.exit id) a' h' β' act' w' hke hro hf hr hst
  | ret => exact q .ret a' h' β' act' w' hke hro hf hr hst

end Go.Ev
