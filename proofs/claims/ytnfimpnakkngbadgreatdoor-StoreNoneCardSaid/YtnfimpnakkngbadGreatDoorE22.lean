/- The evaluator: a region that draws its order. -/
import Derived.Test.YtnfimpnakkngbadGreatDoorE21
import Derived.OrdersIn
import Derived.RangeFuncIn
import Derived.RangeFuncRecord
set_option linter.unusedVariables false
set_option linter.unusedSimpArgs false
namespace Go.Ev
open Go

variable {E : Env} {β : Bij} {ω : Opq} {K : Nat → Prop} {w0 w : World} {h h' : Heap}

/-- What is asked of the kind of answer. -/
structure AlgOk {R : Type} (A : Alg R) (T : R → Prop) (ω : Opq) : Prop where
  bad : ¬ T A.bad
  amb : ∀ l f, T (A.amb l f) → ∀ x ∈ l, T (f x)
  ite : ∀ e x y, T (A.ite e x y) → (dB ω e = true → T x) ∧ (dB ω e = false → T y)
  need : ∀ e x, T (A.need e x) → dB ω e = true ∧ T x
  loop : ∀ hd body ks, T (A.loop hd body ks) → ∃ r x, loopOf (fun vs => evalT body (ω.upd hd.v0 vs)) (dens ω hd.s0) = some r ∧ ω.f hd.id (dens ω (hd.s0 ++ hd.fv)) = encR r ∧ ks[r.1]? = some x ∧ T x
theorem evalTs_get : ∀ {ks : List VT} {n : Nat} {ω : Opq} {r : Nat × List Val}, evalTs ks n ω = some r → ∃ x, ks[n]? = some x ∧ evalT x ω = some r
  | [], n, ω, r, h => by cases n <;> simp [evalTs] at h
  | k :: ks, 0, ω, r, h => ⟨k, rfl, by simpa [evalTs] using h⟩
  | k :: ks, n + 1, ω, r, h => by
    obtain ⟨x, h1, h2⟩ := evalTs_get (ks := ks) (n := n) (by simpa [evalTs] using h)
    exact ⟨x, by simpa using h1, h2⟩
theorem treeAlg_ok (ω : Opq) (r : Nat × List Val) : AlgOk treeAlg (fun t => evalT t ω = some r) ω := by
  refine ⟨fun h => by simp [treeAlg, evalT] at h, fun l f h => ?_, fun e x y h => ?_, fun e x h => ?_, fun hd body ks h => ?_⟩
  · simp only [treeAlg] at h
    split at h
    · rename_i x
      intro y hy
      simp only [List.mem_singleton] at hy; subst hy; exact h
    · simp [evalT] at h
  · simp only [treeAlg, evalT] at h
    refine ⟨fun hd => by rw [if_pos hd] at h; exact h, fun hd => by rw [if_neg (by simp [hd])] at h; exact h⟩
  · simp only [treeAlg, evalT] at h
    split at h
    · rename_i hd; exact ⟨hd, h⟩
    · cases h
  · simp only [treeAlg, evalT] at h
    split at h
    · rename_i r' hr
      split at h
      · rename_i hl
        obtain ⟨x, h1, h2⟩ := evalTs_get h
        exact ⟨r', x, hr, hl, h1, h2⟩
      · cases h
    · cases h
theorem boolAlg_ok (ω : Opq) : AlgOk boolAlg (· = true) ω :=
  ⟨by simp [boolAlg], fun l f h => List.all_eq_true.1 h, fun e x y h => by simp only [boolAlg, Bool.and_eq_true] at h; exact ⟨fun _ => h.1, fun _ => h.2⟩, fun e x h => (by cases h), fun _ _ _ h => (by cases h)⟩

/-- What a run of calls is asked for. -/
def CallS (E : Env) (ω : Opq) (n : Nat) : Prop := ∀ (R : Type) (A : Alg R) (T : R → Prop), AlgOk A T ω → ∀ (f : FuncId) (args : List AV) (h : Heap) (k : AV → Heap → R), T (ev E n R A (.call f args h k)) →
  ∀ (K : Nat → Prop) (w0 : World) (β : Bij) (w : World) (us : List Value), HR β ω K w0 h w → VRs β ω args us →
    Calls E.P f us.toArray w (fun e w' => ∃ u β' v h', e = .returned u ∧ T (k v h') ∧ VR β' ω v u ∧ HR β' ω K w0 h' w' ∧ St h β h' β')

/-- The fence: none, but for the round. -/
def Fen (ro : Option Nat) : Fence := { Fence.wide with round := ro }
def RoR (β : Bij) : Option Nat → Option Nat → Prop
  | none, r => r = none
  | some l, r => ∃ L, β l = some L ∧ r = some L.blk
theorem RoR.mono {β' : Bij} (hl : Le β β') : ∀ {l r : Option Nat}, RoR β l r → RoR β' l r
  | none, _, h => h
  | some _, _, ⟨L, h1, h2⟩ => ⟨L, hl _ _ h1, h2⟩
theorem callsFen {ro : Option Nat} {n : Nat} {f : FuncId} {args : Array Value} {R : Ending → World → Prop} : CallsIn (Fen ro) n E.P f args w R ↔ Calls E.P f args w R :=
  callsIn_wide (n := n)
def exitR : Ex → Exit
  | .norm => .normal
  | .exit id => .exit id
  | .ret => .ret
/-- What the continuation promises. -/
def KOk {R : Type} (T : R → Prop) (ω : Opq) (K : Nat → Prop) (w0 : World) (hs : Heap) (βs : Bij) (r0 : Option Nat) (k : Ex → Fr → Heap → R) (Q : Exit → Act → World → Prop) : Prop :=
  ∀ e a h β act w, T (k e a h) → a.ro = r0 → FrR β ω a act → HR β ω K w0 h w → St hs βs h β → Q (exitR e) act w
theorem KOk.later {R : Type} {T : R → Prop} {K : Nat → Prop} {w0 : World} {hs h : Heap} {βs β : Bij} {r0 : Option Nat} {k : Ex → Fr → Heap → R} {Q : Exit → Act → World → Prop} (q : KOk T ω K w0 hs βs r0 k Q) (s : St hs βs h β) : KOk T ω K w0 h β r0 k Q :=
  fun e a h' β' act w he g f r s' => q e a h' β' act w he g f r (s.trans s')
def CodeS (E : Env) (ω : Opq) (n : Nat) : Prop := ∀ (R : Type) (A : Alg R) (T : R → Prop), AlgOk A T ω → ∀ (c : Code) (a : Fr) (h : Heap) (k : Ex → Fr → Heap → R), T (ev E n R A (.code c a h k)) →
  ∀ (K : Nat → Prop) (w0 : World) (β : Bij) (act : Act) (w : World) (ro : Option Nat) (Q : Exit → Act → World → Prop), HR β ω K w0 h w → FrR β ω a act → RoR β a.ro ro → KOk T ω K w0 h β a.ro k Q → c.wpIn (Fen ro) 0 E.P Q act w
def GoS (E : Env) (ω : Opq) (n : Nat) : Prop := CallS E ω n ∧ CodeS E ω n

/-- A deferred call is no value. -/
theorem stepOp_def {ρ : Operand → Option AV} {o : Oper} {c : Call} (hc : o.op = .defer c) (h : Heap) : stepOp E ρ o h = .bad ∨ ∃ d, stepOp E ρ o h = .defer d := by
  unfold stepOp stepC stepY
  rw [hc]
  simp only []
  unfold sDefer
  split
  · exact .inl rfl
  · split
    · rename_i f _
      cases ρ f with
      | none => exact .inl rfl
      | some v =>
        simp only [s1r]
        unfold deferE
        split
        · exact .inr ⟨_, rfl⟩
        · exact .inl rfl
    · exact .inl rfl
theorem no_def {ρ : Operand → Option AV} {o : Oper} {h : Heap} {r : Res} (e : stepOp E ρ o h = r) (h1 : r ≠ .bad) (h2 : ∀ d, r ≠ .defer d) (c : Call) : o.op ≠ .defer c := by
  intro hc
  rcases stepOp_def (E := E) (ρ := ρ) hc h with q | ⟨d, q⟩
  · exact h1 (e ▸ q)
  · exact h2 d (e ▸ q)

theorem wpIn_value {ro : Option Nat} {o : Oper} {act : Act} {next : Act → World → Prop} {Q : Exit → Act → World → Prop} (ho : ∀ c, o.op ≠ .defer c) {u : Value} {w' : World} (hr : (execOp act.eval o).run E.P w = .ok (.value u) w')
    (hk : next (act.put o.dst u) w') : o.wpIn (Fen ro) 0 E.P act w next Q := by
  refine ⟨fun _ _ => trivial, ?_⟩
  rw [Oper.semAt_eq _ _ _ ho, hr]
  exact hk
theorem wpIn_skip' {ro : Option Nat} {o : Oper} {act : Act} {next : Act → World → Prop} {Q : Exit → Act → World → Prop} (ho : ∀ c, o.op ≠ .defer c) {w' : World} (hr : (execOp act.eval o).run E.P w = .ok .skip w')
    (hk : next (act.put o.dst Go.undef) w') : o.wpIn (Fen ro) 0 E.P act w next Q := by
  refine ⟨fun _ _ => trivial, ?_⟩
  rw [Oper.semAt_eq _ _ _ ho, hr]
  exact hk

/-- An operation of the order in which it stands. -/
theorem upon_val {ro : Option Nat} {o : Oper} {act : Act} {next : Act → World → Prop} {Q : Exit → Act → World → Prop} {v : AV} (ho : ∀ c, o.op ≠ .defer c) (hs : SVal E β ω K w0 w h (execOp act.eval o) v h')
    (hk : ∀ β' u w', VR β' ω v u → HR β' ω K w0 h' w' → St h β h' β' → next (act.put o.dst u) w') : o.wpIn (Fen ro) 0 E.P act w next Q := by
  obtain ⟨β', u, w', hr, hv, hh, hst⟩ := hs
  rcases hr with hr | ⟨rfl, hr⟩
  · exact wpIn_value ho hr (hk β' u w' hv hh hst)
  · exact wpIn_skip' ho hr (hk β' _ w' hv hh hst)

/-! ### Rounds -/
theorem HR.loopAt {st : LoopState} {pend : Option Code} {fn : FuncId} {tm : TF} {nt : Nat} {ps : Array Tmp} {as body : Code} {d l : Nat} {L : Loc} (r : HR β ω K w0 h w) (hg : h.get l = some (.loop st pend fn tm nt ps as body d)) (hL : β l = some L) (hwm : h.wm ≤ l) :
    ∃ (f' : FuncId) (tmps : Array Value) (Ld : Loc), w.heap[L.blk]? = some (.loop { state := st, pending := pend, fn := f', tmps := tmps, params := ps, assign := as, body := body, defers := Ld.blk }) ∧ β d = some Ld ∧ TR β ω tm nt tmps ∧
      ∀ st' pend', HR β ω K w0 (h.put l (some (.loop st' pend' fn tm nt ps as body d))) (w.putObj L.blk (.loop { state := st', pending := pend', fn := f', tmps := tmps, params := ps, assign := as, body := body, defers := Ld.blk })) ∧
        St h β (h.put l (some (.loop st' pend' fn tm nt ps as body d))) β := by
  obtain ⟨tmps, f', Ld, h1, h2, h3⟩ := r.blk l _ L hg hL
  refine ⟨f', tmps, Ld, h1, h2, h3, fun st' pend' => ?_⟩
  refine r.upd l _ _ L hg hL hwm (fun i hi => World.putObj_heap_other hi) World.putObj_size rfl rfl rfl ?_
  rw [World.putObj_heap_same (r.lt l L hL)]
  exact ⟨tmps, f', Ld, rfl, h2, h3⟩

theorem putPs_ok : ∀ {ps : List Tmp} {args : List AV} {us : List Value} {nt : Nat} {t : TF} {tmps : Array Value}, TR β ω t nt tmps → VRs β ω args us →
    TR β ω (putPs ps args nt t) nt ((ps.zip us).foldl (fun tmps (p : Tmp × Value) => tmps.setIfInBounds p.1 p.2) tmps)
  | [], args, us, nt, t, tmps, r, ra => by
    cases args <;> simpa [putPs] using r
  | p :: ps, [], us, nt, t, tmps, r, ra => by
    rw [show us = [] from ra]
    simpa [putPs] using r
  | p :: ps, v :: args, us, nt, t, tmps, r, ⟨u, ur, e, rv, rr⟩ => by
    subst e
    simp only [putPs, List.zip_cons_cons, List.foldl_cons]
    refine putPs_ok ?_ rr
    obtain ⟨h1, h2, h3⟩ := r
    by_cases hp : p < nt
    · rw [blt_t hp, cond_true]
      refine ⟨by simpa using h1, h2, fun n => ?_⟩
      rw [TF.get_set t p n v (Nat.lt_of_lt_of_le hp h2), Array.getD_eq_getD_getElem?, Array.getElem?_setIfInBounds]
      by_cases hn : n = p
      · subst hn
        rw [if_pos rfl, if_pos rfl, if_pos (show n < tmps.size by rw [h1]; exact hp)]
        exact rv
      · rw [if_neg hn, if_neg (fun hh => hn hh.symm), ← Array.getD_eq_getD_getElem?]
        exact h3 n
    · rw [blt_f hp, cond_false]
      rw [Array.setIfInBounds_eq_of_size_le (show tmps.size ≤ p by rw [h1]; exact Nat.le_of_not_lt hp)]
      exact ⟨h1, h2, h3⟩

theorem round_ok {R : Type} {A : Alg R} {T : R → Prop} (hA : AlgOk A T ω) {n : Nat} (hk1 : CodeS E ω n) {l : Nat} {L : Loc} {args : List AV} {us : List Value} {k' : AV → Heap → R} (r : HR β ω K w0 h w) (hL : β l = some L) (ra : VRs β ω args us)
    (he : T (gYield (ev E n) A l args h k' (h.get l))) {Rr : Ending → World → Prop}
    (hk : ∀ β' v u h' w', T (k' v h') → VR β' ω v u → HR β' ω K w0 h' w' → St h β h' β' → Rr (.returned u) w') :
    ∃ f tmps as body, (Instr.yield L.blk us.toArray).run E.P w = .ok (.round L.blk f tmps as body) w ∧ RoundIn Fence.wide 0 E.P L.blk f tmps as body w Rr := by
  unfold gYield at he
  split at he
  · rename_i st pend fn tm nt ps as body d hg
    obtain ⟨hcnd, he⟩ : (Nat.beq args.length ps.size && Nat.ble h.wm l) = true ∧ T (ev E n R A (.code as ⟨putPs ps.toList args nt tm, nt, [], fn, [], some l⟩ h (kRound1 (ev E n) A l body k'))) := by
      cases hc : (Nat.beq args.length ps.size && Nat.ble h.wm l) with
      | false => rw [hc] at he; exact absurd he hA.bad
      | true => rw [hc] at he; exact ⟨rfl, he⟩
    obtain ⟨c1, c2⟩ := and_t hcnd
    rw [beq_iff'] at c1
    rw [ble_iff] at c2
    obtain ⟨f', tmps, Ld, g1, g2, g3, g4⟩ := r.loopAt hg hL c2
    have hsz : us.toArray.size = ps.size := by rw [← c1]; simp [ra.length]
    have hy := run_yield (P := E.P) (args := us.toArray) g1 hsz
    refine ⟨_, _, _, _, hy, ?_⟩
    refine roundIn_of_wpIn (F := Fence.wide) trivial ?_
    have hf := putPs_ok (ps := ps.toList) g3 ra
    have hfold : (ps.zip us.toArray).foldl (fun tmps (x : Tmp × Value) => tmps.setIfInBounds x.1 x.2) tmps = (ps.toList.zip us).foldl (fun tmps (p : Tmp × Value) => tmps.setIfInBounds p.1 p.2) tmps := by
      rw [← Array.foldl_toList, Array.toList_zip]
    have hfr : FrR β ω ⟨putPs ps.toList args nt tm, nt, [], fn, [], some l⟩ { tmps := (ps.zip us.toArray).foldl (fun tmps (x : Tmp × Value) => tmps.setIfInBounds x.1 x.2) tmps, defers := [] } := by
      rw [hfold]
      exact ⟨hf.1, hf.2.1, fun t _ => hf.2.2 t, rfl, fun p hp => by cases hp⟩
    refine hk1 R A T hA as _ h _ he K w0 β _ w (some L.blk) _ r hfr ⟨L, hL, rfl⟩ ?_
    intro e a1 h1 β1 act1 w1 hke hro hf1 hr1 hst1
    cases e with
    | norm =>
      simp only [kRound1] at hke
      split at hke
      · rename_i pend1 fn1 tm1 nt1 ps1 as1 b1 d1 hg1
        have hL1 : β1 l = some L := by
          rw [hst1.ext l]
          · exact hL
          · rcases Nat.lt_or_ge l h.next with hh | hh
            · exact hh
            · rw [r.fget l hh] at hg; cases hg
        have hwm1 : h1.wm ≤ l := by rw [hst1.wm]; exact c2
        obtain ⟨f1, tmps1, Ld1, z1, z2, z3, z4⟩ := hr1.loopAt hg1 hL1 hwm1
        obtain ⟨y1, y2⟩ := z4 .busy pend1
        refine ⟨_, run_beginRound z1 rfl, ?_⟩
        refine hk1 R A T hA body a1 _ _ hke K w0 β1 act1 _ (some L.blk) _ y1 hf1 (by rw [hro]; exact ⟨L, hL1, rfl⟩) ?_
        intro e a2 h2 β2 act2 w2 hke2 hro2 hf2 hr2 hst2
        have main : ∀ j : Option Code, jumpOf e = j → ∃ v w', (Instr.endRound L.blk j).run E.P w2 = .ok v w' ∧ Rr (.returned v) w' := by
          rintro j rfl
          unfold kRound2 at hke2
          split at hke2
          · split at hke2
            · rename_i st2 pend2 fn2 tm2 nt2 ps2 as2 b2 d2 hg2
              have hL2 : β2 l = some L := by
                rw [hst2.ext l]
                · exact hL1
                · rw [Heap.next_put]
                  rcases Nat.lt_or_ge l h1.next with hh | hh
                  · exact hh
                  · rw [hr1.fget l hh] at hg1; cases hg1
              have hwm2 : h2.wm ≤ l := by rw [hst2.wm]; exact hwm1
              obtain ⟨f2, tmps2, Ld2, x1, x2, x3, x4⟩ := hr2.loopAt hg2 hL2 hwm2
              obtain ⟨q1, q2⟩ := x4 (stateOf (jumpOf e)) (jumpOf e)
              have hend := run_endRound (P := E.P) (jumpOf e) x1
              have hst : (if (jumpOf e).isNone then LoopState.ready else LoopState.done) = stateOf (jumpOf e) := by cases e <;> rfl
              simp only [hst] at hend
              exact ⟨_, _, hend, hk β2 _ _ _ _ hke2 rfl q1 ((((hst1.trans y2).trans hst2)).trans q2)⟩
            · exact absurd hke2 hA.bad
          · exact absurd hke2 hA.bad
        cases e with
        | norm => exact main none rfl
        | ret => exact main (some .ret) rfl
        | exit id => exact main (some (.exit id)) rfl
      · exact absurd hke hA.bad
    | exit id => exact absurd hke hA.bad
    | ret => exact absurd hke hA.bad
  · exact absurd he hA.bad

theorem go_wp {R : Type} {A : Alg R} {T : R → Prop} (hA : AlgOk A T ω) {n : Nat} (hc : GoS E ω n) {ro : Option Nat} {ρ : Operand → Option AV} {o : Oper} {act : Act} {next : Act → World → Prop} {Q : Exit → Act → World → Prop} {k' : AV → Heap → R} {res : Res} (r : HR β ω K w0 h w)
    (hres : stepOp E ρ o h = res) (hs : SOk E β ω K w0 w h (execOp act.eval o) res) (he : T (evGo (ev E n) A h k' res))
    (hk : ∀ β' v u h' w', T (k' v h') → VR β' ω v u → HR β' ω K w0 h' w' → St h β h' β' → next (act.put o.dst u) w') : o.wpIn (Fen ro) 0 E.P act w next Q := by
  have nd : res ≠ .bad → (∀ d, res ≠ .defer d) → ∀ c, o.op ≠ .defer c := no_def hres
  cases res with
  | val v h' => exact upon_val (nd nofun nofun) hs fun β' u w' hv hh hst => hk β' v u h' w' he hv hh hst
  | need e v h' =>
    obtain ⟨h1, h2⟩ := hA.need _ _ he
    exact upon_val (nd nofun nofun) (hs h1) fun β' u w' hv hh hst => hk β' v u h' w' h2 hv hh hst
  | enter f args =>
    obtain ⟨us, hr, ra⟩ := hs
    refine ⟨fun _ _ => trivial, ?_⟩
    rw [Oper.semAt_eq _ _ _ (nd nofun nofun), hr, Oper.uponIn_enter]
    refine ⟨(fun hh => by cases hh), callsFen.2 (Calls.mono (hc.1 R A T hA f args h k' he K w0 β w us r ra) ?_)⟩
    rintro e w' ⟨u, β', v, h', rfl, h1, h2, h3, h4⟩
    exact hk β' v u h' w' h1 h2 h3 h4
  | choice l =>
    obtain ⟨x, hx, hv⟩ := hs
    have := hA.amb _ _ he x hx
    exact upon_val (nd nofun nofun) hv fun β' u w' hv hh hst => hk β' x.1 u x.2 w' this hv hh hst
  | yield l args =>
    obtain ⟨L, us, hL, ra, hrun⟩ := hs
    obtain ⟨f, tmps, as, body, hy, hround⟩ := round_ok hA hc.2 r hL ra he (Rr := fun
      | .returned v, w'' => next (act.put o.dst v) w''
      | .panicked chain, w'' => Q (.panic chain) act w''
      | .outgrown, _ => LetsOut Q) fun β' v u h' w' h1 h2 h3 h4 => hk β' v u h' w' h1 h2 h3 h4
    refine ⟨fun _ _ => trivial, ?_⟩
    rw [Oper.semAt_eq _ _ _ (nd nofun nofun), hrun, hy, Oper.uponIn_round]
    exact ⟨(fun hh => by cases hh), hround⟩
  | defer d => exact absurd he hA.bad
  | bad => exact absurd he hA.bad

/-- Only the operands matter. -/
theorem stepOp_okX (hE : E.Ok ω) {ρA : Operand → Option AV} {ρ : Operand → Value} (r : HR β ω K w0 h w) (o : Oper) (ro : ∀ x ∈ o.op.operands, ∀ a, ρA x = some a → VR β ω a (ρ x)) :
    SOk E β ω K w0 w h (execOp ρ o) (stepOp E ρA o h) := by
  classical
  rw [stepOp_congr (ρ := ρA) (ρ' := fun x => if x ∈ o.op.operands then ρA x else none) o (fun x hx => by simp only [hx, if_true]) h]
  refine stepOp_ok hE r (fun x a e => ?_) o
  split at e
  · rename_i hx; exact ro x hx a e
  · cases e

/-! ### Bits -/
theorem bit_or (done i j : Nat) : (done ||| 2 ^ i).testBit j = true ↔ done.testBit j = true ∨ j = i := by
  rw [Nat.testBit_or, Bool.or_eq_true, Nat.testBit_two_pow, decide_eq_true_eq]
  exact ⟨fun h => orMap id Eq.symm h, fun h => orMap id Eq.symm h⟩
theorem bits_sub {m done : Nat} (h : Nat.beq (m &&& done) m = true) (j : Nat) (hj : m.testBit j = true) : done.testBit j = true := by
  rw [beq_iff'] at h
  rw [← h, Nat.testBit_and, Bool.and_eq_true] at hj
  exact hj.2
theorem bits_beq {m done : Nat} (h : ∀ j, m.testBit j = true → done.testBit j = true) : Nat.beq (m &&& done) m = true := by
  rw [beq_iff']
  apply Nat.eq_of_testBit_eq
  intro j
  rw [Nat.testBit_and]
  cases hj : m.testBit j with
  | false => rfl
  | true => rw [h j hj]; rfl
theorem eager_out : ∀ (rest : List PO) (done : Nat), eager done rest = true → ∀ x ∈ rest, done.testBit x.i = false
  | [], _, _, x, hx => by cases hx
  | y :: r, done, h, x, hx => by
    simp only [eager, Bool.and_eq_true, Bool.not_eq_true'] at h
    obtain ⟨⟨⟨h1, h2⟩, h3⟩, h4⟩ := h
    cases hx with
    | head => exact h2
    | tail _ hx =>
      have := eager_out r _ h4 x hx
      cases hh : done.testBit x.i with
      | false => rfl
      | true => rw [(bit_or done y.i x.i).2 (.inl hh)] at this; cases this

/-! ### The invariant -/
section
variable (E ω K w0) (ops : Array Oper) (l : List PO) (hs : Heap) (βs : Bij)

/-- A value that an operation gives, and leaves the heap as it is. -/
def StepV (ρ : Operand → Option AV) (o : Oper) (h : Heap) (v : AV) : Prop := stepOp E ρ o h = .val v h ∨ ∃ e, stepOp E ρ o h = .need e v h ∧ dB ω e = true
def NdOk (p : Pend) : Prop := ∀ e, p.nd = some e → dB ω e = true
/-- A float that the evaluator has run and the machine has not. -/
def FSq (a : Fr) (h : Heap) (pend : List Pend) (bid : Nat → Nat) (β : Bij) (x : PO) : Prop :=
  (wantedE ops.toList a x.o = some false ∧ ∀ d, x.o.dst = some d → d < a.nt → a.slot d = .undef) ∨
  (wantedE ops.toList a x.o = some true ∧ ∃ v, (∀ d, x.o.dst = some d → d < a.nt → a.slot d = v) ∧ (∃ p ∈ pend, p.i = x.i ∧ p.o = x.o ∧ p.v = v ∧ NdOk ω p) ∧
    ((isAlloc x.o = false ∧ StepV E ω a.ev x.o h v) ∨
     (isAlloc x.o = true ∧ ∃ mk blk, AllocA E a.ev x.o mk blk ∧ v = mk (bid x.i) ∧ hs.next ≤ bid x.i ∧ bid x.i < h.next ∧ β (bid x.i) = none ∧ (h.get (bid x.i) = some blk ∨ h.get (bid x.i) = none))))

def Lis (listed : Array Bool) (i : Nat) : Prop := listed.getD i false = true

structure DI (done : Nat) (rest : List PO) (pend : List Pend) (a : Fr) (h : Heap) (bid : Nat → Nat) (listed : Array Bool) (β : Bij) (act : Act) (w : World) : Prop where
  hr : HR β ω K w0 h w
  st : St hs βs h β
  lsz : listed.size = ops.size
  cd : ∀ x ∈ l, Lis listed x.i → done.testBit x.i = true
  cm : ∀ x ∈ l, Lis listed x.i → ∀ j, x.m.testBit j = true → Lis listed j
  dm : ∀ x ∈ l, done.testBit x.i = true → ∀ j, x.m.testBit j = true → done.testBit j = true
  eg : eager done rest = true
  rl : ∀ x ∈ rest, x ∈ l
  rd : ∀ x ∈ l, done.testBit x.i = false → x ∈ rest
  fr : FrP β ω (fun t => ∃ x ∈ l, done.testBit x.i = true ∧ ¬ Lis listed x.i ∧ x.o.dst = some t ∧ t < a.nt) a act
  fl : ∀ x ∈ l, done.testBit x.i = true → ¬ Lis listed x.i → x.fl = true ∧ FSq E ω ops hs a h pend bid β x
  inj : ∀ x ∈ l, ∀ y ∈ l, done.testBit x.i = true → ¬ Lis listed x.i → done.testBit y.i = true → ¬ Lis listed y.i → isAlloc x.o = true → isAlloc y.o = true →
    wantedE ops.toList a x.o = some true → wantedE ops.toList a y.o = some true → x ≠ y → bid x.i ≠ bid y.i
end

theorem lis_set {listed : Array Bool} {i j : Nat} (hi : i < listed.size) : Lis (listed.setIfInBounds i true) j ↔ Lis listed j ∨ j = i := by
  unfold Lis
  simp only [Array.getD_eq_getD_getElem?, Array.getElem?_setIfInBounds]
  by_cases e : i = j
  · subst e; simp [hi]
  · rw [if_neg e]; simp [Ne.symm e]

/-- Slots that an operation does not look at. -/
theorem readsOf_operand {ops : List Oper} {o : Oper} {t : Nat} (h : Operand.tmp t ∈ o.op.operands) : t ∈ readsOf ops o := by
  unfold readsOf
  refine List.mem_append_left _ (List.mem_flatMap.2 ⟨.tmp t, by simpa using h, by simp [slotOf]⟩)
theorem readsOf_guard {ops : List Oper} {o g : Oper} {j : Nat} {want : Bool} {d : Tmp} (h : o.guard = some (j, want)) (hj : ops[j]? = some g) (hd : g.dst = some d) : d ∈ readsOf ops o := by
  unfold readsOf
  refine List.mem_append_right _ ?_
  rw [h]; simp [hj, hd]

theorem ev_put {a : Fr} (hl : a.nt ≤ 256) {dst : Option Tmp} {v : AV} {x : Operand} (hx : ∀ t, x = .tmp t → dst ≠ some t) : (a.put dst v).ev x = a.ev x := by
  cases x with
  | tmp t => simp only [Fr.ev]; rw [Fr.put_slot hl, if_neg (fun hh => hx t rfl hh.1)]
  | _ => rfl
theorem wanted_put {ops : List Oper} {a : Fr} (hl : a.nt ≤ 256) {dst : Option Tmp} {v : AV} {o : Oper} (hx : ∀ d ∈ readsOf ops o, dst ≠ some d) : wantedE ops (a.put dst v) o = wantedE ops a o := by
  unfold wantedE
  split
  · rfl
  · rename_i j want hg
    cases hd : (ops[j]?).bind (·.dst) with
    | none => rfl
    | some d =>
      obtain ⟨g, g1, g2⟩ := Option.bind_eq_some_iff.1 hd
      simp only []
      rw [Fr.put_nt, Fr.put_pc, Fr.put_slot hl, if_neg (fun hh => hx d (readsOf_guard hg g1 g2) hh.1)]
theorem stepV_put {ops : List Oper} {a : Fr} (hl : a.nt ≤ 256) {dst : Option Tmp} {v v' : AV} {o : Oper} (hx : ∀ d ∈ readsOf ops o, dst ≠ some d) {h : Heap} (q : StepV E ω a.ev o h v') : StepV E ω (a.put dst v).ev o h v' := by
  unfold StepV
  rw [stepOp_congr o (fun x hm => ev_put hl fun t ht => hx t (readsOf_operand (ht ▸ hm))) h]
  exact q
theorem step_put {ops : List Oper} {a : Fr} (hl : a.nt ≤ 256) {dst : Option Tmp} {v : AV} {o : Oper} (hx : ∀ d ∈ readsOf ops o, dst ≠ some d) (h : Heap) : stepOp E (a.put dst v).ev o h = stepOp E a.ev o h :=
  stepOp_congr o (fun x hm => ev_put hl fun t ht => hx t (readsOf_operand (ht ▸ hm))) h

/-- A condition more. -/
theorem wanted_cond {ops : List Oper} {a : Fr} (hp : ∀ p ∈ a.pc, dB ω p.1 = p.2) {e : SX} {c : Bool} (hc : dB ω e = c) {o : Oper} {b : Bool} (h : wantedE ops a o = some b) : wantedE ops (a.cond (e, c)) o = some b := by
  unfold wantedE at h ⊢
  split
  · rename_i hg; simp only [hg] at h; exact h
  · rename_i j want hg
    simp only [hg] at h
    cases hd : (ops[j]?).bind (·.dst) with
    | none => simp only [hd] at h ⊢; exact h
    | some d =>
      simp only [hd] at h ⊢
      rw [Fr.cond_nt, Fr.cond_slot]
      cases hlt : Nat.blt d a.nt with
      | false => rw [hlt] at h; exact h
      | true =>
        rw [hlt] at h
        simp only [cond_true] at h ⊢
        cases hs : a.slot d <;> simp only [hs] at h ⊢ <;> try exact h
        rename_i e'
        cases hf : pcFind e' a.pc with
        | none => rw [hf] at h; cases h
        | some b' =>
          rw [hf] at h
          simp only [Fr.cond_pc, pcFind]
          cases hq : SX.beq e' e with
          | false => simp only [cond_false, hf]; exact h
          | true =>
            simp only [cond_true]
            have h1 := pcFind_ok hp hf
            rw [SX.beq_eq _ _ hq, hc] at h1
            subst h1; exact h
variable {ops : Array Oper} {l : List PO} {hs : Heap} {βs : Bij}
theorem FSq.want {a : Fr} {pend : List Pend} {bid : Nat → Nat} {x : PO} (f : FSq E ω ops hs a h pend bid β x) : ∃ b, wantedE ops.toList a x.o = some b := by
  rcases f with ⟨h1, _⟩ | ⟨h1, _⟩
  · exact ⟨_, h1⟩
  · exact ⟨_, h1⟩
theorem FSq.cond {a : Fr} {pend : List Pend} {bid : Nat → Nat} {x : PO} (f : FSq E ω ops hs a h pend bid β x) (hp : ∀ p ∈ a.pc, dB ω p.1 = p.2) {e : SX} {c : Bool} (hc : dB ω e = c) : FSq E ω ops hs (a.cond (e, c)) h pend bid β x := by
  unfold FSq
  rw [Fr.cond_ev, Fr.cond_nt]
  rcases f with ⟨h1, h2⟩ | ⟨h1, v, h2, h3, h4⟩
  · exact .inl ⟨wanted_cond hp hc h1, fun d q1 q2 => by rw [Fr.cond_slot]; exact h2 d q1 q2⟩
  · exact .inr ⟨wanted_cond hp hc h1, v, fun d q1 q2 => by rw [Fr.cond_slot]; exact h2 d q1 q2, h3, h4⟩
theorem DI.cond {done : Nat} {rest : List PO} {pend : List Pend} {a : Fr} {bid : Nat → Nat} {listed : Array Bool} {act : Act} (d : DI E ω K w0 ops l hs βs done rest pend a h bid listed β act w) {e : SX} {c : Bool} (hc : dB ω e = c) :
    DI E ω K w0 ops l hs βs done rest pend (a.cond (e, c)) h bid listed β act w := by
  refine ⟨d.hr, d.st, d.lsz, d.cd, d.cm, d.dm, d.eg, d.rl, d.rd, ?_, fun x hx g1 g2 => ⟨(d.fl x hx g1 g2).1, (d.fl x hx g1 g2).2.cond d.fr.pcs hc⟩, fun x hx y hy g1 g2 g3 g4 q1 q2 q3 q4 hne => ?_⟩
  · have := d.fr.cond (e := e) hc
    refine this.weaken ?_
    intro t ht
    rw [Fr.cond_nt]; exact ht
  · have key : ∀ z ∈ l, done.testBit z.i = true → ¬ Lis listed z.i → wantedE ops.toList (a.cond (e, c)) z.o = some true → wantedE ops.toList a z.o = some true := by
      intro z hz z1 z2 z3
      obtain ⟨b, hb⟩ := (d.fl z hz z1 z2).2.want
      have := wanted_cond d.fr.pcs hc hb
      rw [this] at z3
      simp only [Option.some.injEq] at z3
      rw [hb, z3]
    exact d.inj x hx y hy g1 g2 g3 g4 q1 q2 (key x hx g1 g2 q3) (key y hy g3 g4 q4) hne

end Go.Ev
