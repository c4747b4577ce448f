/- The evaluator: one operation. -/
import Derived.Test.YtokdlolhbcjghacGreatE14
import Derived.CallsIn
set_option linter.unusedVariables false
set_option linter.unusedSimpArgs false
namespace Go.Ev
open Go

/-- What is asked of an environment. -/
structure Env.Ok (E : Env) (ω : Opq) : Prop where
  name : ∀ (f : FuncId) (fn : Func), E.P.funcs[f]? = some fn → (fn.name == "runtime.NumGoroutine") = false
  ext : ∀ (f : FuncId) (e : Ext), E.ext f = some e → ∃ fn : Func, E.P.funcs[f]? = some fn ∧ fn.body = none ∧ Extern.findNext fn = none ∧ Extern.find fn = some e.model
  bin : ∀ op a b v, E.fact (.bin op) [a, b] = some v → ∀ (β : Bij) t va vb, VR β ω a va → VR β ω b vb → ∃ u, VR β ω v u ∧ ∀ w, (binOp op t va vb).run E.P w = .ok u w
  un : ∀ op a v, E.fact (.un op) [a] = some v → ∀ (β : Bij) va, VR β ω a va → ∃ u, VR β ω v u ∧ ∀ w, (Op.unary op va).run E.P w = .ok u w
  conv : ∀ d a v, E.fact (.conv d) [a] = some v → ∀ (β : Bij) s va, VR β ω a va → ∃ u, VR β ω v u ∧ ∀ w, (convert s d va).run E.P w = .ok u w
  blt : ∀ b k as v, (b = .len ∧ k = .len ∨ b = .max ∧ k = .max ∨ b = .min ∧ k = .min) → E.fact k as = some v → ∀ (β : Bij) ts ty cs us, VRs β ω as us → ∃ u, VR β ω v u ∧ ∀ w, (builtin b ts ty cs us.toArray).run E.P w = .ok (.value u) w

variable {E : Env} {β : Bij} {ω : Opq} {K : Nat → Prop} {w0 w : World} {h h' : Heap}

def SVal (E : Env) (β : Bij) (ω : Opq) (K : Nat → Prop) (w0 w : World) (h : Heap) (m : Sem Next) (v : AV) (h' : Heap) : Prop :=
  ∃ β' u w', (m.run E.P w = .ok (.value u) w' ∨ u = Go.undef ∧ m.run E.P w = .ok .skip w') ∧ VR β' ω v u ∧ HR β' ω K w0 h' w' ∧ St h β h' β'
def SOk (E : Env) (β : Bij) (ω : Opq) (K : Nat → Prop) (w0 w : World) (h : Heap) (m : Sem Next) : Res → Prop
  | .val v h' => SVal E β ω K w0 w h m v h'
  | .enter f args => ∃ us : List Value, m.run E.P w = .ok (.enter f us.toArray) w ∧ VRs β ω args us
  | .choice l => ∃ x ∈ l, SVal E β ω K w0 w h m x.1 x.2
  | .bad => True

theorem SVal.of {m : Sem Value} {v : AV} (k : Ok E.P β ω K w0 w h m v h') : SVal E β ω K w0 w h (do pure (.value (← m))) v h' := by
  obtain ⟨β', u, w', h1, h2, h3, h4⟩ := k
  exact ⟨β', u, w', .inl (by simp only [Sem.run_bind, h1, Result.andThen_ok, Sem.run_pure]), h2, h3, h4⟩
theorem SVal.ofPure {m : Sem Value} {v : AV} (r : HR β ω K w0 h w) (k : ∃ u, VR β ω v u ∧ m.run E.P w = .ok u w) : SVal E β ω K w0 w h (do pure (.value (← m))) v h := by
  obtain ⟨u, h1, h2⟩ := k
  exact .of ⟨β, u, w, h2, h1, r, .refl _ _⟩
theorem SVal.ofU {m : Sem Unit} (k : OkU E.P β ω K w0 w h m h') : SVal E β ω K w0 w h (do m; pure .skip) .undef h' := by
  obtain ⟨w', h1, h2, h3⟩ := k
  exact ⟨β, Go.undef, w', .inr ⟨rfl, by simp only [Sem.run_bind, h1, Result.andThen_ok, Sem.run_pure]⟩, ⟨#[], rfl, rfl⟩, h2, h3⟩

theorem ov_ok {m : Sem Value} {x : Option AV} (r : HR β ω K w0 h w) (k : ∀ v, x = some v → ∃ u, VR β ω v u ∧ m.run E.P w = .ok u w) : SOk E β ω K w0 w h (do pure (.value (← m))) (ov x h) := by
  cases x with
  | none => trivial
  | some v => exact .ofPure r (k v rfl)
theorem oh_ok {m : Sem Value} {x : Option (AV × Heap)} (k : ∀ v h', x = some (v, h') → Ok E.P β ω K w0 w h m v h') : SOk E β ω K w0 w h (do pure (.value (← m))) (oh x) := by
  cases x with
  | none => trivial
  | some p => exact .of (k p.1 p.2 rfl)
theorem os_ok {m : Sem Unit} {x : Option Heap} (k : ∀ h', x = some h' → OkU E.P β ω K w0 w h m h') : SOk E β ω K w0 w h (do m; pure .skip) (os x) := by
  cases x with
  | none => trivial
  | some p => exact .ofU (k p rfl)

/-- Operands. -/
def OpR (β : Bij) (ω : Opq) (ρA : Operand → Option AV) (ρ : Operand → Value) : Prop := ∀ x a, ρA x = some a → VR β ω a (ρ x)
theorem OpR.mono {β' : Bij} {ρA : Operand → Option AV} {ρ : Operand → Value} (hl : Le β β') (o : OpR β ω ρA ρ) : OpR β' ω ρA ρ := fun x a e => VR.mono hl _ _ (o x a e)
theorem evs_ok {ρA : Operand → Option AV} {ρ : Operand → Value} (o : OpR β ω ρA ρ) : ∀ {l : List Operand} {vs : List AV}, evs ρA l = some vs → VRs β ω vs (l.map ρ)
  | [], vs, e => by simp only [evs, Option.some.injEq] at e; subst e; exact .nil
  | x :: r, vs, e => by
    simp only [evs] at e
    split at e
    · rename_i v vs' h1 h2
      simp only [Option.some.injEq] at e; subst e
      exact .cons (o x v h1) (evs_ok o h2)
    · cases e
theorem evps_ok {ρA : Operand → Option AV} {ρ : Operand → Value} (o : OpR β ω ρA ρ) : ∀ {l : List (Nat × Operand)} {vs : List (Nat × AV)}, evps ρA l = some vs →
    vs.map (·.1) = (l.map fun p => (p.1, ρ p.2)).map (·.1) ∧ VRs β ω (vs.map (·.2)) ((l.map fun p => (p.1, ρ p.2)).map (·.2))
  | [], vs, e => by simp only [evps, Option.some.injEq] at e; subst e; exact ⟨rfl, .nil⟩
  | (i, x) :: r, vs, e => by
    simp only [evps] at e
    split at e
    · rename_i v vs' h1 h2
      simp only [Option.some.injEq] at e; subst e
      obtain ⟨q1, q2⟩ := evps_ok o h2
      exact ⟨by simpa using q1, .cons (o x v h1) q2⟩
    · cases e
theorem evo_ok {ρA : Operand → Option AV} {ρ : Operand → Value} (o : OpR β ω ρA ρ) {x : Option Operand} {v : Option AV} (e : evo ρA x = some v) : OR β ω v (x.map ρ) := by
  cases x with
  | none => simp only [evo, Option.some.injEq] at e; subst e; rfl
  | some x =>
    simp only [evo, Option.map_eq_some_iff] at e
    obtain ⟨a, ha, rfl⟩ := e
    exact ⟨_, rfl, o x a ha⟩

theorem callE_ok (hE : E.Ok ω) {f : FuncId} {args : List AV} {us : List Value} (r : HR β ω K w0 h w) (ra : VRs β ω args us) : SOk E β ω K w0 w h (callFunc f us.toArray) (callE E f args h) := by
  unfold callE
  split
  · trivial
  · rename_i fn hf
    have hn := hE.name f fn hf
    split
    · rename_i c hb
      refine ⟨us, ?_, ra⟩
      simp only [callFunc, Sem.run_bind, run_program, Result.andThen_ok, hf, hn, hb, Bool.false_eq_true, if_false, Option.isNone_some, Sem.run_pure]
    · rename_i hb
      split
      · rename_i e he
        obtain ⟨fn', h1, h2, h3, h4⟩ := hE.ext f e he
        rw [hf] at h1; simp only [Option.some.injEq] at h1; subst h1
        cases hx : extE E.P e args h with
        | none => trivial
        | some p =>
          obtain ⟨β', u, w', g1, g2, g3, g4⟩ := extE_ok (us := us.toArray) (a := p.1) (h' := p.2) r hx (by simpa using ra)
          refine ⟨β', u, w', .inl ?_, g2, g3, g4⟩
          simp only [callFunc, Sem.run_bind, run_program, Result.andThen_ok, hf, hn, hb, Bool.false_eq_true, if_false, Option.isNone_none, if_true, run_mark, h3, h4, g1, Sem.run_pure]
      · trivial

theorem callVal_ok (hE : E.Ok ω) {f : AV} {vf : Value} {args : List AV} {us : List Value} (r : HR β ω K w0 h w) (rf : VR β ω f vf) (ra : VRs β ω args us) :
    SOk E β ω K w0 w h (do let d ← Deferred.ofValue vf us.toArray; invoke d.target d.args) (callVal E f args h) := by
  unfold callVal
  split
  · rename_i g first cap
    obtain ⟨-, x, y, rfl, rx, ry⟩ := rf
    have := callE_ok hE (f := g) r ((rx.append ra).append ry)
    have hrun : ∀ w, (do let d ← Deferred.ofValue (.func (.func g) x y) us.toArray; invoke d.target d.args : Sem Next).run E.P w = (callFunc g (x.toList ++ us ++ y.toList).toArray).run E.P w := by
      intro w
      simp only [Deferred.ofValue, Sem.run_bind, Sem.run_pure, Result.andThen_ok, invoke]
      congr 1
      congr 1
      apply Array.ext'
      simp
    cases hres : callE E g (first ++ args ++ cap) h <;> rw [hres] at this
    · obtain ⟨β', u, w', q1, q2⟩ := this
      exact ⟨β', u, w', by rw [hrun]; exact q1, q2⟩
    · obtain ⟨vs, q1, q2⟩ := this
      exact ⟨vs, by rw [hrun]; exact q1, q2⟩
    · obtain ⟨x, hx, β', u, w', q1, q2⟩ := this
      exact ⟨x, hx, β', u, w', by rw [hrun]; exact q1, q2⟩
    · trivial
  · trivial

def plainNil : Value → Bool
  | .pointer none | .nilIface | .nilFunc => false
  | .func (.method _) _ _ => false
  | _ => true
theorem nilCheck_ok {x : AV} {v : Value} (r : VR β ω x v) {a : AV} (e : nilCheckE x = some a) : a = x ∧ plainNil v = true := by
  unfold nilCheckE at e
  split at e
  · cases e
  · cases e
  · cases e
  · cases e
  · cases e
  · rename_i h1 h2 h3 h4 h5
    simp only [Option.some.injEq] at e
    refine ⟨e.symm, ?_⟩
    cases x <;> simp only [VR] at r
    case nilp => exact absurd rfl h1
    case nilf => exact absurd rfl h3
    case nili => exact absurd rfl h2
    case opq n => exact absurd rfl (h4 n)
    case func fn a b =>
      obtain ⟨-, p, q, rfl, -⟩ := r
      cases fn <;> first | rfl | exact absurd rfl (h5 _ _ _)
    all_goals first
      | (subst r; rfl)
      | (obtain ⟨L, _, rfl⟩ := r; rfl)
      | (obtain ⟨L, c, _, _, rfl⟩ := r; rfl)
      | (obtain ⟨L, a, c, _, rfl, _⟩ := r; rfl)
      | (obtain ⟨a, rfl⟩ := r; rfl)
      | (obtain ⟨a, rfl, _⟩ := r; rfl)

end Go.Ev
