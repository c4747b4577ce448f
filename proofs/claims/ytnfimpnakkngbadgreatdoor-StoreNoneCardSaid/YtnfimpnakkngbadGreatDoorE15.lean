/- The evaluator: one operation. -/
import Derived.Test.YtnfimpnakkngbadGreatDoorE14
import Derived.CallsIn
set_option linter.unusedVariables false
set_option linter.unusedSimpArgs false
namespace Go.Ev
open Go

/-- What is asked of an environment. -/
structure Env.Ok (E : Env) (ω : Opq) : Prop where
  fix : ∀ t, ω.fix t = fixT E.P t
  name : ∀ (f : FuncId) (fn : Func), E.P.funcs[f]? = some fn → (fn.name == "runtime.NumGoroutine") = false
  ext : ∀ (f : FuncId) (e : Ext), E.ext f = some e → ∃ fn : Func, E.P.funcs[f]? = some fn ∧ fn.body = none ∧ Extern.findNext fn = none ∧ Extern.find fn = some e.model
  bin : ∀ op a b v, E.fact (.bin op) [a, b] = some v → ∀ (β : Bij) t va vb, VR β ω a va → VR β ω b vb → ∃ u, VR β ω v u ∧ ∀ w, (binOp op t va vb).run E.P w = .ok u w
  un : ∀ op a v, E.fact (.un op) [a] = some v → ∀ (β : Bij) va, VR β ω a va → ∃ u, VR β ω v u ∧ ∀ w, (Op.unary op va).run E.P w = .ok u w
  conv : ∀ d a v, E.fact (.conv d) [a] = some v → ∀ (β : Bij) s va, VR β ω a va → ∃ u, VR β ω v u ∧ ∀ w, (convert s d va).run E.P w = .ok u w
  blt : ∀ b k as v, (b = .len ∧ k = .len ∨ b = .max ∧ k = .max ∨ b = .min ∧ k = .min) → E.fact k as = some v → ∀ (β : Bij) ts ty cs us, VRs β ω as us → ∃ u, VR β ω v u ∧ ∀ w, (builtin b ts ty cs us.toArray).run E.P w = .ok (.value u) w

variable {E : Env} {β : Bij} {ω : Opq} {K : Nat → Prop} {w0 w : World} {h h' : Heap}

/-- Deferred calls. -/
def DR (β : Bij) (ω : Opq) : ADef → Deferred → Prop
  | .coll b, d => ∃ L, β b = some L ∧ d = { target := .collected L.blk, args := #[] }
  | .fn f cap args, d => ∃ us cs, d = { target := .fn (.func f) cs, args := us } ∧ VRs β ω args us.toList ∧ VRs β ω cap cs.toList
def DsR (β : Bij) (ω : Opq) : List ADef → List Deferred → Prop
  | [], ds => ds = []
  | a :: r, ds => ∃ d dr, ds = d :: dr ∧ DR β ω a d ∧ DsR β ω r dr
theorem DR.mono {β' : Bij} (hl : Le β β') : ∀ {a : ADef} {d : Deferred}, DR β ω a d → DR β' ω a d
  | .coll b, d, ⟨L, h1, h2⟩ => ⟨L, hl _ _ h1, h2⟩
  | .fn f cap args, d, ⟨us, cs, h1, h2, h3⟩ => ⟨us, cs, h1, VRs.mono hl _ _ h2, VRs.mono hl _ _ h3⟩
theorem DsR.mono {β' : Bij} (hl : Le β β') : ∀ {a : List ADef} {d : List Deferred}, DsR β ω a d → DsR β' ω a d
  | [], _, h => h
  | a :: r, d, ⟨x, y, h1, h2, h3⟩ => ⟨x, y, h1, h2.mono hl, DsR.mono hl h3⟩

def SVal (E : Env) (β : Bij) (ω : Opq) (K : Nat → Prop) (w0 w : World) (h : Heap) (m : Sem Next) (v : AV) (h' : Heap) : Prop :=
  ∃ β' u w', (m.run E.P w = .ok (.value u) w' ∨ u = Go.undef ∧ m.run E.P w = .ok .skip w') ∧ VR β' ω v u ∧ HR β' ω K w0 h' w' ∧ St h β h' β'
def SOk (E : Env) (β : Bij) (ω : Opq) (K : Nat → Prop) (w0 w : World) (h : Heap) (m : Sem Next) : Res → Prop
  | .val v h' => SVal E β ω K w0 w h m v h'
  | .need e v h' => dB ω e = true → SVal E β ω K w0 w h m v h'
  | .enter f args => ∃ us : List Value, m.run E.P w = .ok (.enter f us.toArray) w ∧ VRs β ω args us
  | .choice l => ∃ x ∈ l, SVal E β ω K w0 w h m x.1 x.2
  | .yield l args => ∃ (L : Loc) (us : List Value), β l = some L ∧ VRs β ω args us ∧ m.run E.P w = (Instr.yield L.blk us.toArray).run E.P w
  | .defer d => ∃ dd, m.run E.P w = .ok (.defer dd) w ∧ DR β ω d dd
  | .bad => True

theorem SVal.of {m : Sem Value} {v : AV} (k : Ok E.P β ω K w0 w h m v h') : SVal E β ω K w0 w h (do pure (.value (← m))) v h' := by
  obtain ⟨β', u, w', h1, h2, h3, h4⟩ := k
  exact ⟨β', u, w', .inl (by simp only [Sem.run_bind, h1, Result.andThen_ok, Sem.run_pure]), h2, h3, h4⟩
theorem SVal.ofPure {m : Sem Value} {v : AV} (r : HR β ω K w0 h w) (k : ∃ u, VR β ω v u ∧ m.run E.P w = .ok u w) : SVal E β ω K w0 w h (do pure (.value (← m))) v h := by
  obtain ⟨u, h1, h2⟩ := k
  exact .of ⟨β, u, w, h2, h1, r, .refl _ _⟩
theorem SVal.ofU {m : Sem Unit} (k : OkU E.P β ω K w0 w h m h') : SVal E β ω K w0 w h (do m; pure .skip) .undef h' := by
  obtain ⟨w', h1, h2, h3⟩ := k
  exact ⟨β, Go.undef, w', .inr ⟨rfl, by simp only [Sem.run_bind, h1, Result.andThen_ok, Sem.run_pure]⟩, ⟨#[], rfl, rfl⟩, h2, h3⟩

theorem ov_ok {m : Sem Value} {x : Option AV} (r : HR β ω K w0 h w) (k : ∀ v, x = some v → ∃ u, VR β ω v u ∧ m.run E.P w = .ok u w) : SOk E β ω K w0 w h (do pure (.value (← m))) (ov x h) := by
  cases x with
  | none => trivial
  | some v => exact .ofPure r (k v rfl)
theorem oh_ok {m : Sem Value} {x : Option (AV × Heap)} (k : ∀ v h', x = some (v, h') → Ok E.P β ω K w0 w h m v h') : SOk E β ω K w0 w h (do pure (.value (← m))) (oh x) := by
  cases x with
  | none => trivial
  | some p => exact .of (k p.1 p.2 rfl)
theorem os_ok {m : Sem Unit} {x : Option Heap} (k : ∀ h', x = some h' → OkU E.P β ω K w0 w h m h') : SOk E β ω K w0 w h (do m; pure .skip) (os x) := by
  cases x with
  | none => trivial
  | some p => exact .ofU (k p rfl)

/-- Operands. -/
def OpR (β : Bij) (ω : Opq) (ρA : Operand → Option AV) (ρ : Operand → Value) : Prop := ∀ x a, ρA x = some a → VR β ω a (ρ x)
theorem OpR.mono {β' : Bij} {ρA : Operand → Option AV} {ρ : Operand → Value} (hl : Le β β') (o : OpR β ω ρA ρ) : OpR β' ω ρA ρ := fun x a e => VR.mono hl _ _ (o x a e)
theorem evs_ok {ρA : Operand → Option AV} {ρ : Operand → Value} (o : OpR β ω ρA ρ) : ∀ {l : List Operand} {vs : List AV}, evs ρA l = some vs → VRs β ω vs (l.map ρ)
  | [], vs, e => by simp only [evs, Option.some.injEq] at e; subst e; exact .nil
  | x :: r, vs, e => by
    simp only [evs] at e
    split at e
    · rename_i v vs' h1 h2
      simp only [Option.some.injEq] at e; subst e
      exact .cons (o x v h1) (evs_ok o h2)
    · cases e
theorem evps_ok {ρA : Operand → Option AV} {ρ : Operand → Value} (o : OpR β ω ρA ρ) : ∀ {l : List (Nat × Operand)} {vs : List (Nat × AV)}, evps ρA l = some vs →
    vs.map (·.1) = (l.map fun p => (p.1, ρ p.2)).map (·.1) ∧ VRs β ω (vs.map (·.2)) ((l.map fun p => (p.1, ρ p.2)).map (·.2))
  | [], vs, e => by simp only [evps, Option.some.injEq] at e; subst e; exact ⟨rfl, .nil⟩
  | (i, x) :: r, vs, e => by
    simp only [evps] at e
    split at e
    · rename_i v vs' h1 h2
      simp only [Option.some.injEq] at e; subst e
      obtain ⟨q1, q2⟩ := evps_ok o h2
      exact ⟨by simpa using q1, .cons (o x v h1) q2⟩
    · cases e
theorem evo_ok {ρA : Operand → Option AV} {ρ : Operand → Value} (o : OpR β ω ρA ρ) {x : Option Operand} {v : Option AV} (e : evo ρA x = some v) : OR β ω v (x.map ρ) := by
  cases x with
  | none => simp only [evo, Option.some.injEq] at e; subst e; rfl
  | some x =>
    simp only [evo, Option.map_eq_some_iff] at e
    obtain ⟨a, ha, rfl⟩ := e
    exact ⟨_, rfl, o x a ha⟩

theorem callE_ok (hE : E.Ok ω) {f : FuncId} {args : List AV} {us : List Value} (r : HR β ω K w0 h w) (ra : VRs β ω args us) : SOk E β ω K w0 w h (callFunc f us.toArray) (callE E f args h) := by
  unfold callE
  split
  · trivial
  · rename_i fn hf
    have hn := hE.name f fn hf
    split
    · rename_i c hb
      refine ⟨us, ?_, ra⟩
      simp only [callFunc, Sem.run_bind, run_program, Result.andThen_ok, hf, hn, hb, Bool.false_eq_true, if_false, Option.isNone_some, Sem.run_pure]
    · rename_i hb
      split
      · rename_i e he
        obtain ⟨fn', h1, h2, h3, h4⟩ := hE.ext f e he
        rw [hf] at h1; simp only [Option.some.injEq] at h1; subst h1
        have one : ∀ v h', Ok E.P β ω K w0 w h (e.model us.toArray) v h' → SVal E β ω K w0 w h (callFunc f us.toArray) v h' := by
          rintro v h' ⟨β', u, w', g1, g2, g3, g4⟩
          refine ⟨β', u, w', .inl ?_, g2, g3, g4⟩
          simp only [callFunc, Sem.run_bind, run_program, Result.andThen_ok, hf, hn, hb, Bool.false_eq_true, if_false, Option.isNone_none, if_true, run_mark, h3, h4, g1, Sem.run_pure]
        have plain : SOk E β ω K w0 w h (callFunc f us.toArray) (oh (extE E.P e args h)) := by
          cases hx : extE E.P e args h with
          | none => trivial
          | some p => exact one _ _ (extE_ok (us := us.toArray) (a := p.1) (h' := p.2) r hx (by simpa using ra))
        cases e with
        | overlaps t rt =>
          rcases overE_ok (t := t) (rt := rt) (us := us.toArray) r (by simpa using ra) with h5 | ⟨l, h5, x, hx, h6⟩
          · show SOk E β ω K w0 w h _ (overE t E.P args h)
            rw [h5]; trivial
          · show SOk E β ω K w0 w h _ (overE t E.P args h)
            rw [h5]; exact ⟨x, hx, one _ _ h6⟩
        | _ => exact plain
      · trivial

section
variable {P : Program}
theorem methodE_at {t : TypeId} {name : String} {f : FuncId} (e : methodE P t name = some f) : ∃ i m d pr, P.info? t = some i ∧ i.methods.find? (·.name == name) = some m ∧ m.path.toList = [] ∧ m.func = some (f, pr) ∧ P.underlying t = some d ∧ ((pr = true ∧ ∃ el, d = .pointer el) ∨ (pr = false ∧ ∀ el, d ≠ .pointer el)) := by
  unfold methodE at e
  split at e
  · rename_i i hi
    split at e
    · rename_i m hm
      split at e
      · rename_i hp
        split at e
        · rename_i g el h1 h2
          simp only [Option.some.injEq] at e; subst e
          exact ⟨i, m, _, true, hi, hm, hp, h1, h2, .inl ⟨rfl, el, rfl⟩⟩
        · cases e
        · rename_i g d h1 h3 h2
          simp only [Option.some.injEq] at e; subst e
          exact ⟨i, m, d, false, hi, hm, hp, h3, h2, .inr ⟨rfl, fun el he => h1 el he⟩⟩
        · cases e
      · cases e
    · cases e
  · cases e
theorem run_typeInfo {t : TypeId} {i : TypeInfo} (e : P.info? t = some i) (w : World) : (typeInfo t).run P w = .ok i w := by
  simp only [typeInfo, Sem.run_bind, run_program, Result.andThen_ok, e, Sem.run_pure]
theorem method_run {t : TypeId} {name : String} {f : FuncId} (e : methodE P t name = some f) (n : Nat) (v : Value) (w : World) : (method (n + 1) t v name).run P w = .ok (f, v) w := by
  obtain ⟨i, m, d, pr, h1, h2, h3, h4, h5, h6⟩ := methodE_at e
  simp only [method, Sem.run_bind, run_typeInfo h1, Result.andThen_ok, h2, h3, follow, Sem.run_pure, h4]
  rcases h6 with ⟨rfl, el, rfl⟩ | ⟨rfl, hd⟩
  · simp only [receiverAt, Sem.run_bind, run_underlying h5, Result.andThen_ok, Place.get, Sem.run_pure]
  · simp only [receiverAt, Sem.run_bind, run_underlying h5, Result.andThen_ok]
    cases d with
    | pointer el => exact absurd rfl (hd el)
    | _ => simp only [Place.get, Sem.run_pure, Result.andThen_ok]
theorem nilAhead_run {t : TypeId} {name : String} {f : FuncId} (e : methodE P t name = some f) (n : Nat) (v : Value) (w : World) : (nilAhead (n + 1) t v name).run P w = .ok (some false) w := by
  obtain ⟨i, m, d, pr, h1, h2, h3, h4, h5, h6⟩ := methodE_at e
  simp only [nilAhead, Sem.run_bind, run_typeInfo h1, Result.andThen_ok, h2, h3, followBlind, Sem.run_pure, h4]
  rcases h6 with ⟨rfl, el, rfl⟩ | ⟨rfl, hd⟩
  · rfl
  · simp only [Sem.run_bind, run_underlying h5, Result.andThen_ok]
    cases d with
    | pointer el => exact absurd rfl (hd el)
    | _ => simp only [Sem.run_pure]
end
theorem callMeth_ok (hE : E.Ok ω) {name : String} {first args cap : List AV} {x y : Array Value} {us : List Value} (r : HR β ω K w0 h w) (rx : VRs β ω first x.toList) (ra : VRs β ω args us) :
    SOk E β ω K w0 w h (do let d ← Deferred.ofValue (.func (.method name) x y) us.toArray; invoke d.target d.args) (callMeth E name first args h) := by
  unfold callMeth
  split
  · rename_i t v rest
    split
    · rename_i g hg
      obtain ⟨u, xs, hx, ru, rxs⟩ := rx
      obtain ⟨y', rfl, ry'⟩ := ru
      have hxa : x = (Value.iface t y' :: xs).toArray := by apply Array.ext'; simpa using hx
      subst hxa
      have := callE_ok hE (f := g) (args := v :: (rest ++ args)) (us := y' :: (xs ++ us)) r ⟨y', _, rfl, ry', rxs.append ra⟩
      have hrun : ∀ w, (do let d ← Deferred.ofValue (.func (.method name) (Value.iface t y' :: xs).toArray y) us.toArray; invoke d.target d.args : Sem Next).run E.P w = (callFunc g (y' :: (xs ++ us)).toArray).run E.P w := by
        intro w
        have hm : (method (E.P.types.size + Made.depth) t y' name).run E.P w = .ok (g, y') w := method_run hg (E.P.types.size + 99) y' w
        have ha : ((Value.iface t y' :: xs).toArray ++ us.toArray)[0]? = some (.iface t y') := by simp
        simp only [Deferred.ofValue, Sem.run_bind, Sem.run_pure, Result.andThen_ok, invoke, ha, callMethod, run_program, hm]
        have hargs : #[y'] ++ ((Value.iface t y' :: xs).toArray ++ us.toArray).extract 1 ((Value.iface t y' :: xs).toArray ++ us.toArray).size = (y' :: (xs ++ us)).toArray := by
          apply Array.ext'
          simp only [Array.toList_append, Array.toList_extract, List.extract_eq_take_drop, Array.size_append, List.size_toArray, List.length_cons]
          simp only [List.cons_append, List.drop_succ_cons, List.drop_zero, List.nil_append]
          rw [List.take_of_length_le (by simp)]
        rw [hargs]
      cases hres : callE E g (v :: (rest ++ args)) h <;> rw [hres] at this
      · obtain ⟨β', u, w', q1, q2⟩ := this
        exact ⟨β', u, w', by rw [hrun]; exact q1, q2⟩
      · intro hd
        obtain ⟨β', u, w', q1, q2⟩ := this hd
        exact ⟨β', u, w', by rw [hrun]; exact q1, q2⟩
      · obtain ⟨vs, q1, q2⟩ := this
        exact ⟨vs, by rw [hrun]; exact q1, q2⟩
      · obtain ⟨x, hx, β', u, w', q1, q2⟩ := this
        exact ⟨x, hx, β', u, w', by rw [hrun]; exact q1, q2⟩
      · obtain ⟨L, vs, q1, q2, q3⟩ := this
        exact ⟨L, vs, q1, q2, by rw [hrun]; exact q3⟩
      · obtain ⟨d, q1, q2⟩ := this
        exact ⟨d, by rw [hrun]; exact q1, q2⟩
      · trivial
    · trivial
  · trivial

theorem callVal_ok (hE : E.Ok ω) {f : AV} {vf : Value} {args : List AV} {us : List Value} (r : HR β ω K w0 h w) (rf : VR β ω f vf) (ra : VRs β ω args us) :
    SOk E β ω K w0 w h (do let d ← Deferred.ofValue vf us.toArray; invoke d.target d.args) (callVal E f args h) := by
  unfold callVal
  split
  · rename_i g first cap
    obtain ⟨-, x, y, rfl, rx, ry⟩ := rf
    have := callE_ok hE (f := g) r ((rx.append ra).append ry)
    have hrun : ∀ w, (do let d ← Deferred.ofValue (.func (.func g) x y) us.toArray; invoke d.target d.args : Sem Next).run E.P w = (callFunc g (x.toList ++ us ++ y.toList).toArray).run E.P w := by
      intro w
      simp only [Deferred.ofValue, Sem.run_bind, Sem.run_pure, Result.andThen_ok, invoke]
      congr 1
      congr 1
      apply Array.ext'
      simp
    cases hres : callE E g (first ++ args ++ cap) h <;> rw [hres] at this
    · obtain ⟨β', u, w', q1, q2⟩ := this
      exact ⟨β', u, w', by rw [hrun]; exact q1, q2⟩
    · intro hd
      obtain ⟨β', u, w', q1, q2⟩ := this hd
      exact ⟨β', u, w', by rw [hrun]; exact q1, q2⟩
    · obtain ⟨vs, q1, q2⟩ := this
      exact ⟨vs, by rw [hrun]; exact q1, q2⟩
    · obtain ⟨x, hx, β', u, w', q1, q2⟩ := this
      exact ⟨x, hx, β', u, w', by rw [hrun]; exact q1, q2⟩
    · obtain ⟨L, vs, q1, q2, q3⟩ := this
      exact ⟨L, vs, q1, q2, by rw [hrun]; exact q3⟩
    · obtain ⟨d, q1, q2⟩ := this
      exact ⟨d, by rw [hrun]; exact q1, q2⟩
    · trivial
  · rename_i name first cap
    obtain ⟨-, x, y, rfl, rx, ry⟩ := rf
    exact callMeth_ok hE (cap := cap) r rx ra
  · rename_i l
    obtain ⟨L, hL, rfl⟩ := rf
    refine ⟨L, us, hL, ra, ?_⟩
    simp only [Deferred.ofValue, Sem.run_bind, Sem.run_pure, Result.andThen_ok, invoke]
    congr 1
    congr 1
    apply Array.ext'
    simp
  · trivial

def plainNil : Value → Bool
  | .pointer none | .nilIface | .nilFunc => false
  | .func (.method _) _ _ => false
  | _ => true
theorem nilCheck_ok {x : AV} {v : Value} (r : VR β ω x v) {a : AV} (e : nilCheckE x = some a) : a = x ∧ plainNil v = true := by
  unfold nilCheckE at e
  split at e
  · cases e
  · cases e
  · cases e
  · cases e
  · cases e
  · cases e
  · rename_i h1 h2 h3 h4 h6 h5
    simp only [Option.some.injEq] at e
    refine ⟨e.symm, ?_⟩
    cases x <;> simp only [VR] at r
    case nilp => exact absurd rfl h1
    case nilf => exact absurd rfl h3
    case nili => exact absurd rfl h2
    case opq n => exact absurd rfl (h4 n)
    case any => exact absurd rfl h6
    case func fn a b =>
      obtain ⟨-, p, q, rfl, -⟩ := r
      cases fn <;> first | rfl | exact absurd rfl (h5 _ _ _)
    all_goals first
      | (rcases r with ⟨L, c, _, rfl, _⟩ | ⟨rfl, _⟩ <;> rfl)
      | (rcases r with ⟨L, c, _, _, rfl, _⟩ | ⟨rfl, _⟩ <;> rfl)
      | (subst r; rfl)
      | (obtain ⟨L, _, rfl⟩ := r; rfl)
      | (obtain ⟨L, c, _, _, rfl⟩ := r; rfl)
      | (obtain ⟨L, a, c, _, rfl, _⟩ := r; rfl)
      | (obtain ⟨a, rfl⟩ := r; rfl)
      | (obtain ⟨a, rfl, _⟩ := r; rfl)

end Go.Ev
