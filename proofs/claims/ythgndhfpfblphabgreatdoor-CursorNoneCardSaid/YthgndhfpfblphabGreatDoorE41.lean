/- The evaluator: a list of contracts, each shown by the ones before it. -/
import Derived.Test.YthgndhfpfblphabGreatDoorE40
set_option linter.unusedVariables false
set_option linter.unusedSimpArgs false
namespace Go.Ev
open Go

structure HC where
  f : FuncId
  nv : Nat
  c : FC
def hookOr (a b : Res) : Res := match a with
  | .bad => b
  | r => r
noncomputable def lHook : List HC → FuncId → List AV → Heap → Res
  | [], _, _, _ => .bad
  | x :: r, f, args, h => bif Nat.beq x.f f then hookOr (fcHook x.c x.nv args h) (lHook r f args h) else lHook r f args h
noncomputable def Env.hooks (E : Env) (cs : List HC) : Env := { E with hook := lHook cs }
def HcOk (E : Env) (Ω : Opq → Prop) (x : HC) : Prop := ∀ ω, Ω ω → ∀ (args : List AV) (h : Heap) (v : AV) (h' : Heap), (fcHook x.c x.nv args h = .val v h' ∨ ∃ e, fcHook x.c x.nv args h = .need e v h' ∧ dB ω e = true) → HookPost E ω x.f args h v h'

theorem lHook_at {f : FuncId} {args : List AV} {h : Heap} {y : Res} : ∀ {cs : List HC}, lHook cs f args h = y → y ≠ .bad → ∃ x ∈ cs, x.f = f ∧ fcHook x.c x.nv args h = y
  | [], e, hy => absurd e.symm hy
  | x :: r, e, hy => by
    unfold lHook at e
    cases hc : Nat.beq x.f f with
    | false =>
      rw [hc] at e
      obtain ⟨z, hz, h1, h2⟩ := lHook_at e hy
      exact ⟨z, List.mem_cons_of_mem _ hz, h1, h2⟩
    | true =>
      rw [hc] at e
      simp only [cond_true] at e
      cases hr : fcHook x.c x.nv args h with
      | bad =>
        rw [hr] at e
        obtain ⟨z, hz, h1, h2⟩ := lHook_at (cs := r) e hy
        exact ⟨z, List.mem_cons_of_mem _ hz, h1, h2⟩
      | _ =>
        rw [hr] at e
        exact ⟨x, List.mem_cons_self .., beq_iff'.1 hc, hr.trans e⟩

theorem hooks_ok {E : Env} {Ω : Opq → Prop} {cs : List HC} (hc : ∀ x ∈ cs, HcOk E Ω x) {ω : Opq} (hω : Ω ω) : HookOk (E.hooks cs) ω := by
  refine ⟨fun f args h v h' e => ?_, fun f args h e v h' hh hd => ?_⟩
  · obtain ⟨x, hx, rfl, h2⟩ := lHook_at (show lHook cs f args h = _ from e) (by simp)
    exact hc x hx ω hω args h v h' (.inl h2)
  · obtain ⟨x, hx, rfl, h2⟩ := lHook_at (show lHook cs f args h = _ from hh) (by simp)
    exact hc x hx ω hω args h v h' (.inr ⟨e, h2, hd⟩)

theorem Env.Ok.hooks {E : Env} {ω : Opq} (h : E.Ok ω) (cs : List HC) : (E.hooks cs).Ok ω := ⟨h.fix, h.name, h.ext, h.bin, h.un, h.conv, h.blt⟩

/-- One more contract. -/
theorem hc_step {E : Env} {Ω : Opq → Prop} (hΩ : ∀ ω v0 l, Ω ω → Ω (ω.upd v0 l)) (hE : ∀ ω, Ω ω → E.Ok ω) (hm : E.P.follows .mixedOrders = true) {cs : List HC} (hc : ∀ x ∈ cs, HcOk E Ω x) {x : HC} {n : Nat} (ho : fcOk x.c x.nv = true) (hx : FcMath (E.hooks cs) Ω n x.f x.c) : HcOk E Ω x :=
  fun ω hω args h v h' e => fcCall (E := E) (E0 := E.hooks cs) hΩ rfl ho (fun ω hω => (run_ok (E := E.hooks cs) hΩ (fun ω h => (hE ω h).hooks cs) (fun ω h => hooks_ok hc h) hm n ω hω).2.1) hx hω e
/-- Each case by its own contracts. -/
theorem hc_stepX {E : Env} {Ω : Opq → Prop} (hΩ : ∀ ω v0 l, Ω ω → Ω (ω.upd v0 l)) {x : HC} {n : Nat} (ho : fcOk x.c x.nv = true) (hx : FcMathX E Ω n x.f x.c) : HcOk E Ω x :=
  fun ω hω args h v h' e => fcCallX (E := E) hΩ ho hx hω e
theorem body_hooks {E : Env} {Ω : Opq → Prop} (hΩ : ∀ ω v0 l, Ω ω → Ω (ω.upd v0 l)) (hE : ∀ ω, Ω ω → E.Ok ω) (hm : E.P.follows .mixedOrders = true) {cs : List HC} (hc : ∀ x ∈ cs, HcOk E Ω x) (n : Nat) {ω : Opq} (hω : Ω ω) : BodyS (E.hooks cs) ω n :=
  (run_ok (E := E.hooks cs) hΩ (fun ω h => (hE ω h).hooks cs) (fun ω h => hooks_ok hc h) hm n ω hω).2.1
theorem hc_add {E : Env} {Ω : Opq → Prop} {cs : List HC} {x : HC} (h : ∀ x ∈ cs, HcOk E Ω x) (hx : HcOk E Ω x) : ∀ y ∈ x :: cs, HcOk E Ω y := fun y hy => by
  rcases List.mem_cons.1 hy with rfl | hy
  · exact hx
  · exact h y hy
theorem hc_app {E : Env} {Ω : Opq → Prop} {as cs : List HC} (h : ∀ x ∈ cs, HcOk E Ω x) (hx : ∀ x ∈ as, HcOk E Ω x) : ∀ y ∈ as ++ cs, HcOk E Ω y := fun y hy => by
  rcases List.mem_append.1 hy with hy | hy
  · exact hx y hy
  · exact h y hy

/-- The meanings of applied symbols. -/
def OmF (F : Nat → List Val → Val) (P : Program) (ω : Opq) : Prop := ω.f = F ∧ ∀ t, ω.fix t = fixT P t
theorem omF_upd {F : Nat → List Val → Val} {P : Program} : ∀ (ω : Opq) (v0 : Nat) (l : List Val), OmF F P ω → OmF F P (ω.upd v0 l) := fun _ _ _ h => h

/-- A contract whose run is one tree. -/
theorem fcMath1 {E : Env} {Ω : Opq → Prop} {n : Nat} {f : FuncId} {c : FC} {T : VT} (ht : FC.run E n f c c.args = T) (h : ∀ ω, Ω ω → dB ω c.need = true → evalT T ω = some (0, dens ω c.outs)) : FcMath E Ω n f c :=
  fun ω hω hn => ⟨c.args, fun _ _ h => h, by rw [ht]; exact h ω hω hn⟩

end Go.Ev
