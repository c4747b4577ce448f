import Derived.Test.YtdhepaehegnfdaaGreatDoorE40
set_option linter.unusedVariables false
set_option linter.unusedSimpArgs false
namespace Go.Ev
open Go
structure HC where
 f : FuncId
 nv : Nat
 c : FC
def cr5 (a b : Res) : Res := match a with
 | .bad => b
 | r => r
noncomputable def b58 : List HC → FuncId → List AV → Heap → Res
 | [], _, _, _ => .bad
 | x :: r, f, args, h => bif Nat.beq x.f f then cr5 (K1 x.c x.nv args h) (b58 r f args h) else b58 r f args h
noncomputable def Env.hooks (E : Env) (cs : List HC) : Env := { E with hook := b58 cs }
def C5 (E : Env) (Ω : Opq → Prop) (x : HC) : Prop := ∀ ω, Ω ω → ∀ (args : List AV) (h : Heap) (v : AV) (h' : Heap), (K1 x.c x.nv args h = .val v h' ∨ ∃ e, K1 x.c x.nv args h = .need e v h' ∧ dB ω e = true) → P3 E ω x.f args h v h'
theorem ai6 {f : FuncId} {args : List AV} {h : Heap} {y : Res} : ∀ {cs : List HC}, b58 cs f args h = y → y ≠ .bad → ∃ x ∈ cs, x.f = f ∧ K1 x.c x.nv args h = y
 | [], e, hy => absurd e.symm hy
 | x :: r, e, hy => by
   unfold b58 at e
   cases hc : Nat.beq x.f f with
   | false =>
     rw [hc] at e
     obtain ⟨z, hz, h1, h2⟩ := ai6 e hy
     exact ⟨z, List.mem_cons_of_mem _ hz, h1, h2⟩
   | true =>
     rw [hc] at e
     simp only [cond_true] at e
     cases hr : K1 x.c x.nv args h with
     | bad =>
       rw [hr] at e
       obtain ⟨z, hz, h1, h2⟩ := ai6 (cs := r) e hy
       exact ⟨z, List.mem_cons_of_mem _ hz, h1, h2⟩
     | _ =>
       rw [hr] at e
       exact ⟨x, List.mem_cons_self .., j0.1 hc, hr.trans e⟩
theorem bY0 {E : Env} {Ω : Opq → Prop} {cs : List HC} (hc : ∀ x ∈ cs, C5 E Ω x) {ω : Opq} (hω : Ω ω) : HookOk (E.hooks cs) ω := by
 refine ⟨fun f args h v h' e => ?_, fun f args h e v h' hh hd => ?_⟩
 · obtain ⟨x, hx, rfl, h2⟩ := ai6 (show b58 cs f args h = _ from e) (by simp)
   exact hc x hx ω hω args h v h' (.inl h2)
 · obtain ⟨x, hx, rfl, h2⟩ := ai6 (show b58 cs f args h = _ from hh) (by simp)
   exact hc x hx ω hω args h v h' (.inr ⟨e, h2, hd⟩)
theorem Env.Ok.hooks {E : Env} {ω : Opq} (h : E.Ok ω) (cs : List HC) : (E.hooks cs).Ok ω := ⟨h.fix, h.name, h.ext, h.bin, h.un, h.conv, h.blt⟩
theorem n8 {E : Env} {Ω : Opq → Prop} (hΩ : ∀ ω v0 l, Ω ω → Ω (ω.upd v0 l)) (hE : ∀ ω, Ω ω → E.Ok ω) (hm : E.P.follows .mixedOrders = true) {cs : List HC} (hc : ∀ x ∈ cs, C5 E Ω x) {x : HC} {n : Nat} (ho : bG2 x.c x.nv = true) (hx : bH3 (E.hooks cs) Ω n x.f x.c) : C5 E Ω x :=
 fun ω hω args h v h' e => cr4 (E := E) (E0 := E.hooks cs) hΩ rfl ho (fun ω hω => (c41 (E := E.hooks cs) hΩ (fun ω h => (hE ω h).hooks cs) (fun ω h => bY0 hc h) hm n ω hω).2.1) hx hω e
theorem s9 {E : Env} {Ω : Opq → Prop} {cs : List HC} {x : HC} (h : ∀ x ∈ cs, C5 E Ω x) (hx : C5 E Ω x) : ∀ y ∈ x :: cs, C5 E Ω y := fun y hy => by
 rcases List.mem_cons.1 hy with rfl | hy
 · exact hx
 · exact h y hy
theorem af3 {E : Env} {Ω : Opq → Prop} {as cs : List HC} (h : ∀ x ∈ cs, C5 E Ω x) (hx : ∀ x ∈ as, C5 E Ω x) : ∀ y ∈ as ++ cs, C5 E Ω y := fun y hy => by
 rcases List.mem_append.1 hy with hy | hy
 · exact hx y hy
 · exact h y hy
def OmF (F : Nat → List Val → Val) (P : Program) (ω : Opq) : Prop := ω.f = F ∧ ∀ t, ω.fix t = aa9 P t
theorem o9 {E : Env} {Ω : Opq → Prop} {n : Nat} {f : FuncId} {c : FC} {T : VT} (ht : FC.run E n f c c.args = T) (h : ∀ ω, Ω ω → dB ω c.need = true → j3 T ω = some (0, k5 ω c.outs)) : bH3 E Ω n f c :=
 fun ω hω hn => ⟨c.args, fun _ _ h => h, by rw [ht]; exact h ω hω hn⟩
end Go.Ev
