/- The evaluator: bodies. -/
import Derived.Test.YtokdlolhbcjghacGreatE27
set_option linter.unusedVariables false
set_option linter.unusedSimpArgs false
namespace Go.Ev
open Go

variable {E : Env} {ω : Opq}

theorem putArgs_get : ∀ (vs : List AV) (i : Nat) (t : TF), i + vs.length ≤ 256 → ∀ n, (putArgs vs i t).get n = if i ≤ n ∧ n < i + vs.length then vs.getD (n - i) .undef else t.get n
  | [], i, t, _, n => by rw [if_neg (fun hh => by simp at hh; omega)]; rfl
  | v :: r, i, t, h, n => by
    simp only [List.length_cons] at h
    simp only [putArgs]
    rw [putArgs_get r (i + 1) _ (by omega) n, TF.get_set t i n v (by omega)]
    simp only [List.length_cons]
    by_cases h1 : n = i
    · subst h1
      rw [if_neg (fun hh => absurd hh.1 (by omega)), if_pos rfl, if_pos ⟨Nat.le_refl _, by omega⟩]
      simp
    · by_cases h2 : i + 1 ≤ n ∧ n < i + 1 + r.length
      · rw [if_pos h2, if_pos (by omega)]
        obtain ⟨k, rfl⟩ : ∃ k, n = i + 1 + k := ⟨n - (i + 1), by omega⟩
        rw [show i + 1 + k - (i + 1) = k by omega, show i + 1 + k - i = k + 1 by omega]
        simp
      · rw [if_neg h2, if_neg h1, if_neg (by omega)]

theorem frame_ok {β : Bij} {args : List AV} {us : List Value} {nt : Nat} (ra : VRs β ω args us) (hl : Nat.max nt args.length ≤ 256) :
    FrR β ω ⟨putArgs args 0 TF.empty, Nat.max nt args.length⟩ { tmps := us.toArray ++ Array.replicate (nt - us.toArray.size) Go.undef, defers := [] } := by
  have hlen := ra.length
  have hargs : args.length ≤ 256 := Nat.le_trans (Nat.le_max_right _ _) hl
  refine ⟨?_, hl, fun t _ => ?_, rfl⟩
  · simp only [Array.size_append, List.size_toArray, Array.size_replicate, hlen]
    rw [show Nat.max nt args.length = max nt args.length from rfl]
    omega
  · show VR β ω ((putArgs args 0 TF.empty).get t) _
    rw [putArgs_get args 0 TF.empty (by omega) t]
    have hu : ∀ v : Value, v = Go.undef → VR β ω .undef v := fun v hv => by subst hv; exact ⟨#[], rfl, rfl⟩
    by_cases ht : t < args.length
    · rw [if_pos (by omega)]
      have hg : args[t]? = some args[t] := List.getElem?_eq_getElem ht
      obtain ⟨y, hy, ry⟩ := ra.get t _ hg
      rw [List.getD_eq_getElem?_getD, Nat.sub_zero, hg, Array.getD_eq_getD_getElem?, Array.getElem?_append_left (by simp; omega)]
      simp [hy]
      exact ry
    · rw [if_neg (by omega), TF.get_empty]
      refine hu _ ?_
      rw [Array.getD_eq_getD_getElem?, Array.getElem?_append_right (by simp; omega), Array.getElem?_replicate]
      split <;> rfl

def resV (tmps : Array Value) : ResultVar → Sem Value
  | .tmp t => pure (tmps.getD t Go.undef)
  | .cell x t => do loadVar t (← asAddr (tmps.getD x Go.undef))
theorem results_eq (fn : Func) (tmps : Array Value) : results fn tmps = (do
    let vs ← fn.results.mapM (resV tmps)
    pure (if h : vs.size = 1 then vs[0] else .tuple vs)) := by
  unfold results
  congr 1
theorem res_ok {K : Nat → Prop} {w0 w : World} {h : Heap} {β : Bij} {a : Fr} {act : Act} (r : HR β ω K w0 h w) (f : FrR β ω a act) : ∀ {rs : List ResultVar} {vs : List AV}, ressE E.P a h rs = some vs →
    ∃ us : List Value, VRs β ω vs us ∧ (rs.mapM (m := Sem) (resV act.tmps)).run E.P w = .ok us w
  | [], vs, e => by simp only [ressE, Option.some.injEq] at e; subst e; exact ⟨[], .nil, rfl⟩
  | q :: rs, vs, e => by
    simp only [ressE] at e
    split at e
    · rename_i v vs' h1 h2
      simp only [Option.some.injEq] at e; subst e
      obtain ⟨us, u1, u2⟩ := res_ok r f h2
      cases q with
      | tmp t =>
        simp only [resE, Option.some.injEq] at h1; subst h1
        refine ⟨_ :: us, .cons (f.slot t id) u1, ?_⟩
        simp only [List.mapM_cons, resV, Sem.run_bind, Sem.run_pure, Result.andThen_ok, u2]
      | cell x t =>
        simp only [resE] at h1
        obtain ⟨u, v1, v2⟩ := loadE_ok (P := E.P) r h1 (f.slot x id)
        refine ⟨u :: us, .cons v1 u1, ?_⟩
        have hp : ∃ b o, a.slot x = .ptr b o := by
          unfold loadE at h1
          split at h1
          · exact ⟨_, _, by assumption⟩
          · cases h1
        obtain ⟨b, o, hbo⟩ := hp
        have hs := f.slot x id
        rw [hbo] at hs
        simp only [VR] at hs
        obtain ⟨L, _, hs⟩ := hs
        rw [hs] at v2
        have v3 : (loadVar t ⟨L.blk, L.off + o, none⟩).run E.P w = .ok u w := v2
        simp only [List.mapM_cons, resV, Sem.run_bind, hs, asAddr, Sem.run_pure, Result.andThen_ok, v3, u2]
    · cases e

theorem results_ok {K : Nat → Prop} {w0 w : World} {h : Heap} {β : Bij} {a : Fr} {act : Act} (r : HR β ω K w0 h w) (f : FrR β ω a act) {fn : Func} {vs : List AV} (e : ressE E.P a h fn.results.toList = some vs) :
    ∃ u, VR β ω (tupOf vs) u ∧ (results fn act.tmps).run E.P w = .ok u w := by
  obtain ⟨us, u1, u2⟩ := res_ok r f e
  have hrun : ∀ v, (if h : us.toArray.size = 1 then us.toArray[0] else Value.tuple us.toArray) = v → (results fn act.tmps).run E.P w = .ok v w := by
    intro v hv
    rw [results_eq, Sem.run_bind, Array.mapM_eq_mapM_toList, Sem.run_map, u2]
    simp only [Result.andThen_ok, Sem.run_pure, hv]
  cases vs with
  | nil =>
    rw [show us = [] from u1] at hrun
    exact ⟨_, ⟨#[], rfl, rfl⟩, hrun _ rfl⟩
  | cons v vs =>
    obtain ⟨y, ys, rfl, p, q⟩ := u1
    cases vs with
    | nil =>
      rw [show ys = [] from q] at hrun
      exact ⟨y, p, hrun _ rfl⟩
    | cons v2 vs =>
      obtain ⟨y2, ys2, rfl, p2, q2⟩ := q
      refine ⟨_, ⟨_, rfl, .cons p (.cons p2 q2)⟩, hrun _ ?_⟩
      rw [dif_neg (by simp)]

theorem body_step {n : Nat} (hk : CodeS E ω n) : BodyS E ω (n + 1) := by
  intro f args h k he K w0 β w us r ra
  have he : bBody E.P (ev E n) boolAlg f args h k (E.P.funcs[f]?) = true := he
  unfold bBody at he
  split at he
  · cases he
  · rename_i fn hf
    split at he
    · cases he
    · rename_i c hb
      obtain ⟨hlim, he⟩ : Nat.ble (Nat.max fn.ntmps args.length) 256 = true ∧ _ = true := by
        cases hc : Nat.ble (Nat.max fn.ntmps args.length) 256 with
        | false => rw [hc] at he; cases he
        | true => rw [hc] at he; exact ⟨rfl, he⟩
      rw [ble_iff] at hlim
      refine calls_of_wp hf hb (hk c _ h _ he K w0 β _ w _ r (frame_ok ra hlim) ?_)
      intro e a' h' β' act' w' hke hf' hr' hst'
      have fin : (e = .norm ∨ e = .ret) → act'.defers = [] ∧ ∃ v, (results fn act'.tmps).run E.P w' = .ok v w' ∧ ∃ u β'' v' h'', Ending.returned v = .returned u ∧ k v' h'' = true ∧ VR β'' ω v' u ∧ HR β'' ω K w0 h'' w' ∧ St h β h'' β'' := by
        intro hee
        have hke : lRes boolAlg h' k (ressE E.P a' h' fn.results.toList) = true := by
          rcases hee with rfl | rfl <;> exact hke
        cases hres : ressE E.P a' h' fn.results.toList with
        | none => rw [hres] at hke; cases hke
        | some vs =>
          rw [hres] at hke
          obtain ⟨u, u1, u2⟩ := results_ok hr' hf' hres
          exact ⟨hf'.defers, u, u2, u, β', tupOf vs, h', rfl, hke, u1, hr', hst'⟩
      cases e with
      | norm => exact fin (.inl rfl)
      | ret => exact fin (.inr rfl)
      | exit id => cases hke

end Go.Ev
