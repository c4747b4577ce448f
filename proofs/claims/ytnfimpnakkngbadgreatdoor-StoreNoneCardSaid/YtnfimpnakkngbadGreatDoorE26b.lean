/- The evaluator: loops that are told by a pattern: what a pattern says. -/
import Derived.Test.YtnfimpnakkngbadGreatDoorE26
set_option linter.unusedVariables false
set_option linter.unusedSimpArgs false
namespace Go.Ev
open Go

variable {β β' : Bij} {ω ω' : Opq} {K : Nat → Prop} {w0 w : World} {h : Heap}

/-! ### Symbols under other values -/
/-- Below v0 the symbols stand for the same. -/
structure Agr (v0 : Nat) (ω ω' : Opq) : Prop where
  w : ∀ n, n < v0 → ω'.w n = ω.w n
  f : ω'.f = ω.f
  v : ω'.v = ω.v
  fix : ω'.fix = ω.fix
theorem agr_upd (ω : Opq) (v0 : Nat) (l : List Val) : Agr v0 ω (ω.upd v0 l) :=
  ⟨fun n hn => by simp only [Opq.upd]; rw [if_neg (by omega)], rfl, rfl, rfl⟩
theorem upd_w {ω : Opq} {v0 : Nat} {l : List Val} {j : Nat} {x : Val} (h : l[j]? = some x) : (ω.upd v0 l).w (v0 + j) = x := by
  simp only [Opq.upd]
  rw [if_pos (by omega), show v0 + j - v0 = j by omega, List.getD_eq_getElem?_getD, h]; rfl
mutual
theorem den_agr {v0 : Nat} (g : Agr v0 ω ω') : ∀ (e : SX), freshX v0 e = true → den ω' e = den ω e
  | .ci n, _ => rfl
  | .cs l, _ => rfl
  | .cb x, _ => rfl
  | .va m, h => by simp only [freshX] at h; simp only [den]; exact g.w m (by simpa using h)
  | .op p l, h => by simp only [freshX] at h; simp only [den]; rw [dens_agr g l h]
  | .app p l, h => by simp only [freshX] at h; simp only [den]; rw [dens_agr g l h, g.f]
theorem dens_agr {v0 : Nat} (g : Agr v0 ω ω') : ∀ (l : List SX), freshXs v0 l = true → dens ω' l = dens ω l
  | [], _ => rfl
  | a :: r, h => by
    simp only [freshXs, Bool.and_eq_true] at h
    simp only [dens]
    rw [den_agr g a h.1, dens_agr g r h.2]
end
theorem dI_agr {v0 : Nat} (g : Agr v0 ω ω') {e : SX} (h : freshX v0 e = true) : dI ω' e = dI ω e := by unfold dI; rw [den_agr g e h]
theorem dS_agr {v0 : Nat} (g : Agr v0 ω ω') {e : SX} (h : freshX v0 e = true) : dS ω' e = dS ω e := by unfold dS; rw [den_agr g e h]
theorem dB_agr {v0 : Nat} (g : Agr v0 ω ω') {e : SX} (h : freshX v0 e = true) : dB ω' e = dB ω e := by unfold dB; rw [den_agr g e h]
theorem dens_app (ω : Opq) : ∀ a b : List SX, dens ω (a ++ b) = dens ω a ++ dens ω b
  | [], b => rfl
  | x :: a, b => by simp only [List.cons_append, dens, dens_app ω a b]
theorem dens_length (ω : Opq) : ∀ a : List SX, (dens ω a).length = a.length
  | [] => rfl
  | x :: a => by simp only [dens, List.length_cons, dens_length ω a]

mutual
theorem VR_move {v0 nb : Nat} (g : Agr v0 ω ω') (hb : ∀ b, b < nb → β' b = β b) : ∀ (x : AV) (v : Value), okA v0 nb x = true → VR β ω x v → VR β' ω' x v
  | .bool _, v, _, r => r
  | .int _ _, v, _, r => r
  | .str _, v, _, r => r
  | .nilp, v, _, r => r
  | .ptr b _, v, h, ⟨L, e, q⟩ => ⟨L, (hb b (by simpa [okA] using h)).trans e, q⟩
  | .glob _, v, _, r => r
  | .nils, v, _, r => r
  | .sl b _ _ _, v, h, ⟨L, e, q⟩ => ⟨L, (hb b (by simpa [okA] using h)).trans e, q⟩
  | .us b _ _ _, v, h, ⟨L, c, e, q⟩ => ⟨L, c, (hb b (by simpa [okA] using h)).trans e, q⟩
  | .es b _ _, v, h, ⟨L, a, c, e, q⟩ => ⟨L, a, c, (hb b (by simpa [okA] using h)).trans e, q⟩
  | .es0, v, _, r => r
  | .nilm, v, _, r => r
  | .map b, v, h, ⟨L, e, q⟩ => ⟨L, (hb b (by simpa [okA] using h)).trans e, q⟩
  | .nilf, v, _, r => r
  | .func fn x y, v, h, ⟨n, p, q, e, r1, r2⟩ => by
    simp only [okA, Bool.and_eq_true] at h
    exact ⟨n, p, q, e, VRs_move g hb x _ h.1 r1, VRs_move g hb y _ h.2 r2⟩
  | .yield b, v, h, ⟨L, e, q⟩ => ⟨L, (hb b (by simpa [okA] using h)).trans e, q⟩
  | .nili, v, _, r => r
  | .iface t x, v, h, ⟨y, e, q⟩ => ⟨y, e, VR_move g hb x y (by simpa [okA] using h) q⟩
  | .agg l, v, h, ⟨xs, e, q⟩ => ⟨xs, e, VRs_move g hb l _ (by simpa [okA] using h) q⟩
  | .tup l, v, h, ⟨xs, e, q⟩ => ⟨xs, e, VRs_move g hb l _ (by simpa [okA] using h) q⟩
  | .opq n, v, _, r => by show v = ω'.v n; rw [g.v]; exact r
  | .oint k e, v, h, r => by show v = .int k (dI ω' e); rw [dI_agr g (by simpa [okA] using h)]; exact r
  | .ostr e, v, h, r => by show v = .string ⟨(dS ω' e).toArray⟩; rw [dS_agr g (by simpa [okA] using h)]; exact r
  | .obool e, v, h, r => by show v = .bool (dB ω' e); rw [dB_agr g (by simpa [okA] using h)]; exact r
  | .osl b x y sz, v, h, r => by
    simp only [okA, Bool.and_eq_true, Nat.blt_eq] at h
    simp only [VR] at r ⊢
    rw [dI_agr g h.1.2, dI_agr g h.2, hb b h.1.1]; exact r
  | .optr b x j sz, v, h, r => by
    simp only [okA, Bool.and_eq_true, Nat.blt_eq] at h
    simp only [VR] at r ⊢
    rw [dI_agr g h.2, hb b h.1]; exact r
  | .ous b x sz, v, h, r => by
    simp only [okA, Bool.and_eq_true, Nat.blt_eq] at h
    simp only [VR] at r ⊢
    rw [dI_agr g h.2, hb b h.1]; exact r
  | .atl _, v, _, r => r
  | .any, _, _, _ => trivial
theorem VRs_move {v0 nb : Nat} (g : Agr v0 ω ω') (hb : ∀ b, b < nb → β' b = β b) : ∀ (l : List AV) (vs : List Value), okAs v0 nb l = true → VRs β ω l vs → VRs β' ω' l vs
  | [], vs, _, r => r
  | a :: l, vs, h, ⟨v, vr, e, p, q⟩ => by
    simp only [okAs, Bool.and_eq_true] at h
    exact ⟨v, vr, e, VR_move g hb a v h.1 p, VRs_move g hb l vr h.2 q⟩
end

/-! ### Patterns -/
theorem absX_ok {v0 n : Nat} {p x : SX} {es : List SX} (g : Agr v0 ω ω') (h : absX v0 n p x = some es) (hw : ∀ j e, es[j]? = some e → ω'.w (v0 + (n + j)) = den ω e) : den ω' p = den ω x := by
  unfold absX at h
  split at h
  · rename_i m hm
    obtain ⟨h1, h2⟩ := cond_some h
    simp only [Option.some.injEq] at h2; subst h2
    unfold plcOf at hm
    split at hm
    · rename_i k
      obtain ⟨h3, h4⟩ := cond_some hm
      simp only [Option.some.injEq] at h4
      rw [ble_iff] at h3
      obtain rfl := beq_iff'.1 h1
      have := hw 0 x rfl
      simp only [den]
      rw [← this]; congr 1; omega
    · cases hm
  · obtain ⟨h1, h2⟩ := cond_some h
    obtain ⟨h3, h4⟩ := and_t h1
    rw [SX.beq_eq _ _ h3]
    exact den_agr g x h4
theorem absEq {v0 nb : Nat} (g : Agr v0 ω ω') (hb : ∀ b, b < nb → β' b = β b) {p x : AV} {es : List SX} {v : Value} (h : (bif AV.beq p x && okA v0 nb x then some ([] : List SX) else none) = some es) (r : VR β ω x v) : VR β' ω' p v := by
  obtain ⟨h1, _⟩ := cond_some h
  obtain ⟨h2, h3⟩ := and_t h1
  rw [AV.beq_eq _ _ h2]
  exact VR_move g hb x v h3 r
mutual
theorem absA_ok {v0 nb : Nat} (g : Agr v0 ω ω') (hb : ∀ b, b < nb → β' b = β b) : ∀ (n : Nat) (p x : AV) (es : List SX) (v : Value), absA v0 nb n p x = some es → (∀ j e, es[j]? = some e → ω'.w (v0 + (n + j)) = den ω e) → VR β ω x v → VR β' ω' p v
  | n, .any, x, es, v, h, hw, r => trivial
  | n, .oint k p, x, es, v, h, hw, r => by
    simp only [absA] at h
    unfold absI at h
    split at h
    · rename_i k' e hs
      split at h
      · rename_i hk; subst hk
        rw [symI_ok hs r]
        show Value.int k (dI ω e) = .int k (dI ω' p)
        unfold dI
        rw [absX_ok g h hw]
      · cases h
    · cases h
  | n, .ostr p, x, es, v, h, hw, r => by
    simp only [absA] at h
    unfold absO at h
    split at h
    · rename_i e hs
      rw [symS_ok hs r]
      show Value.string ⟨(dS ω e).toArray⟩ = .string ⟨(dS ω' p).toArray⟩
      unfold dS
      rw [absX_ok g h hw]
    · cases h
  | n, .obool p, x, es, v, h, hw, r => by
    simp only [absA] at h
    unfold absO at h
    split at h
    · rename_i e hs
      rw [symB_ok hs r]
      show Value.bool (dB ω e) = .bool (dB ω' p)
      unfold dB
      rw [absX_ok g h hw]
    · cases h
  | n, .agg ps, .agg xs, es, v, h, hw, r => by
    simp only [absA] at h
    obtain ⟨ys, e, q⟩ := r
    exact ⟨ys, e, absAs_ok g hb n ps xs es _ h hw q⟩
  | n, .agg ps, .bool _, es, v, h, hw, r => by
    simp only [absA] at h
    exact absEq g hb h r
  | n, .agg ps, .int _ _, es, v, h, hw, r => by
    simp only [absA] at h
    exact absEq g hb h r
  | n, .agg ps, .str _, es, v, h, hw, r => by
    simp only [absA] at h
    exact absEq g hb h r
  | n, .agg ps, .nilp, es, v, h, hw, r => by
    simp only [absA] at h
    exact absEq g hb h r
  | n, .agg ps, .ptr _ _, es, v, h, hw, r => by
    simp only [absA] at h
    exact absEq g hb h r
  | n, .agg ps, .glob _, es, v, h, hw, r => by
    simp only [absA] at h
    exact absEq g hb h r
  | n, .agg ps, .nils, es, v, h, hw, r => by
    simp only [absA] at h
    exact absEq g hb h r
  | n, .agg ps, .sl _ _ _ _, es, v, h, hw, r => by
    simp only [absA] at h
    exact absEq g hb h r
  | n, .agg ps, .us _ _ _ _, es, v, h, hw, r => by
    simp only [absA] at h
    exact absEq g hb h r
  | n, .agg ps, .es _ _ _, es, v, h, hw, r => by
    simp only [absA] at h
    exact absEq g hb h r
  | n, .agg ps, .es0, es, v, h, hw, r => by
    simp only [absA] at h
    exact absEq g hb h r
  | n, .agg ps, .nilm, es, v, h, hw, r => by
    simp only [absA] at h
    exact absEq g hb h r
  | n, .agg ps, .map _, es, v, h, hw, r => by
    simp only [absA] at h
    exact absEq g hb h r
  | n, .agg ps, .nilf, es, v, h, hw, r => by
    simp only [absA] at h
    exact absEq g hb h r
  | n, .agg ps, .func _ _ _, es, v, h, hw, r => by
    simp only [absA] at h
    exact absEq g hb h r
  | n, .agg ps, .yield _, es, v, h, hw, r => by
    simp only [absA] at h
    exact absEq g hb h r
  | n, .agg ps, .nili, es, v, h, hw, r => by
    simp only [absA] at h
    exact absEq g hb h r
  | n, .agg ps, .iface _ _, es, v, h, hw, r => by
    simp only [absA] at h
    exact absEq g hb h r
  | n, .agg ps, .tup _, es, v, h, hw, r => by
    simp only [absA] at h
    exact absEq g hb h r
  | n, .agg ps, .opq _, es, v, h, hw, r => by
    simp only [absA] at h
    exact absEq g hb h r
  | n, .agg ps, .atl _, es, v, h, hw, r => by
    simp only [absA] at h
    exact absEq g hb h r
  | n, .agg ps, .osl _ _ _ _, es, v, h, hw, r => by
    simp only [absA] at h
    exact absEq g hb h r
  | n, .agg ps, .optr _ _ _ _, es, v, h, hw, r => by
    simp only [absA] at h
    exact absEq g hb h r
  | n, .agg ps, .ous _ _ _, es, v, h, hw, r => by
    simp only [absA] at h
    exact absEq g hb h r
  | n, .agg ps, .oint _ _, es, v, h, hw, r => by
    simp only [absA] at h
    exact absEq g hb h r
  | n, .agg ps, .ostr _, es, v, h, hw, r => by
    simp only [absA] at h
    exact absEq g hb h r
  | n, .agg ps, .obool _, es, v, h, hw, r => by
    simp only [absA] at h
    exact absEq g hb h r
  | n, .agg ps, .any, es, v, h, hw, r => by
    simp only [absA] at h
    exact absEq g hb h r
  | n, .bool _, x, es, v, h, hw, r => by
    simp only [absA] at h
    exact absEq g hb h r
  | n, .int _ _, x, es, v, h, hw, r => by
    simp only [absA] at h
    exact absEq g hb h r
  | n, .str _, x, es, v, h, hw, r => by
    simp only [absA] at h
    exact absEq g hb h r
  | n, .nilp, x, es, v, h, hw, r => by
    simp only [absA] at h
    exact absEq g hb h r
  | n, .ptr _ _, x, es, v, h, hw, r => by
    simp only [absA] at h
    exact absEq g hb h r
  | n, .glob _, x, es, v, h, hw, r => by
    simp only [absA] at h
    exact absEq g hb h r
  | n, .nils, x, es, v, h, hw, r => by
    simp only [absA] at h
    exact absEq g hb h r
  | n, .sl _ _ _ _, x, es, v, h, hw, r => by
    simp only [absA] at h
    exact absEq g hb h r
  | n, .us _ _ _ _, x, es, v, h, hw, r => by
    simp only [absA] at h
    exact absEq g hb h r
  | n, .es _ _ _, x, es, v, h, hw, r => by
    simp only [absA] at h
    exact absEq g hb h r
  | n, .es0, x, es, v, h, hw, r => by
    simp only [absA] at h
    exact absEq g hb h r
  | n, .nilm, x, es, v, h, hw, r => by
    simp only [absA] at h
    exact absEq g hb h r
  | n, .map _, x, es, v, h, hw, r => by
    simp only [absA] at h
    exact absEq g hb h r
  | n, .nilf, x, es, v, h, hw, r => by
    simp only [absA] at h
    exact absEq g hb h r
  | n, .func _ _ _, x, es, v, h, hw, r => by
    simp only [absA] at h
    exact absEq g hb h r
  | n, .yield _, x, es, v, h, hw, r => by
    simp only [absA] at h
    exact absEq g hb h r
  | n, .nili, x, es, v, h, hw, r => by
    simp only [absA] at h
    exact absEq g hb h r
  | n, .iface _ _, x, es, v, h, hw, r => by
    simp only [absA] at h
    exact absEq g hb h r
  | n, .tup _, x, es, v, h, hw, r => by
    simp only [absA] at h
    exact absEq g hb h r
  | n, .opq _, x, es, v, h, hw, r => by
    simp only [absA] at h
    exact absEq g hb h r
  | n, .atl _, x, es, v, h, hw, r => by
    simp only [absA] at h
    exact absEq g hb h r
  | n, .osl _ _ _ _, x, es, v, h, hw, r => by
    simp only [absA] at h
    exact absEq g hb h r
  | n, .optr _ _ _ _, x, es, v, h, hw, r => by
    simp only [absA] at h
    exact absEq g hb h r
  | n, .ous _ _ _, x, es, v, h, hw, r => by
    simp only [absA] at h
    exact absEq g hb h r
theorem absAs_ok {v0 nb : Nat} (g : Agr v0 ω ω') (hb : ∀ b, b < nb → β' b = β b) : ∀ (n : Nat) (ps xs : List AV) (es : List SX) (vs : List Value), absAs v0 nb n ps xs = some es → (∀ j e, es[j]? = some e → ω'.w (v0 + (n + j)) = den ω e) → VRs β ω xs vs → VRs β' ω' ps vs
  | n, [], [], es, vs, h, hw, r => r
  | n, [], _ :: _, es, vs, h, hw, r => by simp [absAs] at h
  | n, _ :: _, [], es, vs, h, hw, r => by simp [absAs] at h
  | n, p :: ps, x :: xs, es, vs, h, hw, ⟨v, vr, e, r1, r2⟩ => by
    simp only [absAs] at h
    split at h
    · rename_i e1 h1
      split at h
      · rename_i e2 h2
        simp only [Option.some.injEq] at h; subst h
        refine ⟨v, vr, e, absA_ok g hb n p x e1 v h1 (fun j y hy => hw j y ?_) r1, absAs_ok g hb _ ps xs e2 vr h2 (fun j y hy => ?_) r2⟩
        · rw [List.getElem?_append_left]
          · exact hy
          · rcases Nat.lt_or_ge j e1.length with hh | hh
            · exact hh
            · rw [List.getElem?_eq_none hh] at hy; cases hy
        · have := hw (e1.length + j) y (by rw [List.getElem?_append_right (by omega)]; rw [show e1.length + j - e1.length = j by omega]; exact hy)
          rw [← this]; congr 1; omega
      · cases h
    · cases h
end


theorem Agr.symm {v0 : Nat} (g : Agr v0 ω ω') : Agr v0 ω' ω := ⟨fun n hn => (g.w n hn).symm, g.f.symm, g.v.symm, g.fix.symm⟩
theorem instX_ok {v0 n : Nat} {p x : SX} {es : List SX} {q : Nat → SX} (g : Agr v0 ω ω') (h : absX v0 n p x = some es) (hq : ∀ j e, es[j]? = some e → den ω (q (n + j)) = ω'.w (v0 + (n + j))) : den ω (instX v0 q p) = den ω' p := by
  unfold absX at h
  unfold instX
  split at h
  · rename_i m hm
    obtain ⟨h1, h2⟩ := cond_some h
    simp only [Option.some.injEq] at h2; subst h2
    unfold plcOf at hm
    split at hm
    · rename_i k
      obtain ⟨h3, h4⟩ := cond_some hm
      simp only [Option.some.injEq] at h4
      rw [ble_iff] at h3
      obtain rfl := beq_iff'.1 h1
      have := hq 0 x rfl
      simp only [den]
      rw [show m = m + 0 from rfl, this]; congr 1; omega
    · cases hm
  · rename_i hm
    obtain ⟨h1, h2⟩ := cond_some h
    obtain ⟨h3, h4⟩ := and_t h1
    rw [SX.beq_eq _ _ h3]
    exact (den_agr g x h4).symm
theorem instEq {v0 nb : Nat} {q : Nat → SX} (g : Agr v0 ω ω') {p x : AV} {es : List SX} {v : Value} (hp : instA v0 q p = p) (h : (bif AV.beq p x && okA v0 nb x then some ([] : List SX) else none) = some es) (r : VR β ω' p v) : VR β ω (instA v0 q p) v := by
  obtain ⟨h1, _⟩ := cond_some h
  obtain ⟨h2, h3⟩ := and_t h1
  rw [hp]
  rw [← AV.beq_eq _ _ h2] at h3
  exact VR_move (β' := β) g.symm (fun _ _ => rfl) p v h3 r
mutual
theorem instA_ok {v0 nb : Nat} {q : Nat → SX} (g : Agr v0 ω ω') : ∀ (n : Nat) (p x : AV) (es : List SX) (v : Value), absA v0 nb n p x = some es → (∀ j e, es[j]? = some e → den ω (q (n + j)) = ω'.w (v0 + (n + j))) → VR β ω' p v → VR β ω (instA v0 q p) v
  | n, .any, x, es, v, h, hw, r => trivial
  | n, .oint k p, x, es, v, h, hw, r => by
    simp only [absA] at h
    unfold absI at h
    split at h
    · split at h
      · show v = .int k (dI ω (instX v0 q p))
        unfold dI
        rw [instX_ok g h hw]; exact r
      · cases h
    · cases h
  | n, .ostr p, x, es, v, h, hw, r => by
    simp only [absA] at h
    unfold absO at h
    split at h
    · show v = .string ⟨(dS ω (instX v0 q p)).toArray⟩
      unfold dS
      rw [instX_ok g h hw]; exact r
    · cases h
  | n, .obool p, x, es, v, h, hw, r => by
    simp only [absA] at h
    unfold absO at h
    split at h
    · show v = .bool (dB ω (instX v0 q p))
      unfold dB
      rw [instX_ok g h hw]; exact r
    · cases h
  | n, .agg ps, .agg xs, es, v, h, hw, r => by
    simp only [absA] at h
    obtain ⟨ys, e, r1⟩ := r
    exact ⟨ys, e, instAs_ok g n ps xs es _ h hw r1⟩
  | n, .agg ps, .bool _, es, v, h, hw, r => by
    simp only [absA, AV.beq, Bool.false_and, cond_false] at h
    cases h
  | n, .agg ps, .int _ _, es, v, h, hw, r => by
    simp only [absA, AV.beq, Bool.false_and, cond_false] at h
    cases h
  | n, .agg ps, .str _, es, v, h, hw, r => by
    simp only [absA, AV.beq, Bool.false_and, cond_false] at h
    cases h
  | n, .agg ps, .nilp, es, v, h, hw, r => by
    simp only [absA, AV.beq, Bool.false_and, cond_false] at h
    cases h
  | n, .agg ps, .ptr _ _, es, v, h, hw, r => by
    simp only [absA, AV.beq, Bool.false_and, cond_false] at h
    cases h
  | n, .agg ps, .glob _, es, v, h, hw, r => by
    simp only [absA, AV.beq, Bool.false_and, cond_false] at h
    cases h
  | n, .agg ps, .nils, es, v, h, hw, r => by
    simp only [absA, AV.beq, Bool.false_and, cond_false] at h
    cases h
  | n, .agg ps, .sl _ _ _ _, es, v, h, hw, r => by
    simp only [absA, AV.beq, Bool.false_and, cond_false] at h
    cases h
  | n, .agg ps, .us _ _ _ _, es, v, h, hw, r => by
    simp only [absA, AV.beq, Bool.false_and, cond_false] at h
    cases h
  | n, .agg ps, .es _ _ _, es, v, h, hw, r => by
    simp only [absA, AV.beq, Bool.false_and, cond_false] at h
    cases h
  | n, .agg ps, .es0, es, v, h, hw, r => by
    simp only [absA, AV.beq, Bool.false_and, cond_false] at h
    cases h
  | n, .agg ps, .nilm, es, v, h, hw, r => by
    simp only [absA, AV.beq, Bool.false_and, cond_false] at h
    cases h
  | n, .agg ps, .map _, es, v, h, hw, r => by
    simp only [absA, AV.beq, Bool.false_and, cond_false] at h
    cases h
  | n, .agg ps, .nilf, es, v, h, hw, r => by
    simp only [absA, AV.beq, Bool.false_and, cond_false] at h
    cases h
  | n, .agg ps, .func _ _ _, es, v, h, hw, r => by
    simp only [absA, AV.beq, Bool.false_and, cond_false] at h
    cases h
  | n, .agg ps, .yield _, es, v, h, hw, r => by
    simp only [absA, AV.beq, Bool.false_and, cond_false] at h
    cases h
  | n, .agg ps, .nili, es, v, h, hw, r => by
    simp only [absA, AV.beq, Bool.false_and, cond_false] at h
    cases h
  | n, .agg ps, .iface _ _, es, v, h, hw, r => by
    simp only [absA, AV.beq, Bool.false_and, cond_false] at h
    cases h
  | n, .agg ps, .tup _, es, v, h, hw, r => by
    simp only [absA, AV.beq, Bool.false_and, cond_false] at h
    cases h
  | n, .agg ps, .opq _, es, v, h, hw, r => by
    simp only [absA, AV.beq, Bool.false_and, cond_false] at h
    cases h
  | n, .agg ps, .atl _, es, v, h, hw, r => by
    simp only [absA, AV.beq, Bool.false_and, cond_false] at h
    cases h
  | n, .agg ps, .osl _ _ _ _, es, v, h, hw, r => by
    simp only [absA, AV.beq, Bool.false_and, cond_false] at h
    cases h
  | n, .agg ps, .optr _ _ _ _, es, v, h, hw, r => by
    simp only [absA, AV.beq, Bool.false_and, cond_false] at h
    cases h
  | n, .agg ps, .ous _ _ _, es, v, h, hw, r => by
    simp only [absA, AV.beq, Bool.false_and, cond_false] at h
    cases h
  | n, .agg ps, .oint _ _, es, v, h, hw, r => by
    simp only [absA, AV.beq, Bool.false_and, cond_false] at h
    cases h
  | n, .agg ps, .ostr _, es, v, h, hw, r => by
    simp only [absA, AV.beq, Bool.false_and, cond_false] at h
    cases h
  | n, .agg ps, .obool _, es, v, h, hw, r => by
    simp only [absA, AV.beq, Bool.false_and, cond_false] at h
    cases h
  | n, .agg ps, .any, es, v, h, hw, r => by
    simp only [absA, AV.beq, Bool.false_and, cond_false] at h
    cases h
  | n, .bool _, x, es, v, h, hw, r => by
    simp only [absA] at h
    exact instEq g rfl h r
  | n, .int _ _, x, es, v, h, hw, r => by
    simp only [absA] at h
    exact instEq g rfl h r
  | n, .str _, x, es, v, h, hw, r => by
    simp only [absA] at h
    exact instEq g rfl h r
  | n, .nilp, x, es, v, h, hw, r => by
    simp only [absA] at h
    exact instEq g rfl h r
  | n, .ptr _ _, x, es, v, h, hw, r => by
    simp only [absA] at h
    exact instEq g rfl h r
  | n, .glob _, x, es, v, h, hw, r => by
    simp only [absA] at h
    exact instEq g rfl h r
  | n, .nils, x, es, v, h, hw, r => by
    simp only [absA] at h
    exact instEq g rfl h r
  | n, .sl _ _ _ _, x, es, v, h, hw, r => by
    simp only [absA] at h
    exact instEq g rfl h r
  | n, .us _ _ _ _, x, es, v, h, hw, r => by
    simp only [absA] at h
    exact instEq g rfl h r
  | n, .es _ _ _, x, es, v, h, hw, r => by
    simp only [absA] at h
    exact instEq g rfl h r
  | n, .es0, x, es, v, h, hw, r => by
    simp only [absA] at h
    exact instEq g rfl h r
  | n, .nilm, x, es, v, h, hw, r => by
    simp only [absA] at h
    exact instEq g rfl h r
  | n, .map _, x, es, v, h, hw, r => by
    simp only [absA] at h
    exact instEq g rfl h r
  | n, .nilf, x, es, v, h, hw, r => by
    simp only [absA] at h
    exact instEq g rfl h r
  | n, .func _ _ _, x, es, v, h, hw, r => by
    simp only [absA] at h
    exact instEq g rfl h r
  | n, .yield _, x, es, v, h, hw, r => by
    simp only [absA] at h
    exact instEq g rfl h r
  | n, .nili, x, es, v, h, hw, r => by
    simp only [absA] at h
    exact instEq g rfl h r
  | n, .iface _ _, x, es, v, h, hw, r => by
    simp only [absA] at h
    exact instEq g rfl h r
  | n, .tup _, x, es, v, h, hw, r => by
    simp only [absA] at h
    exact instEq g rfl h r
  | n, .opq _, x, es, v, h, hw, r => by
    simp only [absA] at h
    exact instEq g rfl h r
  | n, .atl _, x, es, v, h, hw, r => by
    simp only [absA] at h
    exact instEq g rfl h r
  | n, .osl _ _ _ _, x, es, v, h, hw, r => by
    simp only [absA] at h
    exact instEq g rfl h r
  | n, .optr _ _ _ _, x, es, v, h, hw, r => by
    simp only [absA] at h
    exact instEq g rfl h r
  | n, .ous _ _ _, x, es, v, h, hw, r => by
    simp only [absA] at h
    exact instEq g rfl h r
theorem instAs_ok {v0 nb : Nat} {q : Nat → SX} (g : Agr v0 ω ω') : ∀ (n : Nat) (ps xs : List AV) (es : List SX) (vs : List Value), absAs v0 nb n ps xs = some es → (∀ j e, es[j]? = some e → den ω (q (n + j)) = ω'.w (v0 + (n + j))) → VRs β ω' ps vs → VRs β ω (instAs v0 q ps) vs
  | n, [], [], es, vs, h, hw, r => r
  | n, [], _ :: _, es, vs, h, hw, r => by simp [absAs] at h
  | n, _ :: _, [], es, vs, h, hw, r => by simp [absAs] at h
  | n, p :: ps, x :: xs, es, vs, h, hw, ⟨v, vr, e, r1, r2⟩ => by
    simp only [absAs] at h
    split at h
    · rename_i e1 h1
      split at h
      · rename_i e2 h2
        simp only [Option.some.injEq] at h; subst h
        refine ⟨v, vr, e, instA_ok g n p x e1 v h1 (fun j y hy => hw j y ?_) r1, instAs_ok g _ ps xs e2 vr h2 (fun j y hy => ?_) r2⟩
        · rw [List.getElem?_append_left]
          · exact hy
          · rcases Nat.lt_or_ge j e1.length with hh | hh
            · exact hh
            · rw [List.getElem?_eq_none hh] at hy; cases hy
        · have := hw (e1.length + j) y (by rw [List.getElem?_append_right (by omega)]; rw [show e1.length + j - e1.length = j by omega]; exact hy)
          rw [show n + e1.length + j = n + (e1.length + j) by omega]; exact this
      · cases h
    · cases h
end

/-! ### Blocks -/
theorem sigBeq_eq : ∀ {a b : List CT}, sigBeq a b = true → a = b
  | [], [], _ => rfl
  | [], _ :: _, h => by cases h
  | _ :: _, [], h => by cases h
  | a :: x, b :: y, h => by
    simp only [sigBeq, Bool.and_eq_true, decide_eq_true_eq] at h
    rw [h.1, sigBeq_eq h.2]
theorem entsOk_eq {v0 nb : Nat} : ∀ {a b : List Ent}, entsOk v0 nb a b = true → a = b
  | [], [], _ => rfl
  | [], _ :: _, h => by cases h
  | _ :: _, [], h => by cases h
  | ⟨ka, va, ba⟩ :: x, ⟨kb, vb, bb⟩ :: y, h => by
    simp only [entsOk, Bool.and_eq_true, Nat.beq_eq] at h
    obtain ⟨⟨⟨⟨⟨h1, h2⟩, h3⟩, h4⟩, h5⟩, h6⟩ := h
    rw [AV.beq_eq _ _ h1, AV.beq_eq _ _ h2, h3, entsOk_eq h6]
theorem ents_move {v0 nb : Nat} (g : Agr v0 ω ω') (hb : ∀ b, b < nb → β' b = β b) : ∀ {es es' : List Ent} {m : List MapEntry}, entsOk v0 nb es es' = true → ERs β ω es' m → ERs β' ω' es m
  | [], [], m, h, r => by cases r; exact .nil
  | [], _ :: _, m, h, r => by cases h
  | _ :: _, [], m, h, r => by cases h
  | a :: x, b :: y, m, h, r => by
    simp only [entsOk, Bool.and_eq_true, Nat.beq_eq] at h
    obtain ⟨⟨⟨⟨⟨h1, h2⟩, h3⟩, h4⟩, h5⟩, h6⟩ := h
    obtain ⟨ka, va, ba⟩ := a
    obtain ⟨kb, vb, bb⟩ := b
    simp only at h1 h2 h3 h4 h5
    obtain rfl := AV.beq_eq _ _ h1
    obtain rfl := AV.beq_eq _ _ h2
    subst h3
    cases r with
    | cons r1 r2 r3 => exact .cons (VR_move g hb _ _ h4 r1) (VR_move g hb _ _ h5 r2) (ents_move g hb h6 r3)
theorem absB_ok {v0 nb n : Nat} (g : Agr v0 ω ω') (hb : ∀ b, b < nb → β' b = β b) {L : Loc} {o : Option Obj} : ∀ {p x : Blk} {es : List SX}, absB v0 nb n p x = some es → (∀ j e, es[j]? = some e → ω'.w (v0 + (n + j)) = den ω e) → BR β ω L o x → BR β' ω' L o p := by
  intro p x es h hw r
  unfold absB at h
  split at h
  · obtain ⟨h1, h2⟩ := cond_some h
    obtain ⟨h1, h5⟩ := and_t h1
    obtain ⟨h3, h4⟩ := and_t h1
    obtain rfl := beq_iff'.1 h3
    obtain rfl := beq_iff'.1 h4
    obtain ⟨C, lo, hi, vs, q1, q2, q3, q4, q5, q6, q7, q8⟩ := r
    have hv := absAs_ok g hb n _ _ es vs h2 hw q5
    have hl := hv.length
    have hl2 := q5.length
    exact ⟨C, lo, hi, vs, q1, q2, by omega, h5, hv, fun i hi' => q6 i (by omega), q7, by rw [g.fix]; exact q8⟩
  · rename_i pp _ _ xx
    obtain ⟨h1, h2⟩ := cond_some h
    obtain ⟨h3, h4⟩ := and_t h1
    obtain rfl := beq_iff'.1 h3
    obtain rfl := sigBeq_eq h4
    have := absX_ok g h2 hw
    obtain ⟨C, lo, hi, q1, q2, q3, q4, q5⟩ := r
    have hd : dL ω' pp = dL ω xx := by unfold dL; rw [this]
    exact ⟨C, lo, hi, q1, q2, by rw [hd]; exact q3, by rw [hd]; exact q4, q5⟩
  · obtain ⟨h1, h2⟩ := cond_some h
    obtain ⟨h3, h4⟩ := and_t h1
    obtain rfl := beq_iff'.1 h4
    obtain ⟨Es, q1, q2⟩ := r
    exact ⟨Es, q1, ents_move g hb h3 q2⟩
  · cases h
theorem instB_ok {v0 nb n : Nat} {q : Nat → SX} (g : Agr v0 ω ω') {L : Loc} {o : Option Obj} : ∀ {p x : Blk} {es : List SX}, absB v0 nb n p x = some es → (∀ j e, es[j]? = some e → den ω (q (n + j)) = ω'.w (v0 + (n + j))) → BR β ω' L o p → ∃ p', instB v0 q (some p) = some p' ∧ BR β ω L o p' := by
  intro p x es h hw r
  unfold absB at h
  split at h
  · rename_i e fz ps e' fz' xs
    obtain ⟨h1, h2⟩ := cond_some h
    obtain ⟨h1, h5⟩ := and_t h1
    obtain ⟨C, lo, hi, vs, q1, q2, q3, q4, q5, q6, q7, q8⟩ := r
    have hv := instAs_ok g n _ _ es vs h2 hw q5
    have hl := hv.length
    have hl2 := q5.length
    refine ⟨_, rfl, C, lo, hi, vs, q1, q2, by omega, ?_, hv, fun i hi' => q6 i (by omega), q7, by rw [← g.fix]; exact q8⟩
    have : ∀ l : List AV, l.all AV.oneA = true → (instAs v0 q l).all AV.oneA = true := by
      intro l
      induction l with
      | nil => intro _; rfl
      | cons a l ih =>
        intro hh
        simp only [List.all_cons, Bool.and_eq_true] at hh
        simp only [instAs, List.all_cons, Bool.and_eq_true]
        refine ⟨?_, ih hh.2⟩
        have := hh.1
        cases a <;> simp only [instA] <;> first | exact this | rfl
    exact this _ q4
  · obtain ⟨h1, h2⟩ := cond_some h
    have := instX_ok g h2 hw
    obtain ⟨C, lo, hi, q1, q2, q3, q4, q5⟩ := r
    have hd : ∀ e : SX, den ω (instX v0 q e) = den ω' e → dL ω (instX v0 q e) = dL ω' e := fun e he => by unfold dL; rw [he]
    exact ⟨_, rfl, C, lo, hi, q1, q2, by rw [hd _ this]; exact q3, by rw [hd _ this]; exact q4, q5⟩
  · rename_i es1 c es2 c2
    obtain ⟨h1, h2⟩ := cond_some h
    obtain ⟨h3, h4⟩ := and_t h1
    obtain ⟨Es, q1, q2⟩ := r
    obtain rfl := entsOk_eq h3
    exact ⟨_, rfl, Es, q1, ents_move (β := β) (β' := β) g.symm (fun _ _ => rfl) h3 q2⟩
  · cases h

end Go.Ev
