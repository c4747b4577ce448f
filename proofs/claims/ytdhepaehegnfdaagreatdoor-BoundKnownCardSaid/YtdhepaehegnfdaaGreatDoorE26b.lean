import Derived.Test.YtdhepaehegnfdaaGreatDoorE26
set_option linter.unusedVariables false
set_option linter.unusedSimpArgs false
namespace Go.Ev
open Go
variable {β β' : Bij} {ω ω' : Opq} {K : Nat → Prop} {w0 w : World} {h : Heap}
structure Agr (v0 : Nat) (ω ω' : Opq) : Prop where
 w : ∀ n, n < v0 → ω'.w n = ω.w n
 f : ω'.f = ω.f
 v : ω'.v = ω.v
 fix : ω'.fix = ω.fix
theorem aI6 (ω : Opq) (v0 : Nat) (l : List Val) : Agr v0 ω (ω.upd v0 l) :=
 ⟨fun n hn => by simp only [Opq.upd]; rw [if_neg (by omega)], rfl, rfl, rfl⟩
theorem cc3 {ω : Opq} {v0 : Nat} {l : List Val} {j : Nat} {x : Val} (h : l[j]? = some x) : (ω.upd v0 l).w (v0 + j) = x := by
 simp only [Opq.upd]
 rw [if_pos (by omega), show v0 + j - v0 = j by omega, List.getD_eq_getElem?_getD, h]; rfl
mutual
theorem T0 {v0 : Nat} (g : Agr v0 ω ω') : ∀ (e : SX), u9 v0 e = true → den ω' e = den ω e
 | .ci n, _ => rfl
 | .cs l, _ => rfl
 | .cb x, _ => rfl
 | .va m, h => by simp only [u9] at h; simp only [den]; exact g.w m (by simpa using h)
 | .op p l, h => by simp only [u9] at h; simp only [den]; rw [aI7 g l h]
 | .app p l, h => by simp only [u9] at h; simp only [den]; rw [aI7 g l h, g.f]
theorem aI7 {v0 : Nat} (g : Agr v0 ω ω') : ∀ (l : List SX), M8 v0 l = true → k5 ω' l = k5 ω l
 | [], _ => rfl
 | a :: r, h => by
   simp only [M8, Bool.and_eq_true] at h
   simp only [k5]
   rw [T0 g a h.1, aI7 g r h.2]
end
theorem aU2 {v0 : Nat} (g : Agr v0 ω ω') {e : SX} (h : u9 v0 e = true) : dI ω' e = dI ω e := by unfold dI; rw [T0 g e h]
theorem cp4 {v0 : Nat} (g : Agr v0 ω ω') {e : SX} (h : u9 v0 e = true) : dS ω' e = dS ω e := by unfold dS; rw [T0 g e h]
theorem cp5 {v0 : Nat} (g : Agr v0 ω ω') {e : SX} (h : u9 v0 e = true) : dB ω' e = dB ω e := by unfold dB; rw [T0 g e h]
theorem ap8 (ω : Opq) : ∀ a : List SX, (k5 ω a).length = a.length
 | [] => rfl
 | x :: a => by simp only [k5, List.length_cons, ap8 ω a]
mutual
theorem a24 {v0 nb : Nat} (g : Agr v0 ω ω') (hb : ∀ b, b < nb → β' b = β b) : ∀ (x : AV) (v : Value), okA v0 nb x = true → VR β ω x v → VR β' ω' x v
 | .bool _, v, _, r => r
 | .int _ _, v, _, r => r
 | .str _, v, _, r => r
 | .nilp, v, _, r => r
 | .ptr b _, v, h, ⟨L, e, q⟩ => ⟨L, (hb b (by simpa [okA] using h)).trans e, q⟩
 | .glob _, v, _, r => r
 | .nils, v, _, r => r
 | .sl b _ _ _, v, h, ⟨L, e, q⟩ => ⟨L, (hb b (by simpa [okA] using h)).trans e, q⟩
 | .us b _ _ _, v, h, ⟨L, c, e, q⟩ => ⟨L, c, (hb b (by simpa [okA] using h)).trans e, q⟩
 | .es b _ _, v, h, ⟨L, a, c, e, q⟩ => ⟨L, a, c, (hb b (by simpa [okA] using h)).trans e, q⟩
 | .es0, v, _, r => r
 | .nilm, v, _, r => r
 | .map b, v, h, ⟨L, e, q⟩ => ⟨L, (hb b (by simpa [okA] using h)).trans e, q⟩
 | .nilf, v, _, r => r
 | .func fn x y, v, h, ⟨n, p, q, e, r1, r2⟩ => by
   simp only [okA, Bool.and_eq_true] at h
   exact ⟨n, p, q, e, Z1 g hb x _ h.1 r1, Z1 g hb y _ h.2 r2⟩
 | .yield b, v, h, ⟨L, e, q⟩ => ⟨L, (hb b (by simpa [okA] using h)).trans e, q⟩
 | .nili, v, _, r => r
 | .iface t x, v, h, ⟨y, e, q⟩ => ⟨y, e, a24 g hb x y (by simpa [okA] using h) q⟩
 | .agg l, v, h, ⟨xs, e, q⟩ => ⟨xs, e, Z1 g hb l _ (by simpa [okA] using h) q⟩
 | .tup l, v, h, ⟨xs, e, q⟩ => ⟨xs, e, Z1 g hb l _ (by simpa [okA] using h) q⟩
 | .opq n, v, _, r => by show v = ω'.v n; rw [g.v]; exact r
 | .oint k e, v, h, r => by show v = .int k (dI ω' e); rw [aU2 g (by simpa [okA] using h)]; exact r
 | .ostr e, v, h, r => by show v = .string ⟨(dS ω' e).toArray⟩; rw [cp4 g (by simpa [okA] using h)]; exact r
 | .obool e, v, h, r => by show v = .bool (dB ω' e); rw [cp5 g (by simpa [okA] using h)]; exact r
 | .osl b x y sz, v, h, r => by
   simp only [okA, Bool.and_eq_true, Nat.blt_eq] at h
   simp only [VR] at r ⊢
   rw [aU2 g h.1.2, aU2 g h.2, hb b h.1.1]; exact r
 | .optr b x j sz, v, h, r => by
   simp only [okA, Bool.and_eq_true, Nat.blt_eq] at h
   simp only [VR] at r ⊢
   rw [aU2 g h.2, hb b h.1]; exact r
 | .ous b x sz, v, h, r => by
   simp only [okA, Bool.and_eq_true, Nat.blt_eq] at h
   simp only [VR] at r ⊢
   rw [aU2 g h.2, hb b h.1]; exact r
 | .atl _, v, _, r => r
 | .any, _, _, _ => trivial
theorem Z1 {v0 nb : Nat} (g : Agr v0 ω ω') (hb : ∀ b, b < nb → β' b = β b) : ∀ (l : List AV) (vs : List Value), br5 v0 nb l = true → VRs β ω l vs → VRs β' ω' l vs
 | [], vs, _, r => r
 | a :: l, vs, h, ⟨v, vr, e, p, q⟩ => by
   simp only [br5, Bool.and_eq_true] at h
   exact ⟨v, vr, e, a24 g hb a v h.1 p, Z1 g hb l vr h.2 q⟩
end
theorem T1 {v0 n : Nat} {p x : SX} {es : List SX} (g : Agr v0 ω ω') (h : ba6 v0 n p x = some es) (hw : ∀ j e, es[j]? = some e → ω'.w (v0 + (n + j)) = den ω e) : den ω' p = den ω x := by
 unfold ba6 at h
 split at h
 · rename_i m hm
   obtain ⟨h1, h2⟩ := a8 h
   simp only [Option.some.injEq] at h2; subst h2
   unfold b04 at hm
   split at hm
   · rename_i k
     obtain ⟨h3, h4⟩ := a8 hm
     simp only [Option.some.injEq] at h4
     rw [j2] at h3
     obtain rfl := j0.1 h1
     have := hw 0 x rfl
     simp only [den]
     rw [← this]; congr 1; omega
   · cases hm
 · obtain ⟨h1, h2⟩ := a8 h
   obtain ⟨h3, h4⟩ := g9 h1
   rw [SX.beq_eq _ _ h3]
   exact T0 g x h4
theorem t8 {v0 nb : Nat} (g : Agr v0 ω ω') (hb : ∀ b, b < nb → β' b = β b) {p x : AV} {es : List SX} {v : Value} (h : (bif AV.beq p x && okA v0 nb x then some ([] : List SX) else none) = some es) (r : VR β ω x v) : VR β' ω' p v := by
 obtain ⟨h1, _⟩ := a8 h
 obtain ⟨h2, h3⟩ := g9 h1
 rw [AV.beq_eq _ _ h2]
 exact a24 g hb x v h3 r
theorem bV1 {v0 n : Nat} {p q x y : SX} {es : List SX} (g : Agr v0 ω ω') (h : b05 v0 n p q x y = some es) (hw : ∀ j e, es[j]? = some e → ω'.w (v0 + (n + j)) = den ω e) : den ω' p = den ω x ∧ den ω' q = den ω y := by
 unfold b05 at h
 split at h
 · rename_i e1 h1
   split at h
   · rename_i e2 h2
     simp only [Option.some.injEq] at h; subst h
     refine ⟨T1 g h1 fun j e hj => hw j e ?_, T1 g h2 fun j e hj => ?_⟩
     · have hlt := (List.getElem?_eq_some_iff.1 hj).1
       rw [List.getElem?_append_left hlt]; exact hj
     · have := hw (e1.length + j) e (by rw [List.getElem?_append_right (Nat.le_add_right _ _), Nat.add_sub_cancel_left]; exact hj)
       rw [← this]; congr 1; omega
   · cases h
 · cases h
theorem bD7 {v0 nb n b s : Nat} {p q : SX} {x : AV} {es : List SX} {v : Value} (g : Agr v0 ω ω') (hb : ∀ b, b < nb → β' b = β b) (h : aP7 v0 nb n b p q s x = some es) (hw : ∀ j e, es[j]? = some e → ω'.w (v0 + (n + j)) = den ω e) (r : VR β ω x v) : VR β' ω' (.osl b p q s) v := by
 unfold aP7 at h
 split at h
 · obtain ⟨h1, h2⟩ := a8 h
   obtain ⟨h1, h3⟩ := g9 h1
   obtain ⟨h1, h4⟩ := g9 h1
   obtain rfl := j0.1 h1
   obtain rfl := j0.1 h4
   rw [k8] at h3
   obtain ⟨k1, k2⟩ := bV1 g h2 hw
   have k1 : dI ω' p = dI ω _ := congrArg Val.toI k1
   have k2 : dI ω' q = dI ω _ := congrArg Val.toI k2
   simp only [VR] at r ⊢
   rw [k1, k2, hb _ h3]; exact r
 · cases h
theorem bD8 {v0 nb n b s : Nat} {p : SX} {x : AV} {es : List SX} {v : Value} (g : Agr v0 ω ω') (hb : ∀ b, b < nb → β' b = β b) (h : aP8 v0 nb n b p s x = some es) (hw : ∀ j e, es[j]? = some e → ω'.w (v0 + (n + j)) = den ω e) (r : VR β ω x v) : VR β' ω' (.ous b p s) v := by
 unfold aP8 at h
 split at h
 · obtain ⟨h1, h2⟩ := a8 h
   obtain ⟨h1, h3⟩ := g9 h1
   obtain ⟨h1, h4⟩ := g9 h1
   obtain rfl := j0.1 h1
   obtain rfl := j0.1 h4
   rw [k8] at h3
   have k1 : dI ω' p = dI ω _ := congrArg Val.toI (T1 g h2 hw)
   simp only [VR] at r ⊢
   rw [k1, hb _ h3]; exact r
 · cases h
mutual
theorem bD9 {v0 nb : Nat} (g : Agr v0 ω ω') (hb : ∀ b, b < nb → β' b = β b) : ∀ (n : Nat) (p x : AV) (es : List SX) (v : Value), p7 v0 nb n p x = some es → (∀ j e, es[j]? = some e → ω'.w (v0 + (n + j)) = den ω e) → VR β ω x v → VR β' ω' p v
 | n, .any, x, es, v, h, hw, r => trivial
 | n, .oint k p, x, es, v, h, hw, r => by
   simp only [p7] at h
   unfold cw3 at h
   split at h
   · rename_i k' e hs
     split at h
     · rename_i hk; subst hk
       rw [G1 hs r]
       show Value.int k (dI ω e) = .int k (dI ω' p)
       unfold dI
       rw [T1 g h hw]
     · cases h
   · cases h
 | n, .ostr p, x, es, v, h, hw, r => by
   simp only [p7] at h
   unfold c19 at h
   split at h
   · rename_i e hs
     rw [S7 hs r]
     show Value.string ⟨(dS ω e).toArray⟩ = .string ⟨(dS ω' p).toArray⟩
     unfold dS
     rw [T1 g h hw]
   · cases h
 | n, .obool p, x, es, v, h, hw, r => by
   simp only [p7] at h
   unfold c19 at h
   split at h
   · rename_i e hs
     rw [W1 hs r]
     show Value.bool (dB ω e) = .bool (dB ω' p)
     unfold dB
     rw [T1 g h hw]
   · cases h
 | n, .agg ps, .agg xs, es, v, h, hw, r => by
   simp only [p7] at h
   obtain ⟨ys, e, q⟩ := r
   exact ⟨ys, e, aI8 g hb n ps xs es _ h hw q⟩
 | n, .agg ps, .bool _, es, v, h, hw, r => by
   simp only [p7] at h
   exact t8 g hb h r
 | n, .agg ps, .int _ _, es, v, h, hw, r => by
   simp only [p7] at h
   exact t8 g hb h r
 | n, .agg ps, .str _, es, v, h, hw, r => by
   simp only [p7] at h
   exact t8 g hb h r
 | n, .agg ps, .nilp, es, v, h, hw, r => by
   simp only [p7] at h
   exact t8 g hb h r
 | n, .agg ps, .ptr _ _, es, v, h, hw, r => by
   simp only [p7] at h
   exact t8 g hb h r
 | n, .agg ps, .glob _, es, v, h, hw, r => by
   simp only [p7] at h
   exact t8 g hb h r
 | n, .agg ps, .nils, es, v, h, hw, r => by
   simp only [p7] at h
   exact t8 g hb h r
 | n, .agg ps, .sl _ _ _ _, es, v, h, hw, r => by
   simp only [p7] at h
   exact t8 g hb h r
 | n, .agg ps, .us _ _ _ _, es, v, h, hw, r => by
   simp only [p7] at h
   exact t8 g hb h r
 | n, .agg ps, .es _ _ _, es, v, h, hw, r => by
   simp only [p7] at h
   exact t8 g hb h r
 | n, .agg ps, .es0, es, v, h, hw, r => by
   simp only [p7] at h
   exact t8 g hb h r
 | n, .agg ps, .nilm, es, v, h, hw, r => by
   simp only [p7] at h
   exact t8 g hb h r
 | n, .agg ps, .map _, es, v, h, hw, r => by
   simp only [p7] at h
   exact t8 g hb h r
 | n, .agg ps, .nilf, es, v, h, hw, r => by
   simp only [p7] at h
   exact t8 g hb h r
 | n, .agg ps, .func _ _ _, es, v, h, hw, r => by
   simp only [p7] at h
   exact t8 g hb h r
 | n, .agg ps, .yield _, es, v, h, hw, r => by
   simp only [p7] at h
   exact t8 g hb h r
 | n, .agg ps, .nili, es, v, h, hw, r => by
   simp only [p7] at h
   exact t8 g hb h r
 | n, .agg ps, .iface _ _, es, v, h, hw, r => by
   simp only [p7] at h
   exact t8 g hb h r
 | n, .agg ps, .tup _, es, v, h, hw, r => by
   simp only [p7] at h
   exact t8 g hb h r
 | n, .agg ps, .opq _, es, v, h, hw, r => by
   simp only [p7] at h
   exact t8 g hb h r
 | n, .agg ps, .atl _, es, v, h, hw, r => by
   simp only [p7] at h
   exact t8 g hb h r
 | n, .agg ps, .osl _ _ _ _, es, v, h, hw, r => by
   simp only [p7] at h
   exact t8 g hb h r
 | n, .agg ps, .optr _ _ _ _, es, v, h, hw, r => by
   simp only [p7] at h
   exact t8 g hb h r
 | n, .agg ps, .ous _ _ _, es, v, h, hw, r => by
   simp only [p7] at h
   exact t8 g hb h r
 | n, .agg ps, .oint _ _, es, v, h, hw, r => by
   simp only [p7] at h
   exact t8 g hb h r
 | n, .agg ps, .ostr _, es, v, h, hw, r => by
   simp only [p7] at h
   exact t8 g hb h r
 | n, .agg ps, .obool _, es, v, h, hw, r => by
   simp only [p7] at h
   exact t8 g hb h r
 | n, .agg ps, .any, es, v, h, hw, r => by
   simp only [p7] at h
   exact t8 g hb h r
 | n, .bool _, x, es, v, h, hw, r => by
   simp only [p7] at h
   exact t8 g hb h r
 | n, .int _ _, x, es, v, h, hw, r => by
   simp only [p7] at h
   exact t8 g hb h r
 | n, .str _, x, es, v, h, hw, r => by
   simp only [p7] at h
   exact t8 g hb h r
 | n, .nilp, x, es, v, h, hw, r => by
   simp only [p7] at h
   exact t8 g hb h r
 | n, .ptr _ _, x, es, v, h, hw, r => by
   simp only [p7] at h
   exact t8 g hb h r
 | n, .glob _, x, es, v, h, hw, r => by
   simp only [p7] at h
   exact t8 g hb h r
 | n, .nils, x, es, v, h, hw, r => by
   simp only [p7] at h
   exact t8 g hb h r
 | n, .sl _ _ _ _, x, es, v, h, hw, r => by
   simp only [p7] at h
   exact t8 g hb h r
 | n, .us _ _ _ _, x, es, v, h, hw, r => by
   simp only [p7] at h
   exact t8 g hb h r
 | n, .es _ _ _, x, es, v, h, hw, r => by
   simp only [p7] at h
   exact t8 g hb h r
 | n, .es0, x, es, v, h, hw, r => by
   simp only [p7] at h
   exact t8 g hb h r
 | n, .nilm, x, es, v, h, hw, r => by
   simp only [p7] at h
   exact t8 g hb h r
 | n, .map _, x, es, v, h, hw, r => by
   simp only [p7] at h
   exact t8 g hb h r
 | n, .nilf, x, es, v, h, hw, r => by
   simp only [p7] at h
   exact t8 g hb h r
 | n, .func _ _ _, x, es, v, h, hw, r => by
   simp only [p7] at h
   exact t8 g hb h r
 | n, .yield _, x, es, v, h, hw, r => by
   simp only [p7] at h
   exact t8 g hb h r
 | n, .nili, x, es, v, h, hw, r => by
   simp only [p7] at h
   exact t8 g hb h r
 | n, .iface _ _, x, es, v, h, hw, r => by
   simp only [p7] at h
   exact t8 g hb h r
 | n, .tup _, x, es, v, h, hw, r => by
   simp only [p7] at h
   exact t8 g hb h r
 | n, .opq _, x, es, v, h, hw, r => by
   simp only [p7] at h
   exact t8 g hb h r
 | n, .atl _, x, es, v, h, hw, r => by
   simp only [p7] at h
   exact t8 g hb h r
 | n, .osl _ _ _ _, x, es, v, h, hw, r => by
   simp only [p7] at h
   exact bD7 g hb h hw r
 | n, .optr _ _ _ _, x, es, v, h, hw, r => by
   simp only [p7] at h
   exact t8 g hb h r
 | n, .ous _ _ _, x, es, v, h, hw, r => by
   simp only [p7] at h
   exact bD8 g hb h hw r
theorem aI8 {v0 nb : Nat} (g : Agr v0 ω ω') (hb : ∀ b, b < nb → β' b = β b) : ∀ (n : Nat) (ps xs : List AV) (es : List SX) (vs : List Value), a15 v0 nb n ps xs = some es → (∀ j e, es[j]? = some e → ω'.w (v0 + (n + j)) = den ω e) → VRs β ω xs vs → VRs β' ω' ps vs
 | n, [], [], es, vs, h, hw, r => r
 | n, [], _ :: _, es, vs, h, hw, r => by simp [a15] at h
 | n, _ :: _, [], es, vs, h, hw, r => by simp [a15] at h
 | n, p :: ps, x :: xs, es, vs, h, hw, ⟨v, vr, e, r1, r2⟩ => by
   simp only [a15] at h
   split at h
   · rename_i e1 h1
     split at h
     · rename_i e2 h2
       simp only [Option.some.injEq] at h; subst h
       refine ⟨v, vr, e, bD9 g hb n p x e1 v h1 (fun j y hy => hw j y ?_) r1, aI8 g hb _ ps xs e2 vr h2 (fun j y hy => ?_) r2⟩
       · rw [List.getElem?_append_left]
         · exact hy
         · rcases Nat.lt_or_ge j e1.length with hh | hh
           · exact hh
           · rw [List.getElem?_eq_none hh] at hy; cases hy
       · have := hw (e1.length + j) y (by rw [List.getElem?_append_right (by omega)]; rw [show e1.length + j - e1.length = j by omega]; exact hy)
         rw [← this]; congr 1; omega
     · cases h
   · cases h
end
theorem Agr.symm {v0 : Nat} (g : Agr v0 ω ω') : Agr v0 ω' ω := ⟨fun n hn => (g.w n hn).symm, g.f.symm, g.v.symm, g.fix.symm⟩
theorem K7 {v0 n : Nat} {p x : SX} {es : List SX} {q : Nat → SX} (g : Agr v0 ω ω') (h : ba6 v0 n p x = some es) (hq : ∀ j e, es[j]? = some e → den ω (q (n + j)) = ω'.w (v0 + (n + j))) : den ω (x8 v0 q p) = den ω' p := by
 unfold ba6 at h
 unfold x8
 split at h
 · rename_i m hm
   obtain ⟨h1, h2⟩ := a8 h
   simp only [Option.some.injEq] at h2; subst h2
   unfold b04 at hm
   split at hm
   · rename_i k
     obtain ⟨h3, h4⟩ := a8 hm
     simp only [Option.some.injEq] at h4
     rw [j2] at h3
     obtain rfl := j0.1 h1
     have := hq 0 x rfl
     simp only [den]
     rw [show m = m + 0 from rfl, this]; congr 1; omega
   · cases hm
 · rename_i hm
   obtain ⟨h1, h2⟩ := a8 h
   obtain ⟨h3, h4⟩ := g9 h1
   rw [SX.beq_eq _ _ h3]
   exact (T0 g x h4).symm
theorem B7 {v0 nb : Nat} {q : Nat → SX} (g : Agr v0 ω ω') {p x : AV} {es : List SX} {v : Value} (hp : al1 v0 q p = p) (h : (bif AV.beq p x && okA v0 nb x then some ([] : List SX) else none) = some es) (r : VR β ω' p v) : VR β ω (al1 v0 q p) v := by
 obtain ⟨h1, _⟩ := a8 h
 obtain ⟨h2, h3⟩ := g9 h1
 rw [hp]
 rw [← AV.beq_eq _ _ h2] at h3
 exact a24 (β' := β) g.symm (fun _ _ => rfl) p v h3 r
theorem bE0 {v0 n : Nat} {p q x y : SX} {es : List SX} {f : Nat → SX} (g : Agr v0 ω ω') (h : b05 v0 n p q x y = some es) (hq : ∀ j e, es[j]? = some e → den ω (f (n + j)) = ω'.w (v0 + (n + j))) : den ω (x8 v0 f p) = den ω' p ∧ den ω (x8 v0 f q) = den ω' q := by
 unfold b05 at h
 split at h
 · rename_i e1 h1
   split at h
   · rename_i e2 h2
     simp only [Option.some.injEq] at h; subst h
     refine ⟨K7 g h1 fun j e hj => hq j e ?_, K7 g h2 fun j e hj => ?_⟩
     · have hlt := (List.getElem?_eq_some_iff.1 hj).1
       rw [List.getElem?_append_left hlt]; exact hj
     · have := hq (e1.length + j) e (by rw [List.getElem?_append_right (Nat.le_add_right _ _), Nat.add_sub_cancel_left]; exact hj)
       rw [show n + e1.length + j = n + (e1.length + j) by omega]; exact this
   · cases h
 · cases h
mutual
theorem be4 {v0 nb : Nat} {q : Nat → SX} (g : Agr v0 ω ω') : ∀ (n : Nat) (p x : AV) (es : List SX) (v : Value), p7 v0 nb n p x = some es → (∀ j e, es[j]? = some e → den ω (q (n + j)) = ω'.w (v0 + (n + j))) → VR β ω' p v → VR β ω (al1 v0 q p) v
 | n, .any, x, es, v, h, hw, r => trivial
 | n, .oint k p, x, es, v, h, hw, r => by
   simp only [p7] at h
   unfold cw3 at h
   split at h
   · split at h
     · show v = .int k (dI ω (x8 v0 q p))
       unfold dI
       rw [K7 g h hw]; exact r
     · cases h
   · cases h
 | n, .ostr p, x, es, v, h, hw, r => by
   simp only [p7] at h
   unfold c19 at h
   split at h
   · show v = .string ⟨(dS ω (x8 v0 q p)).toArray⟩
     unfold dS
     rw [K7 g h hw]; exact r
   · cases h
 | n, .obool p, x, es, v, h, hw, r => by
   simp only [p7] at h
   unfold c19 at h
   split at h
   · show v = .bool (dB ω (x8 v0 q p))
     unfold dB
     rw [K7 g h hw]; exact r
   · cases h
 | n, .agg ps, .agg xs, es, v, h, hw, r => by
   simp only [p7] at h
   obtain ⟨ys, e, r1⟩ := r
   exact ⟨ys, e, ap9 g n ps xs es _ h hw r1⟩
 | n, .agg ps, .bool _, es, v, h, hw, r => by
   simp only [p7, AV.beq, Bool.false_and, cond_false] at h
   cases h
 | n, .agg ps, .int _ _, es, v, h, hw, r => by
   simp only [p7, AV.beq, Bool.false_and, cond_false] at h
   cases h
 | n, .agg ps, .str _, es, v, h, hw, r => by
   simp only [p7, AV.beq, Bool.false_and, cond_false] at h
   cases h
 | n, .agg ps, .nilp, es, v, h, hw, r => by
   simp only [p7, AV.beq, Bool.false_and, cond_false] at h
   cases h
 | n, .agg ps, .ptr _ _, es, v, h, hw, r => by
   simp only [p7, AV.beq, Bool.false_and, cond_false] at h
   cases h
 | n, .agg ps, .glob _, es, v, h, hw, r => by
   simp only [p7, AV.beq, Bool.false_and, cond_false] at h
   cases h
 | n, .agg ps, .nils, es, v, h, hw, r => by
   simp only [p7, AV.beq, Bool.false_and, cond_false] at h
   cases h
 | n, .agg ps, .sl _ _ _ _, es, v, h, hw, r => by
   simp only [p7, AV.beq, Bool.false_and, cond_false] at h
   cases h
 | n, .agg ps, .us _ _ _ _, es, v, h, hw, r => by
   simp only [p7, AV.beq, Bool.false_and, cond_false] at h
   cases h
 | n, .agg ps, .es _ _ _, es, v, h, hw, r => by
   simp only [p7, AV.beq, Bool.false_and, cond_false] at h
   cases h
 | n, .agg ps, .es0, es, v, h, hw, r => by
   simp only [p7, AV.beq, Bool.false_and, cond_false] at h
   cases h
 | n, .agg ps, .nilm, es, v, h, hw, r => by
   simp only [p7, AV.beq, Bool.false_and, cond_false] at h
   cases h
 | n, .agg ps, .map _, es, v, h, hw, r => by
   simp only [p7, AV.beq, Bool.false_and, cond_false] at h
   cases h
 | n, .agg ps, .nilf, es, v, h, hw, r => by
   simp only [p7, AV.beq, Bool.false_and, cond_false] at h
   cases h
 | n, .agg ps, .func _ _ _, es, v, h, hw, r => by
   simp only [p7, AV.beq, Bool.false_and, cond_false] at h
   cases h
 | n, .agg ps, .yield _, es, v, h, hw, r => by
   simp only [p7, AV.beq, Bool.false_and, cond_false] at h
   cases h
 | n, .agg ps, .nili, es, v, h, hw, r => by
   simp only [p7, AV.beq, Bool.false_and, cond_false] at h
   cases h
 | n, .agg ps, .iface _ _, es, v, h, hw, r => by
   simp only [p7, AV.beq, Bool.false_and, cond_false] at h
   cases h
 | n, .agg ps, .tup _, es, v, h, hw, r => by
   simp only [p7, AV.beq, Bool.false_and, cond_false] at h
   cases h
 | n, .agg ps, .opq _, es, v, h, hw, r => by
   simp only [p7, AV.beq, Bool.false_and, cond_false] at h
   cases h
 | n, .agg ps, .atl _, es, v, h, hw, r => by
   simp only [p7, AV.beq, Bool.false_and, cond_false] at h
   cases h
 | n, .agg ps, .osl _ _ _ _, es, v, h, hw, r => by
   simp only [p7, AV.beq, Bool.false_and, cond_false] at h
   cases h
 | n, .agg ps, .optr _ _ _ _, es, v, h, hw, r => by
   simp only [p7, AV.beq, Bool.false_and, cond_false] at h
   cases h
 | n, .agg ps, .ous _ _ _, es, v, h, hw, r => by
   simp only [p7, AV.beq, Bool.false_and, cond_false] at h
   cases h
 | n, .agg ps, .oint _ _, es, v, h, hw, r => by
   simp only [p7, AV.beq, Bool.false_and, cond_false] at h
   cases h
 | n, .agg ps, .ostr _, es, v, h, hw, r => by
   simp only [p7, AV.beq, Bool.false_and, cond_false] at h
   cases h
 | n, .agg ps, .obool _, es, v, h, hw, r => by
   simp only [p7, AV.beq, Bool.false_and, cond_false] at h
   cases h
 | n, .agg ps, .any, es, v, h, hw, r => by
   simp only [p7, AV.beq, Bool.false_and, cond_false] at h
   cases h
 | n, .bool _, x, es, v, h, hw, r => by
   simp only [p7] at h
   exact B7 g rfl h r
 | n, .int _ _, x, es, v, h, hw, r => by
   simp only [p7] at h
   exact B7 g rfl h r
 | n, .str _, x, es, v, h, hw, r => by
   simp only [p7] at h
   exact B7 g rfl h r
 | n, .nilp, x, es, v, h, hw, r => by
   simp only [p7] at h
   exact B7 g rfl h r
 | n, .ptr _ _, x, es, v, h, hw, r => by
   simp only [p7] at h
   exact B7 g rfl h r
 | n, .glob _, x, es, v, h, hw, r => by
   simp only [p7] at h
   exact B7 g rfl h r
 | n, .nils, x, es, v, h, hw, r => by
   simp only [p7] at h
   exact B7 g rfl h r
 | n, .sl _ _ _ _, x, es, v, h, hw, r => by
   simp only [p7] at h
   exact B7 g rfl h r
 | n, .us _ _ _ _, x, es, v, h, hw, r => by
   simp only [p7] at h
   exact B7 g rfl h r
 | n, .es _ _ _, x, es, v, h, hw, r => by
   simp only [p7] at h
   exact B7 g rfl h r
 | n, .es0, x, es, v, h, hw, r => by
   simp only [p7] at h
   exact B7 g rfl h r
 | n, .nilm, x, es, v, h, hw, r => by
   simp only [p7] at h
   exact B7 g rfl h r
 | n, .map _, x, es, v, h, hw, r => by
   simp only [p7] at h
   exact B7 g rfl h r
 | n, .nilf, x, es, v, h, hw, r => by
   simp only [p7] at h
   exact B7 g rfl h r
 | n, .func _ _ _, x, es, v, h, hw, r => by
   simp only [p7] at h
   exact B7 g rfl h r
 | n, .yield _, x, es, v, h, hw, r => by
   simp only [p7] at h
   exact B7 g rfl h r
 | n, .nili, x, es, v, h, hw, r => by
   simp only [p7] at h
   exact B7 g rfl h r
 | n, .iface _ _, x, es, v, h, hw, r => by
   simp only [p7] at h
   exact B7 g rfl h r
 | n, .tup _, x, es, v, h, hw, r => by
   simp only [p7] at h
   exact B7 g rfl h r
 | n, .opq _, x, es, v, h, hw, r => by
   simp only [p7] at h
   exact B7 g rfl h r
 | n, .atl _, x, es, v, h, hw, r => by
   simp only [p7] at h
   exact B7 g rfl h r
 | n, .osl _ _ _ _, x, es, v, h, hw, r => by
   simp only [p7] at h
   unfold aP7 at h
   split at h
   · obtain ⟨_, h2⟩ := a8 h
     obtain ⟨k1, k2⟩ := bE0 g h2 hw
     have k1 := congrArg Val.toI k1
     have k2 := congrArg Val.toI k2
     simp only [VR, al1, dI] at r ⊢
     rw [k1, k2]; exact r
   · cases h
 | n, .optr _ _ _ _, x, es, v, h, hw, r => by
   simp only [p7] at h
   exact B7 g rfl h r
 | n, .ous _ _ _, x, es, v, h, hw, r => by
   simp only [p7] at h
   unfold aP8 at h
   split at h
   · obtain ⟨_, h2⟩ := a8 h
     have k1 := congrArg Val.toI (K7 g h2 hw)
     simp only [VR, al1, dI] at r ⊢
     rw [k1]; exact r
   · cases h
theorem ap9 {v0 nb : Nat} {q : Nat → SX} (g : Agr v0 ω ω') : ∀ (n : Nat) (ps xs : List AV) (es : List SX) (vs : List Value), a15 v0 nb n ps xs = some es → (∀ j e, es[j]? = some e → den ω (q (n + j)) = ω'.w (v0 + (n + j))) → VRs β ω' ps vs → VRs β ω (aA3 v0 q ps) vs
 | n, [], [], es, vs, h, hw, r => r
 | n, [], _ :: _, es, vs, h, hw, r => by simp [a15] at h
 | n, _ :: _, [], es, vs, h, hw, r => by simp [a15] at h
 | n, p :: ps, x :: xs, es, vs, h, hw, ⟨v, vr, e, r1, r2⟩ => by
   simp only [a15] at h
   split at h
   · rename_i e1 h1
     split at h
     · rename_i e2 h2
       simp only [Option.some.injEq] at h; subst h
       refine ⟨v, vr, e, be4 g n p x e1 v h1 (fun j y hy => hw j y ?_) r1, ap9 g _ ps xs e2 vr h2 (fun j y hy => ?_) r2⟩
       · rw [List.getElem?_append_left]
         · exact hy
         · rcases Nat.lt_or_ge j e1.length with hh | hh
           · exact hh
           · rw [List.getElem?_eq_none hh] at hy; cases hy
       · have := hw (e1.length + j) y (by rw [List.getElem?_append_right (by omega)]; rw [show e1.length + j - e1.length = j by omega]; exact hy)
         rw [show n + e1.length + j = n + (e1.length + j) by omega]; exact this
     · cases h
   · cases h
end
theorem C6 : ∀ {a b : List CT}, B6 a b = true → a = b
 | [], [], _ => rfl
 | [], _ :: _, h => by cases h
 | _ :: _, [], h => by cases h
 | a :: x, b :: y, h => by
   simp only [B6, Bool.and_eq_true, decide_eq_true_eq] at h
   rw [h.1, C6 h.2]
theorem aU3 {v0 nb : Nat} : ∀ {a b : List Ent}, al0 v0 nb a b = true → a = b
 | [], [], _ => rfl
 | [], _ :: _, h => by cases h
 | _ :: _, [], h => by cases h
 | ⟨ka, va, ba⟩ :: x, ⟨kb, vb, bb⟩ :: y, h => by
   simp only [al0, Bool.and_eq_true, Nat.beq_eq] at h
   obtain ⟨⟨⟨⟨⟨h1, h2⟩, h3⟩, h4⟩, h5⟩, h6⟩ := h
   rw [AV.beq_eq _ _ h1, AV.beq_eq _ _ h2, h3, aU3 h6]
theorem a67 {v0 nb : Nat} (g : Agr v0 ω ω') (hb : ∀ b, b < nb → β' b = β b) : ∀ {es es' : List Ent} {m : List MapEntry}, al0 v0 nb es es' = true → ERs β ω es' m → ERs β' ω' es m
 | [], [], m, h, r => by cases r; exact .nil
 | [], _ :: _, m, h, r => by cases h
 | _ :: _, [], m, h, r => by cases h
 | a :: x, b :: y, m, h, r => by
   simp only [al0, Bool.and_eq_true, Nat.beq_eq] at h
   obtain ⟨⟨⟨⟨⟨h1, h2⟩, h3⟩, h4⟩, h5⟩, h6⟩ := h
   obtain ⟨ka, va, ba⟩ := a
   obtain ⟨kb, vb, bb⟩ := b
   simp only at h1 h2 h3 h4 h5
   obtain rfl := AV.beq_eq _ _ h1
   obtain rfl := AV.beq_eq _ _ h2
   subst h3
   cases r with
   | cons r1 r2 r3 => exact .cons (a24 g hb _ _ h4 r1) (a24 g hb _ _ h5 r2) (a67 g hb h6 r3)
theorem cc4 {v0 nb n : Nat} (g : Agr v0 ω ω') (hb : ∀ b, b < nb → β' b = β b) {L : Loc} {o : Option Obj} : ∀ {p x : Blk} {es : List SX}, bv2 v0 nb n p x = some es → (∀ j e, es[j]? = some e → ω'.w (v0 + (n + j)) = den ω e) → BR β ω L o x → BR β' ω' L o p := by
 intro p x es h hw r
 unfold bv2 at h
 split at h
 · obtain ⟨h1, h2⟩ := a8 h
   obtain ⟨h1, h5⟩ := g9 h1
   obtain ⟨h3, h4⟩ := g9 h1
   obtain rfl := j0.1 h3
   obtain rfl := j0.1 h4
   obtain ⟨C, lo, hi, vs, q1, q2, q3, q4, q5, q6, q7, q8⟩ := r
   have hv := aI8 g hb n _ _ es vs h2 hw q5
   have hl := hv.length
   have hl2 := q5.length
   exact ⟨C, lo, hi, vs, q1, q2, by omega, h5, hv, fun i hi' => q6 i (by omega), q7, by rw [g.fix]; exact q8⟩
 · rename_i pp _ _ xx
   obtain ⟨h1, h2⟩ := a8 h
   obtain ⟨h3, h4⟩ := g9 h1
   obtain rfl := j0.1 h3
   obtain rfl := C6 h4
   have := T1 g h2 hw
   obtain ⟨C, e', lo, hi, q1, q0, q2, q3, q4, q5⟩ := r
   have hd : dL ω' pp = dL ω xx := by unfold dL; rw [this]
   exact ⟨C, e', lo, hi, q1, q0, q2, by rw [hd]; exact q3, by rw [hd]; exact q4, q5⟩
 · obtain ⟨h1, h2⟩ := a8 h
   obtain ⟨h3, h4⟩ := g9 h1
   obtain rfl := j0.1 h4
   obtain ⟨Es, q1, q2⟩ := r
   exact ⟨Es, q1, a67 g hb h3 q2⟩
 · rename_i pp _ _ xx
   obtain ⟨h1, h2⟩ := a8 h
   obtain ⟨h3, h4⟩ := g9 h1
   obtain rfl := C6 h3
   obtain rfl := C6 h4
   have := T1 g h2 hw
   obtain ⟨Es, c, q1, q2⟩ := r
   exact ⟨Es, c, q1, by rw [show dL ω' pp = dL ω xx by unfold dL; rw [this]]; exact q2⟩
 · rename_i pp _
   have := T1 g h hw
   obtain ⟨Es, q1, q2⟩ := r
   refine ⟨Es, _, q1, ?_⟩
   have hE : Es.toList = [] := by generalize Es.toList = z at q2; cases q2; rfl
   rw [hE, show dL ω' pp = [] by unfold dL; rw [this]; rfl]; rfl
 · cases h
theorem aU4 {v0 nb n : Nat} {p x : Blk} {es : List SX} (h : bv2 v0 nb n p x = some es) : p.isArr = x.isArr := by
 cases p <;> cases x <;> simp only [bv2] at h <;> first | rfl | cases h
theorem bo1 {v0 : Nat} {q : Nat → SX} {p y : Blk} (h : b06 v0 q (some p) = some y) : p.isArr = y.isArr := by
 cases p <;> simp only [b06, Option.some.injEq] at h <;> subst h <;> rfl
theorem bV2 {v0 nb n : Nat} {q : Nat → SX} (g : Agr v0 ω ω') {L : Loc} {o : Option Obj} : ∀ {p x : Blk} {es : List SX}, bv2 v0 nb n p x = some es → (∀ j e, es[j]? = some e → den ω (q (n + j)) = ω'.w (v0 + (n + j))) → BR β ω' L o p → ∃ p', b06 v0 q (some p) = some p' ∧ BR β ω L o p' := by
 intro p x es h hw r
 unfold bv2 at h
 split at h
 · rename_i e fz ps e' fz' xs
   obtain ⟨h1, h2⟩ := a8 h
   obtain ⟨h1, h5⟩ := g9 h1
   obtain ⟨C, lo, hi, vs, q1, q2, q3, q4, q5, q6, q7, q8⟩ := r
   have hv := ap9 g n _ _ es vs h2 hw q5
   have hl := hv.length
   have hl2 := q5.length
   refine ⟨_, rfl, C, lo, hi, vs, q1, q2, by omega, ?_, hv, fun i hi' => q6 i (by omega), q7, by rw [← g.fix]; exact q8⟩
   have : ∀ l : List AV, l.all AV.oneA = true → (aA3 v0 q l).all AV.oneA = true := by
    intro l
    induction l with
    | nil => intro _; rfl
    | cons a l ih =>
      intro hh
      simp only [List.all_cons, Bool.and_eq_true] at hh
      simp only [aA3, List.all_cons, Bool.and_eq_true]
      refine ⟨?_, ih hh.2⟩
      have := hh.1
      cases a <;> simp only [al1] <;> first | exact this | rfl
   exact this _ q4
 · obtain ⟨h1, h2⟩ := a8 h
   have := K7 g h2 hw
   obtain ⟨C, e', lo, hi, q1, q0, q2, q3, q4, q5⟩ := r
   have hd : ∀ e : SX, den ω (x8 v0 q e) = den ω' e → dL ω (x8 v0 q e) = dL ω' e := fun e he => by unfold dL; rw [he]
   exact ⟨_, rfl, C, e', lo, hi, q1, q0, q2, by rw [hd _ this]; exact q3, by rw [hd _ this]; exact q4, q5⟩
 · rename_i es1 c es2 c2
   obtain ⟨h1, h2⟩ := a8 h
   obtain ⟨h3, h4⟩ := g9 h1
   obtain ⟨Es, q1, q2⟩ := r
   obtain rfl := aU3 h3
   exact ⟨_, rfl, Es, q1, a67 (β := β) (β' := β) g.symm (fun _ _ => rfl) h3 q2⟩
 · rename_i pp _ _ xx
   obtain ⟨h1, h2⟩ := a8 h
   have := K7 g h2 hw
   obtain ⟨Es, c, q1, q2⟩ := r
   exact ⟨_, rfl, Es, c, q1, by rw [show dL ω (x8 v0 q pp) = dL ω' pp by unfold dL; rw [this]]; exact q2⟩
 · rename_i pp _
   have := K7 g h hw
   obtain ⟨Es, c, q1, q2⟩ := r
   exact ⟨_, rfl, Es, c, q1, by rw [show dL ω (x8 v0 q pp) = dL ω' pp by unfold dL; rw [this]]; exact q2⟩
 · cases h
end Go.Ev
