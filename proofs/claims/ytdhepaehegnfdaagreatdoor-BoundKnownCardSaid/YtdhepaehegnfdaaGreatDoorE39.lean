import Derived.Test.YtdhepaehegnfdaaGreatDoorE38
set_option linter.unusedVariables false
set_option linter.unusedSimpArgs false
namespace Go.Ev
open Go
variable {ω ω' : Opq} {β β' βF : Bij} {K : Nat → Prop} {w0 w w' : World} {h h' : Heap}
section
variable {Q : Nat → SX} {ρ : Nat → Nat} {m : Nat}
structure Laid (Q : Nat → SX) (ρ : Nat → Nat) (m : Nat) (l : List (Option Blk)) (i : Nat) (h h2 : Heap) : Prop where
 wm : h2.wm = h.wm
 next : h2.next = h.next + (i + l.length - Nat.max i m)
 get : ∀ b y, h2.get b = some y → (∃ j x, l[j]? = some x ∧ i + j < m ∧ ρ (i + j) = b ∧ ag7 ρ (U3 Q x) = some y) ∨ (∃ j x, l[j]? = some x ∧ m ≤ i + j ∧ b = h.next + (i + j - Nat.max i m) ∧ ag7 ρ (U3 Q x) = some y) ∨ (h.get b = some y ∧ ∀ j, j < l.length → i + j < m → ρ (i + j) ≠ b)
 keep : ∀ b, b < h.next → (∀ j, j < l.length → i + j < m → ρ (i + j) ≠ b) → h2.get b = h.get b
theorem bp5 {x : Option Blk} (e : bo9 x = true) : ∃ y, ag7 ρ (U3 Q x) = some y := by
 unfold bo9 at e
 split at e
 · exact ⟨_, rfl⟩
 · cases e
theorem ac8 : ∀ (l : List (Option Blk)) (i : Nat) (h : Heap), (∀ j x, l[j]? = some x → m ≤ i + j → bo9 x = true) → (∀ j, j < l.length → i + j < m → ρ (i + j) < h.next) → Laid Q ρ m l i h (E6 ρ Q m l i h)
 | [], i, h, hr, hb => by
   refine ⟨rfl, ?_, fun b y e => .inr (.inr ⟨e, fun j hj => by simp at hj⟩), fun _ _ _ => rfl⟩
   show h.next = h.next + (i + 0 - max i m)
   omega
 | x :: r, i, h, hr, hb => by
   by_cases him : i < m
   ·
    have hstep : E6 ρ Q m (x :: r) i h = E6 ρ Q m r (i + 1) (h.put (ρ i) (ag7 ρ (U3 Q x))) := by
     simp only [E6, J7 him, cond_true]
    have hρ : ρ i < h.next := hb 0 (by simp) him
    have ih := ac8 r (i + 1) (h.put (ρ i) (ag7 ρ (U3 Q x))) (fun j y hj hm => hr (j + 1) y (by simpa using hj) (by omega)) (fun j hj hm => by rw [Heap.next_put]; have := hb (j + 1) (by simp; omega) (by omega); rw [show i + (j + 1) = i + 1 + j by omega] at this; exact this)
    rw [hstep]
    have hmax : Nat.max (i + 1) m = m := Nat.max_eq_right (by omega)
    have hmax' : Nat.max i m = m := Nat.max_eq_right (by omega)
    refine ⟨ih.wm, ?_, fun b y e => ?_, fun b hb' hn => ?_⟩
    · rw [ih.next, Heap.next_put, hmax, hmax', List.length_cons]; omega
    · rcases ih.get b y e with ⟨j, z, h1, h2, h3, h4⟩ | ⟨j, z, h1, h2, h3, h4⟩ | ⟨h1, h2⟩
      · exact .inl ⟨j + 1, z, by simpa using h1, by omega, by rw [show i + (j + 1) = i + 1 + j by omega]; exact h3, h4⟩
      · refine .inr (.inl ⟨j + 1, z, by simpa using h1, by omega, ?_, h4⟩)
        rw [h3, Heap.next_put, hmax, hmax']; omega
      · rw [Heap.get_put] at h1
        by_cases hbi : b = ρ i
        · rw [if_pos hbi] at h1
          split at h1
          · exact .inl ⟨0, x, rfl, by omega, hbi.symm, h1⟩
          · cases h1
        · rw [if_neg hbi] at h1
          refine .inr (.inr ⟨h1, fun j hj hm => ?_⟩)
          cases j with
          | zero => exact fun hh => hbi hh.symm
          | succ j =>
            rw [show i + (j + 1) = i + 1 + j by omega]
            exact h2 j (by simpa using hj) (by omega)
    · rw [ih.keep b (by rw [Heap.next_put]; exact hb') (fun j hj hm => by rw [show i + 1 + j = i + (j + 1) by omega]; exact hn (j + 1) (by simp; omega) (by omega)), Heap.get_put, if_neg]
      exact fun hh => hn 0 (by simp) him hh.symm
   · obtain ⟨z, hz⟩ := bp5 (Q := Q) (ρ := ρ) (hr 0 x rfl (by omega))
     have hstep : E6 ρ Q m (x :: r) i h = E6 ρ Q m r (i + 1) (h.new z) := by
      simp only [E6, O7 him, cond_false, hz]
     have ih := ac8 r (i + 1) (h.new z) (fun j y hj hm => hr (j + 1) y (by simpa using hj) (by omega)) (fun j hj hm => by omega)
     rw [hstep]
     have hmax : Nat.max (i + 1) m = i + 1 := Nat.max_eq_left (by omega)
     have hmax' : Nat.max i m = i := Nat.max_eq_left (by omega)
     refine ⟨ih.wm, ?_, fun b y e => ?_, fun b hb' hn => ?_⟩
     · rw [ih.next, Heap.next_new, hmax, hmax', List.length_cons]; omega
     · rcases ih.get b y e with ⟨j, u, h1, h2, h3, h4⟩ | ⟨j, u, h1, h2, h3, h4⟩ | ⟨h1, h2⟩
       · omega
       · refine .inr (.inl ⟨j + 1, u, by simpa using h1, by omega, ?_, h4⟩)
         rw [h3, Heap.next_new, hmax, hmax']; omega
       · rw [Heap.get_new] at h1
         by_cases hbi : b = h.next
         · rw [if_pos hbi] at h1
           split at h1
           · simp only [Option.some.injEq] at h1; subst h1
             exact .inr (.inl ⟨0, x, rfl, by omega, by rw [hmax']; omega, hz⟩)
           · cases h1
         · rw [if_neg hbi] at h1
           exact .inr (.inr ⟨h1, fun j hj hm => by omega⟩)
     · rw [ih.keep b (by rw [Heap.next_new]; omega) (fun j hj hm => by omega), Heap.get_new, if_neg (by omega)]
end
section
variable {m base : Nat} {a : Fr}
theorem bg1 {P : Nat → SX → Prop} : ∀ {ps : List AV} {t n : Nat} {es : List SX}, bW8 m base h a ps t n = some es → (∀ j e, es[j]? = some e → P (n + j) e) → ∀ k p, ps[k]? = some p → ∃ n' es', ce0 m base n' h p (a.slot (t + k)) = some es' ∧ ∀ j e, es'[j]? = some e → P (n' + j) e
 | [], t, n, es, e, hp, k, p, hk => by simp at hk
 | q :: ps, t, n, es, e, hp, k, p, hk => by
   simp only [bW8] at e
   split at e
   · rename_i e1 h1
     split at e
     · rename_i e2 h2
       simp only [Option.some.injEq] at e; subst e
       cases k with
       | zero =>
         simp only [List.getElem?_cons_zero, Option.some.injEq] at hk; subst hk
         refine ⟨n, e1, h1, fun j e hj => hp j e ?_⟩
         have hlt := (List.getElem?_eq_some_iff.1 hj).1
         rw [List.getElem?_append_left hlt]; exact hj
       | succ k =>
         simp only [List.getElem?_cons_succ] at hk
         obtain ⟨n', es', g1, g2⟩ := bg1 h2 (fun j e hj => by
          have := hp (e1.length + j) e (by rw [List.getElem?_append_right (Nat.le_add_right _ _), Nat.add_sub_cancel_left]; exact hj)
          rw [show n + e1.length + j = n + (e1.length + j) by omega]; exact this) k p hk
         exact ⟨n', es', by rw [show t + (k + 1) = t + 1 + k by omega]; exact g1, g2⟩
     · cases e
   · cases e
theorem bg2 {P : Nat → SX → Prop} : ∀ {ps : List (Option Blk)} {i n : Nat} {es : List SX}, bW9 m base h ps i n = some es → (∀ j e, es[j]? = some e → P (n + j) e) → ∀ k p, ps[k]? = some p → ∃ n' es', aG0 1000 base n' p (h.get (bif Nat.blt (i + k) m then i + k else base + (i + k - m))) = some es' ∧ ∀ j e, es'[j]? = some e → P (n' + j) e
 | [], i, n, es, e, hp, k, p, hk => by simp at hk
 | q :: ps, i, n, es, e, hp, k, p, hk => by
   simp only [bW9] at e
   split at e
   · rename_i e1 h1
     split at e
     · rename_i e2 h2
       simp only [Option.some.injEq] at e; subst e
       cases k with
       | zero =>
         simp only [List.getElem?_cons_zero, Option.some.injEq] at hk; subst hk
         refine ⟨n, e1, h1, fun j e hj => hp j e ?_⟩
         have hlt := (List.getElem?_eq_some_iff.1 hj).1
         rw [List.getElem?_append_left hlt]; exact hj
       | succ k =>
         simp only [List.getElem?_cons_succ] at hk
         obtain ⟨n', es', g1, g2⟩ := bg2 h2 (fun j e hj => by
          have := hp (e1.length + j) e (by rw [List.getElem?_append_right (Nat.le_add_right _ _), Nat.add_sub_cancel_left]; exact hj)
          rw [show n + e1.length + j = n + (e1.length + j) by omega]; exact this) k p hk
         exact ⟨n', es', by rw [show i + (k + 1) = i + 1 + k by omega]; exact g1, g2⟩
     · cases e
   · cases e
theorem bX8 {x : AV} {v : Value} (hd : dB ω (bp0 h x).1 = true) (r : VR β ω x v) : VR β ω (bp0 h x).2 v := by
 cases x with
 | ous b len s =>
   cases hg : h.get b with
   | none => simp only [bp0, hg]; exact r
   | some y =>
     cases y with
     | arr e sig l =>
       simp only [bp0, hg] at hd ⊢
       cases hc : SX.beq len (.op .llen [l]) with
       | true => exact r
       | false =>
         rw [hc] at hd
         have : dI ω len = dI ω (.op .llen [l]) := of_decide_eq_true hd
         show VR β ω (.ous b (.op .llen [l]) s) v
         simp only [VR] at r ⊢
         rw [← this]; exact r
     | _ => simp only [bp0, hg]; exact r
 | _ => exact r
theorem aV3 : ∀ {xs : List AV} {vs : List Value}, dB ω (aD2 h xs).1 = true → VRs β ω xs vs → VRs β ω (aD2 h xs).2 vs
 | [], vs, hd, r => r
 | x :: xs, vs, hd, ⟨v, vr, e, p, q⟩ => by
   simp only [aD2] at hd ⊢
   obtain ⟨d1, d2⟩ := aD3 hd
   exact ⟨v, vr, e, bX8 d1 p, aV3 d2 q⟩
theorem bH0 {pc : PC} (hp : b40 ω pc) : ∀ l : List SX, k5 ω (cx6 pc l) = k5 ω l
 | [] => rfl
 | a :: r => by simp only [cx6, k5, b41 hp, bH0 hp r]
theorem cr3 {xs : List AV} {us : List Value} (ra : VRs β ω xs us) (hl : xs.length ≤ 256) : FrR β ω ⟨M9 xs 0 TF.empty, xs.length, [], 0, [], none⟩ { tmps := us.toArray, defers := [] } := by
 have := aJ4 (fn := 0) (nt := xs.length) ra (by rw [show Nat.max xs.length xs.length = xs.length from Nat.max_self _]; exact hl)
 rw [show Nat.max xs.length xs.length = xs.length from Nat.max_self _, show xs.length - us.toArray.size = 0 by rw [List.size_toArray, ra.length]; exact Nat.sub_self _] at this
 simpa using this
end
theorem ar6 {src : List BSrc} {mt : Nat} {post : List (Option Blk)} : ∀ {l : List (Option Blk)} {i : Nat}, aq9 src mt post l i = true → src.length ≤ i + l.length ∧ ∀ j x, l[j]? = some x → (i + j < src.length → clB src mt post x = true) ∧ (src.length ≤ i + j → bo9 x = true)
 | [], i, e => ⟨by simp only [aq9, j2] at e; simpa using e, fun j x hx => by simp at hx⟩
 | x :: l, i, e => by
   simp only [aq9] at e
   by_cases hi : i < src.length
   · rw [J7 hi] at e
     simp only [cond_true, Bool.and_eq_true] at e
     obtain ⟨h1, h2⟩ := ar6 e.2
     refine ⟨by simp only [List.length_cons]; omega, fun j y hy => ?_⟩
     cases j with
     | zero =>
       simp only [List.getElem?_cons_zero, Option.some.injEq] at hy; subst hy
       exact ⟨fun _ => e.1, fun hh => by omega⟩
     | succ j =>
       simp only [List.getElem?_cons_succ] at hy
       have := h2 j y hy
       rw [show i + (j + 1) = i + 1 + j by omega]; exact this
   · rw [O7 hi] at e
     simp only [cond_false, Bool.and_eq_true] at e
     obtain ⟨h1, h2⟩ := ar6 e.2
     refine ⟨by simp only [List.length_cons]; omega, fun j y hy => ?_⟩
     cases j with
     | zero =>
       simp only [List.getElem?_cons_zero, Option.some.injEq] at hy; subst hy
       exact ⟨fun hh => by omega, fun _ => e.1⟩
     | succ j =>
       simp only [List.getElem?_cons_succ] at hy
       have := h2 j y hy
       rw [show i + (j + 1) = i + 1 + j by omega]; exact this
theorem X0 {post : List (Option Blk)} {mt m base : Nat} : ∀ {l : List AV} {t : Nat} {o : OwnP}, o ∈ aU9 post mt m base l t → base ≤ o.blk
 | [], t, o, ho => by cases ho
 | p :: l, t, o, ho => by
   cases p <;> simp only [aU9] at ho <;> try exact X0 ho
   rename_i i x s
   cases hm : Nat.ble m i with
   | false => rw [hm] at ho; exact X0 ho
   | true =>
     rw [hm] at ho
     simp only [cond_true] at ho
     split at ho
     · rcases List.mem_cons.1 ho with rfl | ho
       · exact Nat.le_add_right _ _
       · exact X0 ho
     · exact X0 ho
mutual
theorem bg3 {F : AV → AV} (h1 : ∀ l, F (.agg l) = .agg (l.map F)) (h2 : ∀ l, F (.tup l) = .tup (l.map F)) (h3 : ∀ x, A8 x = true → A8 (F x) = true) : ∀ v : AV, K8 (F v) = (K8 v).map F
 | .agg l => by rw [h1]; rfl
 | .tup l => by rw [h2]; exact aV4 h1 h2 h3 l
 | .bool a => by rw [l3 (h3 _ rfl)]; rfl
 | .int a b => by rw [l3 (h3 _ rfl)]; rfl
 | .str a => by rw [l3 (h3 _ rfl)]; rfl
 | .nilp => by rw [l3 (h3 _ rfl)]; rfl
 | .ptr a b => by rw [l3 (h3 _ rfl)]; rfl
 | .glob a => by rw [l3 (h3 _ rfl)]; rfl
 | .nils => by rw [l3 (h3 _ rfl)]; rfl
 | .sl a b c d => by rw [l3 (h3 _ rfl)]; rfl
 | .us a b c d => by rw [l3 (h3 _ rfl)]; rfl
 | .es a b c => by rw [l3 (h3 _ rfl)]; rfl
 | .es0 => by rw [l3 (h3 _ rfl)]; rfl
 | .nilm => by rw [l3 (h3 _ rfl)]; rfl
 | .map a => by rw [l3 (h3 _ rfl)]; rfl
 | .nilf => by rw [l3 (h3 _ rfl)]; rfl
 | .func a b c => by rw [l3 (h3 _ rfl)]; rfl
 | .yield a => by rw [l3 (h3 _ rfl)]; rfl
 | .nili => by rw [l3 (h3 _ rfl)]; rfl
 | .iface a b => by rw [l3 (h3 _ rfl)]; rfl
 | .opq a => by rw [l3 (h3 _ rfl)]; rfl
 | .oint a b => by rw [l3 (h3 _ rfl)]; rfl
 | .ostr a => by rw [l3 (h3 _ rfl)]; rfl
 | .obool a => by rw [l3 (h3 _ rfl)]; rfl
 | .osl a b c d => by rw [l3 (h3 _ rfl)]; rfl
 | .optr a b c d => by rw [l3 (h3 _ rfl)]; rfl
 | .ous a b c => by rw [l3 (h3 _ rfl)]; rfl
 | .atl a => by rw [l3 (h3 _ rfl)]; rfl
 | .any => by rw [l3 (h3 _ rfl)]; rfl
theorem aV4 {F : AV → AV} (h1 : ∀ l, F (.agg l) = .agg (l.map F)) (h2 : ∀ l, F (.tup l) = .tup (l.map F)) (h3 : ∀ x, A8 x = true → A8 (F x) = true) : ∀ l : List AV, a06 (l.map F) = (a06 l).map F
 | [] => rfl
 | a :: r => by simp only [List.map_cons, a06, List.map_append, bg3 h1 h2 h3 a, aV4 h1 h2 h3 r]
end
theorem sh1 {F o v : AV} (h1 : A8 o = true) (h2 : A8 F = true) (h : B8 o v = true) : B8 F v = true := by
 have hv : A8 v = true := by
  cases o <;> first
   | (exfalso; simp [A8] at h1; done)
   | (simp only [B8] at h; cases v <;> first | rfl | ((cases h;done)))
 cases F <;> first
  | (exfalso; simp [A8] at h2; done)
  | (simp only [B8]; cases v <;> first | rfl | ((cases hv;done)))
mutual
theorem c44 {F : AV → AV} (h1 : ∀ l, F (.agg l) = .agg (l.map F)) (h2 : ∀ l, F (.tup l) = .tup (l.map F)) (h3 : ∀ x, A8 x = true → A8 (F x) = true) : ∀ (o v : AV), B8 o v = true → B8 (F o) v = true
 | .agg l, v, h => by
   rw [h1]
   simp only [B8] at h ⊢
   split at h
   · rw [List.length_map]; exact h
   · cases h
 | .tup l, v, h => by
   rw [h2]
   simp only [B8] at h ⊢
   split at h
   · exact bH1 h1 h2 h3 l _ h
   · cases h
 | .bool a, v, h => sh1 rfl (h3 _ rfl) h
 | .int a b, v, h => sh1 rfl (h3 _ rfl) h
 | .str a, v, h => sh1 rfl (h3 _ rfl) h
 | .nilp, v, h => sh1 rfl (h3 _ rfl) h
 | .ptr a b, v, h => sh1 rfl (h3 _ rfl) h
 | .glob a, v, h => sh1 rfl (h3 _ rfl) h
 | .nils, v, h => sh1 rfl (h3 _ rfl) h
 | .sl a b c d, v, h => sh1 rfl (h3 _ rfl) h
 | .us a b c d, v, h => sh1 rfl (h3 _ rfl) h
 | .es a b c, v, h => sh1 rfl (h3 _ rfl) h
 | .es0, v, h => sh1 rfl (h3 _ rfl) h
 | .nilm, v, h => sh1 rfl (h3 _ rfl) h
 | .map a, v, h => sh1 rfl (h3 _ rfl) h
 | .nilf, v, h => sh1 rfl (h3 _ rfl) h
 | .func a b c, v, h => sh1 rfl (h3 _ rfl) h
 | .yield a, v, h => sh1 rfl (h3 _ rfl) h
 | .nili, v, h => sh1 rfl (h3 _ rfl) h
 | .iface a b, v, h => sh1 rfl (h3 _ rfl) h
 | .opq a, v, h => sh1 rfl (h3 _ rfl) h
 | .oint a b, v, h => sh1 rfl (h3 _ rfl) h
 | .ostr a, v, h => sh1 rfl (h3 _ rfl) h
 | .obool a, v, h => sh1 rfl (h3 _ rfl) h
 | .osl a b c d, v, h => sh1 rfl (h3 _ rfl) h
 | .optr a b c d, v, h => sh1 rfl (h3 _ rfl) h
 | .ous a b c, v, h => sh1 rfl (h3 _ rfl) h
 | .atl a, v, h => sh1 rfl (h3 _ rfl) h
 | .any, v, h => sh1 rfl (h3 _ rfl) h
theorem bH1 {F : AV → AV} (h1 : ∀ l, F (.agg l) = .agg (l.map F)) (h2 : ∀ l, F (.tup l) = .tup (l.map F)) (h3 : ∀ x, A8 x = true → A8 (F x) = true) : ∀ (o v : List AV), J8 o v = true → J8 (o.map F) v = true
 | [], v, h => h
 | a :: r, v, h => by
   simp only [J8, List.map_cons] at h ⊢
   split at h
   · rw [Bool.and_eq_true] at h ⊢
     exact ⟨c44 h1 h2 h3 a _ h.1, bH1 h1 h2 h3 r _ h.2⟩
   · cases h
end
theorem ac9 (Q : Nat → SX) : ∀ l : List AV, a07 Q l = l.map (Q6 Q)
 | [] => rfl
 | a :: r => by simp only [a07, List.map_cons, ac9 Q r]
theorem ar7 (ρ : Nat → Nat) : ∀ l : List AV, ag6 ρ l = l.map (ax8 ρ)
 | [] => rfl
 | a :: r => by simp only [ag6, List.map_cons, ar7 ρ r]
theorem bH2 {F : AV → AV} : ∀ {ps : List AV} {us : List Value}, ps.length = us.length → (∀ (k : Nat) (p : AV) (u : Value), ps[k]? = some p → us[k]? = some u → VR β ω (F p) u) → VRs β ω (ps.map F) us
 | [], [], _, _ => rfl
 | [], _ :: _, h, _ => by cases h
 | _ :: _, [], h, _ => by cases h
 | p :: ps, u :: us, h, hk => ⟨u, us, rfl, hk 0 p u rfl rfl, bH2 (by simpa using h) (fun k q v h1 h2 => hk (k + 1) q v (by simpa using h1) (by simpa using h2))⟩
end Go.Ev
