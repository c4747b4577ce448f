import Derived.Test.YthdedeijapoihaaGreatDoorE37
set_option autoImplicit false
set_option linter.unusedVariables false
set_option linter.unusedSimpArgs false
namespace Go.Ev
open Go
variable {ω ω' : Opq} {β β' βF : Bij} {K : Nat → Prop} {w0 w w' : World} {h h' : Heap}
def A0 : AV → Bool
 | .agg _ => false
 | .tup _ => false
 | _ => true
theorem j9 {v : AV} (h : A0 v = true) : J1 v = [v] := by cases v <;> first | rfl | cases h
theorem c20 {out v : AV} (h : A0 v = true) (hs : B2 out v = true) : A0 out = true := by
 cases out <;> first
  | rfl
  | (simp only [B2] at hs; split at hs <;> first | cases h | cases hs)
theorem E5 {v : AV} {u : Value} (h : A0 v = true) (r : VR β ω v u) : ∃ us, VRs β ω (J1 v) us ∧ ∀ (β' : Bij) (ω' : Opq) (out : AV), B2 out v = true → VRs β' ω' (J1 out) us → VR β' ω' out u := by
 refine ⟨[u], by rw [j9 h]; exact .one r, fun β' ω' out hs ho => ?_⟩
 rw [j9 (c20 h hs)] at ho
 obtain ⟨x, xr, e, p, q⟩ := ho
 simp only [List.cons.injEq] at e
 rw [e.1]; exact p
theorem aK3 : ∀ {a b : List AV} {x y : List Value}, a.length = x.length → VRs β ω (a ++ b) (x ++ y) → VRs β ω a x ∧ VRs β ω b y
 | [], b, [], y, _, r => ⟨rfl, r⟩
 | [], b, _ :: _, y, h, r => by cases h
 | _ :: _, b, [], y, h, r => by cases h
 | p :: a, b, v :: x, y, h, ⟨v', vr, e, q, s⟩ => by
   simp only [List.cons_append, List.cons.injEq] at e
   obtain ⟨rfl, rfl⟩ := e
   obtain ⟨h1, h2⟩ := aK3 (by simpa using h) s
   exact ⟨⟨v, x, rfl, q, h1⟩, h2⟩
theorem E7 {o v : AV} (ho : A0 o = true) (h : B2 o v = true) : (J1 o).length = (J1 v).length := by
 have hv : A0 v = true := by
  cases o <;> first
   | (exfalso; simp [A0] at ho; done)
   | (simp only [B2] at h; cases v <;> first | rfl | (exact nomatch h))
 rw [j9 ho, j9 hv]; rfl
mutual
theorem aA4 : ∀ {o v : AV}, B2 o v = true → (J1 o).length = (J1 v).length
 | .agg a, v, h => by
   simp only [B2] at h
   split at h
   · exact e8.1 h
   · cases h
 | .tup a, v, h => by
   simp only [B2] at h
   split at h
   · exact aK4 h
   · cases h
 | .bool _, v, h => E7 rfl h
 | .int _ _, v, h => E7 rfl h
 | .str _, v, h => E7 rfl h
 | .nilp, v, h => E7 rfl h
 | .ptr _ _, v, h => E7 rfl h
 | .glob _, v, h => E7 rfl h
 | .nils, v, h => E7 rfl h
 | .sl _ _ _ _, v, h => E7 rfl h
 | .us _ _ _ _, v, h => E7 rfl h
 | .es _ _ _, v, h => E7 rfl h
 | .es0, v, h => E7 rfl h
 | .nilm, v, h => E7 rfl h
 | .map _, v, h => E7 rfl h
 | .nilf, v, h => E7 rfl h
 | .func _ _ _, v, h => E7 rfl h
 | .yield _, v, h => E7 rfl h
 | .nili, v, h => E7 rfl h
 | .iface _ _, v, h => E7 rfl h
 | .opq _, v, h => E7 rfl h
 | .oint _ _, v, h => E7 rfl h
 | .ostr _, v, h => E7 rfl h
 | .obool _, v, h => E7 rfl h
 | .osl _ _ _ _, v, h => E7 rfl h
 | .optr _ _ _ _, v, h => E7 rfl h
 | .ous _ _ _, v, h => E7 rfl h
 | .atl _, v, h => E7 rfl h
 | .any, v, h => E7 rfl h
theorem aK4 : ∀ {o v : List AV}, I3 o v = true → (X3 o).length = (X3 v).length
 | [], v, h => by
   simp only [I3] at h
   split at h
   · rfl
   · cases h
 | a :: r, v, h => by
   simp only [I3] at h
   split at h
   · rw [Bool.and_eq_true] at h
     simp only [X3, List.length_append, aA4 h.1, aK4 h.2]
   · cases h
end
mutual
theorem bt8 : ∀ (v : AV) (u : Value), VR β ω v u → ∃ us, VRs β ω (J1 v) us ∧ ∀ (β' : Bij) (ω' : Opq) (out : AV), B2 out v = true → VRs β' ω' (J1 out) us → VR β' ω' out u
 | .agg cs, u, r => by
   obtain ⟨xs, rfl, q⟩ := r
   refine ⟨xs.toList, q, fun β' ω' out hs ho => ?_⟩
   cases out <;> simp only [B2, Bool.false_eq_true] at hs
   exact ⟨xs, rfl, ho⟩
 | .tup vs, u, r => by
   obtain ⟨xs, rfl, q⟩ := r
   obtain ⟨us, h1, h2⟩ := b41 vs xs.toList q
   refine ⟨us, h1, fun β' ω' out hs ho => ?_⟩
   cases out <;> simp only [B2, Bool.false_eq_true] at hs
   exact ⟨xs, rfl, h2 β' ω' _ hs ho⟩
 | .bool b, u, r => E5 rfl r
 | .int a b, u, r => E5 rfl r
 | .str b, u, r => E5 rfl r
 | .nilp, u, r => E5 rfl r
 | .ptr a b, u, r => E5 rfl r
 | .glob b, u, r => E5 rfl r
 | .nils, u, r => E5 rfl r
 | .sl a b c d, u, r => E5 rfl r
 | .us a b c d, u, r => E5 rfl r
 | .es a b c, u, r => E5 rfl r
 | .es0, u, r => E5 rfl r
 | .nilm, u, r => E5 rfl r
 | .map b, u, r => E5 rfl r
 | .nilf, u, r => E5 rfl r
 | .func a b c, u, r => E5 rfl r
 | .yield b, u, r => E5 rfl r
 | .nili, u, r => E5 rfl r
 | .iface a b, u, r => E5 rfl r
 | .opq b, u, r => E5 rfl r
 | .oint a b, u, r => E5 rfl r
 | .ostr b, u, r => E5 rfl r
 | .obool b, u, r => E5 rfl r
 | .osl a b c d, u, r => E5 rfl r
 | .optr a b c d, u, r => E5 rfl r
 | .ous a b c, u, r => E5 rfl r
 | .atl b, u, r => E5 rfl r
 | .any, u, r => E5 rfl r
theorem b41 : ∀ (vs : List AV) (us0 : List Value), VRs β ω vs us0 → ∃ us, VRs β ω (X3 vs) us ∧ ∀ (β' : Bij) (ω' : Opq) (outs : List AV), I3 outs vs = true → VRs β' ω' (X3 outs) us → VRs β' ω' outs us0
 | [], us0, r => by
   refine ⟨[], rfl, fun β' ω' outs hs ho => ?_⟩
   cases outs with
   | nil => exact r
   | cons a b => simp only [I3] at hs; cases hs
 | v :: vs, us0, ⟨u, ur, e, p, q⟩ => by
   obtain ⟨us1, a1, a2⟩ := bt8 v u p
   obtain ⟨us2, b1, b2⟩ := b41 vs ur q
   refine ⟨us1 ++ us2, a1.append b1, fun β' ω' outs hs ho => ?_⟩
   cases outs with
   | nil => simp only [I3] at hs; cases hs
   | cons o os =>
     simp only [I3, Bool.and_eq_true] at hs
     have hl : (J1 o).length = us1.length := by rw [aA4 hs.1]; exact a1.length.symm
     obtain ⟨c1, c2⟩ := aK3 hl ho
     exact ⟨u, ur, e, a2 β' ω' o hs.1 c1, b2 β' ω' os hs.2 c2⟩
end
section
variable {Q : Nat → SX} {n : Nat}
theorem G0 (g : Agr 0 ω ω') {p x : SX} {es : List SX} (h : aY7 1000 n p x = some es) (hp : be8 p = true) (hq : ∀ j e, es[j]? = some e → den ω (Q (n + j)) = den ω' e) : den ω (v7 1000 Q p) = den ω' x := by
 unfold aY7 at h
 unfold v7
 unfold be8 at hp
 split at h
 · rename_i m hm
   obtain ⟨h1, h2⟩ := a8 h
   simp only [Option.some.injEq] at h2; subst h2
   obtain rfl := e8.1 h1
   exact hq 0 x rfl
 · rename_i hm
   obtain ⟨h1, _⟩ := a8 h
   obtain ⟨h1, _⟩ := a9 h1
   rw [hm] at hp
   have hp : s8 0 p = true := hp
   rw [← SX.beq_eq _ _ h1]
   exact (Q0 g p hp).symm
theorem bd3 (g : Agr 0 ω ω') {p q x y : SX} {es : List SX} (h : aP2 1000 n p q x y = some es) (hp : be8 p = true) (hpq : be8 q = true) (hq : ∀ j e, es[j]? = some e → den ω (Q (n + j)) = den ω' e) : den ω (v7 1000 Q p) = den ω' x ∧ den ω (v7 1000 Q q) = den ω' y := by
 unfold aP2 at h
 split at h
 · rename_i e1 h1
   split at h
   · rename_i e2 h2
     simp only [Option.some.injEq] at h; subst h
     refine ⟨G0 g h1 hp fun j e hj => hq j e ?_, G0 g h2 hpq fun j e hj => ?_⟩
     · have hlt := (List.getElem?_eq_some_iff.1 hj).1
       rw [List.getElem?_append_left hlt]; exact hj
     · have := hq (e1.length + j) e (by rw [List.getElem?_append_right (Nat.le_add_right _ _), Nat.add_sub_cancel_left]; exact hj)
       rw [show n + e1.length + j = n + (e1.length + j) by omega]; exact this
   · cases h
 · cases h
theorem bt9 {src : List BSrc} {i : Nat} (e : isW src i = true) : ∃ b, src[i]? = some (.whole b) := by
 unfold isW at e
 split at e
 · rename_i b hb; exact ⟨b, hb⟩
 · cases e
theorem aj8 {src : List BSrc} {m i b : Nat} (e : src[i]? = some (.whole b)) : Z1 src m i = b := by unfold Z1; rw [e]
theorem aj9 (ρ : Nat → Nat) (k : IntKind) (e : SX) : ao9 ρ (be6 k e) = be6 k e := by
 unfold be6
 split <;> rfl
theorem bu0 (k : IntKind) (e : SX) : (be6 k e).oneA = true := by
 unfold be6
 split <;> rfl
theorem bd4 {ρ : Nat → Nat} {p : AV} (h : a86 p = true) : ao9 ρ (O1 Q p) = p := by
 cases p <;> simp only [a86, Bool.false_eq_true] at h <;> simp only [O1, ao9]
variable {src : List BSrc} {mt base N : Nat} {post : List (Option Blk)}
theorem aA5 (g : Agr 0 ω ω') {p x : AV} {u : Value} {es : List SX} (hcl : clA src mt post p = true) (hnn : au0 src.length p = true) (ha : n8 1000 base n p x = some es) (hq : ∀ j e, es[j]? = some e → den ω (Q (n + j)) = den ω' e)
 (r : VR β ω' x u) (hβ : ∀ i b, src[i]? = some (.whole b) → βF b = β i) : VR βF ω (ao9 (Z1 src N) (O1 Q p)) u := by
 have plain : a86 p = true → (bif AV.beq p x && okA 1000 base x then some ([] : List SX) else none) = some es → VR βF ω (ao9 (Z1 src N) (O1 Q p)) u := by
  intro hp h
  obtain ⟨h1, _⟩ := a8 h
  obtain ⟨h1, _⟩ := a9 h1
  rw [bd4 hp]
  rw [← AV.beq_eq _ _ h1] at r
  exact m9 hp r
 cases p with
 | oint k e =>
   simp only [clA] at hcl
   simp only [n8] at ha
   unfold cm5 at ha
   split at ha
   · rename_i k' x' hx
     split at ha
     · rename_i hk; subst hk
       rw [show ao9 (Z1 src N) (O1 Q (.oint k e)) = be6 k (v7 1000 Q e) from aj9 _ _ _]
       refine aR5.2 ?_
       show u = .int k (dI ω (v7 1000 Q e))
       rw [E2 hx r]
       exact congrArg (fun z : Val => Value.int k z.toI) (G0 g ha hcl hq).symm
     · cases ha
   · cases ha
 | ostr e =>
   simp only [clA] at hcl
   simp only [n8] at ha
   unfold bO5 at ha
   split at ha
   · rename_i x' hx
     show u = .string ⟨(dS ω (v7 1000 Q e)).toArray⟩
     rw [P7 hx r]
     exact congrArg (fun z : Val => Value.string ⟨z.toS.toArray⟩) (G0 g ha hcl hq).symm
   · cases ha
 | obool e =>
   simp only [clA] at hcl
   simp only [n8] at ha
   unfold bO5 at ha
   split at ha
   · rename_i x' hx
     show u = .bool (dB ω (v7 1000 Q e))
     rw [S2 hx r]
     exact congrArg (fun z : Val => Value.bool z.toB) (G0 g ha hcl hq).symm
   · cases ha
 | osl i y z s =>
   simp only [clA, Bool.and_eq_true] at hcl
   simp only [n8] at ha
   unfold aF0 at ha
   split at ha
   · rename_i b' y' z' s'
     obtain ⟨h1, h2⟩ := a8 ha
     obtain ⟨h1, _⟩ := a9 h1
     obtain ⟨h1, h3⟩ := a9 h1
     obtain rfl := e8.1 h1
     obtain rfl := e8.1 h3
     obtain ⟨b, hb⟩ := bt9 hcl.1.1
     obtain ⟨k1, k2⟩ := bd3 g h2 hcl.1.2 hcl.2 hq
     have k1 : dI ω (v7 1000 Q y) = dI ω' y' := congrArg Val.toI k1
     have k2 : dI ω (v7 1000 Q z) = dI ω' z' := congrArg Val.toI k2
     simp only [O1, ao9, aj8 hb, VR] at r ⊢
     rw [k1, k2, hβ i b hb]; exact r
   · cases ha
 | ous i q s =>
   simp only [au0, j7] at hnn
   simp only [clA] at hcl
   rw [show Nat.ble src.length i = false by
    cases hh : Nat.ble src.length i with
    | false => rfl
    | true => rw [e9] at hh; omega] at hcl
   simp only [cond_false, Bool.and_eq_true] at hcl
   simp only [n8] at ha
   unfold aF1 at ha
   split at ha
   · rename_i b' q' s'
     obtain ⟨h1, h2⟩ := a8 ha
     obtain ⟨h1, _⟩ := a9 h1
     obtain ⟨h1, h3⟩ := a9 h1
     obtain rfl := e8.1 h1
     obtain rfl := e8.1 h3
     obtain ⟨b, hb⟩ := bt9 hcl.1
     have k1 : dI ω (v7 1000 Q q) = dI ω' q' := congrArg Val.toI (G0 g h2 (by unfold be8; rw [hcl.2]; rfl) hq)
     have hy : bJ6 Q q = v7 1000 Q q := by
      have := hcl.2
      unfold aP1 at this
      split at this
      · rfl
      · cases this
     simp only [O1, ao9, aj8 hb, VR] at r ⊢
     rw [hy, k1, hβ i b hb]; exact r
   · cases ha
 | ptr i o =>
   simp only [clA] at hcl
   simp only [n8] at ha
   obtain ⟨h1, _⟩ := a8 ha
   obtain ⟨h1, _⟩ := a9 h1
   rw [← AV.beq_eq _ _ h1] at r
   obtain ⟨b, hb⟩ := bt9 hcl
   simp only [O1, ao9, aj8 hb, VR] at r ⊢
   rw [hβ i b hb]; exact r
 | bool _ => simp only [n8] at ha; exact plain hcl ha
 | int _ _ => simp only [n8] at ha; exact plain hcl ha
 | str _ => simp only [n8] at ha; exact plain hcl ha
 | nilp => simp only [n8] at ha; exact plain hcl ha
 | glob _ => simp only [n8] at ha; exact plain hcl ha
 | nils => simp only [n8] at ha; exact plain hcl ha
 | nilm => simp only [n8] at ha; exact plain hcl ha
 | nilf => simp only [n8] at ha; exact plain hcl ha
 | nili => simp only [n8] at ha; exact plain hcl ha
 | _ => simp only [clA, a86, Bool.false_eq_true] at hcl
theorem aK5 (g : Agr 0 ω ω') : ∀ {ps xs : List AV} {us : List Value} {n : Nat} {es : List SX}, (ps.all fun p => clA src mt post p && au0 src.length p && p.oneA) = true → X9 1000 base n ps xs = some es → (∀ j e, es[j]? = some e → den ω (Q (n + j)) = den ω' e) →
 VRs β ω' xs us → (∀ i b, src[i]? = some (.whole b) → βF b = β i) → VRs βF ω (a97 (Z1 src N) (X4 Q ps)) us
 | [], xs, us, n, es, hcl, ha, hq, r, hβ => by
   cases xs with
   | nil => exact r
   | cons a b => simp only [X9] at ha; cases ha
 | p :: ps, xs, us, n, es, hcl, ha, hq, r, hβ => by
   cases xs with
   | nil => simp only [X9] at ha; cases ha
   | cons x xs =>
     simp only [List.all_cons, Bool.and_eq_true] at hcl
     simp only [X9] at ha
     split at ha
     · rename_i e1 h1
       split at ha
       · rename_i e2 h2
         simp only [Option.some.injEq] at ha; subst ha
         obtain ⟨v, vr, rfl, r1, r2⟩ := r
         refine ⟨v, vr, rfl, aA5 g hcl.1.1.1 hcl.1.1.2 h1 (fun j e hj => hq j e ?_) r1 hβ, aK5 g (by simpa using hcl.2) h2 (fun j e hj => ?_) r2 hβ⟩
         · have hlt := (List.getElem?_eq_some_iff.1 hj).1
           rw [List.getElem?_append_left hlt]; exact hj
         · have := hq (e1.length + j) e (by rw [List.getElem?_append_right (Nat.le_add_right _ _), Nat.add_sub_cancel_left]; exact hj)
           rw [show n + e1.length + j = n + (e1.length + j) by omega]; exact this
       · cases ha
     · cases ha
theorem bu1 (ρ : Nat → Nat) : ∀ l : List AV, (l.all fun p => clA src mt post p && au0 src.length p && p.oneA) = true → (a97 ρ (X4 Q l)).all AV.oneA = true
 | [], _ => rfl
 | a :: r, h => by
   simp only [List.all_cons, Bool.and_eq_true] at h
   simp only [X4, a97, List.all_cons, Bool.and_eq_true]
   refine ⟨?_, bu1 ρ r (by simpa using h.2)⟩
   have := h.1.2
   cases a <;> simp only [O1, ao9] <;> first | exact this | rfl | (rw [aj9]; exact bu0 _ _)
theorem bu2 (g : Agr 0 ω ω') {L : Loc} {o : Option Obj} {p z x : Blk} {es : List SX} (hcl : clB src mt post (some p) = true) (ha : bi5 1000 base n p z = some es) (hq : ∀ j e, es[j]? = some e → den ω (Q (n + j)) = den ω' e)
 (r : BR β ω' L o z) (hβ : ∀ i b, src[i]? = some (.whole b) → βF b = β i) (hx : a98 (Z1 src N) (Q8 Q (some p)) = some x) : BR βF ω L o x := by
 cases p with
 | cells e fz ps =>
   cases z <;> simp only [bi5, reduceCtorEq] at ha
   obtain ⟨h1, h2⟩ := a8 ha
   obtain ⟨h1, h4⟩ := a9 h1
   obtain ⟨h1, h3⟩ := a9 h1
   obtain rfl := e8.1 h1
   obtain rfl := e8.1 h3
   simp only [Q8, a98, Option.some.injEq] at hx
   subst hx
   simp only [clB] at hcl
   obtain ⟨C, lo, hi, vs, q1, q2, q3, q4, q5, q6, q7, q8⟩ := r
   have hv := aK5 (N := N) g hcl h2 hq q5 hβ
   have hl : (a97 (Z1 src N) (X4 Q ps)).length = vs.length := hv.length.symm
   have hl2 := q5.length
   refine ⟨C, lo, hi, vs, q1, q2, by rw [hl, hl2]; exact q3, bu1 _ _ hcl, hv, by rw [hl, hl2]; exact q6, q7, fun hh => q8 (by rw [← hh]; exact g.fix ▸ rfl)⟩
 | arr e sig l =>
   cases z <;> simp only [bi5, reduceCtorEq] at ha
   obtain ⟨h1, h2⟩ := a8 ha
   obtain ⟨h1, h3⟩ := a9 h1
   obtain rfl := e8.1 h1
   obtain rfl := B6 h3
   simp only [Q8, a98, Option.some.injEq] at hx
   subst hx
   simp only [clB] at hcl
   have k : dL ω (v7 1000 Q l) = dL ω' _ := congrArg Val.toL (G0 g h2 hcl hq)
   simp only [BR] at r ⊢
   rw [k]; exact r
 | _ => simp only [clB, Bool.false_eq_true] at hcl
end
end Go.Ev
