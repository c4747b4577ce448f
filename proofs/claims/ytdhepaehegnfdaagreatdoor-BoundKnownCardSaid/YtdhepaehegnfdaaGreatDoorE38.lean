import Derived.Test.YtdhepaehegnfdaaGreatDoorE37
set_option linter.unusedVariables false
set_option linter.unusedSimpArgs false
namespace Go.Ev
open Go
variable {ω ω' : Opq} {β β' βF : Bij} {K : Nat → Prop} {w0 w w' : World} {h h' : Heap}
def A8 : AV → Bool
 | .agg _ => false
 | .tup _ => false
 | _ => true
theorem l3 {v : AV} (h : A8 v = true) : K8 v = [v] := by cases v <;> first | rfl | cases h
theorem ce2 {out v : AV} (h : A8 v = true) (hs : B8 out v = true) : A8 out = true := by
 cases out <;> first
  | rfl
  | (simp only [B8] at hs; split at hs <;> first | cases h | cases hs)
theorem G4 {v : AV} {u : Value} (h : A8 v = true) (r : VR β ω v u) : ∃ us, VRs β ω (K8 v) us ∧ ∀ (β' : Bij) (ω' : Opq) (out : AV), B8 out v = true → VRs β' ω' (K8 out) us → VR β' ω' out u := by
 refine ⟨[u], by rw [l3 h]; exact .one r, fun β' ω' out hs ho => ?_⟩
 rw [l3 (ce2 h hs)] at ho
 obtain ⟨x, xr, e, p, q⟩ := ho
 simp only [List.cons.injEq] at e
 rw [e.1]; exact p
theorem aV0 : ∀ {a b : List AV} {x y : List Value}, a.length = x.length → VRs β ω (a ++ b) (x ++ y) → VRs β ω a x ∧ VRs β ω b y
 | [], b, [], y, _, r => ⟨rfl, r⟩
 | [], b, _ :: _, y, h, r => by cases h
 | _ :: _, b, [], y, h, r => by cases h
 | p :: a, b, v :: x, y, h, ⟨v', vr, e, q, s⟩ => by
   simp only [List.cons_append, List.cons.injEq] at e
   obtain ⟨rfl, rfl⟩ := e
   obtain ⟨h1, h2⟩ := aV0 (by simpa using h) s
   exact ⟨⟨v, x, rfl, q, h1⟩, h2⟩
theorem G5 {o v : AV} (ho : A8 o = true) (h : B8 o v = true) : (K8 o).length = (K8 v).length := by
 have hv : A8 v = true := by
  cases o <;> first
   | (exfalso; simp [A8] at ho; done)
   | (simp only [B8] at h; cases v <;> first | rfl | ((cases h;done)))
 rw [l3 ho, l3 hv]; rfl
mutual
theorem aJ9 : ∀ {o v : AV}, B8 o v = true → (K8 o).length = (K8 v).length
 | .agg a, v, h => by
   simp only [B8] at h
   split at h
   · exact j0.1 h
   · cases h
 | .tup a, v, h => by
   simp only [B8] at h
   split at h
   · exact aV1 h
   · cases h
 | .bool _, v, h => G5 rfl h
 | .int _ _, v, h => G5 rfl h
 | .str _, v, h => G5 rfl h
 | .nilp, v, h => G5 rfl h
 | .ptr _ _, v, h => G5 rfl h
 | .glob _, v, h => G5 rfl h
 | .nils, v, h => G5 rfl h
 | .sl _ _ _ _, v, h => G5 rfl h
 | .us _ _ _ _, v, h => G5 rfl h
 | .es _ _ _, v, h => G5 rfl h
 | .es0, v, h => G5 rfl h
 | .nilm, v, h => G5 rfl h
 | .map _, v, h => G5 rfl h
 | .nilf, v, h => G5 rfl h
 | .func _ _ _, v, h => G5 rfl h
 | .yield _, v, h => G5 rfl h
 | .nili, v, h => G5 rfl h
 | .iface _ _, v, h => G5 rfl h
 | .opq _, v, h => G5 rfl h
 | .oint _ _, v, h => G5 rfl h
 | .ostr _, v, h => G5 rfl h
 | .obool _, v, h => G5 rfl h
 | .osl _ _ _ _, v, h => G5 rfl h
 | .optr _ _ _ _, v, h => G5 rfl h
 | .ous _ _ _, v, h => G5 rfl h
 | .atl _, v, h => G5 rfl h
 | .any, v, h => G5 rfl h
theorem aV1 : ∀ {o v : List AV}, J8 o v = true → (a06 o).length = (a06 v).length
 | [], v, h => by
   simp only [J8] at h
   split at h
   · rfl
   · cases h
 | a :: r, v, h => by
   simp only [J8] at h
   split at h
   · rw [Bool.and_eq_true] at h
     simp only [a06, List.length_append, aJ9 h.1, aV1 h.2]
   · cases h
end
mutual
theorem bG5 : ∀ (v : AV) (u : Value), VR β ω v u → ∃ us, VRs β ω (K8 v) us ∧ ∀ (β' : Bij) (ω' : Opq) (out : AV), B8 out v = true → VRs β' ω' (K8 out) us → VR β' ω' out u
 | .agg cs, u, r => by
   obtain ⟨xs, rfl, q⟩ := r
   refine ⟨xs.toList, q, fun β' ω' out hs ho => ?_⟩
   cases out <;> simp only [B8, Bool.false_eq_true] at hs
   exact ⟨xs, rfl, ho⟩
 | .tup vs, u, r => by
   obtain ⟨xs, rfl, q⟩ := r
   obtain ⟨us, h1, h2⟩ := bg0 vs xs.toList q
   refine ⟨us, h1, fun β' ω' out hs ho => ?_⟩
   cases out <;> simp only [B8, Bool.false_eq_true] at hs
   exact ⟨xs, rfl, h2 β' ω' _ hs ho⟩
 | .bool b, u, r => G4 rfl r
 | .int a b, u, r => G4 rfl r
 | .str b, u, r => G4 rfl r
 | .nilp, u, r => G4 rfl r
 | .ptr a b, u, r => G4 rfl r
 | .glob b, u, r => G4 rfl r
 | .nils, u, r => G4 rfl r
 | .sl a b c d, u, r => G4 rfl r
 | .us a b c d, u, r => G4 rfl r
 | .es a b c, u, r => G4 rfl r
 | .es0, u, r => G4 rfl r
 | .nilm, u, r => G4 rfl r
 | .map b, u, r => G4 rfl r
 | .nilf, u, r => G4 rfl r
 | .func a b c, u, r => G4 rfl r
 | .yield b, u, r => G4 rfl r
 | .nili, u, r => G4 rfl r
 | .iface a b, u, r => G4 rfl r
 | .opq b, u, r => G4 rfl r
 | .oint a b, u, r => G4 rfl r
 | .ostr b, u, r => G4 rfl r
 | .obool b, u, r => G4 rfl r
 | .osl a b c d, u, r => G4 rfl r
 | .optr a b c d, u, r => G4 rfl r
 | .ous a b c, u, r => G4 rfl r
 | .atl b, u, r => G4 rfl r
 | .any, u, r => G4 rfl r
theorem bg0 : ∀ (vs : List AV) (us0 : List Value), VRs β ω vs us0 → ∃ us, VRs β ω (a06 vs) us ∧ ∀ (β' : Bij) (ω' : Opq) (outs : List AV), J8 outs vs = true → VRs β' ω' (a06 outs) us → VRs β' ω' outs us0
 | [], us0, r => by
   refine ⟨[], rfl, fun β' ω' outs hs ho => ?_⟩
   cases outs with
   | nil => exact r
   | cons a b => simp only [J8] at hs; cases hs
 | v :: vs, us0, ⟨u, ur, e, p, q⟩ => by
   obtain ⟨us1, a1, a2⟩ := bG5 v u p
   obtain ⟨us2, b1, b2⟩ := bg0 vs ur q
   refine ⟨us1 ++ us2, a1.append b1, fun β' ω' outs hs ho => ?_⟩
   cases outs with
   | nil => simp only [J8] at hs; cases hs
   | cons o os =>
     simp only [J8, Bool.and_eq_true] at hs
     have hl : (K8 o).length = us1.length := by rw [aJ9 hs.1]; exact a1.length.symm
     obtain ⟨c1, c2⟩ := aV0 hl ho
     exact ⟨u, ur, e, a2 β' ω' o hs.1 c1, b2 β' ω' os hs.2 c2⟩
end
section
variable {Q : Nat → SX} {n : Nat}
theorem I9 (g : Agr 0 ω ω') {p x : SX} {es : List SX} (h : ba6 1000 n p x = some es) (hp : br6 p = true) (hq : ∀ j e, es[j]? = some e → den ω (Q (n + j)) = den ω' e) : den ω (x8 1000 Q p) = den ω' x := by
 unfold ba6 at h
 unfold x8
 unfold br6 at hp
 split at h
 · rename_i m hm
   obtain ⟨h1, h2⟩ := a8 h
   simp only [Option.some.injEq] at h2; subst h2
   obtain rfl := j0.1 h1
   exact hq 0 x rfl
 · rename_i hm
   obtain ⟨h1, _⟩ := a8 h
   obtain ⟨h1, _⟩ := g9 h1
   rw [hm] at hp
   have hp : u9 0 p = true := hp
   rw [← SX.beq_eq _ _ h1]
   exact (T0 g p hp).symm
theorem bp3 (g : Agr 0 ω ω') {p q x y : SX} {es : List SX} (h : b05 1000 n p q x y = some es) (hp : br6 p = true) (hpq : br6 q = true) (hq : ∀ j e, es[j]? = some e → den ω (Q (n + j)) = den ω' e) : den ω (x8 1000 Q p) = den ω' x ∧ den ω (x8 1000 Q q) = den ω' y := by
 unfold b05 at h
 split at h
 · rename_i e1 h1
   split at h
   · rename_i e2 h2
     simp only [Option.some.injEq] at h; subst h
     refine ⟨I9 g h1 hp fun j e hj => hq j e ?_, I9 g h2 hpq fun j e hj => ?_⟩
     · have hlt := (List.getElem?_eq_some_iff.1 hj).1
       rw [List.getElem?_append_left hlt]; exact hj
     · have := hq (e1.length + j) e (by rw [List.getElem?_append_right (Nat.le_add_right _ _), Nat.add_sub_cancel_left]; exact hj)
       rw [show n + e1.length + j = n + (e1.length + j) by omega]; exact this
   · cases h
 · cases h
theorem bG6 {src : List BSrc} {i : Nat} (e : isW src i = true) : ∃ b, src[i]? = some (.whole b) := by
 unfold isW at e
 split at e
 · rename_i b hb; exact ⟨b, hb⟩
 · cases e
theorem ar4 {src : List BSrc} {m i b : Nat} (e : src[i]? = some (.whole b)) : a29 src m i = b := by unfold a29; rw [e]
theorem ar5 (ρ : Nat → Nat) (k : IntKind) (e : SX) : ax8 ρ (br4 k e) = br4 k e := by
 unfold br4
 split <;> rfl
theorem bG7 (k : IntKind) (e : SX) : (br4 k e).oneA = true := by
 unfold br4
 split <;> rfl
theorem bp4 {ρ : Nat → Nat} {p : AV} (h : af2 p = true) : ax8 ρ (Q6 Q p) = p := by
 cases p <;> simp only [af2, Bool.false_eq_true] at h <;> simp only [Q6, ax8]
variable {src : List BSrc} {mt base N : Nat} {post : List (Option Blk)}
theorem aK0 (g : Agr 0 ω ω') {p x : AV} {u : Value} {es : List SX} (hcl : clA src mt post p = true) (hnn : aD0 src.length p = true) (ha : p7 1000 base n p x = some es) (hq : ∀ j e, es[j]? = some e → den ω (Q (n + j)) = den ω' e)
 (r : VR β ω' x u) (hβ : ∀ i b, src[i]? = some (.whole b) → βF b = β i) : VR βF ω (ax8 (a29 src N) (Q6 Q p)) u := by
 have plain : af2 p = true → (bif AV.beq p x && okA 1000 base x then some ([] : List SX) else none) = some es → VR βF ω (ax8 (a29 src N) (Q6 Q p)) u := by
  intro hp h
  obtain ⟨h1, _⟩ := a8 h
  obtain ⟨h1, _⟩ := g9 h1
  rw [bp4 hp]
  rw [← AV.beq_eq _ _ h1] at r
  exact o8 hp r
 cases p with
 | oint k e =>
   simp only [clA] at hcl
   simp only [p7] at ha
   unfold cw3 at ha
   split at ha
   · rename_i k' x' hx
     split at ha
     · rename_i hk; subst hk
       rw [show ax8 (a29 src N) (Q6 Q (.oint k e)) = br4 k (x8 1000 Q e) from ar5 _ _ _]
       refine b28.2 ?_
       show u = .int k (dI ω (x8 1000 Q e))
       rw [G1 hx r]
       exact congrArg (fun z : Val => Value.int k z.toI) (I9 g ha hcl hq).symm
     · cases ha
   · cases ha
 | ostr e =>
   simp only [clA] at hcl
   simp only [p7] at ha
   unfold c19 at ha
   split at ha
   · rename_i x' hx
     show u = .string ⟨(dS ω (x8 1000 Q e)).toArray⟩
     rw [S7 hx r]
     exact congrArg (fun z : Val => Value.string ⟨z.toS.toArray⟩) (I9 g ha hcl hq).symm
   · cases ha
 | obool e =>
   simp only [clA] at hcl
   simp only [p7] at ha
   unfold c19 at ha
   split at ha
   · rename_i x' hx
     show u = .bool (dB ω (x8 1000 Q e))
     rw [W1 hx r]
     exact congrArg (fun z : Val => Value.bool z.toB) (I9 g ha hcl hq).symm
   · cases ha
 | osl i y z s =>
   simp only [clA, Bool.and_eq_true] at hcl
   simp only [p7] at ha
   unfold aP7 at ha
   split at ha
   · rename_i b' y' z' s'
     obtain ⟨h1, h2⟩ := a8 ha
     obtain ⟨h1, _⟩ := g9 h1
     obtain ⟨h1, h3⟩ := g9 h1
     obtain rfl := j0.1 h1
     obtain rfl := j0.1 h3
     obtain ⟨b, hb⟩ := bG6 hcl.1.1
     obtain ⟨k1, k2⟩ := bp3 g h2 hcl.1.2 hcl.2 hq
     have k1 : dI ω (x8 1000 Q y) = dI ω' y' := congrArg Val.toI k1
     have k2 : dI ω (x8 1000 Q z) = dI ω' z' := congrArg Val.toI k2
     simp only [Q6, ax8, ar4 hb, VR] at r ⊢
     rw [k1, k2, hβ i b hb]; exact r
   · cases ha
 | ous i q s =>
   simp only [aD0, k8] at hnn
   simp only [clA] at hcl
   rw [show Nat.ble src.length i = false by
    cases hh : Nat.ble src.length i with
    | false => rfl
    | true => rw [j2] at hh; omega] at hcl
   simp only [cond_false, Bool.and_eq_true] at hcl
   simp only [p7] at ha
   unfold aP8 at ha
   split at ha
   · rename_i b' q' s'
     obtain ⟨h1, h2⟩ := a8 ha
     obtain ⟨h1, _⟩ := g9 h1
     obtain ⟨h1, h3⟩ := g9 h1
     obtain rfl := j0.1 h1
     obtain rfl := j0.1 h3
     obtain ⟨b, hb⟩ := bG6 hcl.1
     have k1 : dI ω (x8 1000 Q q) = dI ω' q' := congrArg Val.toI (I9 g h2 (by unfold br6; rw [hcl.2]; rfl) hq)
     have hy : bW6 Q q = x8 1000 Q q := by
      have := hcl.2
      unfold b04 at this
      split at this
      · rfl
      · cases this
     simp only [Q6, ax8, ar4 hb, VR] at r ⊢
     rw [hy, k1, hβ i b hb]; exact r
   · cases ha
 | ptr i o =>
   simp only [clA] at hcl
   simp only [p7] at ha
   obtain ⟨h1, _⟩ := a8 ha
   obtain ⟨h1, _⟩ := g9 h1
   rw [← AV.beq_eq _ _ h1] at r
   obtain ⟨b, hb⟩ := bG6 hcl
   simp only [Q6, ax8, ar4 hb, VR] at r ⊢
   rw [hβ i b hb]; exact r
 | bool _ => simp only [p7] at ha; exact plain hcl ha
 | int _ _ => simp only [p7] at ha; exact plain hcl ha
 | str _ => simp only [p7] at ha; exact plain hcl ha
 | nilp => simp only [p7] at ha; exact plain hcl ha
 | glob _ => simp only [p7] at ha; exact plain hcl ha
 | nils => simp only [p7] at ha; exact plain hcl ha
 | nilm => simp only [p7] at ha; exact plain hcl ha
 | nilf => simp only [p7] at ha; exact plain hcl ha
 | nili => simp only [p7] at ha; exact plain hcl ha
 | _ => simp only [clA, af2, Bool.false_eq_true] at hcl
theorem aV2 (g : Agr 0 ω ω') : ∀ {ps xs : List AV} {us : List Value} {n : Nat} {es : List SX}, (ps.all fun p => clA src mt post p && aD0 src.length p && p.oneA) = true → a15 1000 base n ps xs = some es → (∀ j e, es[j]? = some e → den ω (Q (n + j)) = den ω' e) →
 VRs β ω' xs us → (∀ i b, src[i]? = some (.whole b) → βF b = β i) → VRs βF ω (ag6 (a29 src N) (a07 Q ps)) us
 | [], xs, us, n, es, hcl, ha, hq, r, hβ => by
   cases xs with
   | nil => exact r
   | cons a b => simp only [a15] at ha; cases ha
 | p :: ps, xs, us, n, es, hcl, ha, hq, r, hβ => by
   cases xs with
   | nil => simp only [a15] at ha; cases ha
   | cons x xs =>
     simp only [List.all_cons, Bool.and_eq_true] at hcl
     simp only [a15] at ha
     split at ha
     · rename_i e1 h1
       split at ha
       · rename_i e2 h2
         simp only [Option.some.injEq] at ha; subst ha
         obtain ⟨v, vr, rfl, r1, r2⟩ := r
         refine ⟨v, vr, rfl, aK0 g hcl.1.1.1 hcl.1.1.2 h1 (fun j e hj => hq j e ?_) r1 hβ, aV2 g (by simpa using hcl.2) h2 (fun j e hj => ?_) r2 hβ⟩
         · have hlt := (List.getElem?_eq_some_iff.1 hj).1
           rw [List.getElem?_append_left hlt]; exact hj
         · have := hq (e1.length + j) e (by rw [List.getElem?_append_right (Nat.le_add_right _ _), Nat.add_sub_cancel_left]; exact hj)
           rw [show n + e1.length + j = n + (e1.length + j) by omega]; exact this
       · cases ha
     · cases ha
theorem bG8 (ρ : Nat → Nat) : ∀ l : List AV, (l.all fun p => clA src mt post p && aD0 src.length p && p.oneA) = true → (ag6 ρ (a07 Q l)).all AV.oneA = true
 | [], _ => rfl
 | a :: r, h => by
   simp only [List.all_cons, Bool.and_eq_true] at h
   simp only [a07, ag6, List.all_cons, Bool.and_eq_true]
   refine ⟨?_, bG8 ρ r (by simpa using h.2)⟩
   have := h.1.2
   cases a <;> simp only [Q6, ax8] <;> first | exact this | rfl | (rw [ar5]; exact bG7 _ _)
theorem bG9 (g : Agr 0 ω ω') {L : Loc} {o : Option Obj} {p z x : Blk} {es : List SX} (hcl : clB src mt post (some p) = true) (ha : bv2 1000 base n p z = some es) (hq : ∀ j e, es[j]? = some e → den ω (Q (n + j)) = den ω' e)
 (r : BR β ω' L o z) (hβ : ∀ i b, src[i]? = some (.whole b) → βF b = β i) (hx : ag7 (a29 src N) (U3 Q (some p)) = some x) : BR βF ω L o x := by
 cases p with
 | cells e fz ps =>
   cases z <;> simp only [bv2, reduceCtorEq] at ha
   obtain ⟨h1, h2⟩ := a8 ha
   obtain ⟨h1, h4⟩ := g9 h1
   obtain ⟨h1, h3⟩ := g9 h1
   obtain rfl := j0.1 h1
   obtain rfl := j0.1 h3
   simp only [U3, ag7, Option.some.injEq] at hx
   subst hx
   simp only [clB] at hcl
   obtain ⟨C, lo, hi, vs, q1, q2, q3, q4, q5, q6, q7, q8⟩ := r
   have hv := aV2 (N := N) g hcl h2 hq q5 hβ
   have hl : (ag6 (a29 src N) (a07 Q ps)).length = vs.length := hv.length.symm
   have hl2 := q5.length
   refine ⟨C, lo, hi, vs, q1, q2, by rw [hl, hl2]; exact q3, bG8 _ _ hcl, hv, by rw [hl, hl2]; exact q6, q7, fun hh => q8 (by rw [← hh]; exact g.fix ▸ rfl)⟩
 | arr e sig l =>
   cases z <;> simp only [bv2, reduceCtorEq] at ha
   obtain ⟨h1, h2⟩ := a8 ha
   obtain ⟨h1, h3⟩ := g9 h1
   obtain rfl := j0.1 h1
   obtain rfl := C6 h3
   simp only [U3, ag7, Option.some.injEq] at hx
   subst hx
   simp only [clB] at hcl
   have k : dL ω (x8 1000 Q l) = dL ω' _ := congrArg Val.toL (I9 g h2 hcl hq)
   simp only [BR] at r ⊢
   rw [k]; exact r
 | _ => simp only [clB, Bool.false_eq_true] at hcl
end
end Go.Ev
