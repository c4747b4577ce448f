/- The evaluator: contracts of functions: what comes back. -/
import Derived.Test.YthgndhfpfblphabGreatDoorE37
set_option linter.unusedVariables false
set_option linter.unusedSimpArgs false
namespace Go.Ev
open Go

variable {ω ω' : Opq} {β β' βF : Bij} {K : Nat → Prop} {w0 w w' : World} {h h' : Heap}

/-! ### Flat results -/
def leafB' : AV → Bool
  | .agg _ => false
  | .tup _ => false
  | _ => true
theorem leaf_flat {v : AV} (h : leafB' v = true) : flatA v = [v] := by cases v <;> first | rfl | cases h
theorem leaf_sh {out v : AV} (h : leafB' v = true) (hs : sameSh out v = true) : leafB' out = true := by
  cases out <;> first
    | rfl
    | (simp only [sameSh] at hs; split at hs <;> first | cases h | cases hs)
theorem flat1 {v : AV} {u : Value} (h : leafB' v = true) (r : VR β ω v u) : ∃ us, VRs β ω (flatA v) us ∧ ∀ (β' : Bij) (ω' : Opq) (out : AV), sameSh out v = true → VRs β' ω' (flatA out) us → VR β' ω' out u := by
  refine ⟨[u], by rw [leaf_flat h]; exact .one r, fun β' ω' out hs ho => ?_⟩
  rw [leaf_flat (leaf_sh h hs)] at ho
  obtain ⟨x, xr, e, p, q⟩ := ho
  simp only [List.cons.injEq] at e
  rw [e.1]; exact p
theorem VRs_split : ∀ {a b : List AV} {x y : List Value}, a.length = x.length → VRs β ω (a ++ b) (x ++ y) → VRs β ω a x ∧ VRs β ω b y
  | [], b, [], y, _, r => ⟨rfl, r⟩
  | [], b, _ :: _, y, h, r => by cases h
  | _ :: _, b, [], y, h, r => by cases h
  | p :: a, b, v :: x, y, h, ⟨v', vr, e, q, s⟩ => by
    simp only [List.cons_append, List.cons.injEq] at e
    obtain ⟨rfl, rfl⟩ := e
    obtain ⟨h1, h2⟩ := VRs_split (by simpa using h) s
    exact ⟨⟨v, x, rfl, q, h1⟩, h2⟩
theorem flen1 {o v : AV} (ho : leafB' o = true) (h : sameSh o v = true) : (flatA o).length = (flatA v).length := by
  have hv : leafB' v = true := by
    cases o <;> first
      | (exfalso; simp [leafB'] at ho; done)
      | (simp only [sameSh] at h; cases v <;> first | rfl | ((cases h;done)))
  rw [leaf_flat ho, leaf_flat hv]; rfl
mutual
theorem flat_len : ∀ {o v : AV}, sameSh o v = true → (flatA o).length = (flatA v).length
  | .agg a, v, h => by
    simp only [sameSh] at h
    split at h
    · exact beq_iff'.1 h
    · cases h
  | .tup a, v, h => by
    simp only [sameSh] at h
    split at h
    · exact flats_len h
    · cases h
  | .bool _, v, h => flen1 rfl h
  | .int _ _, v, h => flen1 rfl h
  | .str _, v, h => flen1 rfl h
  | .nilp, v, h => flen1 rfl h
  | .ptr _ _, v, h => flen1 rfl h
  | .glob _, v, h => flen1 rfl h
  | .nils, v, h => flen1 rfl h
  | .sl _ _ _ _, v, h => flen1 rfl h
  | .us _ _ _ _, v, h => flen1 rfl h
  | .es _ _ _, v, h => flen1 rfl h
  | .es0, v, h => flen1 rfl h
  | .nilm, v, h => flen1 rfl h
  | .map _, v, h => flen1 rfl h
  | .nilf, v, h => flen1 rfl h
  | .func _ _ _, v, h => flen1 rfl h
  | .yield _, v, h => flen1 rfl h
  | .nili, v, h => flen1 rfl h
  | .iface _ _, v, h => flen1 rfl h
  | .opq _, v, h => flen1 rfl h
  | .oint _ _, v, h => flen1 rfl h
  | .ostr _, v, h => flen1 rfl h
  | .obool _, v, h => flen1 rfl h
  | .osl _ _ _ _, v, h => flen1 rfl h
  | .optr _ _ _ _, v, h => flen1 rfl h
  | .ous _ _ _, v, h => flen1 rfl h
  | .atl _, v, h => flen1 rfl h
  | .any, v, h => flen1 rfl h
theorem flats_len : ∀ {o v : List AV}, sameShs o v = true → (flatAs o).length = (flatAs v).length
  | [], v, h => by
    simp only [sameShs] at h
    split at h
    · rfl
    · cases h
  | a :: r, v, h => by
    simp only [sameShs] at h
    split at h
    · rw [Bool.and_eq_true] at h
      simp only [flatAs, List.length_append, flat_len h.1, flats_len h.2]
    · cases h
end
mutual
theorem flat_ok : ∀ (v : AV) (u : Value), VR β ω v u → ∃ us, VRs β ω (flatA v) us ∧ ∀ (β' : Bij) (ω' : Opq) (out : AV), sameSh out v = true → VRs β' ω' (flatA out) us → VR β' ω' out u
  | .agg cs, u, r => by
    obtain ⟨xs, rfl, q⟩ := r
    refine ⟨xs.toList, q, fun β' ω' out hs ho => ?_⟩
    cases out <;> simp only [sameSh, Bool.false_eq_true] at hs
    exact ⟨xs, rfl, ho⟩
  | .tup vs, u, r => by
    obtain ⟨xs, rfl, q⟩ := r
    obtain ⟨us, h1, h2⟩ := flats_ok vs xs.toList q
    refine ⟨us, h1, fun β' ω' out hs ho => ?_⟩
    cases out <;> simp only [sameSh, Bool.false_eq_true] at hs
    exact ⟨xs, rfl, h2 β' ω' _ hs ho⟩
  | .bool b, u, r => flat1 rfl r
  | .int a b, u, r => flat1 rfl r
  | .str b, u, r => flat1 rfl r
  | .nilp, u, r => flat1 rfl r
  | .ptr a b, u, r => flat1 rfl r
  | .glob b, u, r => flat1 rfl r
  | .nils, u, r => flat1 rfl r
  | .sl a b c d, u, r => flat1 rfl r
  | .us a b c d, u, r => flat1 rfl r
  | .es a b c, u, r => flat1 rfl r
  | .es0, u, r => flat1 rfl r
  | .nilm, u, r => flat1 rfl r
  | .map b, u, r => flat1 rfl r
  | .nilf, u, r => flat1 rfl r
  | .func a b c, u, r => flat1 rfl r
  | .yield b, u, r => flat1 rfl r
  | .nili, u, r => flat1 rfl r
  | .iface a b, u, r => flat1 rfl r
  | .opq b, u, r => flat1 rfl r
  | .oint a b, u, r => flat1 rfl r
  | .ostr b, u, r => flat1 rfl r
  | .obool b, u, r => flat1 rfl r
  | .osl a b c d, u, r => flat1 rfl r
  | .optr a b c d, u, r => flat1 rfl r
  | .ous a b c, u, r => flat1 rfl r
  | .atl b, u, r => flat1 rfl r
  | .any, u, r => flat1 rfl r
theorem flats_ok : ∀ (vs : List AV) (us0 : List Value), VRs β ω vs us0 → ∃ us, VRs β ω (flatAs vs) us ∧ ∀ (β' : Bij) (ω' : Opq) (outs : List AV), sameShs outs vs = true → VRs β' ω' (flatAs outs) us → VRs β' ω' outs us0
  | [], us0, r => by
    refine ⟨[], rfl, fun β' ω' outs hs ho => ?_⟩
    cases outs with
    | nil => exact r
    | cons a b => simp only [sameShs] at hs; cases hs
  | v :: vs, us0, ⟨u, ur, e, p, q⟩ => by
    obtain ⟨us1, a1, a2⟩ := flat_ok v u p
    obtain ⟨us2, b1, b2⟩ := flats_ok vs ur q
    refine ⟨us1 ++ us2, a1.append b1, fun β' ω' outs hs ho => ?_⟩
    cases outs with
    | nil => simp only [sameShs] at hs; cases hs
    | cons o os =>
      simp only [sameShs, Bool.and_eq_true] at hs
      have hl : (flatA o).length = us1.length := by rw [flat_len hs.1]; exact a1.length.symm
      obtain ⟨c1, c2⟩ := VRs_split hl ho
      exact ⟨u, ur, e, a2 β' ω' o hs.1 c1, b2 β' ω' os hs.2 c2⟩
end

/-! ### What is told in new symbols -/
section
variable {Q : Nat → SX} {n : Nat}
theorem absX_inst (g : Agr 0 ω ω') {p x : SX} {es : List SX} (h : absX 1000 n p x = some es) (hp : plcl p = true) (hq : ∀ j e, es[j]? = some e → den ω (Q (n + j)) = den ω' e) : den ω (instX 1000 Q p) = den ω' x := by
  unfold absX at h
  unfold instX
  unfold plcl at hp
  split at h
  · rename_i m hm
    obtain ⟨h1, h2⟩ := cond_some h
    simp only [Option.some.injEq] at h2; subst h2
    obtain rfl := beq_iff'.1 h1
    exact hq 0 x rfl
  · rename_i hm
    obtain ⟨h1, _⟩ := cond_some h
    obtain ⟨h1, _⟩ := and_t h1
    rw [hm] at hp
    have hp : freshX 0 p = true := hp
    rw [← SX.beq_eq _ _ h1]
    exact (den_agr g p hp).symm
theorem absX2_inst (g : Agr 0 ω ω') {p q x y : SX} {es : List SX} (h : absX2 1000 n p q x y = some es) (hp : plcl p = true) (hpq : plcl q = true) (hq : ∀ j e, es[j]? = some e → den ω (Q (n + j)) = den ω' e) : den ω (instX 1000 Q p) = den ω' x ∧ den ω (instX 1000 Q q) = den ω' y := by
  unfold absX2 at h
  split at h
  · rename_i e1 h1
    split at h
    · rename_i e2 h2
      simp only [Option.some.injEq] at h; subst h
      refine ⟨absX_inst g h1 hp fun j e hj => hq j e ?_, absX_inst g h2 hpq fun j e hj => ?_⟩
      · have hlt := (List.getElem?_eq_some_iff.1 hj).1
        rw [List.getElem?_append_left hlt]; exact hj
      · have := hq (e1.length + j) e (by rw [List.getElem?_append_right (Nat.le_add_right _ _), Nat.add_sub_cancel_left]; exact hj)
        rw [show n + e1.length + j = n + (e1.length + j) by omega]; exact this
    · cases h
  · cases h
theorem isW_at {src : List BSrc} {i : Nat} (e : isW src i = true) : ∃ b, src[i]? = some (.whole b) := by
  unfold isW at e
  split at e
  · rename_i b hb; exact ⟨b, hb⟩
  · cases e
theorem srcB_at {src : List BSrc} {m i b : Nat} (e : src[i]? = some (.whole b)) : srcB src m i = b := by unfold srcB; rw [e]
theorem renA_intA (ρ : Nat → Nat) (k : IntKind) (e : SX) : renA ρ (intA k e) = intA k e := by
  unfold intA
  split <;> rfl
theorem intA_oneA (k : IntKind) (e : SX) : (intA k e).oneA = true := by
  unfold intA
  split <;> rfl
theorem renA_plain {ρ : Nat → Nat} {p : AV} (h : plainA p = true) : renA ρ (instT Q p) = p := by
  cases p <;> simp only [plainA, Bool.false_eq_true] at h <;> simp only [instT, renA]

variable {src : List BSrc} {mt base N : Nat} {post : List (Option Blk)}
/-- A leaf that is no new row. -/
theorem leaf_out (g : Agr 0 ω ω') {p x : AV} {u : Value} {es : List SX} (hcl : clA src mt post p = true) (hnn : notNew src.length p = true) (ha : absA 1000 base n p x = some es) (hq : ∀ j e, es[j]? = some e → den ω (Q (n + j)) = den ω' e)
    (r : VR β ω' x u) (hβ : ∀ i b, src[i]? = some (.whole b) → βF b = β i) : VR βF ω (renA (srcB src N) (instT Q p)) u := by
  have plain : plainA p = true → (bif AV.beq p x && okA 1000 base x then some ([] : List SX) else none) = some es → VR βF ω (renA (srcB src N) (instT Q p)) u := by
    intro hp h
    obtain ⟨h1, _⟩ := cond_some h
    obtain ⟨h1, _⟩ := and_t h1
    rw [renA_plain hp]
    rw [← AV.beq_eq _ _ h1] at r
    exact plain_move hp r
  cases p with
  | oint k e =>
    simp only [clA] at hcl
    simp only [absA] at ha
    unfold absI at ha
    split at ha
    · rename_i k' x' hx
      split at ha
      · rename_i hk; subst hk
        rw [show renA (srcB src N) (instT Q (.oint k e)) = intA k (instX 1000 Q e) from renA_intA _ _ _]
        refine intA_VR.2 ?_
        show u = .int k (dI ω (instX 1000 Q e))
        rw [symI_ok hx r]
        exact congrArg (fun z : Val => Value.int k z.toI) (absX_inst g ha hcl hq).symm
      · cases ha
    · cases ha
  | ostr e =>
    simp only [clA] at hcl
    simp only [absA] at ha
    unfold absO at ha
    split at ha
    · rename_i x' hx
      show u = .string ⟨(dS ω (instX 1000 Q e)).toArray⟩
      rw [symS_ok hx r]
      exact congrArg (fun z : Val => Value.string ⟨z.toS.toArray⟩) (absX_inst g ha hcl hq).symm
    · cases ha
  | obool e =>
    simp only [clA] at hcl
    simp only [absA] at ha
    unfold absO at ha
    split at ha
    · rename_i x' hx
      show u = .bool (dB ω (instX 1000 Q e))
      rw [symB_ok hx r]
      exact congrArg (fun z : Val => Value.bool z.toB) (absX_inst g ha hcl hq).symm
    · cases ha
  | osl i y z s =>
    simp only [clA, Bool.and_eq_true] at hcl
    simp only [absA] at ha
    unfold absOsl at ha
    split at ha
    · rename_i b' y' z' s'
      obtain ⟨h1, h2⟩ := cond_some ha
      obtain ⟨h1, _⟩ := and_t h1
      obtain ⟨h1, h3⟩ := and_t h1
      obtain rfl := beq_iff'.1 h1
      obtain rfl := beq_iff'.1 h3
      obtain ⟨b, hb⟩ := isW_at hcl.1.1
      obtain ⟨k1, k2⟩ := absX2_inst g h2 hcl.1.2 hcl.2 hq
      have k1 : dI ω (instX 1000 Q y) = dI ω' y' := congrArg Val.toI k1
      have k2 : dI ω (instX 1000 Q z) = dI ω' z' := congrArg Val.toI k2
      simp only [instT, renA, srcB_at hb, VR] at r ⊢
      rw [k1, k2, hβ i b hb]; exact r
    · cases ha
  | ous i q s =>
    simp only [notNew, blt_iff] at hnn
    simp only [clA] at hcl
    rw [show Nat.ble src.length i = false by
      cases hh : Nat.ble src.length i with
      | false => rfl
      | true => rw [ble_iff] at hh; omega] at hcl
    simp only [cond_false, Bool.and_eq_true] at hcl
    simp only [absA] at ha
    unfold absOus at ha
    split at ha
    · rename_i b' q' s'
      obtain ⟨h1, h2⟩ := cond_some ha
      obtain ⟨h1, _⟩ := and_t h1
      obtain ⟨h1, h3⟩ := and_t h1
      obtain rfl := beq_iff'.1 h1
      obtain rfl := beq_iff'.1 h3
      obtain ⟨b, hb⟩ := isW_at hcl.1
      have k1 : dI ω (instX 1000 Q q) = dI ω' q' := congrArg Val.toI (absX_inst g h2 (by unfold plcl; rw [hcl.2]; rfl) hq)
      have hy : instY Q q = instX 1000 Q q := by
        have := hcl.2
        unfold plcOf at this
        split at this
        · rfl
        · cases this
      simp only [instT, renA, srcB_at hb, VR] at r ⊢
      rw [hy, k1, hβ i b hb]; exact r
    · cases ha
  | ptr i o =>
    simp only [clA] at hcl
    simp only [absA] at ha
    obtain ⟨h1, _⟩ := cond_some ha
    obtain ⟨h1, _⟩ := and_t h1
    rw [← AV.beq_eq _ _ h1] at r
    obtain ⟨b, hb⟩ := isW_at hcl
    simp only [instT, renA, srcB_at hb, VR] at r ⊢
    rw [hβ i b hb]; exact r
  | bool _ => simp only [absA] at ha; exact plain hcl ha
  | int _ _ => simp only [absA] at ha; exact plain hcl ha
  | str _ => simp only [absA] at ha; exact plain hcl ha
  | nilp => simp only [absA] at ha; exact plain hcl ha
  | glob _ => simp only [absA] at ha; exact plain hcl ha
  | nils => simp only [absA] at ha; exact plain hcl ha
  | nilm => simp only [absA] at ha; exact plain hcl ha
  | nilf => simp only [absA] at ha; exact plain hcl ha
  | nili => simp only [absA] at ha; exact plain hcl ha
  | _ => simp only [clA, plainA, Bool.false_eq_true] at hcl
theorem leafs_out (g : Agr 0 ω ω') : ∀ {ps xs : List AV} {us : List Value} {n : Nat} {es : List SX}, (ps.all fun p => clA src mt post p && notNew src.length p && p.oneA) = true → absAs 1000 base n ps xs = some es → (∀ j e, es[j]? = some e → den ω (Q (n + j)) = den ω' e) →
    VRs β ω' xs us → (∀ i b, src[i]? = some (.whole b) → βF b = β i) → VRs βF ω (renAs (srcB src N) (instTs Q ps)) us
  | [], xs, us, n, es, hcl, ha, hq, r, hβ => by
    cases xs with
    | nil => exact r
    | cons a b => simp only [absAs] at ha; cases ha
  | p :: ps, xs, us, n, es, hcl, ha, hq, r, hβ => by
    cases xs with
    | nil => simp only [absAs] at ha; cases ha
    | cons x xs =>
      simp only [List.all_cons, Bool.and_eq_true] at hcl
      simp only [absAs] at ha
      split at ha
      · rename_i e1 h1
        split at ha
        · rename_i e2 h2
          simp only [Option.some.injEq] at ha; subst ha
          obtain ⟨v, vr, rfl, r1, r2⟩ := r
          refine ⟨v, vr, rfl, leaf_out g hcl.1.1.1 hcl.1.1.2 h1 (fun j e hj => hq j e ?_) r1 hβ, leafs_out g (by simpa using hcl.2) h2 (fun j e hj => ?_) r2 hβ⟩
          · have hlt := (List.getElem?_eq_some_iff.1 hj).1
            rw [List.getElem?_append_left hlt]; exact hj
          · have := hq (e1.length + j) e (by rw [List.getElem?_append_right (Nat.le_add_right _ _), Nat.add_sub_cancel_left]; exact hj)
            rw [show n + e1.length + j = n + (e1.length + j) by omega]; exact this
        · cases ha
      · cases ha
theorem renAs_length (ρ : Nat → Nat) : ∀ l : List AV, (renAs ρ l).length = l.length
  | [] => rfl
  | a :: r => by simp only [renAs, List.length_cons, renAs_length ρ r]
theorem instTs_length (Q : Nat → SX) : ∀ l : List AV, (instTs Q l).length = l.length
  | [] => rfl
  | a :: r => by simp only [instTs, List.length_cons, instTs_length Q r]
theorem ri_oneA (ρ : Nat → Nat) : ∀ l : List AV, (l.all fun p => clA src mt post p && notNew src.length p && p.oneA) = true → (renAs ρ (instTs Q l)).all AV.oneA = true
  | [], _ => rfl
  | a :: r, h => by
    simp only [List.all_cons, Bool.and_eq_true] at h
    simp only [instTs, renAs, List.all_cons, Bool.and_eq_true]
    refine ⟨?_, ri_oneA ρ r (by simpa using h.2)⟩
    have := h.1.2
    cases a <;> simp only [instT, renA] <;> first | exact this | rfl | (rw [renA_intA]; exact intA_oneA _ _)
/-- A block, told in new symbols. -/
theorem block_out (g : Agr 0 ω ω') {L : Loc} {o : Option Obj} {p z x : Blk} {es : List SX} (hcl : clB src mt post (some p) = true) (ha : absB 1000 base n p z = some es) (hq : ∀ j e, es[j]? = some e → den ω (Q (n + j)) = den ω' e)
    (r : BR β ω' L o z) (hβ : ∀ i b, src[i]? = some (.whole b) → βF b = β i) (hx : renBl (srcB src N) (instBT Q (some p)) = some x) : BR βF ω L o x := by
  cases p with
  | cells e fz ps =>
    cases z <;> simp only [absB, reduceCtorEq] at ha
    obtain ⟨h1, h2⟩ := cond_some ha
    obtain ⟨h1, h4⟩ := and_t h1
    obtain ⟨h1, h3⟩ := and_t h1
    obtain rfl := beq_iff'.1 h1
    obtain rfl := beq_iff'.1 h3
    simp only [instBT, renBl, Option.some.injEq] at hx
    subst hx
    simp only [clB] at hcl
    obtain ⟨C, lo, hi, vs, q1, q2, q3, q4, q5, q6, q7, q8⟩ := r
    have hv := leafs_out (N := N) g hcl h2 hq q5 hβ
    have hl : (renAs (srcB src N) (instTs Q ps)).length = vs.length := hv.length.symm
    have hl2 := q5.length
    refine ⟨C, lo, hi, vs, q1, q2, by rw [hl, hl2]; exact q3, ri_oneA _ _ hcl, hv, by rw [hl, hl2]; exact q6, q7, fun hh => q8 (by rw [← hh]; exact g.fix ▸ rfl)⟩
  | arr e sig l =>
    cases z <;> simp only [absB, reduceCtorEq] at ha
    obtain ⟨h1, h2⟩ := cond_some ha
    obtain ⟨h1, h3⟩ := and_t h1
    obtain rfl := beq_iff'.1 h1
    obtain rfl := sigBeq_eq h3
    simp only [instBT, renBl, Option.some.injEq] at hx
    subst hx
    simp only [clB] at hcl
    have k : dL ω (instX 1000 Q l) = dL ω' _ := congrArg Val.toL (absX_inst g h2 hcl hq)
    simp only [BR] at r ⊢
    rw [k]; exact r
  | _ => simp only [clB, Bool.false_eq_true] at hcl
end
end Go.Ev
