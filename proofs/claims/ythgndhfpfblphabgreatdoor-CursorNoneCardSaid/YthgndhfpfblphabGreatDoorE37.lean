/- The evaluator: contracts of functions: the callee's own heap. -/
import Derived.Test.YthgndhfpfblphabGreatDoorE36
set_option linter.unusedVariables false
set_option linter.unusedSimpArgs false
namespace Go.Ev
open Go

variable {ω ω' : Opq} {β βc : Bij} {K : Nat → Prop} {w0 w : World} {h : Heap}

def sigLen : Option Blk → Nat
  | some (.arr _ sig _) => sig.length
  | _ => 0
/-- Where a block of hers lies. -/
noncomputable def bnd (β : Bij) (ω : Opq) (src : List BSrc) (blks : List Blk) : Bij := fun i => match src[i]? with
  | some (.whole b) => β b
  | some (.view x) => viewLo β ω (sigLen blks[i]?) x
  | none => none

theorem plain_move {p : AV} {v : Value} (hp : plainA p = true) (r : VR β ω p v) : VR βc ω' p v := by
  cases p <;> simp only [plainA, Bool.false_eq_true] at hp <;> exact r
theorem isWhole_at {s : Option BSrc} {b : Nat} (e : isWhole s b = true) : s = some (.whole b) := by
  unfold isWhole at e
  split at e
  · obtain rfl := beq_iff'.1 e; rfl
  · cases e
theorem isViewOf_at {s : Option BSrc} {x : AV} (e : isViewOf s x = true) : s = some (.view x) := by
  unfold isViewOf at e
  split at e
  · rw [AV.beq_eq _ _ e]
  · cases e
section
variable {src : List BSrc} {es : List SX} {blks : List Blk} {nb : Nat}
theorem sub_den {p x : SX} (hω : ω' = ω.upd 0 (dens ω es)) (hf : freshX es.length p = true) (e : SX.beq (substX es p) x = true) : den ω' p = den ω x := by
  rw [hω, ← den_subst p hf, SX.beq_eq _ _ e]
theorem redG_den (ω : Opq) (e : SX) : den ω (redG e) = den ω e := by
  unfold redG
  split
  · rename_i l k
    split
    · rename_i x hx
      have : (dens ω l)[k]? = some (den ω x) := by
        rw [dens_map, List.getElem?_map, hx]; rfl
      show den ω x = getV [.vl (dens ω l)] (Int.ofNat 0) (Int.ofNat k)
      show den ω x = (dens ω l).getD k default
      rw [List.getD_eq_getElem?_getD, this]; rfl
    · rfl
  · rfl
theorem cmp_den {p x : SX} (hω : ω' = ω.upd 0 (dens ω es)) (hf : freshX es.length p = true) (e : cmpX es p x = true) : den ω' p = den ω x := by
  rw [hω, ← den_subst p hf, ← redG_den, SX.beq_eq _ _ e]
theorem ckOsl_ok (hω : ω' = ω.upd 0 (dens ω es)) (hw : ∀ i b, src[i]? = some (.whole b) → βc i = β b) {i s : Nat} {p q : SX} {x : AV} {v : Value} (f1 : freshX es.length p = true) (f2 : freshX es.length q = true) (e : ckOsl src es i p q s x = true) (rv : VR β ω x v) : VR βc ω' (.osl i p q s) v := by
  unfold ckOsl at e
  split at e
  · obtain ⟨e, e4⟩ := and_t e
    obtain ⟨e, e3⟩ := and_t e
    obtain ⟨e1, e2⟩ := and_t e
    obtain rfl := beq_iff'.1 e1
    have k1 : dI ω' p = dI ω _ := congrArg Val.toI (cmp_den hω f1 e3)
    have k2 : dI ω' q = dI ω _ := congrArg Val.toI (cmp_den hω f2 e4)
    simp only [VR] at rv ⊢
    rw [k1, k2, hw _ _ (isWhole_at e2)]; exact rv
  · cases e
theorem ckOus_ok (hω : ω' = ω.upd 0 (dens ω es)) (hw : ∀ i b, src[i]? = some (.whole b) → βc i = β b) {i s : Nat} {q : SX} {x : AV} {v : Value} (f2 : freshX es.length q = true) (e : ckOus src es i q s x = true) (rv : VR β ω x v) : VR βc ω' (.ous i q s) v := by
  unfold ckOus at e
  split at e
  · obtain ⟨e, e4⟩ := and_t e
    obtain ⟨e1, e2⟩ := and_t e
    obtain rfl := beq_iff'.1 e1
    have k2 : dI ω' q = dI ω _ := congrArg Val.toI (sub_den hω f2 e4)
    simp only [VR] at rv ⊢
    rw [k2, hw _ _ (isWhole_at e2)]; exact rv
  · cases e
theorem ckPtr_ok (hw : ∀ i b, src[i]? = some (.whole b) → βc i = β b) {i o : Nat} {x : AV} {v : Value} (e : ckPtr src i o x = true) (rv : VR β ω x v) : VR βc ω' (.ptr i o) v := by
  unfold ckPtr at e
  split at e
  · obtain ⟨e1, e2⟩ := and_t e
    obtain rfl := beq_iff'.1 e1
    simp only [VR] at rv ⊢
    rw [hw _ _ (isWhole_at e2)]; exact rv
  · cases e
theorem ckSl_ok (hw : ∀ i b, src[i]? = some (.whole b) → βc i = β b) {i o n c : Nat} {x : AV} {v : Value} (e : ckSl src i o n c x = true) (rv : VR β ω x v) : VR βc ω' (.sl i o n c) v := by
  unfold ckSl at e
  split at e
  · obtain ⟨e, e2⟩ := and_t e
    obtain ⟨e, e4⟩ := and_t e
    obtain ⟨e1, e3⟩ := and_t e
    obtain rfl := beq_iff'.1 e1
    obtain rfl := beq_iff'.1 e3
    obtain rfl := beq_iff'.1 e4
    simp only [VR] at rv ⊢
    rw [hw _ _ (isWhole_at e2)]; exact rv
  · cases e
theorem ckI_ok (hω : ω' = ω.upd 0 (dens ω es)) {k : IntKind} {p : SX} {x : AV} {v : Value} (f : freshX es.length p = true) (e : ckI es k p (symI x) = true) (rv : VR β ω x v) : v = .int k (dI ω' p) := by
  unfold ckI at e
  split at e
  · rename_i k' x' hx
    obtain ⟨e1, e2⟩ := and_t e
    obtain rfl := of_decide_eq_true e1
    rw [symI_ok hx rv]
    exact congrArg (fun z : Val => Value.int k z.toI) (cmp_den hω f e2).symm
  · cases e
mutual
theorem ckA_ok (hω : ω' = ω.upd 0 (dens ω es)) (hw : ∀ i b, src[i]? = some (.whole b) → βc i = β b) (hv : ∀ i s p q x v, isView p q = true → viewB blks i s q = true → src[i]? = some (.view x) → VR β ω x v → VR βc ω' (.osl i p q s) v) :
    ∀ (p x : AV) (v : Value), okA es.length nb p = true → ckA src es blks p x = true → VR β ω x v → VR βc ω' p v
  | .oint k p, x, v, f, e, r => by simp only [okA] at f; simp only [ckA] at e; exact ckI_ok hω f e r
  | .ostr p, x, v, f, e, r => by
    simp only [okA] at f; simp only [ckA] at e
    unfold ckX at e
    split at e
    · rename_i y hy
      show v = .string ⟨(dS ω' p).toArray⟩
      rw [symS_ok hy r]
      exact congrArg (fun z : Val => Value.string ⟨z.toS.toArray⟩) (cmp_den hω f e).symm
    · cases e
  | .obool p, x, v, f, e, r => by
    simp only [okA] at f; simp only [ckA] at e
    unfold ckX at e
    split at e
    · rename_i y hy
      show v = .bool (dB ω' p)
      rw [symB_ok hy r]
      exact congrArg (fun z : Val => Value.bool z.toB) (cmp_den hω f e).symm
    · cases e
  | .agg ps, x, v, f, e, r => by
    simp only [okA] at f; simp only [ckA] at e
    split at e
    · obtain ⟨us, rfl, ru⟩ := r
      exact ⟨us, rfl, ckAs_ok hω hw hv ps _ _ f e ru⟩
    · cases e
  | .iface t p, x, v, f, e, r => by
    simp only [okA] at f; simp only [ckA] at e
    split at e
    · obtain ⟨e1, e2⟩ := and_t e
      obtain rfl := beq_iff'.1 e1
      obtain ⟨y, rfl, ry⟩ := r
      exact ⟨y, rfl, ckA_ok hω hw hv p _ _ f e2 ry⟩
    · cases e
  | .func fn a b, x, v, f, e, r => by
    simp only [okA, Bool.and_eq_true] at f; simp only [ckA] at e
    split at e
    · obtain ⟨e, e3⟩ := and_t e
      obtain ⟨e1, e2⟩ := and_t e
      obtain rfl := of_decide_eq_true e1
      obtain ⟨n, y, z, rfl, r1, r2⟩ := r
      exact ⟨n, y, z, rfl, ckAs_ok hω hw hv a _ _ f.1 e2 r1, ckAs_ok hω hw hv b _ _ f.2 e3 r2⟩
    · cases e
  | .ptr i o, x, v, f, e, r => by simp only [ckA] at e; exact ckPtr_ok hw e r
  | .osl i p q s, x, v, f, e, r => by
    simp only [okA, Bool.and_eq_true] at f; simp only [ckA] at e
    cases hq : isView p q with
    | true =>
      rw [hq] at e
      simp only [cond_true] at e
      obtain ⟨e1, e2⟩ := and_t e
      exact hv i s p q x v hq e1 (isViewOf_at e2) r
    | false =>
      rw [hq] at e
      exact ckOsl_ok hω hw f.1.2 f.2 e r
  | .ous i q s, x, v, f, e, r => by
    simp only [okA, Bool.and_eq_true] at f; simp only [ckA] at e
    exact ckOus_ok hω hw f.2 e r
  | .bool _, x, v, f, e, r => by simp only [ckA] at e; obtain ⟨e1, e2⟩ := and_t e; rw [← AV.beq_eq _ _ e2] at r; exact plain_move e1 r
  | .int _ _, x, v, f, e, r => by simp only [ckA] at e; obtain ⟨e1, e2⟩ := and_t e; rw [← AV.beq_eq _ _ e2] at r; exact plain_move e1 r
  | .str _, x, v, f, e, r => by simp only [ckA] at e; obtain ⟨e1, e2⟩ := and_t e; rw [← AV.beq_eq _ _ e2] at r; exact plain_move e1 r
  | .nilp, x, v, f, e, r => by simp only [ckA] at e; obtain ⟨e1, e2⟩ := and_t e; rw [← AV.beq_eq _ _ e2] at r; exact plain_move e1 r
  | .glob _, x, v, f, e, r => by simp only [ckA] at e; obtain ⟨e1, e2⟩ := and_t e; rw [← AV.beq_eq _ _ e2] at r; exact plain_move e1 r
  | .nils, x, v, f, e, r => by simp only [ckA] at e; obtain ⟨e1, e2⟩ := and_t e; rw [← AV.beq_eq _ _ e2] at r; exact plain_move e1 r
  | .sl _ _ _ _, x, v, f, e, r => by simp only [ckA] at e; exact ckSl_ok hw e r
  | .us _ _ _ _, x, v, f, e, r => by simp only [ckA] at e; obtain ⟨e1, e2⟩ := and_t e; rw [← AV.beq_eq _ _ e2] at r; exact plain_move e1 r
  | .es _ _ _, x, v, f, e, r => by simp only [ckA] at e; obtain ⟨e1, e2⟩ := and_t e; rw [← AV.beq_eq _ _ e2] at r; exact plain_move e1 r
  | .es0, x, v, f, e, r => by simp only [ckA] at e; obtain ⟨e1, e2⟩ := and_t e; rw [← AV.beq_eq _ _ e2] at r; exact plain_move e1 r
  | .nilm, x, v, f, e, r => by simp only [ckA] at e; obtain ⟨e1, e2⟩ := and_t e; rw [← AV.beq_eq _ _ e2] at r; exact plain_move e1 r
  | .map _, x, v, f, e, r => by simp only [ckA] at e; obtain ⟨e1, e2⟩ := and_t e; rw [← AV.beq_eq _ _ e2] at r; exact plain_move e1 r
  | .nilf, x, v, f, e, r => by simp only [ckA] at e; obtain ⟨e1, e2⟩ := and_t e; rw [← AV.beq_eq _ _ e2] at r; exact plain_move e1 r
  | .yield _, x, v, f, e, r => by simp only [ckA] at e; obtain ⟨e1, e2⟩ := and_t e; rw [← AV.beq_eq _ _ e2] at r; exact plain_move e1 r
  | .nili, x, v, f, e, r => by simp only [ckA] at e; obtain ⟨e1, e2⟩ := and_t e; rw [← AV.beq_eq _ _ e2] at r; exact plain_move e1 r
  | .tup _, x, v, f, e, r => by simp only [ckA] at e; obtain ⟨e1, e2⟩ := and_t e; rw [← AV.beq_eq _ _ e2] at r; exact plain_move e1 r
  | .opq _, x, v, f, e, r => by simp only [ckA] at e; obtain ⟨e1, e2⟩ := and_t e; rw [← AV.beq_eq _ _ e2] at r; exact plain_move e1 r
  | .optr _ _ _ _, x, v, f, e, r => by simp only [ckA] at e; obtain ⟨e1, e2⟩ := and_t e; rw [← AV.beq_eq _ _ e2] at r; exact plain_move e1 r
  | .atl _, x, v, f, e, r => by simp only [ckA] at e; obtain ⟨e1, e2⟩ := and_t e; rw [← AV.beq_eq _ _ e2] at r; exact plain_move e1 r
  | .any, x, v, f, e, r => trivial
theorem ckAs_ok (hω : ω' = ω.upd 0 (dens ω es)) (hw : ∀ i b, src[i]? = some (.whole b) → βc i = β b) (hv : ∀ i s p q x v, isView p q = true → viewB blks i s q = true → src[i]? = some (.view x) → VR β ω x v → VR βc ω' (.osl i p q s) v) :
    ∀ (ps xs : List AV) (vs : List Value), okAs es.length nb ps = true → ckAs src es blks ps xs = true → VRs β ω xs vs → VRs βc ω' ps vs
  | [], xs, vs, f, e, r => by
    simp only [ckAs] at e
    split at e
    · exact r
    · cases e
  | p :: ps, xs, vs, f, e, r => by
    simp only [okAs, Bool.and_eq_true] at f
    simp only [ckAs] at e
    split at e
    · obtain ⟨e1, e2⟩ := and_t e
      obtain ⟨v, vr, rfl, r1, r2⟩ := r
      exact ⟨v, vr, rfl, ckA_ok hω hw hv p _ v f.1 e1 r1, ckAs_ok hω hw hv ps _ vr f.2 e2 r2⟩
    · cases e
end
end

/-! ### Her heap -/
theorem layBlks_get : ∀ (l : List Blk) (h : Heap), h.next + l.length ≤ 65536 → (∀ b, h.next ≤ b → h.get b = none) → (layBlks l h).next = h.next + l.length ∧ (layBlks l h).wm = h.wm ∧ ∀ b, (layBlks l h).get b = if b < h.next then h.get b else l[b - h.next]?
  | [], h, _, hf => ⟨rfl, rfl, fun b => by
      simp only [layBlks]
      split
      · rfl
      · rw [hf b (by omega)]; rfl⟩
  | x :: r, h, hl, hf => by
    simp only [List.length_cons] at hl
    obtain ⟨h1, h2, h3⟩ := layBlks_get r (h.new x) (by simp only [Heap.next_new]; omega) (fun b hb => by
      simp only [Heap.next_new] at hb
      rw [Heap.get_new, if_neg (by omega)]; exact hf b (by omega))
    refine ⟨by simp only [layBlks, h1, Heap.next_new, List.length_cons]; omega, by simp only [layBlks, h2, Heap.wm_new], fun b => ?_⟩
    simp only [layBlks, h3, Heap.next_new, Heap.get_new]
    by_cases hb : b < h.next
    · rw [if_pos (by omega), if_neg (by omega), if_pos hb]
    · rw [if_neg hb]
      by_cases he : b = h.next
      · subst he
        rw [if_pos (by omega), if_pos rfl, if_pos (by omega), Nat.sub_self]; rfl
      · rw [if_neg (by omega), show b - h.next = (b - (h.next + 1)) + 1 by omega]; rfl
@[simp] theorem Heap.get_setwm (h : Heap) (n b : Nat) : (h.setwm n).get b = h.get b := by cases h; rfl
@[simp] theorem Heap.next_setwm (h : Heap) (n : Nat) : (h.setwm n).next = h.next := by cases h; rfl
@[simp] theorem Heap.wm_setwm (h : Heap) (n : Nat) : (h.setwm n).wm = n := by cases h; rfl
theorem FC.heap_ok (c : FC) (hl : c.blks.length < 60000) : c.heap.next = c.blks.length ∧ c.heap.wm = c.mt ∧ ∀ b, c.heap.get b = c.blks[b]? := by
  obtain ⟨h1, h2, h3⟩ := layBlks_get c.blks Heap.empty (by show 0 + _ ≤ _; omega) (fun b _ => Heap.get_empty b)
  refine ⟨by unfold FC.heap; rw [Heap.next_setwm, h1]; exact Nat.zero_add _, by unfold FC.heap; rw [Heap.wm_setwm], fun b => ?_⟩
  unfold FC.heap
  rw [Heap.get_setwm, h3]
  rw [if_neg (by exact Nat.not_lt_zero b)]; rfl

/-- All but what she may write stays. -/
def Kfc (β : Bij) (src : List BSrc) (mt : Nat) (w : World) (k : Nat) : Prop := k < w.heap.size ∧ ∀ i b L, mt ≤ i → src[i]? = some (.whole b) → β b = some L → k ≠ L.blk

section
variable {src : List BSrc} {es : List SX} {blks : List Blk} {mt : Nat} {args : List AV}
theorem ckBs_at : ∀ {ps : List Blk} {ss : List BSrc} {nd : SX}, ckBs src es blks h ps ss = some nd → dB ω nd = true → ps.length = ss.length ∧ ∀ (i : Nat) (p : Blk) (s : BSrc), ps[i]? = some p → ss[i]? = some s → ∃ e, ckB src es blks h p s = some e ∧ dB ω e = true
  | [], [], nd, e, hd => ⟨rfl, fun i p s h1 => by simp at h1⟩
  | [], _ :: _, nd, e, hd => by cases e
  | _ :: _, [], nd, e, hd => by cases e
  | p :: ps, s :: ss, nd, e, hd => by
    simp only [ckBs] at e
    split at e
    · rename_i a b ha hb
      simp only [Option.some.injEq] at e
      subst e
      obtain ⟨d1, d2⟩ := andS_t hd
      obtain ⟨l1, l2⟩ := ckBs_at hb d2
      refine ⟨by simp [l1], fun i p' s' h1 h2 => ?_⟩
      cases i with
      | zero =>
        simp only [List.getElem?_cons_zero, Option.some.injEq] at h1 h2
        subst h1; subst h2; exact ⟨a, ha, d1⟩
      | succ i =>
        simp only [List.getElem?_cons_succ] at h1 h2
        exact l2 i p' s' h1 h2
    · cases e
theorem sep1_at {blks : List Blk} {mt : Nat} {i : Nat} {s : BSrc} : ∀ {r : List BSrc} {j : Nat}, sep1 blks mt h i s r j = true → ∀ k t, r[k]? = some t → sep2 blks mt h i (j + k) (baseOf s) (baseOf t) = true
  | [], j, e, k, t, hk => by simp at hk
  | u :: r, j, e, k, t, hk => by
    simp only [sep1, Bool.and_eq_true] at e
    cases k with
    | zero => simp only [List.getElem?_cons_zero, Option.some.injEq] at hk; subst hk; exact e.1
    | succ k =>
      simp only [List.getElem?_cons_succ] at hk
      rw [show j + (k + 1) = j + 1 + k by omega]; exact sep1_at e.2 k t hk
theorem seps_at {blks : List Blk} {mt : Nat} : ∀ {ss : List BSrc} {i : Nat}, seps blks mt h ss i = true → ∀ a b s t, a < b → ss[a]? = some s → ss[b]? = some t → sep2 blks mt h (i + a) (i + b) (baseOf s) (baseOf t) = true
  | [], i, e, a, b, s, t, hab, ha, hb => by simp at ha
  | u :: r, i, e, a, b, s, t, hab, ha, hb => by
    simp only [seps, Bool.and_eq_true] at e
    obtain ⟨b, rfl⟩ : ∃ b', b = b' + 1 := ⟨b - 1, by omega⟩
    simp only [List.getElem?_cons_succ] at hb
    cases a with
    | zero =>
      simp only [List.getElem?_cons_zero, Option.some.injEq] at ha; subst ha
      have := sep1_at e.1 b t hb
      rw [Nat.add_zero, show i + (b + 1) = i + 1 + b by omega]; exact this
    | succ a =>
      simp only [List.getElem?_cons_succ] at ha
      have := seps_at e.2 a b s t (by omega) ha hb
      rw [show i + (a + 1) = i + 1 + a by omega, show i + (b + 1) = i + 1 + b by omega]; exact this
theorem heldIn_ok {b : Nat} : ∀ {l : List AV} {vs : List Value}, heldIn b l = true → VRs β ω l vs → β b ≠ none
  | [], vs, e, r => by cases e
  | x :: l, vs, e, ⟨v, vr, _, r1, r2⟩ => by
    simp only [heldIn, Bool.or_eq_true] at e
    rcases e with e | e
    · split at e
      · obtain rfl := beq_iff'.1 e
        obtain ⟨L, hL, _⟩ := r1
        rw [hL]; simp
      · cases e
    · exact heldIn_ok e r2
theorem heldC_ok (r : HR β ω K w0 h w) {b c : Nat} (hc : β c ≠ none) (e : heldC h b c = true) : β b ≠ none := by
  unfold heldC at e
  split at e
  · rename_i hg
    cases hL : β c with
    | none => exact absurd hL hc
    | some L =>
      obtain ⟨C, lo, hi, vs, _, _, _, _, q5, _⟩ := r.cells hg hL
      exact heldIn_ok e q5
  · cases e
theorem heldS_ok (r : HR β ω K w0 h w) {us : List Value} (ra : VRs β ω args us) {b : Nat} : ∀ {l : List BSrc}, heldS args h b l = true → β b ≠ none
  | [], e => by cases e
  | s :: l, e => by
    simp only [heldS, Bool.or_eq_true] at e
    rcases e with e | e
    · split at e
      · obtain ⟨e1, e2⟩ := and_t e
        exact heldC_ok r (heldIn_ok e1 ra) e2
      · cases e
    · exact heldS_ok r ra e
theorem mutOk_at (r : HR β ω K w0 h w) {us : List Value} (ra : VRs β ω args us) {all : List BSrc} {post : List (Option Blk)} : ∀ {ss : List BSrc} {i : Nat}, mutOk mt args h all post ss i = true → ∀ k s, ss[k]? = some s → mt ≤ i + k → ∃ b, s = .whole b ∧ h.wm ≤ b ∧ b < h.next ∧ (β b ≠ none ∨ post[i + k - mt]? = some none ∨ ∃ e sig l, h.get b = some (.arr e sig l))
  | [], i, e, k, s, hk, hm => by simp at hk
  | u :: ss, i, e, k, s, hk, hm => by
    simp only [mutOk, Bool.and_eq_true] at e
    cases k with
    | zero =>
      simp only [List.getElem?_cons_zero, Option.some.injEq] at hk; subst hk
      have e := e.1
      rw [Bool.or_eq_true] at e
      rcases e with e | e
      · rw [blt_iff] at e; omega
      · split at e
        · obtain ⟨e, e3⟩ := and_t e
          obtain ⟨e1, e2⟩ := and_t e
          rw [ble_iff] at e1
          rw [blt_iff] at e2
          refine ⟨_, rfl, e1, e2, ?_⟩
          rw [Bool.or_eq_true, Bool.or_eq_true, Bool.or_eq_true] at e3
          rcases e3 with ((e3 | e3) | e3) | e3
          · right; left
            unfold isNoneB at e3
            split at e3
            · rename_i hx; exact hx
            · cases e3
          · exact .inl (heldIn_ok e3 ra)
          · exact .inl (heldS_ok r ra e3)
          · right; right
            unfold arrB at e3
            split at e3
            · rename_i hx; exact ⟨_, _, _, hx⟩
            · cases e3
        · cases e
    | succ k =>
      simp only [List.getElem?_cons_succ] at hk
      have := mutOk_at r ra e.2 k s hk (by omega)
      rw [show i + (k + 1) = i + 1 + k by omega]; exact this
end

/-- What the binding of a call gives. -/
structure Bound (c : FC) (nv : Nat) (args : List AV) (h : Heap) (b : Binding) : Prop where
  len : b.es.length = nv
  slen : b.src.length = c.blks.length
  argv : ckAs b.src b.es c.blks c.args args = true
  seps : seps c.blks c.mt h b.src 0 = true
  mutb : mutOk c.mt args h b.src c.post b.src 0 = true
  post : clPost b.src c.mt c.post c.post c.mt = true
  out : (flatA c.out).all (clA b.src c.mt c.post) = true
  blks : ckBs b.src b.es c.blks h c.blks b.src = some b.nd
theorem listK_length {α : Type} {l : List (Nat × α)} : ∀ {n i : Nat} {r : List α}, listK l n i = some r → r.length = n
  | 0, i, r, e => by simp only [listK, Option.some.injEq] at e; subst e; rfl
  | n + 1, i, r, e => by
    simp only [listK] at e
    split at e
    · rename_i x q h1 h2
      simp only [Option.some.injEq] at e; subst e
      simp [listK_length h2]
    · cases e
theorem bindF_ok {c : FC} {nv : Nat} {args : List AV} {b : Binding} (e : bindF c nv args h = some b) : Bound c nv args h b := by
  unfold bindF at e
  simp only at e
  split at e
  · rename_i src es h1 h2
    replace e := cond_some e
    obtain ⟨hc, e⟩ := e
    obtain ⟨hc, c5⟩ := and_t hc
    obtain ⟨hc, c4⟩ := and_t hc
    obtain ⟨hc, c3⟩ := and_t hc
    obtain ⟨c1, c2⟩ := and_t hc
    split at e
    · rename_i nd hnd
      simp only [Option.some.injEq] at e; subst e
      exact ⟨listK_length h2, listK_length h1, c1, c2, c3, c4, c5, hnd⟩
    · cases e
  · cases e

structure FcOk (c : FC) (nv : Nat) : Prop where
  args : okAs nv c.blks.length c.args = true
  blks : ∀ (i : Nat) (x : Blk), c.blks[i]? = some x → okB nv c.blks.length (some x) = true ∧ ((∃ e fz cs, x = .cells e fz cs) ∨ ∃ e sig l, x = .arr e sig l)
  need : freshX nv c.need = true
  outs : freshXs nv c.outs = true
  mt : c.mt ≤ c.blks.length
  lt : c.blks.length < 60000
theorem fcOk_at {c : FC} {nv : Nat} (e : fcOk c nv = true) : FcOk c nv := by
  unfold fcOk at e
  obtain ⟨e, e7⟩ := and_t e
  obtain ⟨e, e6⟩ := and_t e
  obtain ⟨e, e5⟩ := and_t e
  obtain ⟨e, e4⟩ := and_t e
  obtain ⟨e, e3⟩ := and_t e
  obtain ⟨e1, e2⟩ := and_t e
  rw [List.all_eq_true] at e2 e7
  refine ⟨e1, fun i x hx => ?_, e3, e4, ble_iff.1 e5, blt_iff.1 e6⟩
  have hm := List.mem_of_getElem? hx
  refine ⟨e2 x hm, ?_⟩
  have := e7 x hm
  split at this
  · exact .inl ⟨_, _, _, rfl⟩
  · exact .inr ⟨_, _, _, rfl⟩
  · cases this

/-- The call is told on a heap of her own. -/
theorem enter_ok {c : FC} {nv : Nat} {args : List AV} {b : Binding} {us : List Value} (r : HR β ω K w0 h w) (ra : VRs β ω args us) (fo : FcOk c nv) (bo : Bound c nv args h b) (hd : dB ω b.nd = true) :
    VRs (bnd β ω b.src c.blks) (ω.upd 0 (dens ω b.es)) c.args us ∧ HR (bnd β ω b.src c.blks) (ω.upd 0 (dens ω b.es)) (Kfc β b.src c.mt w) w c.heap w := by
  obtain ⟨hn, hwm, hget⟩ := c.heap_ok fo.lt
  obtain ⟨hl, hB⟩ := ckBs_at bo.blks hd
  have hw : ∀ i x, b.src[i]? = some (.whole x) → bnd β ω b.src c.blks i = β x := fun i x hx => by unfold bnd; rw [hx]
  have hfix : ∀ e, (ω.upd 0 (dens ω b.es)).fix e = ω.fix e := fun _ => rfl
  -- a view
  have view : ∀ i x e sig q, b.src[i]? = some (.view x) → c.blks[i]? = some (.arr e sig q) → ∃ nd l, viewE sig.length e sig x h = some (nd, l) ∧ dB ω nd = true ∧ den (ω.upd 0 (dens ω b.es)) q = den ω l ∧ bnd β ω b.src c.blks i = viewLo β ω sig.length x := by
    intro i x e sig q hx hp
    obtain ⟨nd, h1, h2⟩ := hB i _ _ hp hx
    simp only [ckB] at h1
    split at h1
    · rename_i nd' l hv
      obtain ⟨h3, h1⟩ := cond_some h1
      simp only [Option.some.injEq] at h1; subst h1
      have hf := (fo.blks i _ hp).1
      simp only [okB] at hf
      refine ⟨_, l, hv, h2, sub_den rfl (by rw [bo.len]; exact hf) h3, ?_⟩
      unfold bnd; rw [hx, hp]; rfl
    · cases h1
  have hv : ∀ i s p q x v, isView p q = true → viewB c.blks i s q = true → b.src[i]? = some (.view x) → VR β ω x v → VR (bnd β ω b.src c.blks) (ω.upd 0 (dens ω b.es)) (.osl i p q s) v := by
    intro i s p q x v hpq hvb hx hr
    unfold viewB at hvb
    split at hvb
    · rename_i e sig l hp
      obtain ⟨h1, h2⟩ := and_t hvb
      obtain rfl := beq_iff'.1 h1
      have h2 := SX.beq_eq _ _ h2
      subst h2
      obtain ⟨nd, lx, g1, g2, g3, g4⟩ := view i x e sig l hx hp
      have vs := (viewE_ok r g1 g2).sl hr
      have hlen : dI (ω.upd 0 (dens ω b.es)) (.op .llen [l]) = ((dL ω lx).length : Int) := by
        rw [dI_llen]; exact congrArg (fun z : Val => (z.toL.length : Int)) g3
      have hp0 : dI (ω.upd 0 (dens ω b.es)) p = 0 := by
        unfold isView at hpq
        split at hpq
        · rfl
        · cases hpq
      simp only [VR]
      rw [hlen, hp0, g4]
      rcases vs with ⟨L, cap, a, k1, k2, k3, k4⟩ | ⟨k1, a, cap, k2, k3⟩
      · exact .inl ⟨L, cap, a, k1, by simpa using k2, by simpa using k3, fun _ => by simpa using k4⟩
      · exact .inr ⟨a, cap, k2, k3, by rw [k1]; rfl⟩
    · cases hvb
  have hargs := ckAs_ok (nb := c.blks.length) (βc := bnd β ω b.src c.blks) rfl hw hv c.args args us (by rw [bo.len]; exact fo.args) bo.argv ra
  -- where a block of hers lies
  have base : ∀ i L, bnd β ω b.src c.blks i = some L → ∃ s y M, b.src[i]? = some s ∧ baseOf s = some y ∧ β y = some M ∧ M.blk = L.blk := by
    intro i L e
    unfold bnd at e
    split at e
    · rename_i y hy; exact ⟨_, y, L, hy, rfl, e, rfl⟩
    · rename_i x hx
      obtain ⟨y, M, h1, h2, h3⟩ := viewLo_base e
      exact ⟨_, y, M, hx, h1, h2, h3⟩
    · cases e
  have liveB : ∀ (i : Nat) (s : BSrc) (p : Blk) (y : Nat), b.src[i]? = some s → c.blks[i]? = some p → baseOf s = some y → ∃ z, h.get y = some z := by
    intro i s p y hs hp hy
    obtain ⟨nd, h1, _⟩ := hB i p s hp hs
    cases s with
    | whole x =>
      simp only [baseOf, Option.some.injEq] at hy; subst hy
      simp only [ckB] at h1
      split at h1
      · rename_i hg; exact ⟨_, hg⟩
      · rename_i hg; exact ⟨_, hg⟩
      · cases h1
    | view x =>
      simp only [ckB] at h1
      split at h1
      · split at h1
        · rename_i hv; exact viewE_live hv hy
        · cases h1
      · cases h1
  refine ⟨hargs, ⟨fun i x L hg hL => ?_, fun i j x y L M hgi hgj hL hM hne hwk => ?_, fun i hi => ?_, fun i hi => ?_, fun i L hL => ?_, fun k hk => hk.1, fun k _ => rfl, fun i x L hg hwi hL hk => ?_, Nat.le_refl _, rfl, rfl, rfl, Nat.le_refl _⟩⟩
  · rw [hget] at hg
    have hs : ∃ s, b.src[i]? = some s := by
      have : i < b.src.length := by rw [bo.slen]; exact (List.getElem?_eq_some_iff.1 hg).1
      exact ⟨_, List.getElem?_eq_getElem this⟩
    obtain ⟨s, hs⟩ := hs
    obtain ⟨nd, h1, h2⟩ := hB i x s hg hs
    have hf := (fo.blks i x hg).1
    cases s with
    | whole y =>
      simp only [ckB] at h1
      rw [hw i y hs] at hL
      split at h1
      · rename_i e fz ps e' fz' xs hgy
        obtain ⟨h3, _⟩ := cond_some h1
        obtain ⟨h3, h6⟩ := and_t h3
        obtain ⟨h3, h5⟩ := and_t h3
        obtain ⟨h3, h4⟩ := and_t h3
        obtain rfl := beq_iff'.1 h3
        obtain rfl := beq_iff'.1 h4
        obtain ⟨C, lo, hi, vs, q1, q2, q3, q4, q5, q6, q7, q8⟩ := r.blk y _ L hgy hL
        simp only [okB] at hf
        have hps := ckAs_ok (nb := c.blks.length) (βc := bnd β ω b.src c.blks) rfl hw hv ps xs vs (by rw [bo.len]; exact hf) h6 q5
        have hll : ps.length = xs.length := by rw [← hps.length, ← q5.length]
        exact ⟨C, lo, hi, vs, q1, q2, by rw [hll]; exact q3, h5, hps, by rw [hll]; exact q6, q7, q8⟩
      · rename_i e sig q e' sig' l hgy
        obtain ⟨h3, _⟩ := cond_some h1
        obtain ⟨h3, h5⟩ := and_t h3
        obtain ⟨h3, h4⟩ := and_t h3
        obtain rfl := beq_iff'.1 h3
        obtain rfl := sigBeq_eq h4
        have hbr := r.blk y _ L hgy hL
        simp only [okB] at hf
        have hden : dL (ω.upd 0 (dens ω b.es)) q = dL ω l := congrArg Val.toL (sub_den rfl (by rw [bo.len]; exact hf) h5)
        simp only [BR] at hbr ⊢
        rw [hden]; exact hbr
      · cases h1
    | view y =>
      have : ∃ e sig q, x = .arr e sig q := by
        simp only [ckB] at h1
        split at h1
        · exact ⟨_, _, _, rfl⟩
        · cases h1
      obtain ⟨e, sig, q, rfl⟩ := this
      obtain ⟨nd', lx, g1, g2, g3, g4⟩ := view i y e sig q hs hg
      rw [g4] at hL
      -- some value that the view tells of
      have hbr := viewBr r g1 g2 L hL
      have hden : dL (ω.upd 0 (dens ω b.es)) q = dL ω lx := congrArg Val.toL g3
      simp only [BR] at hbr ⊢
      rw [hden]; exact hbr
  · rw [hget] at hgi hgj
    obtain ⟨s, y1, M1, s1, s2, s3, s4⟩ := base i L hL
    obtain ⟨t, y2, M2, t1, t2, t3, t4⟩ := base j M hM
    obtain ⟨z1, hz1⟩ := liveB i s x y1 s1 hgi s2
    obtain ⟨z2, hz2⟩ := liveB j t y y2 t1 hgj t2
    have main : ∀ (i j : Nat) (s t : BSrc) (x y : Blk) (y1 y2 : Nat) (M1 M2 : Loc) (z1 z2 : Blk), sep2 c.blks c.mt h i j (baseOf s) (baseOf t) = true → c.blks[i]? = some x → c.blks[j]? = some y → (c.heap.wm ≤ i ∨ c.heap.wm ≤ j ∨ x.isArr = false ∨ y.isArr = false) →
        baseOf s = some y1 → baseOf t = some y2 → β y1 = some M1 → β y2 = some M2 → h.get y1 = some z1 → h.get y2 = some z2 → M1.blk ≠ M2.blk := by
      intro i j s t x y y1 y2 M1 M2 z1 z2 hsep hx hy hk e1 e2 b1 b2 g1 g2
      unfold sep2 at hsep
      rw [Bool.or_eq_true] at hsep
      rcases hsep with hsep | hsep
      · exfalso
        obtain ⟨hsep, a4⟩ := and_t hsep
        obtain ⟨hsep, a3⟩ := and_t hsep
        obtain ⟨a1, a2⟩ := and_t hsep
        rw [blt_iff] at a1 a2
        rw [hwm] at hk
        rw [hx] at a3
        rw [hy] at a4
        rcases hk with q | q | q | q
        · omega
        · omega
        · cases x <;> simp only [Blk.isArr, reduceCtorEq] at q <;> cases a3
        · cases y <;> simp only [Blk.isArr, reduceCtorEq] at q <;> cases a4
      · obtain ⟨a1, a2⟩ := and_t hsep
        rw [e1, e2] at a1 a2
        have hne : y1 ≠ y2 := by
          rintro rfl
          simp [neB] at a1
        refine r.sep y1 y2 z1 z2 M1 M2 g1 g2 b1 b2 hne ?_
        simp only [geB, arrH, Bool.or_eq_true, Bool.not_eq_true', ble_iff] at a2
        rw [g1, g2] at a2
        rcases a2 with ((q | q) | q) | q
        · exact .inl q
        · exact .inr (.inl q)
        · refine .inr (.inr (.inl ?_)); cases z1 <;> first | rfl | cases q
        · refine .inr (.inr (.inr ?_)); cases z2 <;> first | rfl | cases q
    rw [← s4, ← t4]
    rcases Nat.lt_or_gt_of_ne hne with hlt | hlt
    · have := seps_at bo.seps i j s t hlt s1 t1
      rw [Nat.zero_add, Nat.zero_add] at this
      exact main i j s t x y y1 y2 M1 M2 z1 z2 this hgi hgj hwk s2 t2 s3 t3 hz1 hz2
    · have := seps_at bo.seps j i t s hlt t1 s1
      rw [Nat.zero_add, Nat.zero_add] at this
      refine (main j i t s y x y2 y1 M2 M1 z2 z1 this hgj hgi ?_ t2 s2 t3 s3 hz2 hz1).symm
      rcases hwk with q | q | q | q
      · exact .inr (.inl q)
      · exact .inl q
      · exact .inr (.inr (.inr q))
      · exact .inr (.inr (.inl q))
  · unfold bnd
    rw [List.getElem?_eq_none (by rw [bo.slen, ← hn]; exact hi)]
  · rw [hget, List.getElem?_eq_none (by rw [← hn]; exact hi)]
  · obtain ⟨s, y, M, _, _, h3, h4⟩ := base i L hL
    rw [← h4]; exact r.lt y M h3
  · rw [hwm] at hwi
    rw [hget] at hg
    have hs : ∃ s, b.src[i]? = some s := by
      have : i < b.src.length := by rw [bo.slen]; exact (List.getElem?_eq_some_iff.1 hg).1
      exact ⟨_, List.getElem?_eq_getElem this⟩
    obtain ⟨s, hs⟩ := hs
    obtain ⟨y, rfl, _, _, _⟩ := mutOk_at r ra bo.mutb i s hs (by omega)
    rw [hw i y hs] at hL
    exact hk.2 i y L hwi hs hL rfl

end Go.Ev
