import Derived.Test.YtdhepaehegnfdaaGreatDoorE36
set_option linter.unusedVariables false
set_option linter.unusedSimpArgs false
namespace Go.Ev
open Go
variable {ω ω' : Opq} {β βc : Bij} {K : Nat → Prop} {w0 w : World} {h : Heap}
def cr1 : Option Blk → Nat
 | some (.arr _ sig _) => sig.length
 | _ => 0
noncomputable def bnd (β : Bij) (ω : Opq) (src : List BSrc) (blks : List Blk) : Bij := fun i => match src[i]? with
  | some (.whole b) => β b
  | some (.view x) => K2 β ω (cr1 blks[i]?) x
  | none => none
theorem o8 {p : AV} {v : Value} (hp : af2 p = true) (r : VR β ω p v) : VR βc ω' p v := by
 cases p <;> simp only [af2, Bool.false_eq_true] at hp <;> exact r
theorem Z7 {s : Option BSrc} {b : Nat} (e : ac5 s b = true) : s = some (.whole b) := by
 unfold ac5 at e
 split at e
 · obtain rfl := j0.1 e; rfl
 · cases e
theorem b54 {s : Option BSrc} {x : AV} (e : aJ7 s x = true) : s = some (.view x) := by
 unfold aJ7 at e
 split at e
 · rw [AV.beq_eq _ _ e]
 · cases e
section
variable {src : List BSrc} {es : List SX} {blks : List Blk} {nb : Nat}
theorem b55 {p x : SX} (hω : ω' = ω.upd 0 (k5 ω es)) (hf : u9 es.length p = true) (e : SX.beq (P4 es p) x = true) : den ω' p = den ω x := by
 rw [hω, ← W8 p hf, SX.beq_eq _ _ e]
theorem bX1 (ω : Opq) (e : SX) : den ω (cC6 e) = den ω e := by
 unfold cC6
 split
 · rename_i l k
   split
   · rename_i x hx
     have : (k5 ω l)[k]? = some (den ω x) := by
      rw [a73, List.getElem?_map, hx]; rfl
     show den ω x = A5 [.vl (k5 ω l)] (Int.ofNat 0) (Int.ofNat k)
     show den ω x = (k5 ω l).getD k default
     rw [List.getD_eq_getElem?_getD, this]; rfl
   · rfl
 · rfl
theorem ar1 {p x : SX} (hω : ω' = ω.upd 0 (k5 ω es)) (hf : u9 es.length p = true) (e : cq4 es p x = true) : den ω' p = den ω x := by
 rw [hω, ← W8 p hf, ← bX1, SX.beq_eq _ _ e]
theorem bX2 (hω : ω' = ω.upd 0 (k5 ω es)) (hw : ∀ i b, src[i]? = some (.whole b) → βc i = β b) {i s : Nat} {p q : SX} {x : AV} {v : Value} (f1 : u9 es.length p = true) (f2 : u9 es.length q = true) (e : cd5 src es i p q s x = true) (rv : VR β ω x v) : VR βc ω' (.osl i p q s) v := by
 unfold cd5 at e
 split at e
 · obtain ⟨e, e4⟩ := g9 e
   obtain ⟨e, e3⟩ := g9 e
   obtain ⟨e1, e2⟩ := g9 e
   obtain rfl := j0.1 e1
   have k1 : dI ω' p = dI ω _ := congrArg Val.toI (ar1 hω f1 e3)
   have k2 : dI ω' q = dI ω _ := congrArg Val.toI (ar1 hω f2 e4)
   simp only [VR] at rv ⊢
   rw [k1, k2, hw _ _ (Z7 e2)]; exact rv
 · cases e
theorem bX3 (hω : ω' = ω.upd 0 (k5 ω es)) (hw : ∀ i b, src[i]? = some (.whole b) → βc i = β b) {i s : Nat} {q : SX} {x : AV} {v : Value} (f2 : u9 es.length q = true) (e : cd6 src es i q s x = true) (rv : VR β ω x v) : VR βc ω' (.ous i q s) v := by
 unfold cd6 at e
 split at e
 · obtain ⟨e, e4⟩ := g9 e
   obtain ⟨e1, e2⟩ := g9 e
   obtain rfl := j0.1 e1
   have k2 : dI ω' q = dI ω _ := congrArg Val.toI (b55 hω f2 e4)
   simp only [VR] at rv ⊢
   rw [k2, hw _ _ (Z7 e2)]; exact rv
 · cases e
theorem bX4 (hw : ∀ i b, src[i]? = some (.whole b) → βc i = β b) {i o : Nat} {x : AV} {v : Value} (e : cd7 src i o x = true) (rv : VR β ω x v) : VR βc ω' (.ptr i o) v := by
 unfold cd7 at e
 split at e
 · obtain ⟨e1, e2⟩ := g9 e
   obtain rfl := j0.1 e1
   simp only [VR] at rv ⊢
   rw [hw _ _ (Z7 e2)]; exact rv
 · cases e
theorem ce1 (hw : ∀ i b, src[i]? = some (.whole b) → βc i = β b) {i o n c : Nat} {x : AV} {v : Value} (e : cC7 src i o n c x = true) (rv : VR β ω x v) : VR βc ω' (.sl i o n c) v := by
 unfold cC7 at e
 split at e
 · obtain ⟨e, e2⟩ := g9 e
   obtain ⟨e, e4⟩ := g9 e
   obtain ⟨e1, e3⟩ := g9 e
   obtain rfl := j0.1 e1
   obtain rfl := j0.1 e3
   obtain rfl := j0.1 e4
   simp only [VR] at rv ⊢
   rw [hw _ _ (Z7 e2)]; exact rv
 · cases e
theorem cr2 (hω : ω' = ω.upd 0 (k5 ω es)) {k : IntKind} {p : SX} {x : AV} {v : Value} (f : u9 es.length p = true) (e : ckI es k p (ay1 x) = true) (rv : VR β ω x v) : v = .int k (dI ω' p) := by
 unfold ckI at e
 split at e
 · rename_i k' x' hx
   obtain ⟨e1, e2⟩ := g9 e
   obtain rfl := of_decide_eq_true e1
   rw [G1 hx rv]
   exact congrArg (fun z : Val => Value.int k z.toI) (ar1 hω f e2).symm
 · cases e
mutual
theorem c43 (hω : ω' = ω.upd 0 (k5 ω es)) (hw : ∀ i b, src[i]? = some (.whole b) → βc i = β b) (hv : ∀ i s p q x v, aq7 p q = true → bF9 blks i s q = true → src[i]? = some (.view x) → VR β ω x v → VR βc ω' (.osl i p q s) v) :
 ∀ (p x : AV) (v : Value), okA es.length nb p = true → ckA src es blks p x = true → VR β ω x v → VR βc ω' p v
 | .oint k p, x, v, f, e, r => by simp only [okA] at f; simp only [ckA] at e; exact cr2 hω f e r
 | .ostr p, x, v, f, e, r => by
   simp only [okA] at f; simp only [ckA] at e
   unfold ckX at e
   split at e
   · rename_i y hy
     show v = .string ⟨(dS ω' p).toArray⟩
     rw [S7 hy r]
     exact congrArg (fun z : Val => Value.string ⟨z.toS.toArray⟩) (ar1 hω f e).symm
   · cases e
 | .obool p, x, v, f, e, r => by
   simp only [okA] at f; simp only [ckA] at e
   unfold ckX at e
   split at e
   · rename_i y hy
     show v = .bool (dB ω' p)
     rw [W1 hy r]
     exact congrArg (fun z : Val => Value.bool z.toB) (ar1 hω f e).symm
   · cases e
 | .agg ps, x, v, f, e, r => by
   simp only [okA] at f; simp only [ckA] at e
   split at e
   · obtain ⟨us, rfl, ru⟩ := r
     exact ⟨us, rfl, ac7 hω hw hv ps _ _ f e ru⟩
   · cases e
 | .iface t p, x, v, f, e, r => by
   simp only [okA] at f; simp only [ckA] at e
   split at e
   · obtain ⟨e1, e2⟩ := g9 e
     obtain rfl := j0.1 e1
     obtain ⟨y, rfl, ry⟩ := r
     exact ⟨y, rfl, c43 hω hw hv p _ _ f e2 ry⟩
   · cases e
 | .func fn a b, x, v, f, e, r => by
   simp only [okA, Bool.and_eq_true] at f; simp only [ckA] at e
   split at e
   · obtain ⟨e, e3⟩ := g9 e
     obtain ⟨e1, e2⟩ := g9 e
     obtain rfl := of_decide_eq_true e1
     obtain ⟨n, y, z, rfl, r1, r2⟩ := r
     exact ⟨n, y, z, rfl, ac7 hω hw hv a _ _ f.1 e2 r1, ac7 hω hw hv b _ _ f.2 e3 r2⟩
   · cases e
 | .ptr i o, x, v, f, e, r => by simp only [ckA] at e; exact bX4 hw e r
 | .osl i p q s, x, v, f, e, r => by
   simp only [okA, Bool.and_eq_true] at f; simp only [ckA] at e
   cases hq : aq7 p q with
   | true =>
     rw [hq] at e
     simp only [cond_true] at e
     obtain ⟨e1, e2⟩ := g9 e
     exact hv i s p q x v hq e1 (b54 e2) r
   | false =>
     rw [hq] at e
     exact bX2 hω hw f.1.2 f.2 e r
 | .ous i q s, x, v, f, e, r => by
   simp only [okA, Bool.and_eq_true] at f; simp only [ckA] at e
   exact bX3 hω hw f.2 e r
 | .bool _, x, v, f, e, r => by simp only [ckA] at e; obtain ⟨e1, e2⟩ := g9 e; rw [← AV.beq_eq _ _ e2] at r; exact o8 e1 r
 | .int _ _, x, v, f, e, r => by simp only [ckA] at e; obtain ⟨e1, e2⟩ := g9 e; rw [← AV.beq_eq _ _ e2] at r; exact o8 e1 r
 | .str _, x, v, f, e, r => by simp only [ckA] at e; obtain ⟨e1, e2⟩ := g9 e; rw [← AV.beq_eq _ _ e2] at r; exact o8 e1 r
 | .nilp, x, v, f, e, r => by simp only [ckA] at e; obtain ⟨e1, e2⟩ := g9 e; rw [← AV.beq_eq _ _ e2] at r; exact o8 e1 r
 | .glob _, x, v, f, e, r => by simp only [ckA] at e; obtain ⟨e1, e2⟩ := g9 e; rw [← AV.beq_eq _ _ e2] at r; exact o8 e1 r
 | .nils, x, v, f, e, r => by simp only [ckA] at e; obtain ⟨e1, e2⟩ := g9 e; rw [← AV.beq_eq _ _ e2] at r; exact o8 e1 r
 | .sl _ _ _ _, x, v, f, e, r => by simp only [ckA] at e; exact ce1 hw e r
 | .us _ _ _ _, x, v, f, e, r => by simp only [ckA] at e; obtain ⟨e1, e2⟩ := g9 e; rw [← AV.beq_eq _ _ e2] at r; exact o8 e1 r
 | .es _ _ _, x, v, f, e, r => by simp only [ckA] at e; obtain ⟨e1, e2⟩ := g9 e; rw [← AV.beq_eq _ _ e2] at r; exact o8 e1 r
 | .es0, x, v, f, e, r => by simp only [ckA] at e; obtain ⟨e1, e2⟩ := g9 e; rw [← AV.beq_eq _ _ e2] at r; exact o8 e1 r
 | .nilm, x, v, f, e, r => by simp only [ckA] at e; obtain ⟨e1, e2⟩ := g9 e; rw [← AV.beq_eq _ _ e2] at r; exact o8 e1 r
 | .map _, x, v, f, e, r => by simp only [ckA] at e; obtain ⟨e1, e2⟩ := g9 e; rw [← AV.beq_eq _ _ e2] at r; exact o8 e1 r
 | .nilf, x, v, f, e, r => by simp only [ckA] at e; obtain ⟨e1, e2⟩ := g9 e; rw [← AV.beq_eq _ _ e2] at r; exact o8 e1 r
 | .yield _, x, v, f, e, r => by simp only [ckA] at e; obtain ⟨e1, e2⟩ := g9 e; rw [← AV.beq_eq _ _ e2] at r; exact o8 e1 r
 | .nili, x, v, f, e, r => by simp only [ckA] at e; obtain ⟨e1, e2⟩ := g9 e; rw [← AV.beq_eq _ _ e2] at r; exact o8 e1 r
 | .tup _, x, v, f, e, r => by simp only [ckA] at e; obtain ⟨e1, e2⟩ := g9 e; rw [← AV.beq_eq _ _ e2] at r; exact o8 e1 r
 | .opq _, x, v, f, e, r => by simp only [ckA] at e; obtain ⟨e1, e2⟩ := g9 e; rw [← AV.beq_eq _ _ e2] at r; exact o8 e1 r
 | .optr _ _ _ _, x, v, f, e, r => by simp only [ckA] at e; obtain ⟨e1, e2⟩ := g9 e; rw [← AV.beq_eq _ _ e2] at r; exact o8 e1 r
 | .atl _, x, v, f, e, r => by simp only [ckA] at e; obtain ⟨e1, e2⟩ := g9 e; rw [← AV.beq_eq _ _ e2] at r; exact o8 e1 r
 | .any, x, v, f, e, r => trivial
theorem ac7 (hω : ω' = ω.upd 0 (k5 ω es)) (hw : ∀ i b, src[i]? = some (.whole b) → βc i = β b) (hv : ∀ i s p q x v, aq7 p q = true → bF9 blks i s q = true → src[i]? = some (.view x) → VR β ω x v → VR βc ω' (.osl i p q s) v) :
 ∀ (ps xs : List AV) (vs : List Value), br5 es.length nb ps = true → bO9 src es blks ps xs = true → VRs β ω xs vs → VRs βc ω' ps vs
 | [], xs, vs, f, e, r => by
   simp only [bO9] at e
   split at e
   · exact r
   · cases e
 | p :: ps, xs, vs, f, e, r => by
   simp only [br5, Bool.and_eq_true] at f
   simp only [bO9] at e
   split at e
   · obtain ⟨e1, e2⟩ := g9 e
     obtain ⟨v, vr, rfl, r1, r2⟩ := r
     exact ⟨v, vr, rfl, c43 hω hw hv p _ v f.1 e1 r1, ac7 hω hw hv ps _ vr f.2 e2 r2⟩
   · cases e
end
end
theorem ar2 : ∀ (l : List Blk) (h : Heap), h.next + l.length ≤ 65536 → (∀ b, h.next ≤ b → h.get b = none) → (T2 l h).next = h.next + l.length ∧ (T2 l h).wm = h.wm ∧ ∀ b, (T2 l h).get b = if b < h.next then h.get b else l[b - h.next]?
 | [], h, _, hf => ⟨rfl, rfl, fun b => by
  simp only [T2]
  split
  · rfl
  · rw [hf b (by omega)]; rfl⟩
 | x :: r, h, hl, hf => by
   simp only [List.length_cons] at hl
   obtain ⟨h1, h2, h3⟩ := ar2 r (h.new x) (by simp only [Heap.next_new]; omega) (fun b hb => by
     simp only [Heap.next_new] at hb
     rw [Heap.get_new, if_neg (by omega)]; exact hf b (by omega))
   refine ⟨by simp only [T2, h1, Heap.next_new, List.length_cons]; omega, by simp only [T2, h2, Heap.wm_new], fun b => ?_⟩
   simp only [T2, h3, Heap.next_new, Heap.get_new]
   by_cases hb : b < h.next
   · rw [if_pos (by omega), if_neg (by omega), if_pos hb]
   · rw [if_neg hb]
     by_cases he : b = h.next
     · subst he
       rw [if_pos (by omega), if_pos rfl, if_pos (by omega), Nat.sub_self]; rfl
     · rw [if_neg (by omega), show b - h.next = (b - (h.next + 1)) + 1 by omega]; rfl
@[simp] theorem Heap.get_setwm (h : Heap) (n b : Nat) : (h.setwm n).get b = h.get b := by cases h; rfl
@[simp] theorem Heap.next_setwm (h : Heap) (n : Nat) : (h.setwm n).next = h.next := by cases h; rfl
@[simp] theorem Heap.wm_setwm (h : Heap) (n : Nat) : (h.setwm n).wm = n := by cases h; rfl
theorem FC.heap_ok (c : FC) (hl : c.blks.length < 60000) : c.heap.next = c.blks.length ∧ c.heap.wm = c.mt ∧ ∀ b, c.heap.get b = c.blks[b]? := by
 obtain ⟨h1, h2, h3⟩ := ar2 c.blks Heap.empty (by show 0 + _ ≤ _; omega) (fun b _ => Heap.get_empty b)
 refine ⟨by unfold FC.heap; rw [Heap.next_setwm, h1]; exact Nat.zero_add _, by unfold FC.heap; rw [Heap.wm_setwm], fun b => ?_⟩
 unfold FC.heap
 rw [Heap.get_setwm, h3]
 rw [if_neg (by exact Nat.not_lt_zero b)]; rfl
def Kfc (β : Bij) (src : List BSrc) (mt : Nat) (w : World) (k : Nat) : Prop := k < w.heap.size ∧ ∀ i b L, mt ≤ i → src[i]? = some (.whole b) → β b = some L → k ≠ L.blk
section
variable {src : List BSrc} {es : List SX} {blks : List Blk} {mt : Nat} {args : List AV}
theorem ar3 : ∀ {ps : List Blk} {ss : List BSrc} {nd : SX}, cq5 src es blks h ps ss = some nd → dB ω nd = true → ps.length = ss.length ∧ ∀ (i : Nat) (p : Blk) (s : BSrc), ps[i]? = some p → ss[i]? = some s → ∃ e, ckB src es blks h p s = some e ∧ dB ω e = true
 | [], [], nd, e, hd => ⟨rfl, fun i p s h1 => by simp at h1⟩
 | [], _ :: _, nd, e, hd => by cases e
 | _ :: _, [], nd, e, hd => by cases e
 | p :: ps, s :: ss, nd, e, hd => by
   simp only [cq5] at e
   split at e
   · rename_i a b ha hb
     simp only [Option.some.injEq] at e
     subst e
     obtain ⟨d1, d2⟩ := aD3 hd
     obtain ⟨l1, l2⟩ := ar3 hb d2
     refine ⟨by simp [l1], fun i p' s' h1 h2 => ?_⟩
     cases i with
     | zero =>
       simp only [List.getElem?_cons_zero, Option.some.injEq] at h1 h2
       subst h1; subst h2; exact ⟨a, ha, d1⟩
     | succ i =>
       simp only [List.getElem?_cons_succ] at h1 h2
       exact l2 i p' s' h1 h2
   · cases e
theorem bG4 {blks : List Blk} {mt : Nat} {i : Nat} {s : BSrc} : ∀ {r : List BSrc} {j : Nat}, cx5 blks mt h i s r j = true → ∀ k t, r[k]? = some t → cq7 blks mt h i (j + k) (I8 s) (I8 t) = true
 | [], j, e, k, t, hk => by simp at hk
 | u :: r, j, e, k, t, hk => by
   simp only [cx5, Bool.and_eq_true] at e
   cases k with
   | zero => simp only [List.getElem?_cons_zero, Option.some.injEq] at hk; subst hk; exact e.1
   | succ k =>
     simp only [List.getElem?_cons_succ] at hk
     rw [show j + (k + 1) = j + 1 + k by omega]; exact bG4 e.2 k t hk
theorem b56 {blks : List Blk} {mt : Nat} : ∀ {ss : List BSrc} {i : Nat}, seps blks mt h ss i = true → ∀ a b s t, a < b → ss[a]? = some s → ss[b]? = some t → cq7 blks mt h (i + a) (i + b) (I8 s) (I8 t) = true
 | [], i, e, a, b, s, t, hab, ha, hb => by simp at ha
 | u :: r, i, e, a, b, s, t, hab, ha, hb => by
   simp only [seps, Bool.and_eq_true] at e
   obtain ⟨b, rfl⟩ : ∃ b', b = b' + 1 := ⟨b - 1, by omega⟩
   simp only [List.getElem?_cons_succ] at hb
   cases a with
   | zero =>
     simp only [List.getElem?_cons_zero, Option.some.injEq] at ha; subst ha
     have := bG4 e.1 b t hb
     rw [Nat.add_zero, show i + (b + 1) = i + 1 + b by omega]; exact this
   | succ a =>
     simp only [List.getElem?_cons_succ] at ha
     have := b56 e.2 a b s t (by omega) ha hb
     rw [show i + (a + 1) = i + 1 + a by omega, show i + (b + 1) = i + 1 + b by omega]; exact this
theorem a74 {b : Nat} : ∀ {l : List AV} {vs : List Value}, aC9 b l = true → VRs β ω l vs → β b ≠ none
 | [], vs, e, r => by cases e
 | x :: l, vs, e, ⟨v, vr, _, r1, r2⟩ => by
   simp only [aC9, Bool.or_eq_true] at e
   rcases e with e | e
   · split at e
     · obtain rfl := j0.1 e
       obtain ⟨L, hL, _⟩ := r1
       rw [hL]; simp
     · cases e
   · exact a74 e r2
theorem bX5 (r : HR β ω K w0 h w) {b c : Nat} (hc : β c ≠ none) (e : cd8 h b c = true) : β b ≠ none := by
 unfold cd8 at e
 split at e
 · rename_i hg
   cases hL : β c with
   | none => exact absurd hL hc
   | some L =>
     obtain ⟨C, lo, hi, vs, _, _, _, _, q5, _⟩ := r.cells hg hL
     exact a74 e q5
 · cases e
theorem bf9 (r : HR β ω K w0 h w) {us : List Value} (ra : VRs β ω args us) {b : Nat} : ∀ {l : List BSrc}, bW5 args h b l = true → β b ≠ none
 | [], e => by cases e
 | s :: l, e => by
   simp only [bW5, Bool.or_eq_true] at e
   rcases e with e | e
   · split at e
     · obtain ⟨e1, e2⟩ := g9 e
       exact bX5 r (a74 e1 ra) e2
     · cases e
   · exact bf9 r ra e
theorem ai5 (r : HR β ω K w0 h w) {us : List Value} (ra : VRs β ω args us) {all : List BSrc} {post : List (Option Blk)} : ∀ {ss : List BSrc} {i : Nat}, bG1 mt args h all post ss i = true → ∀ k s, ss[k]? = some s → mt ≤ i + k → ∃ b, s = .whole b ∧ h.wm ≤ b ∧ b < h.next ∧ (β b ≠ none ∨ post[i + k - mt]? = some none ∨ ∃ e sig l, h.get b = some (.arr e sig l))
 | [], i, e, k, s, hk, hm => by simp at hk
 | u :: ss, i, e, k, s, hk, hm => by
   simp only [bG1, Bool.and_eq_true] at e
   cases k with
   | zero =>
     simp only [List.getElem?_cons_zero, Option.some.injEq] at hk; subst hk
     have e := e.1
     rw [Bool.or_eq_true] at e
     rcases e with e | e
     · rw [k8] at e; omega
     · split at e
       · obtain ⟨e, e3⟩ := g9 e
         obtain ⟨e1, e2⟩ := g9 e
         rw [j2] at e1
         rw [k8] at e2
         refine ⟨_, rfl, e1, e2, ?_⟩
         rw [Bool.or_eq_true, Bool.or_eq_true, Bool.or_eq_true] at e3
         rcases e3 with ((e3 | e3) | e3) | e3
         · right; left
           unfold bG0 at e3
           split at e3
           · rename_i hx; exact hx
           · cases e3
         · exact .inl (a74 e3 ra)
         · exact .inl (bf9 r ra e3)
         · right; right
           unfold cq6 at e3
           split at e3
           · rename_i hx; exact ⟨_, _, _, hx⟩
           · cases e3
       · cases e
   | succ k =>
     simp only [List.getElem?_cons_succ] at hk
     have := ai5 r ra e.2 k s hk (by omega)
     rw [show i + (k + 1) = i + 1 + k by omega]; exact this
end
structure Bound (c : FC) (nv : Nat) (args : List AV) (h : Heap) (b : Binding) : Prop where
 len : b.es.length = nv
 slen : b.src.length = c.blks.length
 argv : bO9 b.src b.es c.blks c.args args = true
 seps : seps c.blks c.mt h b.src 0 = true
 mutb : bG1 c.mt args h b.src c.post b.src 0 = true
 post : aq9 b.src c.mt c.post c.post c.mt = true
 out : (K8 c.out).all (clA b.src c.mt c.post) = true
 blks : cq5 b.src b.es c.blks h c.blks b.src = some b.nd
theorem W9 {α : Type} {l : List (Nat × α)} : ∀ {n i : Nat} {r : List α}, bo8 l n i = some r → r.length = n
 | 0, i, r, e => by simp only [bo8, Option.some.injEq] at e; subst e; rfl
 | n + 1, i, r, e => by
   simp only [bo8] at e
   split at e
   · rename_i x q h1 h2
     simp only [Option.some.injEq] at e; subst e
     simp [W9 h2]
   · cases e
theorem bX6 {c : FC} {nv : Nat} {args : List AV} {b : Binding} (e : b51 c nv args h = some b) : Bound c nv args h b := by
 unfold b51 at e
 simp only at e
 split at e
 · rename_i src es h1 h2
   replace e := a8 e
   obtain ⟨hc, e⟩ := e
   obtain ⟨hc, c5⟩ := g9 hc
   obtain ⟨hc, c4⟩ := g9 hc
   obtain ⟨hc, c3⟩ := g9 hc
   obtain ⟨c1, c2⟩ := g9 hc
   split at e
   · rename_i nd hnd
     simp only [Option.some.injEq] at e; subst e
     exact ⟨W9 h2, W9 h1, c1, c2, c3, c4, c5, hnd⟩
   · cases e
 · cases e
structure FcOk (c : FC) (nv : Nat) : Prop where
 args : br5 nv c.blks.length c.args = true
 blks : ∀ (i : Nat) (x : Blk), c.blks[i]? = some x → okB nv c.blks.length (some x) = true ∧ ((∃ e fz cs, x = .cells e fz cs) ∨ ∃ e sig l, x = .arr e sig l)
 need : u9 nv c.need = true
 outs : M8 nv c.outs = true
 mt : c.mt ≤ c.blks.length
 lt : c.blks.length < 60000
theorem b57 {c : FC} {nv : Nat} (e : bG2 c nv = true) : FcOk c nv := by
 unfold bG2 at e
 obtain ⟨e, e7⟩ := g9 e
 obtain ⟨e, e6⟩ := g9 e
 obtain ⟨e, e5⟩ := g9 e
 obtain ⟨e, e4⟩ := g9 e
 obtain ⟨e, e3⟩ := g9 e
 obtain ⟨e1, e2⟩ := g9 e
 rw [List.all_eq_true] at e2 e7
 refine ⟨e1, fun i x hx => ?_, e3, e4, j2.1 e5, k8.1 e6⟩
 have hm := List.mem_of_getElem? hx
 refine ⟨e2 x hm, ?_⟩
 have := e7 x hm
 split at this
 · exact .inl ⟨_, _, _, rfl⟩
 · exact .inr ⟨_, _, _, rfl⟩
 · cases this
theorem bX7 {c : FC} {nv : Nat} {args : List AV} {b : Binding} {us : List Value} (r : HR β ω K w0 h w) (ra : VRs β ω args us) (fo : FcOk c nv) (bo : Bound c nv args h b) (hd : dB ω b.nd = true) :
 VRs (bnd β ω b.src c.blks) (ω.upd 0 (k5 ω b.es)) c.args us ∧ HR (bnd β ω b.src c.blks) (ω.upd 0 (k5 ω b.es)) (Kfc β b.src c.mt w) w c.heap w := by
 obtain ⟨hn, hwm, F3⟩ := c.heap_ok fo.lt
 obtain ⟨hl, hB⟩ := ar3 bo.blks hd
 have hw : ∀ i x, b.src[i]? = some (.whole x) → bnd β ω b.src c.blks i = β x := fun i x hx => by unfold bnd; rw [hx]
 have hfix : ∀ e, (ω.upd 0 (k5 ω b.es)).fix e = ω.fix e := fun _ => rfl
 have view : ∀ i x e sig q, b.src[i]? = some (.view x) → c.blks[i]? = some (.arr e sig q) → ∃ nd l, bo7 sig.length e sig x h = some (nd, l) ∧ dB ω nd = true ∧ den (ω.upd 0 (k5 ω b.es)) q = den ω l ∧ bnd β ω b.src c.blks i = K2 β ω sig.length x := by
  intro i x e sig q hx hp
  obtain ⟨nd, h1, h2⟩ := hB i _ _ hp hx
  simp only [ckB] at h1
  split at h1
  · rename_i nd' l hv
    obtain ⟨h3, h1⟩ := a8 h1
    simp only [Option.some.injEq] at h1; subst h1
    have hf := (fo.blks i _ hp).1
    simp only [okB] at hf
    refine ⟨_, l, hv, h2, b55 rfl (by rw [bo.len]; exact hf) h3, ?_⟩
    unfold bnd; rw [hx, hp]; rfl
  · cases h1
 have hv : ∀ i s p q x v, aq7 p q = true → bF9 c.blks i s q = true → b.src[i]? = some (.view x) → VR β ω x v → VR (bnd β ω b.src c.blks) (ω.upd 0 (k5 ω b.es)) (.osl i p q s) v := by
  intro i s p q x v hpq hvb hx hr
  unfold bF9 at hvb
  split at hvb
  · rename_i e sig l hp
    obtain ⟨h1, h2⟩ := g9 hvb
    obtain rfl := j0.1 h1
    have h2 := SX.beq_eq _ _ h2
    subst h2
    obtain ⟨nd, lx, g1, g2, g3, g4⟩ := view i x e sig l hx hp
    have vs := (bf8 r g1 g2).sl hr
    have hlen : dI (ω.upd 0 (k5 ω b.es)) (.op .llen [l]) = ((dL ω lx).length : Int) := by
     rw [v7]; exact congrArg (fun z : Val => (z.toL.length : Int)) g3
    have hp0 : dI (ω.upd 0 (k5 ω b.es)) p = 0 := by
     unfold aq7 at hpq
     split at hpq
     · rfl
     · cases hpq
    simp only [VR]
    rw [hlen, hp0, g4]
    rcases vs with ⟨L, cap, a, k1, k2, k3, k4⟩ | ⟨k1, a, cap, k2, k3⟩
    · exact .inl ⟨L, cap, a, k1, by simpa using k2, by simpa using k3, fun _ => by simpa using k4⟩
    · exact .inr ⟨a, cap, k2, k3, by rw [k1]; rfl⟩
  · cases hvb
 have hargs := ac7 (nb := c.blks.length) (βc := bnd β ω b.src c.blks) rfl hw hv c.args args us (by rw [bo.len]; exact fo.args) bo.argv ra
 have base : ∀ i L, bnd β ω b.src c.blks i = some L → ∃ s y M, b.src[i]? = some s ∧ I8 s = some y ∧ β y = some M ∧ M.blk = L.blk := by
  intro i L e
  unfold bnd at e
  split at e
  · rename_i y hy; exact ⟨_, y, L, hy, rfl, e, rfl⟩
  · rename_i x hx
    obtain ⟨y, M, h1, h2, h3⟩ := b53 e
    exact ⟨_, y, M, hx, h1, h2, h3⟩
  · cases e
 have liveB : ∀ (i : Nat) (s : BSrc) (p : Blk) (y : Nat), b.src[i]? = some s → c.blks[i]? = some p → I8 s = some y → ∃ z, h.get y = some z := by
  intro i s p y hs hp hy
  obtain ⟨nd, h1, _⟩ := hB i p s hp hs
  cases s with
  | whole x =>
    simp only [I8, Option.some.injEq] at hy; subst hy
    simp only [ckB] at h1
    split at h1
    · rename_i hg; exact ⟨_, hg⟩
    · rename_i hg; exact ⟨_, hg⟩
    · cases h1
  | view x =>
    simp only [ckB] at h1
    split at h1
    · split at h1
      · rename_i hv; exact bp2 hv hy
      · cases h1
    · cases h1
 refine ⟨hargs, ⟨fun i x L hg hL => ?_, fun i j x y L M hgi hgj hL hM hne hwk => ?_, fun i hi => ?_, fun i hi => ?_, fun i L hL => ?_, fun k hk => hk.1, fun k _ => rfl, fun i x L hg hwi hL hk => ?_, Nat.le_refl _, rfl, rfl, rfl, Nat.le_refl _⟩⟩
 · rw [F3] at hg
   have hs : ∃ s, b.src[i]? = some s := by
    have : i < b.src.length := by rw [bo.slen]; exact (List.getElem?_eq_some_iff.1 hg).1
    exact ⟨_, List.getElem?_eq_getElem this⟩
   obtain ⟨s, hs⟩ := hs
   obtain ⟨nd, h1, h2⟩ := hB i x s hg hs
   have hf := (fo.blks i x hg).1
   cases s with
   | whole y =>
     simp only [ckB] at h1
     rw [hw i y hs] at hL
     split at h1
     · rename_i e fz ps e' fz' xs hgy
       obtain ⟨h3, _⟩ := a8 h1
       obtain ⟨h3, h6⟩ := g9 h3
       obtain ⟨h3, h5⟩ := g9 h3
       obtain ⟨h3, h4⟩ := g9 h3
       obtain rfl := j0.1 h3
       obtain rfl := j0.1 h4
       obtain ⟨C, lo, hi, vs, q1, q2, q3, q4, q5, q6, q7, q8⟩ := r.blk y _ L hgy hL
       simp only [okB] at hf
       have hps := ac7 (nb := c.blks.length) (βc := bnd β ω b.src c.blks) rfl hw hv ps xs vs (by rw [bo.len]; exact hf) h6 q5
       have hll : ps.length = xs.length := by rw [← hps.length, ← q5.length]
       exact ⟨C, lo, hi, vs, q1, q2, by rw [hll]; exact q3, h5, hps, by rw [hll]; exact q6, q7, q8⟩
     · rename_i e sig q e' sig' l hgy
       obtain ⟨h3, _⟩ := a8 h1
       obtain ⟨h3, h5⟩ := g9 h3
       obtain ⟨h3, h4⟩ := g9 h3
       obtain rfl := j0.1 h3
       obtain rfl := C6 h4
       have hbr := r.blk y _ L hgy hL
       simp only [okB] at hf
       have hden : dL (ω.upd 0 (k5 ω b.es)) q = dL ω l := congrArg Val.toL (b55 rfl (by rw [bo.len]; exact hf) h5)
       simp only [BR] at hbr ⊢
       rw [hden]; exact hbr
     · cases h1
   | view y =>
     have : ∃ e sig q, x = .arr e sig q := by
      simp only [ckB] at h1
      split at h1
      · exact ⟨_, _, _, rfl⟩
      · cases h1
     obtain ⟨e, sig, q, rfl⟩ := this
     obtain ⟨nd', lx, g1, g2, g3, g4⟩ := view i y e sig q hs hg
     rw [g4] at hL
     have hbr := cr0 r g1 g2 L hL
     have hden : dL (ω.upd 0 (k5 ω b.es)) q = dL ω lx := congrArg Val.toL g3
     simp only [BR] at hbr ⊢
     rw [hden]; exact hbr
 · rw [F3] at hgi hgj
   obtain ⟨s, y1, M1, s1, s2, s3, s4⟩ := base i L hL
   obtain ⟨t, y2, M2, t1, t2, t3, t4⟩ := base j M hM
   obtain ⟨z1, hz1⟩ := liveB i s x y1 s1 hgi s2
   obtain ⟨z2, hz2⟩ := liveB j t y y2 t1 hgj t2
   have main : ∀ (i j : Nat) (s t : BSrc) (x y : Blk) (y1 y2 : Nat) (M1 M2 : Loc) (z1 z2 : Blk), cq7 c.blks c.mt h i j (I8 s) (I8 t) = true → c.blks[i]? = some x → c.blks[j]? = some y → (c.heap.wm ≤ i ∨ c.heap.wm ≤ j ∨ x.isArr = false ∨ y.isArr = false) →
    I8 s = some y1 → I8 t = some y2 → β y1 = some M1 → β y2 = some M2 → h.get y1 = some z1 → h.get y2 = some z2 → M1.blk ≠ M2.blk := by
    intro i j s t x y y1 y2 M1 M2 z1 z2 hsep hx hy hk e1 e2 b1 b2 g1 g2
    unfold cq7 at hsep
    rw [Bool.or_eq_true] at hsep
    rcases hsep with hsep | hsep
    · exfalso
      obtain ⟨hsep, a4⟩ := g9 hsep
      obtain ⟨hsep, a3⟩ := g9 hsep
      obtain ⟨a1, a2⟩ := g9 hsep
      rw [k8] at a1 a2
      rw [hwm] at hk
      rw [hx] at a3
      rw [hy] at a4
      rcases hk with q | q | q | q
      · omega
      · omega
      · cases x <;> simp only [Blk.isArr, reduceCtorEq] at q <;> cases a3
      · cases y <;> simp only [Blk.isArr, reduceCtorEq] at q <;> cases a4
    · obtain ⟨a1, a2⟩ := g9 hsep
      rw [e1, e2] at a1 a2
      have hne : y1 ≠ y2 := by
       rintro rfl
       simp [neB] at a1
      refine r.sep y1 y2 z1 z2 M1 M2 g1 g2 b1 b2 hne ?_
      simp only [geB, cC8, Bool.or_eq_true, Bool.not_eq_true', j2] at a2
      rw [g1, g2] at a2
      rcases a2 with ((q | q) | q) | q
      · exact .inl q
      · exact .inr (.inl q)
      · refine .inr (.inr (.inl ?_)); cases z1 <;> first | rfl | cases q
      · refine .inr (.inr (.inr ?_)); cases z2 <;> first | rfl | cases q
   rw [← s4, ← t4]
   rcases Nat.lt_or_gt_of_ne hne with hlt | hlt
   · have := b56 bo.seps i j s t hlt s1 t1
     rw [Nat.zero_add, Nat.zero_add] at this
     exact main i j s t x y y1 y2 M1 M2 z1 z2 this hgi hgj hwk s2 t2 s3 t3 hz1 hz2
   · have := b56 bo.seps j i t s hlt t1 s1
     rw [Nat.zero_add, Nat.zero_add] at this
     refine (main j i t s y x y2 y1 M2 M1 z2 z1 this hgj hgi ?_ t2 s2 t3 s3 hz2 hz1).symm
     rcases hwk with q | q | q | q
     · exact .inr (.inl q)
     · exact .inl q
     · exact .inr (.inr (.inr q))
     · exact .inr (.inr (.inl q))
 · unfold bnd
   rw [List.getElem?_eq_none (by rw [bo.slen, ← hn]; exact hi)]
 · rw [F3, List.getElem?_eq_none (by rw [← hn]; exact hi)]
 · obtain ⟨s, y, M, _, _, h3, h4⟩ := base i L hL
   rw [← h4]; exact r.lt y M h3
 · rw [hwm] at hwi
   rw [F3] at hg
   have hs : ∃ s, b.src[i]? = some s := by
    have : i < b.src.length := by rw [bo.slen]; exact (List.getElem?_eq_some_iff.1 hg).1
    exact ⟨_, List.getElem?_eq_getElem this⟩
   obtain ⟨s, hs⟩ := hs
   obtain ⟨y, rfl, _, _, _⟩ := ai5 r ra bo.mutb i s hs (by omega)
   rw [hw i y hs] at hL
   exact hk.2 i y L hwi hs hL rfl
end Go.Ev
