/- The evaluator: more operations that compute. -/
import Derived.Test.YtnfimpnakkngbadGreatDoorE4
set_option linter.unusedVariables false
set_option linter.unusedSimpArgs false
namespace Go.Ev
open Go

variable {P : Program} {β : Bij} {ω : Opq} {K : Nat → Prop} {w0 w : World} {h : Heap}

def clash : Value → Value → Bool
  | .int _ _, .int _ _ => true
  | .float _ _, .float _ _ => true
  | .complex _ _ _, .complex _ _ _ => true
  | .string _, .string _ => true
  | _, _ => false
theorem binOp_eql (t : TypeId) (x y : Value) (hc : clash x y = false) : binOp .eql t x y = (do pure (.bool (← Op.equal t x y))) := by
  cases x <;> cases y <;> first | rfl | (simp [clash] at hc)
theorem binOp_neq (t : TypeId) (x y : Value) (hc : clash x y = false) : binOp .neq t x y = (do pure (.bool (!(← Op.equal t x y)))) := by
  cases x <;> cases y <;> first | rfl | (simp [clash] at hc)

theorem eqE_clash {n : Nat} {t : TypeId} {a b : AV} {x y : Value} {r : Bool} (h : eqE P n t a b = some r) (rx : VR β ω a x) (ry : VR β ω b y) (ha : ∀ k n, a ≠ .int k n) (hs : ∀ l, a ≠ .str l) :
    clash x y = false ∨ (r = true ∧ ∃ k n, x = .int k n ∧ y = .int k n) ∨ (r = true ∧ ∃ s, x = .string s ∧ y = .string s) := by
  cases n with
  | zero => cases h
  | succ n =>
    have h' : eqStep P (eqE P n) t a b = some r := h
    unfold eqStep at h'
    split at h'
    · split at h'
      · simp only [VR] at rx; subst rx; left; cases y <;> rfl
      · cases h'
    · split at h'
      · exact absurd rfl (ha _ _)
      · rename_i k m k' m'
        simp only [VR] at rx ry; subst rx; subst ry
        split at h'
        · rename_i e; subst e
          cases hc : SX.beq m m' with
          | true => rw [hc] at h'; obtain rfl := SX.beq_eq _ _ hc; simp at h'; subst h'; exact .inr (.inl ⟨rfl, _, _, rfl, rfl⟩)
          | false => rw [hc] at h'; simp at h'
        · cases h'
      · cases h'
    · split at h'
      · exact absurd rfl (hs _)
      · rename_i m m'
        simp only [VR] at rx ry; subst rx; subst ry
        cases hc : SX.beq m m' with
        | true => rw [hc] at h'; obtain rfl := SX.beq_eq _ _ hc; simp at h'; subst h'; exact .inr (.inr ⟨rfl, _, rfl, rfl⟩)
        | false => rw [hc] at h'; simp at h'
      · cases h'
    · left
      split at h'
      · simp only [VR] at rx; subst rx; rfl
      · simp only [VR] at rx; subst rx; rfl
      · simp only [VR] at rx; obtain ⟨L, _, rfl⟩ := rx; rfl
      · simp only [VR] at rx; obtain ⟨L, _, rfl⟩ := rx; rfl
      · cases h'
    · left
      split at h'
      · simp only [VR] at rx; subst rx; rfl
      · simp only [VR] at rx; subst rx; rfl
      · simp only [VR] at rx; obtain ⟨L, rfl, _⟩ := rx; rfl
      · simp only [VR] at rx; obtain ⟨L, rfl, _⟩ := rx; rfl
      · cases h'
    · left
      split at h'
      · simp only [VR] at rx; subst rx; rfl
      · obtain ⟨_, _, _, rfl, _⟩ := isNilS_ok h' rx; rfl
      · cases h'
    · left
      split at h'
      · simp only [VR] at rx; subst rx; rfl
      · obtain ⟨_, rfl, _⟩ := isNilM_ok h' rx; rfl
      · cases h'
    · left
      split at h'
      · simp only [VR] at rx; subst rx; rfl
      · rcases isNilF_ok h' rx with ⟨rfl, _⟩ | ⟨⟨_, _, _, rfl⟩, _⟩ <;> rfl
      · cases h'
    · left
      split at h'
      · simp only [VR] at rx; obtain ⟨L, rfl, _⟩ := rx; rfl
      · cases h'
    · left
      split at h'
      · simp only [VR] at rx; obtain ⟨L, rfl, _⟩ := rx; rfl
      · cases h'
    · cases h'

theorem binX_ok {op : BinOp} {t : TypeId} {x y a : AV} {vx vy : Value} (h : binX P op t x y = some a) (rx : VR β ω x vx) (ry : VR β ω y vy) (ha : ∀ k n, x ≠ .int k n) (hs : ∀ l, x ≠ .str l) :
    ∃ v, VR β ω a v ∧ ∀ w, (binOp op t vx vy).run P w = .ok v w := by
  cases op <;> simp only [binX, reduceCtorEq] at h
  · simp only [Option.map_eq_some_iff] at h
    obtain ⟨r, hr, rfl⟩ := h
    refine ⟨_, rfl, fun w => ?_⟩
    rcases eqE_clash hr rx ry ha hs with hc | ⟨rfl, k, n, rfl, rfl⟩ | ⟨rfl, s, rfl, rfl⟩
    · rw [binOp_eql _ _ _ hc]
      simp [Op.equal, Op.maxDepth, eqE_ok 10000 hr rx ry]
    · simp [binOp, Op.intCmp]
    · simp [binOp, Op.stringOp]
  · simp only [Option.map_eq_some_iff] at h
    obtain ⟨r, hr, rfl⟩ := h
    refine ⟨_, rfl, fun w => ?_⟩
    rcases eqE_clash hr rx ry ha hs with hc | ⟨rfl, k, n, rfl, rfl⟩ | ⟨rfl, s, rfl, rfl⟩
    · rw [binOp_neq _ _ _ hc]
      simp [Op.equal, Op.maxDepth, eqE_ok 10000 hr rx ry]
    · simp [binOp, Op.intCmp]
    · simp [binOp, Op.stringOp]

theorem binL_ok {op : BinOp} {k : IntKind} {m : Int} {n : Nat} {a : AV} {v : Value} (t : TypeId) (h : binL op k m n = some a) (rv : VR β ω (.atl n) v) :
    ∃ u, VR β ω a u ∧ ∀ w, (binOp op t (.int k m) v).run P w = .ok u w := by
  unfold binL at h
  split at h
  · cases hc : iltb (.ofNat n) m with
    | true => rw [hc] at h; cases h
    | false =>
      rw [hc] at h
      simp only [cond_false, Option.some.injEq] at h; subst h
      obtain ⟨q, rfl, hq⟩ := rv
      have h1 : iltb q m = false := by
        rw [iltb_eq, decide_eq_false_iff_not] at hc ⊢
        have : (Int.ofNat n : Int) = (n : Int) := rfl
        omega
      have h2 : arith .gtr .i64 m q = some (.bool false) := by simp only [arith, h1]
      exact arith_ok t h2 ⟨by decide, by decide⟩
  · cases h
theorem binE_ok {op : BinOp} {t : TypeId} {x y a : AV} {vx vy : Value} (h : binE P op t x y = some a) (rx : VR β ω x vx) (ry : VR β ω y vy) :
    ∃ v, VR β ω a v ∧ ∀ w, (binOp op t vx vy).run P w = .ok v w := by
  unfold binE at h
  split at h
  · rename_i k m
    split at h
    · rename_i k' m'
      simp only [VR] at rx ry; subst rx; subst ry
      unfold binI at h
      split at h
      · obtain ⟨v, r, hv⟩ := shiftE_ok (P := P) (β := β) (ω := ω) (k' := k') h
        exact ⟨v, r, fun w => by rw [← hv w]; rfl⟩
      · obtain ⟨v, r, hv⟩ := shiftE_ok (P := P) (β := β) (ω := ω) (k' := k') h
        exact ⟨v, r, fun w => by rw [← hv w]; rfl⟩
      · rename_i n1 n2
        split at h
        · rename_i e; subst e
          exact arith_ok t h ⟨n1, n2⟩
        · cases h
    · simp only [VR] at rx; subst rx
      exact binL_ok t h ry
    · cases h
  · split at h
    · simp only [VR] at rx ry; subst rx; subst ry
      exact strOp_ok t h
    · cases h
  · exact binX_ok h rx ry (fun k n e => by subst e; simp_all) (fun l e => by subst e; simp_all)

theorem VR_nilIface {b : AV} (h : VR β ω b .nilIface) : b = .nili ∨ (∃ n, b = .opq n) ∨ b = .any := by
  cases b <;> simp [VR] at h ⊢
theorem VR_agg {b : AV} {cs : Array Value} (h : VR β ω b (.agg cs)) : (∃ l, b = .agg l) ∨ (∃ n, b = .opq n) ∨ b = .any := by
  cases b <;> simp [VR] at h ⊢

/-- The two values that the model's guard looks at are of no kind that it holds up. -/
def free2 (va vb : Value) : Bool :=
  match va, vb with
  | .nilIface, .nilIface => false
  | .agg _, .agg _ => false
  | _, _ => true
theorem eqGuard_free (op : BinOp) (t : TypeId) (x y : Operand) {va vb : Value} (h : free2 va vb = true) (w : World) : (eqGuard op t x y va vb).run P w = .ok () w := by
  unfold eqGuard
  cases op <;> first
    | rfl
    | (cases va <;> cases vb <;> first | rfl | (simp [free2] at h))
theorem eqGuard_agg (op : BinOp) (t : TypeId) (x y : Operand) {ca : Array Value} {vb : Value} (h : P.eqGuardType P.depth t = false) (w : World) : (eqGuard op t x y (.agg ca) vb).run P w = .ok () w := by
  unfold eqGuard
  cases op <;> first
    | rfl
    | (cases vb <;> first | rfl | simp [h])
theorem eqGuard_const (op : BinOp) (t : TypeId) (x y : Operand) {vb : Value} (h : isConst x = true ∨ isConst y = true) (w : World) : (eqGuard op t x y .nilIface vb).run P w = .ok () w := by
  unfold eqGuard
  rcases h with h | h
  · cases x <;> simp [isConst] at h
    cases op <;> first
      | rfl
      | (cases vb <;> first | rfl | simp)
  · cases y <;> simp [isConst] at h
    cases op <;> first
      | rfl
      | (cases vb <;> first | rfl | (cases x <;> simp))

theorem guardE_ok {op : BinOp} {t : TypeId} {x y : Operand} {a b : AV} {va vb : Value} (h : guardE P t x y a b = true) (ra : VR β ω a va) (rb : VR β ω b vb) (w : World) :
    (eqGuard op t x y va vb).run P w = .ok () w := by
  unfold guardE at h
  split at h
  · simp only [VR] at ra; subst ra
    by_cases hx : isConst x = true
    · exact eqGuard_const _ _ _ _ (.inl hx) w
    · by_cases hy : isConst y = true
      · exact eqGuard_const _ _ _ _ (.inr hy) w
      · refine eqGuard_free _ _ _ _ ?_ w
        cases vb <;> first | rfl | skip
        rcases VR_nilIface rb with rfl | ⟨n, rfl⟩ | rfl <;> simp_all
  · cases h
  · simp only [VR] at ra; obtain ⟨xs, rfl, _⟩ := ra
    exact eqGuard_agg _ _ _ _ (by simpa using h) w
  · cases h
  · rename_i n1 n4 n2 n3
    refine eqGuard_free _ _ _ _ ?_ w
    cases va <;> first | rfl | skip
    · rcases VR_nilIface ra with rfl | ⟨n, rfl⟩ | rfl
      · exact absurd rfl n1
      · exact absurd rfl (n3 _)
      · exact absurd rfl n4
    · rcases VR_agg ra with ⟨l, rfl⟩ | ⟨n, rfl⟩ | rfl
      · exact absurd rfl (n2 _)
      · exact absurd rfl (n3 _)
      · exact absurd rfl n4

theorem guardOk_ok {op : BinOp} {t : TypeId} {x y : Operand} {a b : AV} {va vb : Value} (h : guardOk P op t x y a b = true) (ra : VR β ω a va) (rb : VR β ω b vb) (w : World) :
    (eqGuard op t x y va vb).run P w = .ok () w := by
  unfold guardOk at h
  split at h
  · exact guardE_ok h ra rb w
  · exact guardE_ok h ra rb w
  · rename_i n1 n2
    cases op <;> first | (exact absurd rfl n1) | (exact absurd rfl n2) | rfl

theorem unE_ok {op : UnOp} {x a : AV} {vx : Value} (h : unE op x = some a) (rx : VR β ω x vx) : ∃ v, VR β ω a v ∧ ∀ w, (Op.unary op vx).run P w = .ok v w := by
  unfold unE at h
  split at h
  · simp only [VR] at rx; subst rx
    simp only [Option.some.injEq] at h; subst h
    exact ⟨_, rfl, fun w => by simp [Op.unary, Op.intArith, wrapE_eq]⟩
  · simp only [VR] at rx; subst rx
    simp only [arith, Option.some.injEq] at h; subst h
    exact ⟨_, rfl, fun w => by simp [Op.unary, Op.intBits, wrapE_eq]⟩
  · simp only [VR] at rx; subst rx
    simp only [Option.some.injEq] at h; subst h
    exact ⟨_, rfl, fun w => by simp [Op.unary]⟩
  · cases h

theorem add_mk (b o n : Nat) : (⟨b, o, none⟩ : Addr).add n = ⟨b, o + n, none⟩ := by
  unfold Addr.add; split
  · rename_i e; subst e; rfl
  · rfl

theorem fieldAddrE_ok {t : TypeId} {x a : AV} {f : Nat} {vx : Value} (h : fieldAddrE P t x f = some a) (rx : VR β ω x vx) : ∃ v, VR β ω a v ∧ ∀ w, (Instr.fieldAt t vx f).run P w = .ok v w := by
  unfold fieldAddrE at h
  split at h
  · rename_i fields b o ht
    simp only [VR] at rx; obtain ⟨L, hL, rfl⟩ := rx
    split at h
    · rename_i fd hf
      split at h
      · rename_i n hs
        simp only [Option.some.injEq] at h; subst h
        refine ⟨_, ⟨L, hL, rfl⟩, fun w => ?_⟩
        simp only [Instr.fieldAt, Sem.run_bind, run_under ht, Result.andThen_ok, hf, Instr.sureAddr, Sem.run_pure, fieldPlace, run_szOf hs]
        simp [add_mk, Nat.add_assoc]
      · cases h
    · cases h
  · cases h

theorem fieldE_ok {t : TypeId} {x a : AV} {f : Nat} {vx : Value} (h : fieldE P t x f = some a) (rx : VR β ω x vx) : ∃ v, VR β ω a v ∧ ∀ w, (Instr.field t vx f).run P w = .ok v w := by
  unfold fieldE at h
  split at h
  · rename_i fields cs ht
    simp only [VR] at rx; obtain ⟨xs, rfl, px⟩ := rx
    simp only [Option.bind_eq_some_iff] at h
    obtain ⟨fd, hf, hp⟩ := h
    obtain ⟨v, rv, hv⟩ := partE_ok hp px
    refine ⟨v, rv, fun w => ?_⟩
    simp only [Instr.field, Sem.run_bind, run_under ht, Result.andThen_ok, hf, asAgg, Sem.run_pure, hv]
  · cases h

theorem indexAddrE_ok {t : TypeId} {x i a : AV} {vx vi : Value} (h : indexAddrE P t x i = some a) (rx : VR β ω x vx) (ri : VR β ω i vi) : ∃ v, VR β ω a v ∧ ∀ w, (Instr.indexAt t vx vi).run P w = .ok v w := by
  unfold indexAddrE at h
  split at h
  · rename_i k n
    simp only [VR] at ri; subst ri
    split at h
    · rename_i m len elem b o hn ht
      have hn' := natOf_eq hn; subst hn'
      simp only [VR] at rx; obtain ⟨L, hL, rfl⟩ := rx
      split at h
      · rename_i s hs
        by_cases hl : m < len
        · rw [blt_t hl] at h; simp only [cond_true, Option.some.injEq] at h; subst h
          refine ⟨_, ⟨L, hL, rfl⟩, fun w => ?_⟩
          have hc : (0 : Int) ≤ (m : Int) ∧ (m : Int) < (len : Int) := by omega
          simp only [Instr.indexAt, Sem.run_bind, asIntOf, Sem.run_pure, run_under ht, Result.andThen_ok, Instr.sureAddr, if_pos hc, run_szOf hs]
          simp [add_mk, Nat.add_assoc]
        · rw [blt_f hl] at h; simp at h
      · cases h
    · rename_i m elem b o len cap hn ht
      have hn' := natOf_eq hn; subst hn'
      simp only [VR] at rx; obtain ⟨L, hL, rfl⟩ := rx
      split at h
      · rename_i s hs
        by_cases hl : m < len
        · rw [blt_t hl] at h; simp only [cond_true, Option.some.injEq] at h; subst h
          refine ⟨_, ⟨L, hL, rfl⟩, fun w => ?_⟩
          have hc : (0 : Int) ≤ (m : Int) ∧ (m : Int) < (len : Int) := by omega
          simp only [Instr.indexAt, Sem.run_bind, asIntOf, Sem.run_pure, run_under ht, Result.andThen_ok, Instr.sureAddr, if_pos hc, run_szOf hs]
          simp [add_mk, Nat.add_assoc]
        · rw [blt_f hl] at h; simp at h
      · cases h
    · rename_i m elem b o len sz hn ht
      have hn' := natOf_eq hn; subst hn'
      simp only [VR] at rx; obtain ⟨L, cap, hL, _, rfl⟩ := rx
      split at h
      · rename_i s hs
        by_cases hl : m < len
        · rw [blt_t hl] at h; simp only [cond_true, Option.some.injEq] at h; subst h
          refine ⟨_, ⟨L, hL, rfl⟩, fun w => ?_⟩
          have hc : (0 : Int) ≤ (m : Int) ∧ (m : Int) < (len : Int) := by omega
          simp only [Instr.indexAt, Sem.run_bind, asIntOf, Sem.run_pure, run_under ht, Result.andThen_ok, Instr.sureAddr, if_pos hc, run_szOf hs]
          simp [add_mk, Nat.add_assoc]
        · rw [blt_f hl] at h; simp at h
      · cases h
    · cases h
  · cases h

theorem indexE_ok {t : TypeId} {x i a : AV} {vx vi : Value} (h : indexE P t x i = some a) (rx : VR β ω x vx) (ri : VR β ω i vi) : ∃ v, VR β ω a v ∧ ∀ w, (Instr.index t vx vi).run P w = .ok v w := by
  unfold indexE at h
  split at h
  · rename_i k n
    simp only [VR] at ri; subst ri
    split at h
    · rename_i m len elem cs hn ht
      have hn' := natOf_eq hn; subst hn'
      simp only [VR] at rx; obtain ⟨xs, rfl, px⟩ := rx
      split at h
      · rename_i s hs
        by_cases hl : m < len
        · rw [blt_t hl] at h; simp only [cond_true] at h
          obtain ⟨v, rv, hv⟩ := partE_ok h px
          refine ⟨v, rv, fun w => ?_⟩
          have hc : (0 : Int) ≤ (m : Int) ∧ (m : Int) < (len : Int) := by omega
          simp only [Instr.index, Sem.run_bind, asIntOf, Sem.run_pure, run_under ht, Result.andThen_ok, if_pos hc, run_szOf hs, Int.toNat_natCast, hv]
        · rw [blt_f hl] at h; simp at h
      · cases h
    · rename_i m s hn ht
      have hn' := natOf_eq hn; subst hn'
      simp only [VR] at rx; subst rx
      simp only [Option.map_eq_some_iff] at h
      obtain ⟨b, hb, rfl⟩ := h
      refine ⟨_, rfl, fun w => ?_⟩
      have hg : (ByteArray.mk s.toArray)[m]? = some b := by
        have hlt : m < s.length := by
          rcases Nat.lt_or_ge m s.length with h' | h'
          · exact h'
          · rw [List.getElem?_eq_none h'] at hb; cases hb
        rw [ByteArray.getElem?_lt' _ _ (by simpa [ByteArray.size] using hlt)]
        rw [List.getElem?_eq_getElem hlt] at hb
        simp only [Option.some.injEq] at hb
        simp only [Option.some.injEq]
        rw [← hb]
        show (ByteArray.mk s.toArray).get m _ = _
        simp [ByteArray.get]
      have hc : (0 : Int) ≤ (m : Int) := by omega
      simp only [Instr.index, Sem.run_bind, asIntOf, Sem.run_pure, run_under ht, Result.andThen_ok, if_pos hc, Int.toNat_natCast, hg]
    · cases h
  · cases h

theorem extractE_ok {i : Nat} {x a : AV} {vx : Value} (h : extractE i x = some a) (rx : VR β ω x vx) : ∃ v, VR β ω a v ∧ ∀ w, (Instr.extract vx i).run P w = .ok v w := by
  unfold extractE at h
  split at h
  · simp only [VR] at rx; obtain ⟨xs, rfl, px⟩ := rx
    obtain ⟨y, hy, ry⟩ := px.get i a h
    have hy' : xs[i]? = some y := by simpa using hy
    exact ⟨y, ry, fun w => by simp [Instr.extract, hy']⟩
  · cases h

end Go.Ev
