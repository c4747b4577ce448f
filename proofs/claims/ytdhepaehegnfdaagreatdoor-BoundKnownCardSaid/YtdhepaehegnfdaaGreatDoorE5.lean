import Derived.Test.YtdhepaehegnfdaaGreatDoorE4
set_option linter.unusedVariables false
set_option linter.unusedSimpArgs false
namespace Go.Ev
open Go
variable {P : Program} {β : Bij} {ω : Opq} {K : Nat → Prop} {w0 w : World} {h : Heap}
def bx9 : Value → Value → Bool
 | .int _ _, .int _ _ => true
 | .float _ _, .float _ _ => true
 | .complex _ _ _, .complex _ _ _ => true
 | .string _, .string _ => true
 | _, _ => false
theorem am2 (t : TypeId) (x y : Value) (hc : bx9 x y = false) : binOp .eql t x y = (do pure (.bool (← Op.equal t x y))) := by
 cases x <;> cases y <;> first | rfl | (simp [bx9] at hc)
theorem am3 (t : TypeId) (x y : Value) (hc : bx9 x y = false) : binOp .neq t x y = (do pure (.bool (!(← Op.equal t x y)))) := by
 cases x <;> cases y <;> first | rfl | (simp [bx9] at hc)
theorem aQ9 {n : Nat} {t : TypeId} {a b : AV} {x y : Value} {r : Bool} (h : eqE P n t a b = some r) (rx : VR β ω a x) (ry : VR β ω b y) (ha : ∀ k n, a ≠ .int k n) (hs : ∀ l, a ≠ .str l) :
 bx9 x y = false ∨ (r = true ∧ ∃ k n, x = .int k n ∧ y = .int k n) ∨ (r = true ∧ ∃ s, x = .string s ∧ y = .string s) := by
 cases n with
 | zero => cases h
 | succ n =>
   have h' : K0 P (eqE P n) t a b = some r := h
   unfold K0 at h'
   split at h'
   · split at h'
     · simp only [VR] at rx; subst rx; left; cases y <;> rfl
     · cases h'
   · split at h'
     · exact absurd rfl (ha _ _)
     · rename_i k m k' m'
       simp only [VR] at rx ry; subst rx; subst ry
       split at h'
       · rename_i e; subst e
         cases hc : SX.beq m m' with
         | true => rw [hc] at h'; obtain rfl := SX.beq_eq _ _ hc; simp at h'; subst h'; exact .inr (.inl ⟨rfl, _, _, rfl, rfl⟩)
         | false => rw [hc] at h'; simp at h'
       · cases h'
     · cases h'
   · split at h'
     · exact absurd rfl (hs _)
     · rename_i m m'
       simp only [VR] at rx ry; subst rx; subst ry
       cases hc : SX.beq m m' with
       | true => rw [hc] at h'; obtain rfl := SX.beq_eq _ _ hc; simp at h'; subst h'; exact .inr (.inr ⟨rfl, _, rfl, rfl⟩)
       | false => rw [hc] at h'; simp at h'
     · cases h'
   · left
     split at h'
     · simp only [VR] at rx; subst rx; rfl
     · simp only [VR] at rx; subst rx; rfl
     · simp only [VR] at rx; obtain ⟨L, _, rfl⟩ := rx; rfl
     · simp only [VR] at rx; obtain ⟨L, _, rfl⟩ := rx; rfl
     · cases h'
   · left
     split at h'
     · simp only [VR] at rx; subst rx; rfl
     · simp only [VR] at rx; subst rx; rfl
     · simp only [VR] at rx; obtain ⟨L, rfl, _⟩ := rx; rfl
     · simp only [VR] at rx; obtain ⟨L, rfl, _⟩ := rx; rfl
     · cases h'
   · left
     split at h'
     · simp only [VR] at rx; subst rx; rfl
     · obtain ⟨_, _, _, rfl, _⟩ := al8 h' rx; rfl
     · cases h'
   · left
     split at h'
     · simp only [VR] at rx; subst rx; rfl
     · obtain ⟨_, rfl, _⟩ := al9 h' rx; rfl
     · cases h'
   · left
     split at h'
     · simp only [VR] at rx; subst rx; rfl
     · rcases am0 h' rx with ⟨rfl, _⟩ | ⟨⟨_, _, _, rfl⟩, _⟩ <;> rfl
     · cases h'
   · left
     split at h'
     · simp only [VR] at rx; obtain ⟨L, rfl, _⟩ := rx; rfl
     · cases h'
   · left
     split at h'
     · simp only [VR] at rx; obtain ⟨L, rfl, _⟩ := rx; rfl
     · cases h'
   · cases h'
theorem b15 {op : BinOp} {t : TypeId} {x y a : AV} {vx vy : Value} (h : bP3 P op t x y = some a) (rx : VR β ω x vx) (ry : VR β ω y vy) (ha : ∀ k n, x ≠ .int k n) (hs : ∀ l, x ≠ .str l) :
 ∃ v, VR β ω a v ∧ ∀ w, (binOp op t vx vy).run P w = .ok v w := by
 cases op <;> simp only [bP3, reduceCtorEq] at h
 · simp only [Option.map_eq_some_iff] at h
   obtain ⟨r, hr, rfl⟩ := h
   refine ⟨_, rfl, fun w => ?_⟩
   rcases aQ9 hr rx ry ha hs with hc | ⟨rfl, k, n, rfl, rfl⟩ | ⟨rfl, s, rfl, rfl⟩
   · rw [am2 _ _ _ hc]
     simp [Op.equal, Op.maxDepth, am1 10000 hr rx ry]
   · simp [binOp, Op.intCmp]
   · simp [binOp, Op.stringOp]
 · simp only [Option.map_eq_some_iff] at h
   obtain ⟨r, hr, rfl⟩ := h
   refine ⟨_, rfl, fun w => ?_⟩
   rcases aQ9 hr rx ry ha hs with hc | ⟨rfl, k, n, rfl, rfl⟩ | ⟨rfl, s, rfl, rfl⟩
   · rw [am3 _ _ _ hc]
     simp [Op.equal, Op.maxDepth, am1 10000 hr rx ry]
   · simp [binOp, Op.intCmp]
   · simp [binOp, Op.stringOp]
theorem c90 {op : BinOp} {k : IntKind} {m : Int} {n : Nat} {a : AV} {v : Value} (t : TypeId) (h : cz1 op k m n = some a) (rv : VR β ω (.atl n) v) :
 ∃ u, VR β ω a u ∧ ∀ w, (binOp op t (.int k m) v).run P w = .ok u w := by
 unfold cz1 at h
 split at h
 · cases hc : az5 (.ofNat n) m with
   | true => rw [hc] at h; cases h
   | false =>
     rw [hc] at h
     simp only [cond_false, Option.some.injEq] at h; subst h
     obtain ⟨q, rfl, hq⟩ := rv
     have h1 : az5 q m = false := by
      rw [Q4, decide_eq_false_iff_not] at hc ⊢
      have : (Int.ofNat n : Int) = (n : Int) := rfl
      omega
     have h2 : ax9 .gtr .i64 m q = some (.bool false) := by simp only [ax9, h1]
     exact ah9 t h2 ⟨by decide, by decide⟩
 · cases h
theorem by0 {op : BinOp} {t : TypeId} {x y a : AV} {vx vy : Value} (h : cv3 P op t x y = some a) (rx : VR β ω x vx) (ry : VR β ω y vy) :
 ∃ v, VR β ω a v ∧ ∀ w, (binOp op t vx vy).run P w = .ok v w := by
 unfold cv3 at h
 split at h
 · rename_i k m
   split at h
   · rename_i k' m'
     simp only [VR] at rx ry; subst rx; subst ry
     unfold cE7 at h
     split at h
     · obtain ⟨v, r, hv⟩ := aQ8 (P := P) (β := β) (ω := ω) (k' := k') h
       exact ⟨v, r, fun w => by rw [← hv w]; rfl⟩
     · obtain ⟨v, r, hv⟩ := aQ8 (P := P) (β := β) (ω := ω) (k' := k') h
       exact ⟨v, r, fun w => by rw [← hv w]; rfl⟩
     · rename_i n1 n2
       split at h
       · rename_i e; subst e
         exact ah9 t h ⟨n1, n2⟩
       · cases h
   · simp only [VR] at rx; subst rx
     exact c90 t h ry
   · cases h
 · split at h
   · simp only [VR] at rx ry; subst rx; subst ry
     exact aG6 t h
   · cases h
 · exact b15 h rx ry (fun k n e => by subst e; simp_all) (fun l e => by subst e; simp_all)
theorem am4 {b : AV} (h : VR β ω b .nilIface) : b = .nili ∨ (∃ n, b = .opq n) ∨ b = .any := by
 cases b <;> simp [VR] at h ⊢
theorem co1 {b : AV} {cs : Array Value} (h : VR β ω b (.agg cs)) : (∃ l, b = .agg l) ∨ (∃ n, b = .opq n) ∨ b = .any := by
 cases b <;> simp [VR] at h ⊢
def co2 (va vb : Value) : Bool :=
 match va, vb with
 | .nilIface, .nilIface => false
 | .agg _, .agg _ => false
 | _, _ => true
theorem ae4 (op : BinOp) (t : TypeId) (x y : Operand) {va vb : Value} (h : co2 va vb = true) (w : World) : (eqGuard op t x y va vb).run P w = .ok () w := by
 unfold eqGuard
 cases op <;> first
  | rfl
  | (cases va <;> cases vb <;> first | rfl | (simp [co2] at h))
theorem b16 (op : BinOp) (t : TypeId) (x y : Operand) {ca : Array Value} {vb : Value} (h : P.eqGuardType P.depth t = false) (w : World) : (eqGuard op t x y (.agg ca) vb).run P w = .ok () w := by
 unfold eqGuard
 cases op <;> first
  | rfl
  | (cases vb <;> first | rfl | simp [h])
theorem a54 (op : BinOp) (t : TypeId) (x y : Operand) {vb : Value} (h : V3 x = true ∨ V3 y = true) (w : World) : (eqGuard op t x y .nilIface vb).run P w = .ok () w := by
 unfold eqGuard
 rcases h with h | h
 · cases x <;> simp [V3] at h
   cases op <;> first
    | rfl
    | (cases vb <;> first | rfl | simp)
 · cases y <;> simp [V3] at h
   cases op <;> first
    | rfl
    | (cases vb <;> first | rfl | (cases x <;> simp))
theorem aR0 {op : BinOp} {t : TypeId} {x y : Operand} {a b : AV} {va vb : Value} (h : br8 P t x y a b = true) (ra : VR β ω a va) (rb : VR β ω b vb) (w : World) :
 (eqGuard op t x y va vb).run P w = .ok () w := by
 unfold br8 at h
 split at h
 · simp only [VR] at ra; subst ra
   by_cases hx : V3 x = true
   · exact a54 _ _ _ _ (.inl hx) w
   · by_cases hy : V3 y = true
     · exact a54 _ _ _ _ (.inr hy) w
     · refine ae4 _ _ _ _ ?_ w
       cases vb <;> first | rfl | skip
       rcases am4 rb with rfl | ⟨n, rfl⟩ | rfl <;> simp_all
 · cases h
 · simp only [VR] at ra; obtain ⟨xs, rfl, _⟩ := ra
   exact b16 _ _ _ _ (by simpa using h) w
 · cases h
 · rename_i n1 n4 n2 n3
   refine ae4 _ _ _ _ ?_ w
   cases va <;> first | rfl | skip
   · rcases am4 ra with rfl | ⟨n, rfl⟩ | rfl
     · exact absurd rfl n1
     · exact absurd rfl (n3 _)
     · exact absurd rfl n4
   · rcases co1 ra with ⟨l, rfl⟩ | ⟨n, rfl⟩ | rfl
     · exact absurd rfl (n2 _)
     · exact absurd rfl (n3 _)
     · exact absurd rfl n4
theorem aA6 {op : BinOp} {t : TypeId} {x y : Operand} {a b : AV} {va vb : Value} (h : a12 P op t x y a b = true) (ra : VR β ω a va) (rb : VR β ω b vb) (w : World) :
 (eqGuard op t x y va vb).run P w = .ok () w := by
 unfold a12 at h
 split at h
 · exact aR0 h ra rb w
 · exact aR0 h ra rb w
 · rename_i n1 n2
   cases op <;> first | (exact absurd rfl n1) | (exact absurd rfl n2) | rfl
theorem c34 {op : UnOp} {x a : AV} {vx : Value} (h : unE op x = some a) (rx : VR β ω x vx) : ∃ v, VR β ω a v ∧ ∀ w, (Op.unary op vx).run P w = .ok v w := by
 unfold unE at h
 split at h
 · simp only [VR] at rx; subst rx
   simp only [Option.some.injEq] at h; subst h
   exact ⟨_, rfl, fun w => by simp [Op.unary, Op.intArith, B1]⟩
 · simp only [VR] at rx; subst rx
   simp only [ax9, Option.some.injEq] at h; subst h
   exact ⟨_, rfl, fun w => by simp [Op.unary, Op.intBits, B1]⟩
 · simp only [VR] at rx; subst rx
   simp only [Option.some.injEq] at h; subst h
   exact ⟨_, rfl, fun w => by simp [Op.unary]⟩
 · cases h
theorem y8 (b o n : Nat) : (⟨b, o, none⟩ : Addr).add n = ⟨b, o + n, none⟩ := by
 unfold Addr.add; split
 · rename_i e; subst e; rfl
 · rfl
theorem aG7 {t : TypeId} {x a : AV} {f : Nat} {vx : Value} (h : X8 P t x f = some a) (rx : VR β ω x vx) : ∃ v, VR β ω a v ∧ ∀ w, (Instr.fieldAt t vx f).run P w = .ok v w := by
 unfold X8 at h
 split at h
 · rename_i fields b o ht
   simp only [VR] at rx; obtain ⟨L, hL, rfl⟩ := rx
   split at h
   · rename_i fd hf
     split at h
     · rename_i n hs
       simp only [Option.some.injEq] at h; subst h
       refine ⟨_, ⟨L, hL, rfl⟩, fun w => ?_⟩
       simp only [Instr.fieldAt, Sem.run_bind, b9 ht, Result.andThen_ok, hf, Instr.sureAddr, Sem.run_pure, fieldPlace, k7 hs]
       simp [y8, Nat.add_assoc]
     · cases h
   · cases h
 · cases h
theorem by1 {t : TypeId} {x a : AV} {f : Nat} {vx : Value} (h : b93 P t x f = some a) (rx : VR β ω x vx) : ∃ v, VR β ω a v ∧ ∀ w, (Instr.field t vx f).run P w = .ok v w := by
 unfold b93 at h
 split at h
 · rename_i fields cs ht
   simp only [VR] at rx; obtain ⟨xs, rfl, px⟩ := rx
   simp only [Option.bind_eq_some_iff] at h
   obtain ⟨fd, hf, hp⟩ := h
   obtain ⟨v, rv, hv⟩ := S6 hp px
   refine ⟨v, rv, fun w => ?_⟩
   simp only [Instr.field, Sem.run_bind, b9 ht, Result.andThen_ok, hf, asAgg, Sem.run_pure, hv]
 · cases h
theorem aG8 {t : TypeId} {x i a : AV} {vx vi : Value} (h : aa8 P t x i = some a) (rx : VR β ω x vx) (ri : VR β ω i vi) : ∃ v, VR β ω a v ∧ ∀ w, (Instr.indexAt t vx vi).run P w = .ok v w := by
 unfold aa8 at h
 split at h
 · rename_i k n
   simp only [VR] at ri; subst ri
   split at h
   · rename_i m len elem b o hn ht
     have hn' := C9 hn; subst hn'
     simp only [VR] at rx; obtain ⟨L, hL, rfl⟩ := rx
     split at h
     · rename_i s hs
       by_cases hl : m < len
       · rw [J7 hl] at h; simp only [cond_true, Option.some.injEq] at h; subst h
         refine ⟨_, ⟨L, hL, rfl⟩, fun w => ?_⟩
         have hc : (0 : Int) ≤ (m : Int) ∧ (m : Int) < (len : Int) := by omega
         simp only [Instr.indexAt, Sem.run_bind, asIntOf, Sem.run_pure, b9 ht, Result.andThen_ok, Instr.sureAddr, if_pos hc, k7 hs]
         simp [y8, Nat.add_assoc]
       · rw [O7 hl] at h; simp at h
     · cases h
   · rename_i m elem b o len cap hn ht
     have hn' := C9 hn; subst hn'
     simp only [VR] at rx; obtain ⟨L, hL, rfl⟩ := rx
     split at h
     · rename_i s hs
       by_cases hl : m < len
       · rw [J7 hl] at h; simp only [cond_true, Option.some.injEq] at h; subst h
         refine ⟨_, ⟨L, hL, rfl⟩, fun w => ?_⟩
         have hc : (0 : Int) ≤ (m : Int) ∧ (m : Int) < (len : Int) := by omega
         simp only [Instr.indexAt, Sem.run_bind, asIntOf, Sem.run_pure, b9 ht, Result.andThen_ok, Instr.sureAddr, if_pos hc, k7 hs]
         simp [y8, Nat.add_assoc]
       · rw [O7 hl] at h; simp at h
     · cases h
   · rename_i m elem b o len sz hn ht
     have hn' := C9 hn; subst hn'
     simp only [VR] at rx; obtain ⟨L, cap, hL, _, rfl⟩ := rx
     split at h
     · rename_i s hs
       by_cases hl : m < len
       · rw [J7 hl] at h; simp only [cond_true, Option.some.injEq] at h; subst h
         refine ⟨_, ⟨L, hL, rfl⟩, fun w => ?_⟩
         have hc : (0 : Int) ≤ (m : Int) ∧ (m : Int) < (len : Int) := by omega
         simp only [Instr.indexAt, Sem.run_bind, asIntOf, Sem.run_pure, b9 ht, Result.andThen_ok, Instr.sureAddr, if_pos hc, k7 hs]
         simp [y8, Nat.add_assoc]
       · rw [O7 hl] at h; simp at h
     · cases h
   · cases h
 · cases h
theorem aR1 {t : TypeId} {x i a : AV} {vx vi : Value} (h : b94 P t x i = some a) (rx : VR β ω x vx) (ri : VR β ω i vi) : ∃ v, VR β ω a v ∧ ∀ w, (Instr.index t vx vi).run P w = .ok v w := by
 unfold b94 at h
 split at h
 · rename_i k n
   simp only [VR] at ri; subst ri
   split at h
   · rename_i m len elem cs hn ht
     have hn' := C9 hn; subst hn'
     simp only [VR] at rx; obtain ⟨xs, rfl, px⟩ := rx
     split at h
     · rename_i s hs
       by_cases hl : m < len
       · rw [J7 hl] at h; simp only [cond_true] at h
         obtain ⟨v, rv, hv⟩ := S6 h px
         refine ⟨v, rv, fun w => ?_⟩
         have hc : (0 : Int) ≤ (m : Int) ∧ (m : Int) < (len : Int) := by omega
         simp only [Instr.index, Sem.run_bind, asIntOf, Sem.run_pure, b9 ht, Result.andThen_ok, if_pos hc, k7 hs, Int.toNat_natCast, hv]
       · rw [O7 hl] at h; simp at h
     · cases h
   · rename_i m s hn ht
     have hn' := C9 hn; subst hn'
     simp only [VR] at rx; subst rx
     simp only [Option.map_eq_some_iff] at h
     obtain ⟨b, hb, rfl⟩ := h
     refine ⟨_, rfl, fun w => ?_⟩
     have hg : (ByteArray.mk s.toArray)[m]? = some b := by
      have hlt : m < s.length := by
       rcases Nat.lt_or_ge m s.length with h' | h'
       · exact h'
       · rw [List.getElem?_eq_none h'] at hb; cases hb
      rw [ByteArray.getElem?_lt' _ _ (by simpa [ByteArray.size] using hlt)]
      rw [List.getElem?_eq_getElem hlt] at hb
      simp only [Option.some.injEq] at hb
      simp only [Option.some.injEq]
      rw [← hb]
      show (ByteArray.mk s.toArray).get m _ = _
      simp [ByteArray.get]
     have hc : (0 : Int) ≤ (m : Int) := by omega
     simp only [Instr.index, Sem.run_bind, asIntOf, Sem.run_pure, b9 ht, Result.andThen_ok, if_pos hc, Int.toNat_natCast, hg]
   · cases h
 · cases h
theorem b17 {i : Nat} {x a : AV} {vx : Value} (h : ah6 i x = some a) (rx : VR β ω x vx) : ∃ v, VR β ω a v ∧ ∀ w, (Instr.extract vx i).run P w = .ok v w := by
 unfold ah6 at h
 split at h
 · simp only [VR] at rx; obtain ⟨xs, rfl, px⟩ := rx
   obtain ⟨y, hy, ry⟩ := px.get i a h
   have hy' : xs[i]? = some y := by simpa using hy
   exact ⟨y, ry, fun w => by simp [Instr.extract, hy']⟩
 · cases h
end Go.Ev
