import Derived.Test.YtdhepaehegnfdaaGreatDoorE3
import Derived.ChangeKeysEq
import Derived.Laws.StructEq
set_option linter.unusedVariables false
set_option linter.unusedSimpArgs false
namespace Go.Ev
open Go
variable {P : Program} {β : Bij} {ω : Opq} {K : Nat → Prop} {w0 w : World} {h : Heap}
theorem V8 {t : TypeId} {s : Nat} (e : O9 P t = some s) : ∃ i, P.info? t = some i ∧ i.size = s := by
 simpa [O9] using e
theorem k7 {t : TypeId} {s : Nat} (e : O9 P t = some s) (w : World) : (sizeOf t).run P w = .ok s w := by
 obtain ⟨i, hi, rfl⟩ := V8 e
 simp [sizeOf, typeInfo, hi]
theorem b9 {t : TypeId} {d : TypeDesc} (e : P.underlying t = some d) (w : World) : (underlying t).run P w = .ok d w := run_underlying e w
theorem Y3 {t : TypeId} {b : Bool} (e : cv2 P t = some b) (w : World) : (isAgg t).run P w = .ok b w := by
 simp only [cv2, Option.map_eq_some_iff] at e
 obtain ⟨d, hd, rfl⟩ := e
 simp only [isAgg, Sem.run_bind, b9 hd, Result.andThen_ok]
 cases d <;> rfl
theorem D7 {t : TypeId} {z : AV} (e : A6 P t = some z) : ∃ v, aZ3 v = some z ∧ ∀ w, (zeroValue t).run P w = .ok v w := by
 simp only [A6, Option.bind_eq_some_iff] at e
 obtain ⟨v, ⟨i, hi, hz⟩, hv⟩ := e
 exact ⟨v, hv, fun w => by simp [zeroValue, typeInfo, hi, hz]⟩
theorem Q4 (a b : Int) : az5 a b = decide (a < b) := by
 cases a <;> cases b <;> simp only [az5] <;> rw [Bool.eq_iff_iff] <;> simp <;> omega
theorem G0 (a b : Int) : aO8 a b = (a == b) := by
 cases a <;> cases b <;> simp only [aO8] <;> rw [Bool.eq_iff_iff] <;> simp <;> omega
theorem a52 (k : IntKind) (m : Nat) (h : m < bP2 k) : k.wrap (m : Int) = m := by
 cases k <;> simp only [bP2] at h <;> simp only [IntKind.wrap, IntKind.bits, IntKind.signed] <;> simp <;> omega
theorem B1 (k : IntKind) (n : Int) : a00 k n = k.wrap n := by
 cases n with
 | ofNat m =>
   simp only [a00]
   by_cases h : m < bP2 k
   · rw [J7 h]; exact (a52 k m h).symm
   · rw [O7 h]; rfl
 | negSucc m => rfl
theorem C9 {i : Int} {n : Nat} (h : K3 i = some n) : i = (n : Int) := by
 cases i with
 | ofNat m => simp [K3] at h; subst h; rfl
 | negSucc m => simp [K3] at h
theorem ah9 {op : BinOp} {k : IntKind} {x y : Int} {a : AV} (t : TypeId) (h : ax9 op k x y = some a) (hs : op ≠ .shl ∧ op ≠ .shr) :
 ∃ v, VR β ω a v ∧ ∀ w, (binOp op t (.int k x) (.int k y)).run P w = .ok v w := by
 cases op <;> simp only [ax9, Option.some.injEq, reduceCtorEq] at h
 all_goals first
  | (exact absurd rfl hs.1)
  | (exact absurd rfl hs.2)
  | skip
 case quo =>
  by_cases hy : y = 0
  · subst hy; simp [aO8] at h
  · have : aO8 y 0 = false := by rw [G0]; simpa using hy
    rw [this] at h; simp only [cond_false, Option.some.injEq] at h; subst h
    exact ⟨_, rfl, fun w => by simp [binOp, Op.intDiv, hy, B1]⟩
 case rem =>
  by_cases hy : y = 0
  · subst hy; simp [aO8] at h
  · have : aO8 y 0 = false := by rw [G0]; simpa using hy
    rw [this] at h; simp only [cond_false, Option.some.injEq] at h; subst h
    exact ⟨_, rfl, fun w => by simp [binOp, Op.intDiv, hy]⟩
 all_goals (subst h; refine ⟨_, rfl, fun w => ?_⟩)
 all_goals simp [binOp, Op.intArith, Op.intBits, Op.intCmp, B1, G0, Q4]
 all_goals (rw [Bool.eq_iff_iff]; simp)
theorem aQ8 {op : BinOp} {k k' : IntKind} {x y : Int} {a : AV} (h : az6 op k x y = some a) :
 ∃ v, VR β ω a v ∧ ∀ w, (Op.shift op k x k' y).run P w = .ok v w := by
 unfold az6 at h
 split at h
 · cases h
 · rename_i n hn
   have hy := C9 hn
   subst hy
   have h0 : ¬ ((n : Int) < 0) := by omega
   cases op <;> simp only [reduceCtorEq] at h
   · simp only [Option.some.injEq] at h; subst h
     exact ⟨_, rfl, fun w => by simp [Op.shift, h0, B1]⟩
   · simp only [Option.some.injEq] at h; subst h
     refine ⟨_, rfl, fun w => ?_⟩
     simp only [Op.shift, h0, if_false, Int.toNat_natCast]
     cases x with
     | ofNat m =>
       have e : ((2 : Int) ^ min n k.bits) = ((2 ^ min n k.bits : Nat) : Int) := by simp
       have e2 : (Int.ofNat m).fdiv (2 ^ min n k.bits) = Int.ofNat (m / 2 ^ min n k.bits) := by
        rw [e, Int.fdiv_eq_ediv_of_nonneg _ (Int.natCast_nonneg _)]; rfl
       simp only [e2, Sem.run_pure]
     | negSucc m => rfl
theorem S5 : ∀ (x y : List UInt8), c59 x y = (x == y)
 | [], [] => rfl
 | [], _ :: _ => rfl
 | _ :: _, [] => rfl
 | a :: x, b :: y => by
   show (bif Nat.beq a.toNat b.toNat then c59 x y else false) = _
   by_cases e : a = b
   · subst e; rw [show Nat.beq a.toNat a.toNat = true by simp, cond_true, S5 x y]; simp
   · have : Nat.beq a.toNat b.toNat = false := by
      cases h : Nat.beq a.toNat b.toNat with
      | false => rfl
      | true => exact absurd (UInt8.toNat_inj.1 (by simpa using h)) e
     rw [this, cond_false]; simp [e]
theorem c33 : ∀ (x y : List UInt8), ltB x y = Op.bytesLess x y
 | [], [] => rfl
 | [], _ :: _ => rfl
 | _ :: _, [] => rfl
 | a :: x, b :: y => by
   show (bif Nat.blt a.toNat b.toNat then true else bif Nat.beq a.toNat b.toNat then ltB x y else false) = (a < b || (a == b && Op.bytesLess x y))
   rw [c33 x y]
   by_cases h1 : a < b
   · rw [J7 (UInt8.lt_iff_toNat_lt.1 h1)]; simp [h1]
   · rw [O7 (fun hh => h1 (UInt8.lt_iff_toNat_lt.2 hh))]
     by_cases e : a = b
     · subst e; simp
     · have : Nat.beq a.toNat b.toNat = false := by
        cases h : Nat.beq a.toNat b.toNat with
        | false => rfl
        | true => exact absurd (UInt8.toNat_inj.1 (by simpa using h)) e
       rw [this]; simp [h1, e]
theorem ab1 : ∀ (x y : List UInt8), (Op.bytesLess x y || (x == y)) = !Op.bytesLess y x
 | [], [] => rfl
 | [], _ :: _ => rfl
 | _ :: _, [] => rfl
 | a :: x, b :: y => by
   have ih := ab1 x y
   simp only [Op.bytesLess]
   rcases Nat.lt_trichotomy a.toNat b.toNat with h | h | h
   · have h1 : a < b := UInt8.lt_iff_toNat_lt.2 h
     have h2 : ¬ b < a := fun hh => by have := UInt8.lt_iff_toNat_lt.1 hh; omega
     have h3 : b ≠ a := fun e => by subst e; omega
     simp [h1, h2, h3]
   · have e : a = b := UInt8.toNat_inj.1 h
     subst e
     have h1 : ¬ a < a := fun hh => by have := UInt8.lt_iff_toNat_lt.1 hh; omega
     simp [h1] at ih ⊢
     exact ih
   · have h1 : b < a := UInt8.lt_iff_toNat_lt.2 h
     have h2 : ¬ a < b := fun hh => by have := UInt8.lt_iff_toNat_lt.1 hh; omega
     have h3 : a ≠ b := fun e => by subst e; omega
     simp [h1, h2, h3]
theorem aG6 {op : BinOp} {x y : List UInt8} {a : AV} (t : TypeId) (h : bk2 op x y = some a) :
 ∃ v, VR β ω a v ∧ ∀ w, (binOp op t (.string ⟨x.toArray⟩) (.string ⟨y.toArray⟩)).run P w = .ok v w := by
 have hlt := ab1 x y
 have hlt' := ab1 y x
 cases op <;> simp only [bk2, Option.some.injEq, reduceCtorEq] at h
 case add =>
  by_cases hl : x.length + y.length < az7
  · rw [J7 hl] at h; simp only [cond_true, Option.some.injEq] at h; subst h
    refine ⟨_, rfl, fun w => ?_⟩
    have h1 : (ByteArray.mk x.toArray).size = x.length := by simp [ByteArray.size]
    have h2 : (ByteArray.mk y.toArray).size = y.length := by simp [ByteArray.size]
    have hn : ¬ (((x.length + y.length : Nat) : Int) > IntKind.i64.max) := by
     simp only [az7] at hl
     simp [IntKind.max, IntKind.signed, IntKind.bits]; omega
    simp only [binOp, Op.stringOp, h1, h2, if_neg hn, Sem.run_pure]
    congr 2
  · rw [O7 hl] at h; simp at h
 all_goals (subst h; refine ⟨_, rfl, fun w => ?_⟩)
 all_goals simp only [binOp, Op.stringOp, ByteArray.toList_mk, Sem.run_pure, S5, c33]
 all_goals (try simp only [hlt, Bool.not_not])
theorem S6 {t : TypeId} {cs : List AV} {xs : Array Value} {off : Nat} {a : AV} (h : U9 P t cs off = some a) (r : VRs β ω cs xs.toList) :
 ∃ v, VR β ω a v ∧ ∀ w, (part t xs off).run P w = .ok v w := by
 unfold U9 at h
 split at h
 · rename_i n h1 h2
   by_cases hl : off + n ≤ cs.length
   · rw [j2.2 hl] at h; simp only [cond_true, Option.some.injEq] at h; subst h
     refine ⟨.agg (xs.extract off (off + n)), ⟨_, rfl, ?_⟩, fun w => ?_⟩
     · have := (r.drop off).take n
       simpa [List.take_drop, Nat.add_comm] using this
     · simp [part, Y3 h1, k7 h2]
   · rw [show Nat.ble (off + n) cs.length = false by
      cases e : Nat.ble (off + n) cs.length with
      | false => rfl
      | true => exact absurd (j2.1 e) hl] at h; simp at h
 · rename_i n h1 h2
   obtain ⟨y, hy, hr⟩ := r.get off a h
   refine ⟨y, hr, fun w => ?_⟩
   have hy' : xs[off]? = some y := by simpa using hy
   simp [part, Y3 h1, hy']
 · cases h
theorem bl7 {a b : Nat} (h : ¬ a = b) : Nat.beq a b = false := by
 cases e : Nat.beq a b with
 | false => rfl
 | true => exact absurd (j0.1 e) h
theorem al8 {a : AV} {b : Bool} {v : Value} (h : aO9 a = some b) (r : VR β ω a v) : ∃ x n c, v = .slice x n c ∧ b = x.isNone := by
 cases a <;> simp only [aO9, Option.some.injEq, reduceCtorEq] at h <;> simp only [VR] at r <;> subst h
 · subst r; exact ⟨_, _, _, rfl, rfl⟩
 · obtain ⟨L, _, rfl⟩ := r; exact ⟨_, _, _, rfl, rfl⟩
 · obtain ⟨L, c, _, _, rfl⟩ := r; exact ⟨_, _, _, rfl, rfl⟩
 · obtain ⟨L, a, c, _, rfl, _⟩ := r; exact ⟨_, _, _, rfl, rfl⟩
 · obtain ⟨a, rfl⟩ := r; exact ⟨_, _, _, rfl, rfl⟩
theorem al9 {a : AV} {b : Bool} {v : Value} (h : b91 a = some b) (r : VR β ω a v) : ∃ x, v = .map x ∧ b = x.isNone := by
 cases a <;> simp only [b91, Option.some.injEq, reduceCtorEq] at h <;> simp only [VR] at r <;> subst h
 · subst r; exact ⟨_, rfl, rfl⟩
 · obtain ⟨L, _, rfl⟩ := r; exact ⟨_, rfl, rfl⟩
theorem am0 {a : AV} {b : Bool} {v : Value} (h : b92 a = some b) (r : VR β ω a v) : (v = .nilFunc ∧ b = true) ∨ (∃ f x y, v = .func f x y) ∧ b = false := by
 cases a <;> simp only [b92, Option.some.injEq, reduceCtorEq] at h <;> simp only [VR] at r <;> subst h
 · exact .inl ⟨r, rfl⟩
 · obtain ⟨_, x, y, rfl, _⟩ := r; exact .inr ⟨⟨_, _, _, rfl⟩, rfl⟩
 · obtain ⟨L, _, rfl⟩ := r; exact .inr ⟨⟨_, _, _, rfl⟩, rfl⟩
theorem V9 (x y : List UInt8) : ((ByteArray.mk x.toArray) == (ByteArray.mk y.toArray)) = (x == y) := by
 rw [beq_toListBytes, ByteArray.toList_mk, ByteArray.toList_mk]
theorem a17 {ih : TypeId → AV → AV → Option Bool} {d : Nat}
 (hih : ∀ t a b x y r, ih t a b = some r → VR β ω a x → VR β ω b y → ∀ w, (Op.equalIn d t x y).run P w = .ok r w)
 {xs ys : List AV} {vx vy : Array Value} (rx : VRs β ω xs vx.toList) (ry : VRs β ω ys vy.toList) :
 ∀ (fs : List Field) (r : Bool), P0 P ih xs ys fs = some r → ∀ w,
  (forIn (m := Sem) fs ((none, ()) : Option Bool × Unit) fun f _ => (do
   if f.name ≠ "_" then do
    let a ← part f.type vx f.offset
    let b ← part f.type vy f.offset
    let c ← Op.equalIn d f.type a b
    if (!c) = true then pure (.done (some false, ())) else pure (.yield (none, ()))
   else pure (.yield (none, ())))).run P w = .ok (if r then (none, ()) else (some false, ())) w
 | [], r, h, w => by
   simp only [P0, Option.some.injEq] at h; subst h; simp
 | f :: fs, r, h, w => by
   simp only [P0] at h
   by_cases hn : f.name = "_"
   · have hb : (f.name == "_") = true := by simpa using hn
     rw [hb] at h; simp only [cond_true] at h
     have := a17 hih rx ry fs r h w
     simp only [List.forIn_cons, hn, ne_eq, not_true_eq_false, if_false, pure_bind]
     exact this
   · have hb : (f.name == "_") = false := by simpa using hn
     rw [hb] at h; simp only [cond_false] at h
     split at h
     · rename_i a b ha hb'
       obtain ⟨va, ra, hva⟩ := S6 ha rx
       obtain ⟨vb, rb, hvb⟩ := S6 hb' ry
       split at h
       · rename_i he
         have := a17 hih rx ry fs r h w
         simp only [List.forIn_cons, hn, ne_eq, not_false_eq_true, if_true, Sem.run_bind, hva, hvb, Result.andThen_ok, hih _ _ _ _ _ _ he ra rb, Bool.not_true, Bool.false_eq_true, if_false, Sem.run_pure]
         exact this
       · rename_i x he
         cases r with
         | true => exact absurd h he
         | false =>
           have he' := h
           simp only [List.forIn_cons, hn, ne_eq, not_false_eq_true, if_true, Sem.run_bind, hva, hvb, Result.andThen_ok, hih _ _ _ _ _ _ he' ra rb, Bool.not_false, Sem.run_pure]
           simp
     · cases h
theorem aA5 {ih : TypeId → AV → AV → Option Bool} {d e n : Nat}
 (hih : ∀ t a b x y r, ih t a b = some r → VR β ω a x → VR β ω b y → ∀ w, (Op.equalIn d t x y).run P w = .ok r w)
 {xs ys : List AV} {vx vy : Array Value} (rx : VRs β ω xs vx.toList) (ry : VRs β ω ys vy.toList) :
 ∀ (k i : Nat) (r : Bool), ak4 P ih e n xs ys k i = some r → ∀ w,
  (forIn (m := Sem) (List.range' i k) ((none, ()) : Option Bool × Unit) fun i _ => (do
   let a ← part e vx (i * n)
   let b ← part e vy (i * n)
   let c ← Op.equalIn d e a b
   if (!c) = true then pure (.done (some false, ())) else pure (.yield (none, ())))).run P w = .ok (if r then (none, ()) else (some false, ())) w
 | 0, i, r, h, w => by
   simp only [ak4, Option.some.injEq] at h; subst h; simp
 | k + 1, i, r, h, w => by
   simp only [ak4] at h
   split at h
   · rename_i a b ha hb'
     obtain ⟨va, ra, hva⟩ := S6 ha rx
     obtain ⟨vb, rb, hvb⟩ := S6 hb' ry
     split at h
     · rename_i he
       have := aA5 hih rx ry k (i + 1) r h w
       simp only [List.range'_succ, List.forIn_cons, Sem.run_bind, hva, hvb, Result.andThen_ok, hih _ _ _ _ _ _ he ra rb, Bool.not_true, Bool.false_eq_true, if_false, Sem.run_pure]
       exact this
     · rename_i x he
       cases r with
       | true => exact absurd h he
       | false =>
         have he' := h
         simp only [List.range'_succ, List.forIn_cons, Sem.run_bind, hva, hvb, Result.andThen_ok, hih _ _ _ _ _ _ he' ra rb, Bool.not_false, Sem.run_pure]
         simp
   · cases h
set_option maxHeartbeats 4000000 in
theorem bx8 {ih : TypeId → AV → AV → Option Bool} {d : Nat}
 (hih : ∀ t a b x y r, ih t a b = some r → VR β ω a x → VR β ω b y → ∀ w, (Op.equalIn d t x y).run P w = .ok r w)
 {t : TypeId} {a b : AV} {x y : Value} {r : Bool} (h : K0 P ih t a b = some r) (rx : VR β ω a x) (ry : VR β ω b y) (w : World) :
 (Op.equalIn (d + 1) t x y).run P w = .ok r w := by
 unfold K0 at h
 split at h
 ·
  rename_i ht
  split at h
  · simp only [VR] at rx ry; subst rx; subst ry
    simp only [Option.some.injEq] at h; subst h
    simp [Op.equalIn, b9 ht]
  · cases h
 ·
  rename_i k0 ht
  split at h
  · rename_i k m k' m'
    simp only [VR] at rx ry; subst rx; subst ry
    split at h
    · rename_i e; subst e
      simp only [Option.some.injEq] at h; subst h
      simp [Op.equalIn, b9 ht, G0]
    · cases h
  · rename_i k m k' m'
    simp only [VR] at rx ry; subst rx; subst ry
    split at h
    · rename_i e; subst e
      cases hc : SX.beq m m' with
      | true =>
        rw [hc] at h
        obtain rfl := SX.beq_eq _ _ hc
        simp at h; subst h
        simp [Op.equalIn, b9 ht]
      | false => rw [hc] at h; simp at h
    · cases h
  · cases h
 ·
  rename_i ht
  split at h
  · simp only [VR] at rx ry; subst rx; subst ry
    simp only [Option.some.injEq] at h; subst h
    rename_i s s'
    simp [Op.equalIn, b9 ht, S5, V9]
  · rename_i m m'
    simp only [VR] at rx ry; subst rx; subst ry
    cases hc : SX.beq m m' with
    | true =>
      rw [hc] at h
      obtain rfl := SX.beq_eq _ _ hc
      simp at h; subst h
      simp [Op.equalIn, b9 ht, V9]
    | false => rw [hc] at h; simp at h
  · cases h
 ·
  rename_i el ht
  split at h
  · simp only [VR] at rx ry; subst rx; subst ry
    simp only [Option.some.injEq] at h; subst h
    simp [Op.equalIn, b9 ht]
  · simp only [VR] at rx ry; subst rx; obtain ⟨L, _, rfl⟩ := ry
    simp only [Option.some.injEq] at h; subst h
    simp [Op.equalIn, b9 ht]
  · simp only [VR] at rx ry; subst ry; obtain ⟨L, _, rfl⟩ := rx
    simp only [Option.some.injEq] at h; subst h
    simp [Op.equalIn, b9 ht]
  · rename_i ba oa bb ob
    simp only [VR] at rx ry; obtain ⟨L, hL, rfl⟩ := rx; obtain ⟨L', hL', rfl⟩ := ry
    unfold ck9 at h
    split at h
    · rename_i n hs
      by_cases e : ba = bb
      · subst e
        rw [hL] at hL'; simp only [Option.some.injEq] at hL'; subst hL'
        simp at h; subst h
        have : (({ block := L.blk, off := L.off + oa } : Addr) == { block := L.blk, off := L.off + ob }) = decide (oa = ob) := by
         rw [Bool.eq_iff_iff]; simp
        simp only [Op.equalIn, Sem.run_bind, b9 ht, Result.andThen_ok, k7 hs]
        simp only [sameAddr, beq_self_eq_true, if_true, this, ne_eq, Nat.succ_ne_zero, not_false_eq_true, Sem.run_pure]
        congr 1
        rw [Bool.eq_iff_iff]; simp
      · rw [bl7 e] at h; simp at h
    · cases h
  · cases h
 ·
  rename_i ms ht
  split at h
  · simp only [VR] at rx ry; subst rx; subst ry
    simp only [Option.some.injEq] at h; subst h
    simp [Op.equalIn, b9 ht]
  · simp only [VR] at rx ry; subst rx; obtain ⟨z, rfl, _⟩ := ry
    simp only [Option.some.injEq] at h; subst h
    simp [Op.equalIn, b9 ht]
  · simp only [VR] at rx ry; subst ry; obtain ⟨z, rfl, _⟩ := rx
    simp only [Option.some.injEq] at h; subst h
    simp [Op.equalIn, b9 ht]
  · rename_i tx vx ty vy
    simp only [VR] at rx ry; obtain ⟨zx, rfl, px⟩ := rx; obtain ⟨zy, rfl, py⟩ := ry
    by_cases e : tx = ty
    · subst e
      simp only [Nat.beq_eq_true_eq, Nat.beq_refl, cond_true] at h
      split at h
      · rename_i i hi
        cases hc : i.comparable with
        | false => rw [hc] at h; simp at h
        | true =>
          rw [hc] at h; simp only [cond_true] at h
          simp [Op.equalIn, b9 ht, typeInfo, hi, hc, hih _ _ _ _ _ _ h px py]
      · cases h
    · rw [bl7 e] at h; simp at h; subst h
      simp [Op.equalIn, b9 ht, e]
  · cases h
 ·
  rename_i el ht
  split at h
  · simp only [VR] at rx; subst rx
    obtain ⟨x, n, c, rfl, rfl⟩ := al8 h ry
    simp [Op.equalIn, b9 ht]
  · simp only [VR] at ry; subst ry
    obtain ⟨x, n, c, rfl, rfl⟩ := al8 h rx
    cases x <;> simp [Op.equalIn, b9 ht]
  · cases h
 ·
  rename_i k0 e0 ht
  split at h
  · simp only [VR] at rx; subst rx
    obtain ⟨x, rfl, rfl⟩ := al9 h ry
    simp [Op.equalIn, b9 ht]
  · simp only [VR] at ry; subst ry
    obtain ⟨x, rfl, rfl⟩ := al9 h rx
    cases x <;> simp [Op.equalIn, b9 ht]
  · cases h
 ·
  rename_i ht
  split at h
  · simp only [VR] at rx; subst rx
    rcases am0 h ry with ⟨rfl, rfl⟩ | ⟨⟨f, x, y, rfl⟩, rfl⟩ <;> (simp only [Op.equalIn, Sem.run_bind, b9 ht, Result.andThen_ok]; rfl)
  · simp only [VR] at ry; subst ry
    rcases am0 h rx with ⟨rfl, rfl⟩ | ⟨⟨f, x, y, rfl⟩, rfl⟩ <;> (simp only [Op.equalIn, Sem.run_bind, b9 ht, Result.andThen_ok]; rfl)
  · cases h
 ·
  rename_i fields ht
  split at h
  · rename_i xs ys
    simp only [VR] at rx ry; obtain ⟨vx, rfl, px⟩ := rx; obtain ⟨vy, rfl, py⟩ := ry
    cases hs : P.stoodInHeld t with
    | true => rw [hs] at h; simp at h
    | false =>
      rw [hs] at h; simp only [cond_false] at h
      have hf := a17 hih px py fields.toList r h w
      simp only [Op.equalIn, Sem.run_bind, b9 ht, Result.andThen_ok, run_program, hs, Bool.false_eq_true, if_false]
      rw [← Array.forIn_toList, hf]
      cases r <;> simp
  · cases h
 ·
  rename_i len el ht
  split at h
  · rename_i xs ys
    simp only [VR] at rx ry; obtain ⟨vx, rfl, px⟩ := rx; obtain ⟨vy, rfl, py⟩ := ry
    split at h
    · cases h
    · rename_i n hn
      have hf := aA5 hih px py len 0 r h w
      simp only [Op.equalIn, Sem.run_bind, b9 ht, Result.andThen_ok, k7 hn]
      rw [Std.Legacy.Range.forIn_eq_forIn_range']
      simp only [Std.Legacy.Range.size, Nat.sub_zero, Nat.add_sub_cancel, Nat.div_one]
      rw [hf]
      cases r <;> simp
  · cases h
 · cases h
theorem am1 : ∀ (n : Nat) {t : TypeId} {a b : AV} {x y : Value} {r : Bool}, eqE P n t a b = some r → VR β ω a x → VR β ω b y → ∀ w, (Op.equalIn n t x y).run P w = .ok r w
 | 0, t, a, b, x, y, r, h, _, _, w => by cases h
 | n + 1, t, a, b, x, y, r, h, rx, ry, w => bx8 (ih := eqE P n) (d := n) (fun t a b x y r h rx ry w => am1 n h rx ry w) h rx ry w
end Go.Ev
