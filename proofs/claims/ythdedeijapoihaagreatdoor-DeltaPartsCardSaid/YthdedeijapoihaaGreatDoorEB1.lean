import Derived.Test.YthdedeijapoihaaGreatDoorE42
import Derived.Test.YthdedeijapoihaaGreatDoorET15
set_option linter.unusedSimpArgs false
set_option linter.unusedVariables false
set_option autoImplicit false
namespace Go.Ev
open Go
theorem aC0 {step : List Val → Option (Nat × List Val)} {st : Nat → List Val} {n j : Nat} {p : List Val} (h1 : ∀ i, i < n → step (st i) = some (0, st (i + 1))) (h2 : step (st n) = some (j + 1, p)) : r8 step (st 0) = some (j, p) := by
 rw [q9]
 have : ∀ k, k ≤ n → Iter step (st (n - k)) j p := by
  intro k
  induction k with
  | zero => intro _; exact .out h2
  | succ k ih =>
    intro hk
    have e := h1 (n - (k + 1)) (by omega)
    rw [show n - (k + 1) + 1 = n - k by omega] at e
    exact .more e (ih (by omega))
 have h := this n (Nat.le_refl _)
 rwa [Nat.sub_self] at h
def Z3 (x : Val) (px : Nat → List Val) (bad : Nat → Bool) (n : Nat) : Nat × List Val := match (List.range n).find? bad with
 | some i => (1, px i)
 | none => (0, [x, .vi n])
theorem a69 {bad : Nat → Bool} : ∀ {n i : Nat}, (List.range n).find? bad = some i → i < n ∧ bad i = true ∧ ∀ k, k < i → bad k = false := by
 intro n i h
 rw [List.find?_range_eq_some] at h
 exact ⟨List.mem_range.1 h.2.1, h.1, fun k hk => by simpa using h.2.2 k hk⟩
theorem a34 {step : List Val → Option (Nat × List Val)} {x : Val} {px : Nat → List Val} {bad : Nat → Bool} {n : Nat}
 (h1 : ∀ i, i < n → bad i = false → step [x, .vi i] = some (0, [x, .vi (i + 1 : Nat)])) (h2 : ∀ i, i < n → bad i = true → step [x, .vi i] = some (2, px i))
 (h3 : step [x, .vi n] = some (1, [x, .vi n])) : r8 step [x, .vi (0 : Int)] = some (Z3 x px bad n) := by
 unfold Z3
 split
 · rename_i i hi
   obtain ⟨a, b, c⟩ := a69 hi
   exact aC0 (st := fun i => [x, .vi i]) (n := i) (fun k hk => h1 k (by omega) (c k hk)) (h2 i a b)
 · rename_i hn
   rw [List.find?_range_eq_none] at hn
   exact aC0 (st := fun i => [x, .vi i]) (n := n) (fun k hk => h1 k hk (by simpa using hn k hk)) h3
theorem au5 {x : Val} {px : Nat → List Val} {bad : Nat → Bool} {n : Nat} : Z3 x px bad n = if (List.range n).any bad then (1, px (((List.range n).find? bad).getD 0)) else (0, [x, .vi n]) := by
 unfold Z3
 split
 · rename_i i hi
   have : (List.range n).any bad = true := by
    rw [List.any_eq_true]
    obtain ⟨a, b, _⟩ := a69 hi
    exact ⟨i, List.mem_range.2 a, b⟩
   rw [this, hi]; rfl
 · rename_i hn
   have : (List.range n).any bad = false := by
    rw [List.find?_range_eq_none] at hn
    rw [List.any_eq_false]
    intro i hi
    simpa using hn i (List.mem_range.1 hi)
   rw [this]; rfl
def aM2 (g : Nat → List Val) : Nat → List Val
 | 0 => []
 | n + 1 => aM2 g n ++ g n
theorem b61 {g : Nat → List Val} {m : Nat} (hg : ∀ i, (g i).length ≤ m) : ∀ n, (aM2 g n).length ≤ n * m
 | 0 => by simp [aM2]
 | n + 1 => by
   have := b61 hg n
   have := hg n
   simp only [aM2, List.length_append, Nat.add_mul]; omega
theorem au6 (g : Nat → List Val) : ∀ n, aM2 g n = (List.range n).flatMap g
 | 0 => rfl
 | n + 1 => by rw [aM2, au6 g n, List.range_succ, List.flatMap_append]; simp
theorem aM3 {α : Type} (q : α → Bool) (d : α) : ∀ (l : List α), ((List.range l.length).any fun i => q (l.getD i d)) = l.any q
 | [] => rfl
 | a :: l => by
   rw [List.length_cons, List.range_succ_eq_map, List.any_cons, List.any_map]
   simp only [List.getD_cons_zero, List.any_cons]
   congr 1
   rw [← aM3 q d l]
   congr 1
theorem au7 {α β : Type} (g : α → List β) (d : α) : ∀ (l : List α), ((List.range l.length).flatMap fun i => g (l.getD i d)) = l.flatMap g
 | [] => rfl
 | a :: l => by
   rw [List.length_cons, List.range_succ_eq_map, List.flatMap_cons, List.flatMap_map]
   simp only [List.getD_cons_zero, List.flatMap_cons]
   congr 1
   rw [← au7 g d l]
   congr 1
theorem b62 {α β : Type} [DecidableEq β] (f : α → β) (d : α) : ∀ (l r : List α), l.length = r.length → ((List.range l.length).any fun i => !decide (f (l.getD i d) = f (r.getD i d))) = !decide (l.map f = r.map f)
 | [], [], _ => by simp
 | a :: l, b :: r, h => by
   rw [List.length_cons, List.range_succ_eq_map, List.any_cons, List.any_map]
   simp only [List.getD_cons_zero, List.map_cons, List.cons.injEq]
   have := b62 f d l r (by simpa using h)
   have e : ((fun i => !decide (f ((a :: l).getD i d) = f ((b :: r).getD i d))) ∘ Nat.succ) = fun i => !decide (f (l.getD i d) = f (r.getD i d)) := by
    funext i; simp [Function.comp]
   rw [e, this]
   by_cases h1 : f a = f b <;> simp [h1]
 | [], _ :: _, h => by simp at h
 | _ :: _, [], h => by simp at h
theorem b63 (l : List Val) (i : Nat) (j : Int) : w6 l (i : Int) j = (l.getD i (.vl [])).toL.getD j.toNat default := rfl
theorem au8 {n : Nat} (h : n ≤ 10000000) : IntKind.i64.wrap ((n : Int) + 1) = ((n + 1 : Nat) : Int) := by
 have : ((n : Int) + 1) = ((n + 1 : Nat) : Int) := by omega
 rw [this]
 simp only [IntKind.wrap, IntKind.bits, IntKind.signed]
 simp
 omega
@[simp] theorem g9 (n : Int) : (Val.vi n).toI = n := rfl
@[simp] theorem G2 (n : List UInt8) : (Val.vs n).toS = n := rfl
@[simp] theorem p7 (n : Bool) : (Val.vb n).toB = n := rfl
@[simp] theorem j5 (n : List Val) : (Val.vl n).toL = n := rfl
@[simp] theorem k9 (a b : Int) : ax0 .lss a b = decide (a < b) := rfl
@[simp] theorem l7 (a b : Int) : ax0 .leq a b = decide (a ≤ b) := rfl
@[simp] theorem W2 (a b : Int) : ax0 .gtr a b = decide (b < a) := rfl
@[simp] theorem aC1 (a b : Int) : ax0 .geq a b = decide (b ≤ a) := rfl
@[simp] theorem r5 (a b : Int) : ax0 .eql a b = decide (a = b) := rfl
@[simp] theorem co8 (a b : Int) : ax0 .neq a b = !decide (a = b) := rfl
@[simp] theorem bL8 (a b : List UInt8) : aZ3 .eql a b = decide (a = b) := rfl
@[simp] theorem co9 (a b : List UInt8) : aZ3 .neq a b = !decide (a = b) := rfl
theorem o9 (ω : Opq) (v0 : Nat) (l : List Val) (n : Nat) : (ω.upd v0 l).w n = if v0 ≤ n then l.getD (n - v0) (.vb false) else ω.w n := rfl
theorem am5 (ω : Opq) (v0 : Nat) (l : List Val) : (ω.upd v0 l).f = ω.f := rfl
theorem wu8 (x : Int) : IntKind.u8.wrap x = x % 256 := by simp [IntKind.wrap, IntKind.bits, IntKind.signed]
theorem ct7 (x : Int) : IntKind.u64.wrap x = x % 18446744073709551616 := by simp [IntKind.wrap, IntKind.bits, IntKind.signed]
theorem cp0 {x : Int} (h : -9223372036854775808 ≤ x) (h2 : x < 9223372036854775808) : IntKind.i64.wrap x = x := by
 simp only [IntKind.wrap, IntKind.bits, IntKind.signed]
 simp
 omega
theorem aC2 {x y : Int} (h : -9223372036854775808 ≤ x + y) (h2 : x + y < 9223372036854775808) : arI .add .i64 x y = x + y := cp0 h h2
theorem c31 {x y : Int} (h : -9223372036854775808 ≤ x - y) (h2 : x - y < 9223372036854775808) : arI .sub .i64 x y = x - y := cp0 h h2
theorem ct8 {x y : Int} (h : -9223372036854775808 ≤ x * y) (h2 : x * y < 9223372036854775808) : arI .mul .i64 x y = x * y := cp0 h h2
theorem c32 {x : Int} (h : 0 ≤ x) : arI .shr .u64 x 8 = x / 256 := by
 simp only [arI, IntKind.bits]
 rw [show (8 : Int).toNat = 8 from rfl, show min 8 64 = 8 from rfl, Int.fdiv_eq_ediv_of_nonneg _ (by decide)]; rfl
def sbV (l : List UInt8) : List Val := l.map fun b => .vl [.vi (b.toNat : Int)]
theorem R0 (l : List UInt8) : (sbV l).length = l.length := by simp [sbV]
theorem am6 (a b : List UInt8) : sbV (a ++ b) = sbV a ++ sbV b := by simp [sbV]
def unV (l : List Val) : List UInt8 := l.map fun r => UInt8.ofNat (r.toL.getD 0 default).toI.toNat
theorem c33 (l : List UInt8) : unV (sbV l) = l := by
 unfold unV sbV
 rw [List.map_map]
 conv => rhs; rw [← List.map_id l]
 refine List.map_congr_left fun b _ => ?_
 show UInt8.ofNat ((b.toNat : Int)).toNat = b
 rw [Int.toNat_natCast, UInt8.ofNat_toNat]
def c34 (l : List Val) : Bool := l.all fun r => decide (0 ≤ (r.toL.getD 0 default).toI) && decide ((r.toL.getD 0 default).toI < 256)
theorem b64 : ∀ l : List UInt8, c34 (sbV l) = true
 | [] => rfl
 | b :: l => by
   have h := b.toNat_lt
   have h2 : (b.toNat : Int) < 256 := by omega
   show ((decide (0 ≤ (b.toNat : Int)) && decide ((b.toNat : Int) < 256)) && c34 (sbV l)) = true
   rw [b64 l, decide_eq_true h2, decide_eq_true (Int.natCast_nonneg _)]; rfl
def B3 : List UInt8 → List UInt8
 | [] => []
 | b :: r => (if b = 0 then [0, 255] else [b]) ++ B3 r
theorem ac1 : ∀ a b : List UInt8, B3 (a ++ b) = B3 a ++ B3 b
 | [], b => rfl
 | x :: a, b => by simp [B3, ac1 a b]
theorem W3 : ∀ a : List UInt8, (B3 a).length ≤ 2 * a.length
 | [] => by simp [B3]
 | x :: a => by
   have := W3 a
   simp only [B3, List.length_append, List.length_cons]
   split <;> simp <;> omega
theorem bx4 : ∀ a : List UInt8, a.length ≤ (B3 a).length
 | [] => by simp
 | x :: a => by
   have := bx4 a
   simp only [B3, List.length_append, List.length_cons]
   split <;> simp <;> omega
theorem a35 : ∀ {a : List UInt8}, j0 0 a = 0 → B3 a = a
 | [], _ => rfl
 | x :: a, h => by
   simp only [j0] at h
   cases hx : Nat.beq x.toNat 0 with
   | true => rw [hx] at h; simp at h
   | false =>
     rw [hx] at h
     have ha := a35 (a := a) (by simpa using h)
     have : ¬ x = 0 := by
      intro e; subst e; simp at hx
     simp [B3, this, ha]
theorem a36 (c : Nat) : ∀ a b : List UInt8, j0 c (a ++ b) = j0 c a + j0 c b
 | [], b => by simp [j0]
 | x :: a, b => by
   simp only [List.cons_append, j0, a36 c a b]
   cases Nat.beq x.toNat c <;> simp <;> omega
theorem aC3 (c : Nat) : ∀ a : List UInt8, j0 c a ≤ a.length
 | [] => by simp [j0]
 | x :: a => by
   have := aC3 c a
   simp only [j0, List.length_cons]
   cases Nat.beq x.toNat c <;> simp <;> omega
def spl : List UInt8 → List UInt8 × List UInt8
 | [] => ([], [])
 | b :: r => if j0 0 r = 0 then (if b = 0 then ([b], r) else ([], b :: r)) else (b :: (spl r).1, (spl r).2)
theorem b65 : ∀ l : List UInt8, (spl l).1 ++ (spl l).2 = l
 | [] => rfl
 | b :: r => by
   unfold spl
   split
   · split <;> rfl
   · simp [b65 r]
theorem b66 : ∀ l : List UInt8, j0 0 (spl l).2 = 0
 | [] => rfl
 | b :: r => by
   unfold spl
   split
   · rename_i h
     split
     · exact h
     · rename_i hb
       simp only [j0, h]
       have : Nat.beq b.toNat 0 = false := by
        cases e : Nat.beq b.toNat 0 with
        | false => rfl
        | true =>
          have : b.toNat = 0 := by simpa using e
          exact absurd (UInt8.toNat_inj.1 (by simpa using this)) hb
       rw [this]; rfl
   · exact b66 r
theorem bL9 {t : List UInt8} (h : j0 0 t = 0) : spl t = ([], t) := by
 cases t with
 | nil => rfl
 | cons b r =>
   simp only [j0] at h
   cases hx : Nat.beq b.toNat 0 with
   | true => rw [hx] at h; simp at h
   | false =>
     rw [hx] at h
     have hr : j0 0 r = 0 := by simpa using h
     have : ¬ b = 0 := by intro e; subst e; simp at hx
     simp [spl, hr, this]
theorem bS4 : ∀ (p : List UInt8) {t : List UInt8}, j0 0 t = 0 → spl (p ++ 0 :: t) = (p ++ [0], t)
 | [], t, h => by simp [spl, h]
 | b :: p, t, h => by
   have ih := bS4 p h
   have hc : j0 0 (p ++ 0 :: t) ≠ 0 := by
    rw [a36]
    have : j0 0 (0 :: t) = j0 0 t + 1 := by simp [j0]
    omega
   show (if j0 0 (p ++ 0 :: t) = 0 then (if b = 0 then ([b], p ++ 0 :: t) else ([], b :: (p ++ 0 :: t))) else (b :: (spl (p ++ 0 :: t)).1, (spl (p ++ 0 :: t)).2)) = _
   rw [if_neg hc]
   show (b :: (spl (p ++ 0 :: t)).1, (spl (p ++ 0 :: t)).2) = _
   rw [ih]; rfl
theorem bx5 : ∀ {t : List UInt8} (i : Nat), j0 0 t ≠ 0 → ∃ p q, t = p ++ 0 :: q ∧ j0 0 p = 0 ∧ av5 0 t i = some (i + p.length)
 | [], i, h => absurd rfl h
 | b :: r, i, h => by
   cases hx : Nat.beq b.toNat 0 with
   | true =>
     have hb : b = 0 := UInt8.toNat_inj.1 (by simpa using hx)
     subst hb
     exact ⟨[], r, rfl, rfl, by simp [av5]⟩
   | false =>
     simp only [j0, hx] at h
     obtain ⟨p, q, rfl, h2, h3⟩ := bx5 (i + 1) (show j0 0 r ≠ 0 by simpa using h)
     refine ⟨b :: p, q, rfl, by simp [j0, hx, h2], ?_⟩
     simp only [av5, hx, cond_false, h3, List.length_cons]
     congr 1; omega
theorem ci1 {p q : List UInt8} (hp : j0 0 p = 0) : a77 0 (p ++ 0 :: q) = (p.length : Int) := by
 have hc : j0 0 (p ++ 0 :: q) ≠ 0 := by
  rw [a36]
  have : j0 0 (0 :: q) = j0 0 q + 1 := by simp [j0]
  omega
 obtain ⟨p', q', e, h2, h3⟩ := bx5 0 hc
 unfold a77
 rw [h3]
 have : p' = p := by
  have key : ∀ (p p' q q' : List UInt8), j0 0 p = 0 → j0 0 p' = 0 → p ++ 0 :: q = p' ++ 0 :: q' → p = p' := by
   intro p
   induction p with
   | nil =>
     intro p' q q' _ h' e
     cases p' with
     | nil => rfl
     | cons b p' =>
       exfalso
       simp only [List.nil_append, List.cons_append, List.cons.injEq] at e
       rw [← e.1] at h'
       simp [j0] at h'
   | cons b p ih =>
     intro p' q q' h h' e
     cases p' with
     | nil =>
       exfalso
       simp only [List.nil_append, List.cons_append, List.cons.injEq] at e
       rw [e.1] at h
       simp [j0] at h
     | cons b' p' =>
       simp only [List.cons_append, List.cons.injEq] at e
       have c1 : j0 0 p = 0 := by
        simp only [j0] at h
        cases hx : Nat.beq b.toNat 0 <;> rw [hx] at h <;> simp at h
        exact h
       have c2 : j0 0 p' = 0 := by
        simp only [j0] at h'
        cases hx : Nat.beq b'.toNat 0 <;> rw [hx] at h' <;> simp at h'
        exact h'
       rw [e.1, ih p' q q' c1 c2 e.2]
  exact (key p p' q q' hp h2 e).symm
 rw [this]; simp
def Z5 (l : List UInt8) : List UInt8 := B3 l ++ [0, 0]
def aM4 (n : Int) : Int := arI .xor .u64 (IntKind.u64.wrap n) 9223372036854775808
theorem am7 (n : Int) : 0 ≤ aM4 n ∧ aM4 n < 18446744073709551616 := by
 unfold aM4
 simp only [arI, ct7]
 omega
def dv (a : Int) : Nat → Int
 | 0 => a
 | k + 1 => dv a k / 256
theorem aM5 {a : Int} (h : 0 ≤ a) : ∀ k, 0 ≤ dv a k
 | 0 => h
 | k + 1 => by have := aM5 h k; show 0 ≤ dv a k / 256; omega
def byV (a : Int) (k : Nat) : UInt8 := UInt8.ofNat (dv a k % 256).toNat
def bx6 (a : Int) : List UInt8 := [byV a 7, byV a 6, byV a 5, byV a 4, byV a 3, byV a 2, byV a 1, byV a 0]
def a37 (n : Int) : List UInt8 := bx6 (aM4 n)
theorem ac2 (n : Int) : (a37 n).length = 8 := rfl
def bS5 (k : Int) (key to : List UInt8) (least most : Int) : Bool :=
 bif decide (32 < (key.length : Int)) || decide (32 < (to.length : Int)) then false
 else bif decide (k = 1) then decide (to = []) && decide (most = 0) && !decide (key = [])
 else bif decide (k = 2) then decide (least = 0) && decide (most = 0)
 else bif decide (k = 3) then decide (key = []) && decide (to = []) else false
def c35 : List UInt8 → Nat → Nat
 | _, 0 => 0
 | l, n + 1 => bif decide (l.getD n 0 = 255) then c35 l n else n + 1
def upB (l : List UInt8) (m : Nat) : List UInt8 := l.take m ++ [l.getD m 0 + 1]
def bx7 (l : List UInt8) : List UInt8 × Bool := match c35 l l.length with
 | 0 => ([], false)
 | m + 1 => (upB l m, true)
def bx8 (k : Int) (key to : List UInt8) (least most : Int) : List UInt8 × List UInt8 :=
 bif !bS5 k key to least most then ([0], [0])
 else bif decide (k = 1) then (Z5 key ++ a37 least, (bx7 (Z5 key ++ a37 least)).1)
 else bif decide (k = 2) then (Z5 key, bif decide (to = []) then [] else Z5 to)
 else (a37 least, a37 most)
def arg (a : List Val) (i : Nat) : Val := a.getD i (.vb false)
noncomputable def FX (X : Nat → List Val → Val) : Nat → List Val → Val := fun i a => match i with
  | 300 => bif decide (j0 0 (arg a 0).toS = 0) then arg a 0 else .vs (B3 (arg a 0).toS)
  | 301 => .vs (Z5 (arg a 0).toS)
  | 302 => .vs (a37 (arg a 0).toI)
  | 320 => v5 (0, [.vi (spl (arg a 4).toS).1.length, .vi (j0 0 (arg a 4).toS : Nat), .vi (B3 (spl (arg a 4).toS).1).length, .vl (sbV (B3 (spl (arg a 4).toS).1))])
  | 330 => .vb (bS5 (arg a 0).toI (arg a 1).toS (arg a 2).toS (arg a 3).toI (arg a 4).toI)
  | 331 => .vs (bx7 (arg a 0).toS).1
  | 332 => .vb (bx7 (arg a 0).toS).2
  | 333 => .vs (bx8 (arg a 0).toI (arg a 1).toS (arg a 2).toS (arg a 3).toI (arg a 4).toI).1
  | 334 => .vs (bx8 (arg a 0).toI (arg a 1).toS (arg a 2).toS (arg a 3).toI (arg a 4).toI).2
  | 340 => v5 (0, [.vi (c35 (unV (arg a 1).toL) (arg a 0).toI.toNat), arg a 1])
  | i => X i a
variable {X : Nat → List Val → Val}
theorem k5 {ω : Opq} {hd : LHd} {b : VT} {ks : List VT} {r : Nat × List Val} {x : Option (Nat × List Val)} (h1 : r8 (fun vs => g8 b (ω.upd hd.v0 vs)) (j3 ω hd.s0) = some r) (h2 : ω.f hd.id (j3 ω (hd.s0 ++ hd.fv)) = v5 r) (h3 : B5 ks r.1 ω = x) : g8 (.loop hd b ks) ω = x := by
 rw [g8.eq_5, h1]
 simp only
 rw [if_pos h2, h3]
theorem i4 {ω : Opq} {e : SX} {x : VT} {r : Option (Nat × List Val)} (h : dB ω e = true) (h2 : g8 x ω = r) : g8 (.need e x) ω = r := by rw [g8.eq_3, if_pos h, h2]
theorem E8 {ω : Opq} {e : SX} {x y : VT} {r : Option (Nat × List Val)} (h : dB ω e = true) (h2 : g8 x ω = r) : g8 (.ite e x y) ω = r := by rw [g8.eq_2, if_pos h, h2]
theorem x7 {ω : Opq} {e : SX} {x y : VT} {r : Option (Nat × List Val)} (h : dB ω e = false) (h2 : g8 y ω = r) : g8 (.ite e x y) ω = r := by rw [g8.eq_2, if_neg (by rw [h]; simp), h2]
theorem T3 {a b : Bool} (h : a = true) (h2 : b = true) : (a && b) = true := by rw [h, h2]; rfl
def aM6 (J : SX) : SX := .op .lcat [.va 2003, .op .sbytes [.op .ssub [.va 0, .va 2000, J]]]
def am8 (J : SX) : SX := .op .lcat [aM6 J, .op .sbytes [.cs [0, 255]]]
def bM0 (J : SX) : VT := .need (.op .and [.op (.cmp .leq) [.va 2000, J], .op (.cmp .leq) [J, .op .slen [.va 0]]]) (.need (.op .and [.op (.cmp .eql) [.va 2002, .op .llen [.va 2003]], .op (.cmp .leq) [.op .llen [aM6 J], .ci 1000000]]) (.need (.op (.cmp .leq) [.op .llen [am8 J], .ci 1000000]) (.ret 0 [.op (.ar .add .i64) [J, .ci 1], .op (.ar .add .i64) [.va 2001, .ci 1], .op .llen [am8 J], am8 J])))
def a70 : SX := .op .ssub [.va 0, .va 2000, .op .slen [.va 0]]
theorem c36 : bL2 = .ite (.op (.cmp .lss) [.va 2001, .op .scnt [.va 0, .ci 0]]) (.need (.op .and [.op (.cmp .leq) [.ci 0, .va 2000], .op (.cmp .leq) [.va 2000, .op .slen [.va 0]]]) (.ite (.op (.scmp .eql) [.cs [0], a70]) (bM0 (.op (.ar .add .i64) [.va 2000, .ci 0])) (bM0 (.op (.ar .add .i64) [.va 2000, .op .sidx [a70, .ci 0]])))) (.ret 1 [.va 2000, .va 2001, .va 2002, .va 2003]) := rfl
theorem b67 {ω : Opq} {J : SX} {s s1 p q : List UInt8} {i : Nat} (w0 : (ω.w 0).toS = s) (w1 : ω.w 2000 = .vi s1.length) (w2 : ω.w 2001 = .vi i) (w3 : ω.w 2002 = .vi (B3 s1).length) (w4 : ω.w 2003 = .vl (sbV (B3 s1)))
 (hst : s = s1 ++ (p ++ 0 :: q)) (hn : s.length ≤ 1000) (hi : i ≤ 1000) (hp : j0 0 p = 0) (hJ : dI ω J = ((s1.length + p.length : Nat) : Int)) :
 g8 (bM0 J) ω = some (0, [.vi (s1 ++ p ++ [0]).length, .vi (i + 1 : Nat), .vi (B3 (s1 ++ p ++ [0])).length, .vl (sbV (B3 (s1 ++ p ++ [0])))]) := by
 have hlen : s.length = s1.length + (p.length + (q.length + 1)) := by rw [hst]; simp
 have he1 := W3 s1
 have hep : B3 p = p := a35 hp
 have aa2 : B3 (s1 ++ p ++ [0]) = B3 s1 ++ p ++ [0, 255] := by rw [ac1, ac1, hep]; rfl
 have hv : dI ω (.va 2000) = (s1.length : Int) := by show (ω.w 2000).toI = _; rw [w1]; rfl
 have hpart : dS ω (.op .ssub [.va 0, .va 2000, J]) = p := by
  show ((ω.w 0).toS.drop (dI ω (.va 2000)).toNat).take (dI ω J - dI ω (.va 2000)).toNat = p
  rw [w0, hv, hJ, Int.toNat_natCast, hst, List.drop_left, show (((s1.length + p.length : Nat) : Int) - (s1.length : Int)).toNat = p.length by omega, List.take_left]
 have hcut : den ω (aM6 J) = .vl (sbV (B3 s1) ++ sbV p) := by
  show Val.vl ((ω.w 2003).toL ++ sbV (dS ω (.op .ssub [.va 0, .va 2000, J]))) = _
  rw [w4, hpart]; rfl
 have hout : den ω (am8 J) = .vl (sbV (B3 (s1 ++ p ++ [0]))) := by
  show Val.vl ((den ω (aM6 J)).toL ++ sbV [0, 255]) = _
  rw [hcut, aa2, am6, am6]; rfl
 have hol : (B3 (s1 ++ p ++ [0])).length = (B3 s1).length + p.length + 2 := by rw [aa2]; simp [Nat.add_assoc]
 unfold bM0
 refine i4 ?_ (i4 ?_ (i4 ?_ ?_))
 · refine T3 (decide_eq_true (show dI ω (.va 2000) ≤ dI ω J from ?_)) (decide_eq_true (show dI ω J ≤ ((ω.w 0).toS.length : Int) from ?_))
   · rw [hv, hJ]; omega
   · rw [w0, hJ]; omega
 · refine T3 (decide_eq_true (show (ω.w 2002).toI = ((ω.w 2003).toL.length : Int) from ?_)) (decide_eq_true (show ((den ω (aM6 J)).toL.length : Int) ≤ 1000000 from ?_))
   · rw [w3, w4]; show ((B3 s1).length : Int) = ((sbV (B3 s1)).length : Int); rw [R0]
   · rw [hcut, j5, List.length_append, R0, R0]; omega
 · refine decide_eq_true (show ((den ω (am8 J)).toL.length : Int) ≤ 1000000 from ?_)
   rw [hout, j5, R0, hol]; omega
 · show some (0, [Val.vi (arI .add .i64 (dI ω J) 1), Val.vi (arI .add .i64 (ω.w 2001).toI 1), Val.vi ((den ω (am8 J)).toL.length : Int), den ω (am8 J)]) = _
   rw [hJ, w2, hout, j5, R0, g9, aC2 (by omega) (by omega), aC2 (by omega) (by omega)]
   have e1 : ((s1.length + p.length : Nat) : Int) + 1 = ((s1 ++ p ++ [0]).length : Int) := by simp [Int.add_assoc]
   rw [e1]; rfl
theorem c37 {ω : Opq} {s s1 t : List UInt8} {c i : Nat} (hs : (ω.w 0).toS = s) (hst : s = s1 ++ t) (hn : s.length ≤ 1000) (hc : j0 0 s = c) (hi : i + j0 0 t = c) (h0 : j0 0 t ≠ 0) :
 ∃ p q, t = p ++ 0 :: q ∧ j0 0 p = 0 ∧ g8 bL2 (ω.upd 2000 [.vi s1.length, .vi i, .vi (B3 s1).length, .vl (sbV (B3 s1))]) = some (0, [.vi (s1 ++ p ++ [0]).length, .vi (i + 1 : Nat), .vi (B3 (s1 ++ p ++ [0])).length, .vl (sbV (B3 (s1 ++ p ++ [0])))]) := by
 obtain ⟨p, q, e, hp, _⟩ := bx5 0 h0
 refine ⟨p, q, e, hp, ?_⟩
 subst e
 obtain ⟨ω', hω⟩ : ∃ ω', ω' = ω.upd 2000 [.vi s1.length, .vi i, .vi (B3 s1).length, .vl (sbV (B3 s1))] := ⟨_, rfl⟩
 have w0 : (ω'.w 0).toS = s := by rw [hω]; exact hs
 have w1 : ω'.w 2000 = .vi s1.length := by rw [hω]; rfl
 have w2 : ω'.w 2001 = .vi i := by rw [hω]; rfl
 have w3 : ω'.w 2002 = .vi (B3 s1).length := by rw [hω]; rfl
 have w4 : ω'.w 2003 = .vl (sbV (B3 s1)) := by rw [hω]; rfl
 rw [← hω, c36]
 have hlen : s.length = s1.length + (p.length + (q.length + 1)) := by rw [hst]; simp
 have hcs := aC3 0 s
 have hv : dI ω' (.va 2000) = (s1.length : Int) := by show (ω'.w 2000).toI = _; rw [w1]; rfl
 have hrest : dS ω' a70 = p ++ 0 :: q := by
  show ((ω'.w 0).toS.drop (dI ω' (.va 2000)).toNat).take (((ω'.w 0).toS.length : Int) - dI ω' (.va 2000)).toNat = _
  rw [w0, hv, Int.toNat_natCast]
  conv => lhs; rw [hst, List.drop_left]
  rw [List.take_of_length_le]
  simp; omega
 refine E8 (decide_eq_true (show (ω'.w 2001).toI < ((j0 (0 : Int).toNat (ω'.w 0).toS : Nat) : Int) from ?_)) (i4 (T3 (decide_eq_true (show (0 : Int) ≤ dI ω' (.va 2000) from ?_)) (decide_eq_true (show dI ω' (.va 2000) ≤ ((ω'.w 0).toS.length : Int) from ?_))) ?_)
 · rw [w2, w0]; show (i : Int) < ((j0 0 s : Nat) : Int); omega
 · rw [hv]; omega
 · rw [hv, w0]; omega
 · by_cases hone : [(0 : UInt8)] = p ++ 0 :: q
   · have hp0 : p = [] := by
      cases p with
      | nil => rfl
      | cons b p => exfalso; have := congrArg List.length hone; simp at this
     refine E8 (decide_eq_true (show [(0 : UInt8)] = dS ω' a70 from ?_)) (b67 w0 w1 w2 w3 w4 hst hn (by omega) hp ?_)
     · rw [hrest]; exact hone
     · show arI .add .i64 (dI ω' (.va 2000)) 0 = _
       rw [hv, hp0, aC2 (by omega) (by omega)]; simp
   · refine x7 (decide_eq_false (show ¬ [(0 : UInt8)] = dS ω' a70 from ?_)) (b67 w0 w1 w2 w3 w4 hst hn (by omega) hp ?_)
     · rw [hrest]; exact hone
     · show arI .add .i64 (dI ω' (.va 2000)) (a77 (0 : Int).toNat (dS ω' a70)) = _
       rw [hv, hrest, show (0 : Int).toNat = 0 from rfl, ci1 hp, aC2 (by omega) (by omega)]; omega
theorem bx9 {ω : Opq} {s : List UInt8} {c : Nat} (hs : (ω.w 0).toS = s) (hn : s.length ≤ 1000) (hc : j0 0 s = c) : ∀ (k : Nat) (s1 t : List UInt8) (i : Nat), s = s1 ++ t → j0 0 t = k → i + k = c → (s1 = [] ∨ ∃ x, s1 = x ++ [0]) →
 Iter (fun vs => g8 bL2 (ω.upd 2000 vs)) [.vi s1.length, .vi i, .vi (B3 s1).length, .vl (sbV (B3 s1))] 0 [.vi (spl s).1.length, .vi c, .vi (B3 (spl s).1).length, .vl (sbV (B3 (spl s).1))]
 | 0, s1, t, i, hst, ht, hi, h1 => by
   have hspl : (spl s).1 = s1 := by
    rcases h1 with rfl | ⟨x, rfl⟩
    · rw [hst, List.nil_append, bL9 ht]
    · rw [hst, List.append_assoc, List.singleton_append, bS4 x ht]
   rw [hspl]
   refine .out ?_
   have g1 : ¬ (i : Int) < ((j0 0 s : Nat) : Int) := by omega
   have hic : i = c := by omega
   subst hic
   have cnt0 : j0 (0 : Int).toNat s = j0 0 s := rfl
   show g8 bL2 (ω.upd 2000 [_, _, _, _]) = _
   unfold bL2
   simp only [g8.eq_2, g8.eq_4, j3, den, dB, z9, o9, show (2000 ≤ 2000) = True by simp, show (2000 ≤ 2001) = True by simp, show (2000 ≤ 2002) = True by simp, show (2000 ≤ 2003) = True by simp, if_true, show 2000 - 2000 = 0 from rfl, show 2001 - 2000 = 1 from rfl, show 2002 - 2000 = 2 from rfl, show 2003 - 2000 = 3 from rfl, List.getD_cons_zero, List.getD_cons_succ, show (2000 ≤ 0) = False by simp, if_false, g9, p7, k9, hs, cnt0, g1, decide_false, Bool.false_eq_true]
 | k + 1, s1, t, i, hst, ht, hi, h1 => by
   obtain ⟨p, q, e, hp, hstep⟩ := c37 (ω := ω) hs hst hn hc (i := i) (by omega) (by omega)
   refine .more hstep (bx9 hs hn hc k (s1 ++ p ++ [0]) q (i + 1) (by rw [hst, e]; simp) ?_ (by omega) (.inr ⟨_, rfl⟩))
   rw [e, a36, hp] at ht
   simpa [j0] using ht
theorem ci2 (x : Val) : (FX X 300 [x]).toS = B3 x.toS := by
 show (bif decide (j0 0 x.toS = 0) then x else .vs (B3 x.toS)).toS = _
 by_cases h : j0 0 x.toS = 0
 · rw [decide_eq_true h, a35 h]; rfl
 · rw [decide_eq_false h]; rfl
theorem ci3 {ω : Opq} (hf : ∀ i a, ω.f i a = FX X i a) (hn : (ω.w 0).toS.length ≤ 1000) : g8 b48 ω = some (0, [FX X 300 [ω.w 0]]) := by
 obtain ⟨s, hs⟩ : ∃ s, (ω.w 0).toS = s := ⟨_, rfl⟩
 rw [hs] at hn
 have hF : FX X 300 [ω.w 0] = bif decide (j0 0 s = 0) then ω.w 0 else .vs (B3 s) := by rw [← hs]; rfl
 rw [hF]
 have hc0 := aC3 0 s
 have cnt0 : dI ω (.op .scnt [.va 0, .ci 0]) = (j0 0 s : Nat) := by
  show ((j0 (0 : Int).toNat (ω.w 0).toS : Nat) : Int) = _; rw [hs]; rfl
 unfold b48
 by_cases h0 : j0 0 s = 0
 · rw [decide_eq_true h0]
   exact E8 (by show decide (dI ω (.op .scnt [.va 0, .ci 0]) = 0) = true; rw [cnt0, h0]; rfl) rfl
 · rw [decide_eq_false h0]
   have hsl : dI ω (.op .slen [.va 0]) = (s.length : Nat) := by show ((ω.w 0).toS.length : Int) = _; rw [hs]
   have r0 : dI ω ak3 = ((s.length + j0 0 s : Nat) : Int) := by
    show arI .add .i64 (dI ω (.op .slen [.va 0])) (arI .mul .i64 (dI ω (.op .scnt [.va 0, .ci 0])) 1) = _
    rw [hsl, cnt0, ct8 (by omega) (by omega), Int.mul_one, aC2 (by omega) (by omega)]; omega
   have r1 : dI ω aL2 = ((s.length + j0 0 s : Nat) : Int) := by
    show arI .add .i64 0 (dI ω ak3) = _
    rw [r0, aC2 (by omega) (by omega)]; omega
   obtain ⟨a, b, hab⟩ : ∃ a b, spl s = (a, b) := ⟨_, _, rfl⟩
   have hj : a ++ b = s := by have := b65 s; rw [hab] at this; exact this
   have hb0 : j0 0 b = 0 := by have := b66 s; rw [hab] at this; exact this
   have hlen : a.length + b.length = s.length := by rw [← hj]; simp
   have hea := W3 a
   have hloop : r8 (fun vs => g8 bL2 (ω.upd 2000 vs)) [.vi 0, .vi 0, .vi 0, .vl []] = some (0, [.vi a.length, .vi (j0 0 s : Nat), .vi (B3 a).length, .vl (sbV (B3 a))]) := by
    rw [q9]
    have := bx9 (ω := ω) hs hn rfl (j0 0 s) [] s 0 rfl rfl (by omega) (.inl rfl)
    rw [hab] at this
    exact this
   have h320 : FX X 320 [.vi 0, .vi 0, .vi 0, .vl [], ω.w 0, .vi 0, .vi 0, .vl [], .vi (j0 0 s : Nat)] = v5 (0, [.vi a.length, .vi (j0 0 s : Nat), .vi (B3 a).length, .vl (sbV (B3 a))]) := by
    show v5 (0, [.vi (spl (ω.w 0).toS).1.length, .vi (j0 0 (ω.w 0).toS : Nat), .vi (B3 (spl (ω.w 0).toS).1).length, .vl (sbV (B3 (spl (ω.w 0).toS).1))]) = _
    rw [hs, hab]
   have e2 : den ω ak4 = v5 (0, [.vi a.length, .vi (j0 0 s : Nat), .vi (B3 a).length, .vl (sbV (B3 a))]) := by
    show ω.f 320 [.vi 0, .vi 0, .vi ((([] : List Val).length : Nat) : Int), .vl [], ω.w 0, .vi ((([] : List Val).length : Nat) : Int), .vi ((([] : List Val).length : Nat) : Int), .vl [], .vi (j0 (0 : Int).toNat (ω.w 0).toS : Nat)] = _
    rw [hf, hs]; exact h320
   have e3 : dI ω a87 = (a.length : Int) := by show (w6 (den ω ak4).toL 1 0).toI = _; rw [e2]; rfl
   have e5 : den ω aL3 = .vl (sbV (B3 a)) := by show w6 (den ω ak4).toL 1 3 = _; rw [e2]; rfl
   have e6 : den ω K6 = .vl (sbV (B3 s)) := by
    show Val.vl ((den ω aL3).toL ++ (((ω.w 0).toS.drop (dI ω a87).toNat).take (dI ω (.op .slen [.va 0]) - dI ω a87).toNat).map fun b => Val.vl [.vi (b.toNat : Int)]) = _
    rw [e5, e3, hsl, hs, Int.toNat_natCast]
    have : ((s.drop a.length).take ((s.length : Int) - (a.length : Int)).toNat) = b := by
     rw [← hj, List.drop_left, List.take_of_length_le]
     simp; omega
    rw [this]
    show Val.vl (sbV (B3 a) ++ sbV b) = _
    rw [← am6, ← hj, ac1, a35 hb0]
   have hes := W3 s
   have hge := bx4 s
   have main : ∀ x, g8 (.loop ⟨320, [.ci 0, .ci 0, .op .llen [.op .row []], .op .row []], 2000, [.va 0, .op .llen [.op .row []], .op .llen [.op .row []], .op .row [], .op .scnt [.va 0, .ci 0]]⟩ bL2 [.need (bv6) (.need (bv7) (.need (bv8) (.need (bv9) (.ret 0 [.op .bstr [K6]]))))]) ω = x → x = some (0, [.vs (B3 s)]) := by
    rintro _ rfl
    refine k5 (r := (0, [.vi a.length, .vi (j0 0 s : Nat), .vi (B3 a).length, .vl (sbV (B3 a))])) hloop e2 ?_
    refine i4 ?_ (i4 ?_ (i4 ?_ (i4 ?_ ?_)))
    · show (decide (0 ≤ dI ω a87) && decide (dI ω a87 ≤ dI ω (.op .slen [.va 0]))) = true
      rw [e3, hsl, Bool.and_eq_true]
      exact ⟨decide_eq_true (by omega), decide_eq_true (by omega)⟩
    · show (decide ((w6 (den ω ak4).toL 1 2).toI = ((den ω aL3).toL.length : Int)) && decide (((den ω K6).toL.length : Int) ≤ 1000000)) = true
      rw [e2, e5, e6, Bool.and_eq_true]
      refine ⟨decide_eq_true ?_, decide_eq_true ?_⟩
      · show ((B3 a).length : Int) = ((sbV (B3 a)).length : Int); rw [R0]
      · show ((sbV (B3 s)).length : Int) ≤ _; rw [R0]; omega
    · show decide ((0 : Int) < ((den ω K6).toL.length : Int)) = true
      rw [e6]
      refine decide_eq_true ?_
      show (0 : Int) < ((sbV (B3 s)).length : Int); rw [R0]; omega
    · show (decide (((den ω K6).toL.length : Int) ≤ ((den ω K6).toL.length : Int)) && c34 (den ω K6).toL) = true
      rw [e6, Bool.and_eq_true]
      exact ⟨decide_eq_true (Int.le_refl _), b64 _⟩
    · show some (0, [Val.vs (unV (den ω K6).toL)]) = _
      rw [e6]
      show some (0, [Val.vs (unV (sbV (B3 s)))]) = _
      rw [c33]
   refine x7 (by show decide (dI ω (.op .scnt [.va 0, .ci 0]) = 0) = false; rw [cnt0]; exact decide_eq_false (by omega)) ?_
   refine x7 (by show decide (dI ω ak3 < 0) = false; rw [r0]; exact decide_eq_false (by omega)) ?_
   refine E8 (by show decide (0 < dI ω ak3) = true; rw [r0]; exact decide_eq_true (by omega)) ?_
   refine i4 ?_ (i4 rfl ?_)
   · show (decide (0 ≤ dI ω aL2) && decide (dI ω aL2 ≤ 281474976710656)) = true
     rw [r1, Bool.and_eq_true]
     exact ⟨decide_eq_true (by omega), decide_eq_true (by omega)⟩
   · exact main _ rfl
theorem c38 {ω : Opq} (hf : ∀ i a, ω.f i a = FX X i a) : g8 aB1 ω = some (0, [FX X 302 [ω.w 0]]) := by
 have hF : FX X 302 [ω.w 0] = .vs (bx6 (aM4 (ω.w 0).toI)) := rfl
 rw [hF]
 obtain ⟨h0, h1⟩ := am7 (ω.w 0).toI
 have e0 : dI ω ak5 = aM4 (ω.w 0).toI := rfl
 generalize aM4 (ω.w 0).toI = a at *
 have hp := aM5 h0
 have e1 : dI ω ak6 = dv a 1 := by show arI .shr .u64 (dI ω ak5) 8 = _; rw [e0, c32 h0]; rfl
 have e2 : dI ω ak7 = dv a 2 := by show arI .shr .u64 (dI ω ak6) 8 = _; rw [e1, c32 (hp 1)]; rfl
 have e3 : dI ω ak8 = dv a 3 := by show arI .shr .u64 (dI ω ak7) 8 = _; rw [e2, c32 (hp 2)]; rfl
 have e4 : dI ω ak9 = dv a 4 := by show arI .shr .u64 (dI ω ak8) 8 = _; rw [e3, c32 (hp 3)]; rfl
 have e5 : dI ω al0 = dv a 5 := by show arI .shr .u64 (dI ω ak9) 8 = _; rw [e4, c32 (hp 4)]; rfl
 have e6 : dI ω al3 = dv a 6 := by show arI .shr .u64 (dI ω al0) 8 = _; rw [e5, c32 (hp 5)]; rfl
 have row : ∀ x : Int, Val.vl [.vi (IntKind.u8.wrap x)] = .vl [.vi (x % 256)] := fun x => by rw [wu8]
 have e7 : den ω al4 = .vl [.vl [.vi (dv a 7 % 256)], .vl [.vi (dv a 6 % 256)], .vl [.vi (dv a 5 % 256)], .vl [.vi (dv a 4 % 256)], .vl [.vi (dv a 3 % 256)], .vl [.vi (dv a 2 % 256)], .vl [.vi (dv a 1 % 256)], .vl [.vi (dv a 0 % 256)]] := by
  show Val.vl [.vl [.vi (IntKind.u8.wrap (arI .shr .u64 (dI ω al3) 8))], .vl [.vi (IntKind.u8.wrap (dI ω al3))], .vl [.vi (IntKind.u8.wrap (dI ω al0))], .vl [.vi (IntKind.u8.wrap (dI ω ak9))], .vl [.vi (IntKind.u8.wrap (dI ω ak8))], .vl [.vi (IntKind.u8.wrap (dI ω ak7))], .vl [.vi (IntKind.u8.wrap (dI ω ak6))], .vl [.vi (IntKind.u8.wrap (dI ω ak5))]] = _
  rw [e0, e1, e2, e3, e4, e5, e6, c32 (hp 6)]
  simp only [row]; rfl
 unfold aB1
 refine i4 ?_ ?_
 · show c34 (den ω al4).toL = true
   rw [e7]
   have b : ∀ x : Int, (decide (0 ≤ x % 256) && decide (x % 256 < 256)) = true := fun x => by
    rw [Bool.and_eq_true]; exact ⟨decide_eq_true (by omega), decide_eq_true (by omega)⟩
   simp only [c34, j5, List.all_cons, List.all_nil, List.getD_cons_zero, g9, b, Bool.and_self]
 · show some (0, [Val.vs (unV (den ω al4).toL)]) = _
   rw [e7]; rfl
theorem ci4 {ω : Opq} {a b : SX} {n : Int} {x y : List UInt8} (ha : (den ω a).toS = x) (hb : (den ω b).toS = y) (h : (x.length : Int) + (y.length : Int) < n) : dB ω (.op (.cmp .lss) [.op .iadd [.op .slen [a], .op .slen [b]], .ci n]) = true := by
 show decide (((den ω a).toS.length : Int) + ((den ω b).toS.length : Int) < n) = true
 rw [ha, hb]; exact decide_eq_true h
theorem c39 {ω : Opq} (hf : ∀ i a, ω.f i a = FX X i a) (hn : (ω.w 0).toS.length ≤ 1000) : g8 aB2 ω = some (0, [FX X 301 [ω.w 0]]) := by
 have hF : FX X 301 [ω.w 0] = .vs (B3 (ω.w 0).toS ++ [0, 0]) := rfl
 have h3 : (den ω (.app 300 [.va 0])).toS = B3 (ω.w 0).toS := by show (ω.f 300 [ω.w 0]).toS = _; rw [hf]; exact ci2 _
 have hl := W3 (ω.w 0).toS
 unfold aB2
 refine i4 (decide_eq_true (show ((ω.w 0).toS.length : Int) ≤ 1000 by omega)) (i4 ?_ ?_)
 · exact ci4 (n := 4294967296) h3 rfl (by show ((B3 (ω.w 0).toS).length : Int) + (2 : Nat) < 4294967296; omega)
 · show some (0, [Val.vs ((den ω (.app 300 [.va 0])).toS ++ [0, 0])]) = _
   rw [h3, hF]
theorem bM1 (L : List Val) (k : Nat) (v : Val) (h : k < L.length) : (L.set k v).take (k + 1) = L.take k ++ [v] := by
 rw [List.take_add_one, List.getElem?_set_self h, List.take_set_of_le (Nat.le_refl _)]; rfl
theorem bM2 (l : List UInt8) : 0 < (Z5 l).length ∧ (Z5 l).length ≤ 2 * l.length + 2 := by
 have := W3 l
 unfold Z5
 rw [List.length_append]
 simp; omega
section
variable {ω : Opq} (hf : ∀ i a, ω.f i a = FX X i a)
include hf
theorem bT (i : Nat) : den ω (.op .sbytes [.app 301 [.va i]]) = .vl (sbV (Z5 (ω.w i).toS)) := by
 show Val.vl (sbV (ω.f 301 [ω.w i]).toS) = _
 rw [hf]; rfl
theorem bI (i : Nat) : den ω (.op .sbytes [.app 302 [.va i]]) = .vl (sbV (a37 (ω.w i).toI)) := by
 show Val.vl (sbV (ω.f 302 [ω.w i]).toS) = _
 rw [hf]; rfl
end
theorem J7 : ∀ x : List UInt8, ltB x x = false
 | [] => rfl
 | a :: x => by
   show (bif Nat.blt a.toNat a.toNat then true else bif Nat.beq a.toNat a.toNat then ltB x x else false) = false
   rw [J7 x]
   have h1 : Nat.blt a.toNat a.toNat = false := by
    cases h : Nat.blt a.toNat a.toNat with
    | false => rfl
    | true => exact absurd (j7.1 h) (Nat.lt_irrefl _)
   rw [h1]; cases Nat.beq a.toNat a.toNat <;> rfl
theorem t8 (a b : UInt8) (x y : List UInt8) : ltB (a :: x) (b :: y) = true ↔ a.toNat < b.toNat ∨ a = b ∧ ltB x y = true := by
 show (bif Nat.blt a.toNat b.toNat then true else bif Nat.beq a.toNat b.toNat then ltB x y else false) = true ↔ _
 cases h1 : Nat.blt a.toNat b.toNat with
 | true => simp [j7.1 h1]
 | false =>
   have h1' : ¬ a.toNat < b.toNat := fun h => by rw [j7.2 h] at h1; cases h1
   cases h2 : Nat.beq a.toNat b.toNat with
   | true =>
     have : a = b := UInt8.toNat_inj.1 (e8.1 h2)
     simp [h1', this]
   | false =>
     have : ¬ a = b := fun h => by rw [h, e8.2 rfl] at h2; cases h2
     simp [h1', this]
theorem am9 : ∀ {x y z : List UInt8}, ltB x y = true → ltB y z = true → ltB x z = true
 | _, [], [], _, h => by cases h
 | _, _ :: _, [], _, h => by cases h
 | [], [], _, h, _ => by cases h
 | _ :: _, [], _, h, _ => by cases h
 | [], _ :: _, _ :: _, _, _ => rfl
 | a :: x, b :: y, c :: z, h1, h2 => by
   rw [t8] at *
   rcases h1 with h1 | ⟨rfl, h1⟩ <;> rcases h2 with h2 | ⟨rfl, h2⟩
   · exact .inl (Nat.lt_trans h1 h2)
   · exact .inl h1
   · exact .inl h2
   · exact .inr ⟨rfl, am9 h1 h2⟩
theorem aC4 : ∀ {x y : List UInt8}, ltB x y = false → ltB y x = false → x = y
 | [], [], _, _ => rfl
 | [], _ :: _, h, _ => by cases h
 | _ :: _, [], _, h => by cases h
 | a :: x, b :: y, h1, h2 => by
   rw [← Bool.not_eq_true, t8] at h1 h2
   have hab : a = b := UInt8.toNat_inj.1 (by omega)
   subst hab
   have := aC4 (x := x) (y := y) (by rw [← Bool.not_eq_true]; exact fun h => h1 (.inr ⟨rfl, h⟩)) (by rw [← Bool.not_eq_true]; exact fun h => h2 (.inr ⟨rfl, h⟩))
   rw [this]
theorem aM7 (b : UInt8) (y : List UInt8) : ltB (b :: y) [] = true ↔ False := ⟨fun h => (by cases h), fun h => h.elim⟩
theorem ac3 (x : List UInt8) : Z5 [] ++ x = 0 :: 0 :: x := rfl
theorem O9 (k x : List UInt8) : Z5 (0 :: k) ++ x = 0 :: 255 :: (Z5 k ++ x) := by simp [Z5, B3]
theorem P0 {b : UInt8} (h : ¬ b = 0) (k x : List UInt8) : Z5 (b :: k) ++ x = b :: (Z5 k ++ x) := by simp [Z5, B3, h]
theorem u0 : (0 : UInt8).toNat = 0 := rfl
theorem ct9 : (255 : UInt8).toNat = 255 := rfl
theorem bM3 {b : UInt8} (h : ¬ b = 0) : 0 < b.toNat := by
 rcases Nat.eq_zero_or_pos b.toNat with e | e
 · exact absurd (UInt8.toNat_inj.1 e) h
 · exact e
theorem aV5 : ∀ (a b x y : List UInt8), ltB (Z5 a ++ x) (Z5 b ++ y) = true ↔ ltB a b = true ∨ a = b ∧ ltB x y = true
 | [], [], x, y => by
   rw [ac3, ac3, t8, t8, J7]
   simp
 | [], b :: r, x, y => by
   have e : ltB [] (b :: r) = true := rfl
   rw [e, ac3]
   by_cases h : b = 0
   · subst h
     rw [O9, t8, t8, u0, ct9]; simp
   · have := bM3 h
     rw [P0 h, t8, u0]; simp [this]
 | b :: r, [], x, y => by
   rw [ac3, aM7]
   by_cases h : b = 0
   · subst h
     rw [O9, t8, t8, u0, ct9]; simp
   · have := bM3 h
     rw [P0 h, t8, u0]; simp [h]
 | a :: p, b :: q, x, y => by
   have ih := aV5 p q x y
   rw [t8]
   by_cases h : a = 0
   · subst h
     by_cases h2 : b = 0
     · subst h2
       rw [O9, O9, t8, t8, ih, u0, ct9]; simp
     · have := bM3 h2
       rw [O9, P0 h2, t8, u0]
       simp [this]
   · have ha := bM3 h
     by_cases h2 : b = 0
     · subst h2
       rw [O9, P0 h, t8, u0]
       simp [h]
     · rw [P0 h, P0 h2, t8, ih]
       simp only [List.cons.injEq]
       constructor
       · rintro (h | ⟨h, h3 | h3⟩)
         · exact .inl (.inl h)
         · exact .inl (.inr ⟨h, h3⟩)
         · exact .inr ⟨⟨h, h3.1⟩, h3.2⟩
       · rintro ((h | h) | h)
         · exact .inl h
         · exact .inr ⟨h.1, .inl h.2⟩
         · exact .inr ⟨h.1.1, .inr ⟨h.1.2, h.2⟩⟩
theorem c40 {a : Nat} (h : a < 2 ^ 64) : a ^^^ 2 ^ 63 = if a < 2 ^ 63 then a + 2 ^ 63 else a - 2 ^ 63 := by
 have h1 : (a ^^^ 2 ^ 63) % 2 ^ 63 = a % 2 ^ 63 := by rw [Nat.xor_mod_two_pow]; simp
 have h2 : (a ^^^ 2 ^ 63) / 2 ^ 63 = (a / 2 ^ 63) ^^^ 1 := by rw [Nat.xor_div_two_pow]
 have h3 : a / 2 ^ 63 = 0 ∨ a / 2 ^ 63 = 1 := by omega
 rcases h3 with h3 | h3
 · rw [h3] at h2
   have h2 : (a ^^^ 2 ^ 63) / 2 ^ 63 = 1 := h2
   rw [if_pos (by omega)]; omega
 · rw [h3] at h2
   have h2 : (a ^^^ 2 ^ 63) / 2 ^ 63 = 0 := h2
   rw [if_neg (by omega)]; omega
theorem b68 {n : Int} (h1 : -9223372036854775808 ≤ n) (h2 : n < 9223372036854775808) : aM4 n = n + 9223372036854775808 := by
 show IntKind.u64.wrap ((BitVec.ofInt 64 (IntKind.u64.wrap n) ^^^ BitVec.ofInt 64 9223372036854775808).toNat : Int) = _
 rw [ct7, ct7]
 obtain ⟨m, hm⟩ : ∃ m : Nat, n % 18446744073709551616 = (m : Int) := ⟨(n % 18446744073709551616).toNat, by omega⟩
 have hm2 : m < 2 ^ 64 := by omega
 rw [hm]
 have e1 : (BitVec.ofInt 64 (m : Int) ^^^ BitVec.ofInt 64 9223372036854775808).toNat = m ^^^ 2 ^ 63 := by
  rw [BitVec.toNat_xor]
  have : (BitVec.ofInt 64 (m : Int)).toNat = m := by
   rw [BitVec.toNat_ofInt]
   omega
  rw [this]; rfl
 rw [e1, c40 hm2]
 split <;> omega
theorem aM8 (a : Int) (k : Nat) (h : 0 ≤ a) : ((byV a k).toNat : Int) = dv a k % 256 := by
 unfold byV
 rw [UInt8.toNat_ofNat']
 have := aM5 h k
 omega
theorem dig {a b : Int} {P : Prop} : (a / 256 < b / 256 ∨ a / 256 = b / 256 ∧ (a % 256 < b % 256 ∨ a % 256 = b % 256 ∧ P)) ↔ (a < b ∨ a = b ∧ P) := by
 by_cases h : P <;> simp only [h, and_true, and_false, or_false] <;> omega
theorem ci5 (a b : Int) (ha : 0 ≤ a) (hb : 0 ≤ b) (k : Nat) (x y : List UInt8) : ltB (byV a k :: x) (byV b k :: y) = true ↔ dv a k % 256 < dv b k % 256 ∨ dv a k % 256 = dv b k % 256 ∧ ltB x y = true := by
 rw [t8]
 have h1 := aM8 a k ha
 have h2 := aM8 b k hb
 constructor
 · rintro (h | ⟨h, h3⟩)
   · left; omega
   · right; exact ⟨by rw [← h1, ← h2, h], h3⟩
 · rintro (h | ⟨h, h3⟩)
   · left; omega
   · right; exact ⟨UInt8.toNat_inj.1 (by omega), h3⟩
theorem bM4 {a b : Int} (ha : 0 ≤ a) (hb : 0 ≤ b) (ha2 : a < 18446744073709551616) (hb2 : b < 18446744073709551616) (x y : List UInt8) : ltB (bx6 a ++ x) (bx6 b ++ y) = true ↔ a < b ∨ a = b ∧ ltB x y = true := by
 unfold bx6
 simp only [List.cons_append, List.nil_append, ci5 a b ha hb]
 have t1 : dv a 7 % 256 = dv a 7 := by
  have := aM5 ha 7
  simp only [dv] at this ⊢; omega
 have t2 : dv b 7 % 256 = dv b 7 := by
  have := aM5 hb 7
  simp only [dv] at this ⊢; omega
 rw [t1, t2]
 show (dv a 6 / 256 < dv b 6 / 256 ∨ dv a 6 / 256 = dv b 6 / 256 ∧ _) ↔ _
 rw [dig]
 show (dv a 5 / 256 < dv b 5 / 256 ∨ dv a 5 / 256 = dv b 5 / 256 ∧ _) ↔ _
 rw [dig]
 show (dv a 4 / 256 < dv b 4 / 256 ∨ dv a 4 / 256 = dv b 4 / 256 ∧ _) ↔ _
 rw [dig]
 show (dv a 3 / 256 < dv b 3 / 256 ∨ dv a 3 / 256 = dv b 3 / 256 ∧ _) ↔ _
 rw [dig]
 show (dv a 2 / 256 < dv b 2 / 256 ∨ dv a 2 / 256 = dv b 2 / 256 ∧ _) ↔ _
 rw [dig]
 show (dv a 1 / 256 < dv b 1 / 256 ∨ dv a 1 / 256 = dv b 1 / 256 ∧ _) ↔ _
 rw [dig]
 show (dv a 0 / 256 < dv b 0 / 256 ∨ dv a 0 / 256 = dv b 0 / 256 ∧ _) ↔ _
 rw [dig]
 rfl
def inI (n : Int) : Prop := -9223372036854775808 ≤ n ∧ n < 9223372036854775808
theorem aC5 {m n : Int} (hm : inI m) (hn : inI n) (x y : List UInt8) : ltB (a37 m ++ x) (a37 n ++ y) = true ↔ m < n ∨ m = n ∧ ltB x y = true := by
 unfold a37
 have h1 := am7 m
 have h2 := am7 n
 rw [bM4 h1.1 h2.1 h1.2 h2.2, b68 hm.1 hm.2, b68 hn.1 hn.2]
 constructor
 · rintro (h | ⟨h, h3⟩)
   · left; omega
   · right; exact ⟨by omega, h3⟩
 · rintro (h | ⟨h, h3⟩)
   · left; omega
   · right; exact ⟨by omega, h3⟩
def l5 (r : Val) (j : Nat) : Val := r.toL.getD j default
def atV (l : List Val) (i : Nat) : Val := l.getD i (.vl [])
def J2 (r : Val) : Val := .vl [l5 r 0, l5 r 1, l5 r 2]
def pk (r : Val) : List UInt8 := (l5 r 0).toS
def ps (r : Val) : Int := (l5 r 1).toI
def pe (r : Val) : Int := (l5 r 2).toI
theorem A2 (l : List Val) (i : Nat) : w6 l (i : Int) 0 = l5 (atV l i) 0 := rfl
theorem A3 (l : List Val) (i : Nat) : w6 l (i : Int) 1 = l5 (atV l i) 1 := rfl
theorem A4 (l : List Val) (i : Nat) : w6 l (i : Int) 2 = l5 (atV l i) 2 := rfl
def au9 (n : Int) : Bool := decide (-9223372036854775808 ≤ n) && decide (n < 9223372036854775808)
theorem by0 {n : Int} (h : au9 n = true) : inI n := by
 unfold au9 at h
 rw [Bool.and_eq_true, decide_eq_true_eq, decide_eq_true_eq] at h
 exact h
def okR (r : Val) : Bool := match r with
 | .vl [.vs _, .vi s, .vi e] => au9 s && au9 e
 | _ => false
theorem bS6 {r : Val} (h : okR r = true) : r = .vl [.vs (pk r), .vi (ps r), .vi (pe r)] ∧ inI (ps r) ∧ inI (pe r) := by
 unfold okR at h
 split at h
 · rename_i k s e
   obtain ⟨h1, h2⟩ := a9 h
   exact ⟨rfl, by0 h1, by0 h2⟩
 · cases h
noncomputable def cp1 (k : Int) (key to : List UInt8) (least most : Int) (pkey : List UInt8) (pend : Int) : Bool :=
 bif decide (k = 1) then (bif decide (pkey = key) then decide (pend = least) else false)
 else bif decide (k = 2) then (bif aZ3 .geq pkey key then (bif decide (to = []) then aZ3 .geq pkey key else aZ3 .lss pkey to) else false)
 else bif decide (k = 3) then (bif decide (least ≤ pend) then decide (pend < most) else false) else false
noncomputable def W4 (a : List Val) (r : Val) : Bool := cp1 (arg a 0).toI (arg a 1).toS (arg a 2).toS (arg a 3).toI (arg a 4).toI (pk r) (pe r)
def m0 (a : List Val) : Bool := decide ((arg a 0).toI = 3)
noncomputable def be0 (sec : Bool) (k : List UInt8) (s e : Int) (k' : List UInt8) (s' e' : Int) : Bool :=
 bif sec then decide (e < e') || decide (e = e') && (ltB k k' || decide (k = k') && decide (s < s'))
 else ltB k k' || decide (k = k') && (decide (e < e') || decide (e = e') && decide (s < s'))
noncomputable def j8 (sec : Bool) (a b : Val) : Bool := be0 sec (pk a) (ps a) (pe a) (pk b) (ps b) (pe b)
def aD9 (sec : Bool) (k : List UInt8) (s e : Int) : List UInt8 := bif sec then a37 e ++ Z5 k ++ a37 s else Z5 k ++ a37 e ++ a37 s
def ci6 (sec : Bool) (r : Val) : List UInt8 := aD9 sec (pk r) (ps r) (pe r)
noncomputable def c93 (x y : List UInt8) : Int := bif ltB x y then -1 else bif ltB y x then 1 else 0
noncomputable def aV6 (sec : Bool) (x : Val) : List Val → List Val
 | [] => [x]
 | y :: r => if j8 sec x y then y :: aV6 sec x r else x :: y :: r
noncomputable def dsc (sec : Bool) (l : List Val) : List Val := l.foldl (fun s x => aV6 sec x s) []
noncomputable def srt (sec : Bool) (l : List Val) : List Val := (dsc sec l).reverse
theorem by1 (sec : Bool) (l : List Val) (x : Val) : dsc sec (l ++ [x]) = aV6 sec x (dsc sec l) := by simp [dsc]
theorem an0 (sec : Bool) (x : Val) : ∀ s : List Val, (aV6 sec x s).Perm (x :: s)
 | [] => .refl _
 | y :: r => by
   unfold aV6
   split
   · exact ((an0 sec x r).cons y).trans (.swap x y r)
   · exact .refl _
theorem bM5 (sec : Bool) (l : List Val) : ∀ s : List Val, (l.foldl (fun s x => aV6 sec x s) s).Perm (l ++ s) := by
 induction l with
 | nil => intro s; exact .refl _
 | cons x l ih =>
   intro s
   rw [List.foldl_cons]
   exact (ih _).trans (((an0 sec x s).append_left l).trans List.perm_middle)
theorem ac4 (sec : Bool) (l : List Val) : (srt sec l).Perm l := by
 have := bM5 sec l []
 rw [List.append_nil] at this
 exact (List.reverse_perm _).trans this
theorem Z4 (sec : Bool) (l : List Val) : (srt sec l).length = l.length := (ac4 sec l).length_eq
theorem a38 (sec : Bool) (k : List UInt8) (s e : Int) (k' : List UInt8) (s' e' : Int) : be0 sec k s e k' s' e' = true ↔ (sec = true ∧ (e < e' ∨ e = e' ∧ (ltB k k' = true ∨ k = k' ∧ s < s')) ∨ sec = false ∧ (ltB k k' = true ∨ k = k' ∧ (e < e' ∨ e = e' ∧ s < s'))) := by
 unfold be0
 cases sec <;> simp
theorem ci7 {x y : List UInt8} (h : ltB x y = true) : ¬ x = y := fun e => by rw [e, J7] at h; cases h
theorem G3 (sec : Bool) (a : Val) : j8 sec a a = false := by
 rw [← Bool.not_eq_true, j8, a38, J7]
 cases sec <;> simp
theorem an1 {sec : Bool} {a b c : Val} (h1 : j8 sec a b = true) (h2 : j8 sec b c = true) : j8 sec a c = true := by
 unfold j8 at *
 rw [a38] at *
 cases sec with
 | true =>
   simp only [true_and, Bool.true_eq_false, false_and, or_false] at *
   rcases h1 with h1 | ⟨e1, h1 | ⟨k1, h1⟩⟩ <;> rcases h2 with h2 | ⟨e2, h2 | ⟨k2, h2⟩⟩
   · exact .inl (by omega)
   · exact .inl (by omega)
   · exact .inl (by omega)
   · exact .inl (by omega)
   · exact .inr ⟨by omega, .inl (am9 h1 h2)⟩
   · exact .inr ⟨by omega, .inl (k2 ▸ h1)⟩
   · exact .inl (by omega)
   · exact .inr ⟨by omega, .inl (k1 ▸ h2)⟩
   · exact .inr ⟨by omega, .inr ⟨k1.trans k2, by omega⟩⟩
 | false =>
   simp only [true_and, Bool.false_eq_true, false_and, false_or] at *
   rcases h1 with h1 | ⟨e1, h1⟩ <;> rcases h2 with h2 | ⟨e2, h2⟩
   · exact .inl (am9 h1 h2)
   · exact .inl (e2 ▸ h1)
   · exact .inl (e1 ▸ h2)
   · exact .inr ⟨e1.trans e2, by omega⟩
theorem Q4 {sec : Bool} {a b : Val} (h : j8 sec a b = true) : j8 sec b a = false := by
 rw [← Bool.not_eq_true]
 intro h2
 have := an1 h h2
 rw [G3] at this; cases this
theorem by2 {sec : Bool} {a b : Val} (h1 : j8 sec a b = false) (h2 : j8 sec b a = false) : pk a = pk b ∧ ps a = ps b ∧ pe a = pe b := by
 unfold j8 at *
 rw [← Bool.not_eq_true, a38] at h1 h2
 cases sec with
 | true =>
   simp only [true_and, Bool.true_eq_false, false_and, or_false, not_or] at h1 h2
   obtain ⟨a1, a2⟩ := h1
   obtain ⟨b1, b2⟩ := h2
   have he : pe a = pe b := by omega
   simp only [he, true_and, not_or] at a2 b2
   have hk := aC4 (by rw [← Bool.not_eq_true]; exact a2.1) (by rw [← Bool.not_eq_true]; exact b2.1)
   have a3 := a2.2
   have b3 := b2.2
   simp only [hk, true_and] at a3 b3
   exact ⟨hk, by omega, he⟩
 | false =>
   simp only [true_and, Bool.false_eq_true, false_and, false_or, not_or] at h1 h2
   obtain ⟨a1, a2⟩ := h1
   obtain ⟨b1, b2⟩ := h2
   have hk := aC4 (by rw [← Bool.not_eq_true]; exact a1) (by rw [← Bool.not_eq_true]; exact b1)
   simp only [hk, true_and] at a2 b2
   exact ⟨hk, by omega, by omega⟩
theorem be1 {sec : Bool} {a b : Val} (h : pk a = pk b ∧ ps a = ps b ∧ pe a = pe b) (c : Val) : j8 sec a c = j8 sec b c := by
 unfold j8; rw [h.1, h.2.1, h.2.2]
theorem t9 {sec : Bool} {a b c : Val} (h1 : j8 sec a b = false) (h2 : j8 sec b c = false) : j8 sec a c = false := by
 rw [← Bool.not_eq_true]
 intro h
 cases h3 : j8 sec b a with
 | true => have := an1 h3 h; rw [h2] at this; cases this
 | false => rw [be1 (by2 h1 h3)] at h; rw [h2] at h; cases h
theorem an2 (sec : Bool) (x : Val) : ∀ s : List Val, s.Pairwise (fun a b => j8 sec a b = false) → (aV6 sec x s).Pairwise (fun a b => j8 sec a b = false)
 | [], _ => by simp [aV6]
 | y :: r, h => by
   unfold aV6
   rw [List.pairwise_cons] at h
   split
   · rename_i hl
     rw [List.pairwise_cons]
     refine ⟨fun z hz => ?_, an2 sec x r h.2⟩
     rcases List.mem_cons.1 ((an0 sec x r).mem_iff.1 hz) with rfl | hz
     · exact Q4 hl
     · exact h.1 z hz
   · rename_i hl
     have hl : j8 sec x y = false := by simpa using hl
     rw [List.pairwise_cons, List.pairwise_cons]
     refine ⟨fun z hz => ?_, h⟩
     rcases List.mem_cons.1 hz with rfl | hz
     · exact hl
     · exact t9 hl (h.1 z hz)
theorem be2 (sec : Bool) (l : List Val) : ∀ s : List Val, s.Pairwise (fun a b => j8 sec a b = false) → (l.foldl (fun s x => aV6 sec x s) s).Pairwise (fun a b => j8 sec a b = false) := by
 induction l with
 | nil => intro s h; exact h
 | cons x l ih => intro s h; exact ih _ (an2 sec x s h)
theorem J8 (sec : Bool) (l : List Val) : (srt sec l).Pairwise (fun a b => j8 sec b a = false) := by
 unfold srt
 rw [List.pairwise_reverse]
 exact be2 sec l [] .nil
theorem cp2 (s : Int) : a37 s = a37 s ++ [] := (List.append_nil _).symm
theorem ci8 (sec : Bool) {a b : Val} (ha : okR a = true) (hb : okR b = true) : ltB (ci6 sec a) (ci6 sec b) = true ↔ j8 sec a b = true := by
 obtain ⟨_, s1, e1⟩ := bS6 ha
 obtain ⟨_, s2, e2⟩ := bS6 hb
 unfold j8
 rw [a38]
 unfold ci6 aD9
 cases sec with
 | true =>
   simp only [cond_true, List.append_assoc]
   rw [aC5 e1 e2, aV5, cp2 (ps a), cp2 (ps b), aC5 s1 s2, J7]
   simp
 | false =>
   simp only [cond_false, List.append_assoc]
   rw [aV5, aC5 e1 e2, cp2 (ps a), cp2 (ps b), aC5 s1 s2, J7]
   simp
theorem bM6 (x y : List UInt8) : c93 x y < 0 ↔ ltB x y = true := by
 unfold c93
 cases ltB x y <;> cases ltB y x <;> simp
noncomputable def del (f : List Val) : Nat → Nat → List Val → Nat → Nat × List Val
 | p, j, M, 0 => (p, M)
 | p, j, M, n + 1 => if W4 f (atV M j) then del f (p + 1) (j + 1) (M.set p (J2 (atV M j))) n else del f p (j + 1) M n
theorem aV7 {M : List Val} {j n : Nat} (h : M.length = j + (n + 1)) : M.drop j = atV M j :: M.drop (j + 1) := by
 have hj : j < M.length := by omega
 rw [List.drop_eq_getElem_cons hj]
 unfold atV
 rw [List.getD_eq_getElem?_getD, List.getElem?_eq_getElem hj]; rfl
noncomputable def eqv (sec : Bool) (x y : Val) : Bool := !j8 sec x y && !j8 sec y x
def Sd (sec : Bool) (l : List Val) : Prop := l.Pairwise (fun a b => j8 sec b a = false)
def Cl (sec : Bool) (l q : List Val) : Prop := ∀ x, l.filter (eqv sec x) = q.filter (eqv sec x)
theorem b69 (sec : Bool) (x : Val) : eqv sec x x = true := by simp [eqv, G3]
theorem aV8 {sec : Bool} {x y : Val} : eqv sec x y = true ↔ j8 sec x y = false ∧ j8 sec y x = false := by simp [eqv]
theorem bS7 {sec : Bool} {x y z : Val} (h : j8 sec y z = true) (h1 : eqv sec x y = true) : eqv sec x z = false := by
 rw [← Bool.not_eq_true]
 intro h2
 obtain ⟨a1, a2⟩ := aV8.1 h1
 obtain ⟨b1, b2⟩ := aV8.1 h2
 have := t9 a2 b1
 rw [h] at this; cases this
theorem Cl.refl (sec : Bool) (l : List Val) : Cl sec l l := fun _ => rfl
theorem Cl.symm {sec : Bool} {l q : List Val} (h : Cl sec l q) : Cl sec q l := fun x => (h x).symm
theorem Cl.trans {sec : Bool} {l q r : List Val} (h : Cl sec l q) (h2 : Cl sec q r) : Cl sec l r := fun x => (h x).trans (h2 x)
theorem Cl.app {sec : Bool} {a b c d : List Val} (h : Cl sec a b) (h2 : Cl sec c d) : Cl sec (a ++ c) (b ++ d) := fun x => by
 rw [List.filter_append, List.filter_append, h x, h2 x]
theorem aV9 {sec : Bool} {A B : List Val} (h : ∀ a ∈ A, ∀ b ∈ B, j8 sec b a = true) : Cl sec (A ++ B) (B ++ A) := fun x => by
 rw [List.filter_append, List.filter_append]
 cases hA : A.filter (eqv sec x) with
 | nil => simp
 | cons a l =>
   have ha : a ∈ A.filter (eqv sec x) := by rw [hA]; simp
   have hB : B.filter (eqv sec x) = [] := by
    rw [List.filter_eq_nil_iff]
    intro b hb hx
    have := bS7 (h a (List.mem_filter.1 ha).1 b hb) hx
    rw [(List.mem_filter.1 ha).2] at this; cases this
   rw [hB]; simp
theorem b70 {sec : Bool} {l q : List Val} (h : Cl sec l q) {x : Val} (hx : x ∈ l) : x ∈ q := by
 have : x ∈ l.filter (eqv sec x) := List.mem_filter.2 ⟨hx, b69 sec x⟩
 rw [h x] at this
 exact (List.mem_filter.1 this).1
theorem by3 {sec : Bool} : ∀ {l q : List Val}, Sd sec l → Sd sec q → Cl sec l q → l = q
 | [], [], _, _, _ => rfl
 | [], y :: q, _, _, h => by have := b70 h.symm (x := y) (by simp); cases this
 | x :: l, [], _, _, h => by have := b70 h (x := x) (by simp); cases this
 | x :: l, y :: q, h1, h2, h => by
   have g1 := List.pairwise_cons.1 h1
   have g2 := List.pairwise_cons.1 h2
   have e1 : j8 sec x y = false := by
    rcases List.mem_cons.1 (b70 h (x := x) (by simp)) with e | e
    · rw [e]; exact G3 sec y
    · exact g2.1 x e
   have e2 : j8 sec y x = false := by
    rcases List.mem_cons.1 (b70 h.symm (x := y) (by simp)) with e | e
    · rw [e]; exact G3 sec x
    · exact g1.1 y e
   have hx := h x
   rw [List.filter_cons, if_pos (b69 sec x), List.filter_cons, if_pos (aV8.2 ⟨e1, e2⟩)] at hx
   injection hx with hxy _
   subst hxy
   congr 1
   refine by3 g1.2 g2.2 fun z => ?_
   have hz := h z
   rw [List.filter_cons, List.filter_cons] at hz
   split at hz
   · injection hz
   · exact hz
theorem by4 {sec : Bool} (x z : Val) : ∀ s : List Val, (aV6 sec x s).filter (eqv sec z) = (x :: s).filter (eqv sec z)
 | [] => rfl
 | y :: r => by
   unfold aV6
   split
   · rename_i hl
     rw [List.filter_cons, by4 x z r, List.filter_cons, List.filter_cons, List.filter_cons]
     cases h1 : eqv sec z x with
     | false => simp
     | true => rw [bS7 hl h1]; simp
   · rfl
theorem bS8 {sec : Bool} (z : Val) : ∀ (l s : List Val), (l.foldl (fun s x => aV6 sec x s) s).filter (eqv sec z) = (l.reverse ++ s).filter (eqv sec z)
 | [], s => rfl
 | x :: l, s => by
   rw [List.foldl_cons, bS8 z l, List.filter_append, by4, ← List.filter_append]
   simp
theorem aM9 (sec : Bool) (l : List Val) : Cl sec (srt sec l) l := fun z => by
 unfold srt
 rw [List.filter_reverse]
 have := bS8 (sec := sec) z l []
 unfold dsc
 rw [this, List.append_nil, List.filter_reverse, List.reverse_reverse]
theorem aN0 {sec : Bool} {l q : List Val} (hs : Sd sec q) (hc : Cl sec q l) : srt sec l = q := by3 (J8 sec l) hs ((aM9 sec l).trans hc.symm)
theorem aN1 {sec : Bool} {l : List Val} (hs : Sd sec l) : srt sec l = l := aN0 hs (Cl.refl sec l)
theorem aC6 {sec : Bool} {l : List Val} {x : Val} : x ∈ srt sec l ↔ x ∈ l := (ac4 sec l).mem_iff
def seg (l : List Val) (a b : Nat) : List Val := (l.take b).drop a
theorem D2 {l : List Val} {a b : Nat} (h : b ≤ l.length) : (seg l a b).length = b - a := by
 unfold seg; rw [List.length_drop, List.length_take]; omega
theorem x8 {l : List Val} {a m b : Nat} (h1 : a ≤ m) (h2 : m ≤ b) : seg l a m ++ seg l m b = seg l a b := by
 unfold seg
 have e : l.take m = (l.take b).take m := by rw [List.take_take, Nat.min_eq_left h2]
 rw [e]
 generalize l.take b = q
 have : q.drop m = (q.drop a).drop (m - a) := by rw [List.drop_drop, show a + (m - a) = m by omega]
 rw [List.drop_take, this, List.take_append_drop]
theorem by5 {l : List Val} {a b : Nat} (h1 : a ≤ b) : l = l.take a ++ seg l a b ++ l.drop b := by
 have e : l.take a = seg l 0 a := by simp [seg]
 rw [e, x8 (Nat.zero_le a) h1]
 simp [seg]
theorem a92 {P U Q : List Val} {a b : Nat} (ha : a = P.length) (hb : b = P.length + U.length) : seg (P ++ U ++ Q) a b = U := by
 subst ha; subst hb
 unfold seg
 rw [List.take_left' (by simp), List.drop_left' rfl]
theorem an3 {P Q : List Val} {x : Val} {k : Nat} (h : k = P.length) : atV (P ++ x :: Q) k = x := by
 subst h
 unfold atV
 rw [List.getD_eq_getElem?_getD, List.getElem?_append_right (Nat.le_refl _), Nat.sub_self]; rfl
theorem by6 {P Q : List Val} {x y : Val} {k : Nat} (h : k = P.length) : (P ++ x :: Q).set k y = P ++ y :: Q := by
 subst h
 rw [List.set_append, if_neg (Nat.lt_irrefl _), Nat.sub_self]; rfl
theorem by7 {l : List Val} {a b k : Nat} (h1 : b ≤ l.length) (h2 : a + k < b) : atV (seg l a b) k = atV l (a + k) := by
 unfold seg atV
 rw [List.getD_eq_getElem?_getD, List.getD_eq_getElem?_getD, List.getElem?_drop, List.getElem?_take, if_pos h2]
theorem a71 {l : List Val} {k : Nat} (h : k < l.length) : atV l k ∈ l := by
 unfold atV
 rw [List.getD_eq_getElem?_getD, List.getElem?_eq_getElem h]
 exact List.getElem_mem h
theorem c41 {l : List Val} {x : Val} (h : x ∈ l) : ∃ k, k < l.length ∧ x = atV l k := by
 obtain ⟨k, hk, rfl⟩ := List.getElem_of_mem h
 refine ⟨k, hk, ?_⟩
 unfold atV
 rw [List.getD_eq_getElem?_getD, List.getElem?_eq_getElem hk]; rfl
theorem T4 {l : List Val} {a b : Nat} {x : Val} (hb : b ≤ l.length) (h : x ∈ seg l a b) : ∃ k, a ≤ k ∧ k < b ∧ x = atV l k := by
 obtain ⟨k, hk, e⟩ := c41 h
 rw [D2 hb] at hk
 exact ⟨a + k, by omega, by omega, e.trans (by7 hb (by omega))⟩
def swp (l : List Val) (i j : Nat) : List Val := (l.set i (atV l j)).set j (atV l i)
theorem a72 (l : List Val) (i j : Nat) : (swp l i j).length = l.length := by simp [swp]
theorem b71 {P M Q : List Val} {x y : Val} {i j : Nat} (hi : i = P.length) (hj : j = P.length + 1 + M.length) : swp (P ++ x :: (M ++ y :: Q)) i j = P ++ y :: (M ++ x :: Q) := by
 have e1 : P ++ x :: (M ++ y :: Q) = (P ++ x :: M) ++ y :: Q := by simp
 have a1 : atV (P ++ x :: (M ++ y :: Q)) j = y := by rw [e1]; exact an3 (by rw [hj]; simp; omega)
 unfold swp
 rw [a1, an3 hi, by6 hi, show P ++ y :: (M ++ y :: Q) = (P ++ y :: M) ++ y :: Q by simp, by6 (by rw [hj]; simp; omega)]
 simp
theorem aC7 {l : List Val} {i j : Nat} (h : i ≠ j) : swp l i j = swp l j i := by
 unfold swp; exact List.set_comm _ _ h
def swN (l : List Val) (a b : Nat) : Nat → List Val
 | 0 => l
 | n + 1 => swp (swN l a b n) (a + n) (b + n)
theorem T5 (l : List Val) (a b : Nat) : ∀ n, (swN l a b n).length = l.length
 | 0 => rfl
 | n + 1 => by rw [swN, a72, T5 l a b n]
theorem aW0 {l : List Val} {n : Nat} (h : l.length = n + 1) : ∃ q x, l = q ++ [x] ∧ q.length = n := by
 rcases List.eq_nil_or_concat l with e | ⟨q, x, e⟩
 · rw [e] at h; cases h
 · refine ⟨q, x, by rw [e, List.concat_eq_append], ?_⟩
   rw [e] at h; simpa using h
theorem b72 : ∀ (n : Nat) {P A X B Q : List Val} {a b : Nat}, A.length = n → B.length = n → a = P.length → b = P.length + n + X.length → swN (P ++ (A ++ (X ++ (B ++ Q)))) a b n = P ++ (B ++ (X ++ (A ++ Q)))
 | 0, P, A, X, B, Q, a, b, hA, hB, _, _ => by
   rw [List.length_eq_zero_iff.1 hA, List.length_eq_zero_iff.1 hB]; rfl
 | n + 1, P, A, X, B, Q, a, b, hA, hB, ha, hb => by
   obtain ⟨A', x, rfl, h1⟩ := aW0 hA
   obtain ⟨B', y, rfl, h2⟩ := aW0 hB
   have ih := b72 n (P := P) (A := A') (X := x :: X) (B := B') (Q := y :: Q) (a := a) (b := b) h1 h2 ha (by simp; omega)
   have e : P ++ ((A' ++ [x]) ++ (X ++ ((B' ++ [y]) ++ Q))) = P ++ (A' ++ (x :: X ++ (B' ++ y :: Q))) := by simp
   rw [e, swN, ih, show P ++ (B' ++ (x :: X ++ (A' ++ y :: Q))) = (P ++ B') ++ x :: ((X ++ A') ++ y :: Q) by simp, b71 (by simp; omega) (by simp; omega)]
   simp
def c42 (l : List Val) (a m b : Nat) : List Val := l.take a ++ (seg l m b ++ (seg l a m ++ l.drop b))
theorem cz5 {l : List Val} {a m b : Nat} (h1 : a ≤ m) (h2 : m ≤ b) : l = l.take a ++ (seg l a m ++ (seg l m b ++ l.drop b)) := by
 conv => lhs; rw [by5 (l := l) (Nat.le_trans h1 h2), ← x8 h1 h2]
 simp
theorem c94 {l : List Val} {a b : Nat} (h1 : a ≤ b) : l = l.take a ++ (seg l a b ++ l.drop b) := by
 conv => lhs; rw [by5 (l := l) h1]
 simp
theorem c43 {P U V Q : List Val} {a m b : Nat} (ha : a = P.length) (hm : m = P.length + U.length) (hb : b = P.length + U.length + V.length) : c42 (P ++ (U ++ (V ++ Q))) a m b = P ++ (V ++ (U ++ Q)) := by
 have e1 : seg (P ++ (U ++ (V ++ Q))) a m = U := by
  rw [show P ++ (U ++ (V ++ Q)) = P ++ U ++ (V ++ Q) by simp]; exact a92 ha hm
 have e2 : seg (P ++ (U ++ (V ++ Q))) m b = V := by
  rw [show P ++ (U ++ (V ++ Q)) = (P ++ U) ++ V ++ Q by simp]; exact a92 (by simp; omega) (by simp; omega)
 unfold c42
 rw [e1, e2, List.take_left' ha.symm, show P ++ (U ++ (V ++ Q)) = (P ++ (U ++ V)) ++ Q by simp, List.drop_left' (by simp; omega)]
def aE0 (m : Nat) : Nat → Nat → Nat → List Val → Nat × List Val
 | 0, i, _, l => (i, l)
 | n + 1, i, j, l => if i = j then (i, l) else if j < i then aE0 m n (i - j) j (swN l (m - i) m j) else aE0 m n i (j - i) (swN l (m - i) (m + j - i) i)
theorem an4 (m : Nat) : ∀ (n i j : Nat) (P U V Q : List Val), i + j ≤ n + 1 → 0 < i → 0 < j → U.length = i → V.length = j → m = P.length + i →
 let r := aE0 m n i j (P ++ (U ++ (V ++ Q)))
 0 < r.1 ∧ r.1 ≤ i ∧ r.1 ≤ j ∧ r.2.length = (P ++ (U ++ (V ++ Q))).length ∧ swN r.2 (m - r.1) m r.1 = P ++ (V ++ (U ++ Q))
 | 0, i, j, P, U, V, Q, hn, hi, hj, hU, hV, hm => by omega
 | n + 1, i, j, P, U, V, Q, hn, hi, hj, hU, hV, hm => by
   unfold aE0
   by_cases h1 : i = j
   · rw [if_pos h1]
     refine ⟨hi, Nat.le_refl _, by simp; omega, rfl, ?_⟩
     have := b72 i (P := P) (A := U) (X := []) (B := V) (Q := Q) (a := m - i) (b := m) hU (by omega) (by omega) (by simp; omega)
     simpa using this
   · rw [if_neg h1]
     by_cases h2 : j < i
     · rw [if_pos h2]
       obtain ⟨U1, U2, rfl, hU1⟩ : ∃ U1 U2, U = U1 ++ U2 ∧ U1.length = j := ⟨U.take j, U.drop j, (List.take_append_drop j U).symm, by rw [List.length_take]; omega⟩
       have hU2 : U2.length = i - j := by rw [List.length_append] at hU; omega
       have e := b72 j (P := P) (A := U1) (X := U2) (B := V) (Q := Q) (a := m - i) (b := m) hU1 hV (by omega) (by omega)
       rw [show P ++ ((U1 ++ U2) ++ (V ++ Q)) = P ++ (U1 ++ (U2 ++ (V ++ Q))) by simp, e]
       have ih := an4 m n (i - j) j (P ++ V) U2 U1 Q (by omega) (by omega) hj hU2 hU1 (by simp; omega)
       rw [show (P ++ V) ++ (U2 ++ (U1 ++ Q)) = P ++ (V ++ (U2 ++ (U1 ++ Q))) by simp] at ih
       obtain ⟨g1, g2, g3, g4, g5⟩ := ih
       exact ⟨g1, by omega, g3, g4.trans (by simp; omega), g5.trans (by simp)⟩
     · rw [if_neg h2]
       obtain ⟨V1, V2, rfl, hV1⟩ : ∃ V1 V2, V = V1 ++ V2 ∧ V1.length = j - i := ⟨V.take (j - i), V.drop (j - i), (List.take_append_drop (j - i) V).symm, by rw [List.length_take]; omega⟩
       have hV2 : V2.length = i := by rw [List.length_append] at hV; omega
       have e := b72 i (P := P) (A := U) (X := V1) (B := V2) (Q := Q) (a := m - i) (b := m + j - i) hU hV2 (by omega) (by omega)
       rw [show P ++ (U ++ ((V1 ++ V2) ++ Q)) = P ++ (U ++ (V1 ++ (V2 ++ Q))) by simp, e]
       have ih := an4 m n i (j - i) P V2 V1 (U ++ Q) (by omega) hi (by omega) hV2 hV1 hm
       obtain ⟨g1, g2, g3, g4, g5⟩ := ih
       exact ⟨g1, g2, by omega, g4.trans (by simp; omega), g5.trans (by simp)⟩
def mvU (l : List Val) (a : Nat) : Nat → List Val
 | 0 => l
 | n + 1 => swp (mvU l a n) (a + n) (a + n + 1)
theorem aC8 (l : List Val) (a : Nat) : ∀ n, (mvU l a n).length = l.length
 | 0 => rfl
 | n + 1 => by rw [mvU, a72, aC8 l a n]
theorem bS9 : ∀ (n : Nat) {P Y Q : List Val} {x : Val} {a : Nat}, Y.length = n → a = P.length → mvU (P ++ x :: (Y ++ Q)) a n = P ++ (Y ++ x :: Q)
 | 0, P, Y, Q, x, a, hY, _ => by rw [List.length_eq_zero_iff.1 hY]; rfl
 | n + 1, P, Y, Q, x, a, hY, ha => by
   obtain ⟨Y', y, rfl, h1⟩ := aW0 hY
   have ih := bS9 n (P := P) (Y := Y') (Q := y :: Q) (x := x) (a := a) h1 ha
   rw [show P ++ x :: ((Y' ++ [y]) ++ Q) = P ++ x :: (Y' ++ y :: Q) by simp, mvU, ih, show P ++ (Y' ++ x :: y :: Q) = (P ++ Y') ++ x :: ([] ++ y :: Q) by simp, b71 (by simp; omega) (by simp; omega)]
   simp
def mvD (l : List Val) (m : Nat) : Nat → List Val
 | 0 => l
 | n + 1 => swp (mvD l m n) (m - n - 1) (m - n)
theorem aC9 (l : List Val) (m : Nat) : ∀ n, (mvD l m n).length = l.length
 | 0 => rfl
 | n + 1 => by rw [mvD, a72, aC9 l m n]
theorem bT0 : ∀ (n : Nat) {P Y Q : List Val} {x : Val} {m : Nat}, Y.length = n → m = P.length + n → mvD (P ++ (Y ++ x :: Q)) m n = P ++ x :: (Y ++ Q)
 | 0, P, Y, Q, x, m, hY, _ => by rw [List.length_eq_zero_iff.1 hY]; rfl
 | n + 1, P, Y, Q, x, m, hY, hm => by
   cases Y with
   | nil => cases hY
   | cons y Y' =>
     have ih := bT0 n (P := P ++ [y]) (Y := Y') (Q := Q) (x := x) (m := m) (by simpa using hY) (by simp; omega)
     rw [show P ++ (y :: Y' ++ x :: Q) = (P ++ [y]) ++ (Y' ++ x :: Q) by simp, mvD, ih, show (P ++ [y]) ++ x :: (Y' ++ Q) = P ++ y :: ([] ++ x :: (Y' ++ Q)) by simp, b71 (by omega) (by simp; omega)]
     simp
def bs (T : Nat → Bool) : Nat → Nat → Nat → Nat
 | 0, i, _ => i
 | n + 1, i, j => if i < j then (if T ((i + j) / 2) then bs T n ((i + j) / 2 + 1) j else bs T n i ((i + j) / 2)) else i
theorem an5 {T : Nat → Bool} {lo hi : Nat} (mono : ∀ c d, lo ≤ c → c ≤ d → d < hi → T d = true → T c = true) : ∀ n i j, lo ≤ i → i ≤ j → j ≤ hi → j - i ≤ n → (∀ c, lo ≤ c → c < i → T c = true) → (∀ c, j ≤ c → c < hi → T c = false) →
 i ≤ bs T n i j ∧ bs T n i j ≤ j ∧ (∀ c, lo ≤ c → c < bs T n i j → T c = true) ∧ ∀ c, bs T n i j ≤ c → c < hi → T c = false
 | 0, i, j, h1, h2, h3, h4, h5, h6 => by
   have : i = j := by omega
   subst this
   exact ⟨Nat.le_refl _, Nat.le_refl _, h5, h6⟩
 | n + 1, i, j, h1, h2, h3, h4, h5, h6 => by
   unfold bs
   by_cases hij : i < j
   · rw [if_pos hij]
     by_cases hT : T ((i + j) / 2) = true
     · rw [if_pos hT]
       obtain ⟨a, b, c⟩ := an5 mono n ((i + j) / 2 + 1) j (by omega) (by omega) h3 (by omega) (fun c hc1 hc2 => mono c ((i + j) / 2) hc1 (by omega) (by omega) hT) h6
       exact ⟨by omega, b, c⟩
     · rw [if_neg hT]
       obtain ⟨a, b, c⟩ := an5 mono n i ((i + j) / 2) h1 (by omega) (by omega) (by omega) h5 (fun c hc1 hc2 => by
         rw [← Bool.not_eq_true]
         exact fun hc => hT (mono _ c (by omega) hc1 hc2 hc))
       exact ⟨a, by omega, c⟩
   · rw [if_neg hij]
     have : i = j := by omega
     subst this
     exact ⟨Nat.le_refl _, Nat.le_refl _, h5, h6⟩
theorem aW1 {step : List Val → Option (Nat × List Val)} {T : Nat → Bool} {lo hi : Nat} (h1 : ∀ i j : Nat, lo ≤ i → i < j → j ≤ hi → step [.vi i, .vi j] = some (0, if T ((i + j) / 2) then [.vi ((i + j) / 2 + 1 : Nat), .vi j] else [.vi i, .vi ((i + j) / 2 : Nat)])) (h2 : ∀ i : Nat, step [.vi i, .vi i] = some (1, [.vi i, .vi i])) :
 ∀ (n i j : Nat), lo ≤ i → i ≤ j → j ≤ hi → j - i ≤ n → Iter step [.vi i, .vi j] 0 [.vi (bs T n i j), .vi (bs T n i j)]
 | 0, i, j, a, b, c, d => by
   have : i = j := by omega
   subst this
   exact .out (h2 i)
 | n + 1, i, j, a, b, c, d => by
   unfold bs
   by_cases hij : i < j
   · rw [if_pos hij]
     have e := h1 i j a hij c
     by_cases hT : T ((i + j) / 2) = true
     · rw [if_pos hT] at e ⊢
       exact .more e (aW1 h1 h2 n ((i + j) / 2 + 1) j (by omega) (by omega) c (by omega))
     · rw [if_neg hT] at e ⊢
       exact .more e (aW1 h1 h2 n i ((i + j) / 2) a (by omega) (by omega) (by omega))
   · rw [if_neg hij]
     have : i = j := by omega
     subst this
     exact .out (h2 i)
noncomputable def v6 (sec : Bool) (l : List Val) (a b : Nat) : List Val := l.take a ++ (srt sec (seg l a b) ++ l.drop b)
theorem a39 (sec : Bool) {l : List Val} {a b : Nat} (h : a ≤ b) : (v6 sec l a b).Perm l := by
 conv => rhs; rw [c94 (l := l) h]
 exact ((ac4 sec _).append_right _).append_left _
theorem a40 (sec : Bool) {l : List Val} {a b : Nat} (h : a ≤ b) : (v6 sec l a b).length = l.length := (a39 sec h).length_eq
theorem by8 {sec : Bool} {P U Q : List Val} {a b : Nat} (ha : a = P.length) (hb : b = P.length + U.length) : v6 sec (P ++ (U ++ Q)) a b = P ++ (srt sec U ++ Q) := by
 have e1 : seg (P ++ (U ++ Q)) a b = U := by
  rw [show P ++ (U ++ Q) = P ++ U ++ Q by simp]; exact a92 ha hb
 unfold v6
 rw [e1, List.take_left' ha.symm, show P ++ (U ++ Q) = (P ++ U) ++ Q by simp, List.drop_left' (by simp; omega)]
theorem a41 {sec : Bool} {A B : List Val} : Sd sec (A ++ B) ↔ Sd sec A ∧ Sd sec B ∧ ∀ a ∈ A, ∀ b ∈ B, j8 sec b a = false := List.pairwise_append
theorem aN2 {sec : Bool} {l : List Val} {a b i j : Nat} (h : Sd sec (seg l a b)) (hb : b ≤ l.length) (h1 : a ≤ i) (h2 : i ≤ j) (h3 : j < b) : j8 sec (atV l j) (atV l i) = false := by
 rcases Nat.lt_or_ge i j with hij | hij
 · unfold Sd at h
   rw [List.pairwise_iff_getElem] at h
   have hl := D2 (l := l) (a := a) hb
   have := h (i - a) (j - a) (by omega) (by omega) (by omega)
   have e : ∀ k (hk : k < (seg l a b).length), (seg l a b)[k] = atV l (a + k) := fun k hk => by
    rw [← by7 hb (by omega)]
    unfold atV
    rw [List.getD_eq_getElem?_getD, List.getElem?_eq_getElem hk]; rfl
   rw [e, e, show a + (i - a) = i by omega, show a + (j - a) = j by omega] at this
   exact this
 · have : i = j := by omega
   subst this
   exact G3 sec _
theorem b73 {sec : Bool} {l : List Val} {a b c d : Nat} (h : Sd sec (seg l a b)) (h1 : a ≤ c) (h2 : c ≤ d) (h3 : d ≤ b) : Sd sec (seg l c d) := by
 rw [← x8 h1 (Nat.le_trans h2 h3), ← x8 h2 h3] at h
 exact (a41.1 (a41.1 h).2.1).1
theorem aW2 {l : List Val} {a : Nat} (h : a < l.length) : seg l a (a + 1) = [atV l a] := by
 unfold seg
 rw [List.take_add_one, List.drop_append, List.drop_eq_nil_of_le (by rw [List.length_take]; omega)]
 unfold atV
 rw [List.length_take, show a - min a l.length = 0 by omega, List.getD_eq_getElem?_getD, List.getElem?_eq_getElem h]; rfl
theorem cu0 {sec : Bool} {a b c : Val} (h1 : j8 sec a b = true) (h2 : j8 sec c b = false) : j8 sec a c = true := by
 cases h : j8 sec a c with
 | true => rfl
 | false => have := t9 h h2; rw [h1] at this; cases this
theorem ci9 {sec : Bool} {a b c : Val} (h1 : j8 sec b a = false) (h2 : j8 sec b c = true) : j8 sec a c = true := by
 cases h : j8 sec a c with
 | true => rfl
 | false => have := t9 h1 h; rw [h2] at this; cases this
theorem c44 {sec : Bool} {l : List Val} {a b : Nat} (h1 : a + 1 < b) (hb : b ≤ l.length) (hs : Sd sec (seg l (a + 1) b)) :
 a + 1 ≤ bs (fun h => j8 sec (atV l h) (atV l a)) (b - (a + 1)) (a + 1) b ∧ bs (fun h => j8 sec (atV l h) (atV l a)) (b - (a + 1)) (a + 1) b ≤ b ∧
  mvU l a (bs (fun h => j8 sec (atV l h) (atV l a)) (b - (a + 1)) (a + 1) b - 1 - a) = v6 sec l a b := by
 have sp := an5 (T := fun h => j8 sec (atV l h) (atV l a)) (lo := a + 1) (hi := b) (fun c d hc hcd hd hT => ci9 (aN2 hs hb hc hcd hd) hT) (b - (a + 1)) (a + 1) b (Nat.le_refl _) (by omega) (Nat.le_refl _) (Nat.le_refl _) (fun c _ _ => by omega) (fun c _ _ => by omega)
 generalize bs (fun h => j8 sec (atV l h) (atV l a)) (b - (a + 1)) (a + 1) b = r at sp ⊢
 obtain ⟨r1, r2, r3, r4⟩ := sp
 refine ⟨r1, r2, ?_⟩
 have e1 : seg l a b = atV l a :: (seg l (a + 1) r ++ seg l r b) := by
  rw [x8 r1 r2, ← x8 (a := a) (m := a + 1) (b := b) (by omega) (by omega), aW2 (by omega)]; rfl
 have e2 : l = l.take a ++ atV l a :: (seg l (a + 1) r ++ (seg l r b ++ l.drop b)) := by
  conv => lhs; rw [c94 (l := l) (a := a) (b := b) (by omega), e1]
  simp
 have hA : ∀ x ∈ seg l (a + 1) r, j8 sec x (atV l a) = true := fun x hx => by
  obtain ⟨k, k1, k2, rfl⟩ := T4 (by omega) hx
  exact r3 k k1 k2
 have hB : ∀ x ∈ seg l r b, j8 sec x (atV l a) = false := fun x hx => by
  obtain ⟨k, k1, k2, rfl⟩ := T4 hb hx
  exact r4 k k1 k2
 have hAB := a41.1 (show Sd sec (seg l (a + 1) r ++ seg l r b) by rw [x8 r1 r2]; exact hs)
 have e3 : srt sec (seg l a b) = seg l (a + 1) r ++ atV l a :: seg l r b := by
  refine aN0 (a41.2 ⟨hAB.1, List.pairwise_cons.2 ⟨hB, hAB.2.1⟩, fun x hx y hy => ?_⟩) ?_
  · rcases List.mem_cons.1 hy with rfl | hy
    · exact Q4 (hA x hx)
    · exact hAB.2.2 x hx y hy
  · rw [e1]
    have := (aV9 (sec := sec) (A := [atV l a]) (B := seg l (a + 1) r) (fun x hx y hy => by rw [List.mem_singleton.1 hx]; exact hA y hy)).symm.app (Cl.refl sec (seg l r b))
    simpa using this
 have e4 := bS9 (r - 1 - a) (P := l.take a) (Y := seg l (a + 1) r) (Q := seg l r b ++ l.drop b) (x := atV l a) (a := a) (by rw [D2 (by omega)]; omega) (by rw [List.length_take]; omega)
 rw [← e2] at e4
 rw [e4]
 unfold v6
 rw [e3]
 simp
theorem c45 {sec : Bool} {l : List Val} {a m : Nat} (h1 : a < m) (hb : m + 1 ≤ l.length) (hs : Sd sec (seg l a m)) :
 a ≤ bs (fun h => !j8 sec (atV l m) (atV l h)) (m - a) a m ∧ bs (fun h => !j8 sec (atV l m) (atV l h)) (m - a) a m ≤ m ∧
  mvD l m (m - bs (fun h => !j8 sec (atV l m) (atV l h)) (m - a) a m) = v6 sec l a (m + 1) := by
 have sp := an5 (T := fun h => !j8 sec (atV l m) (atV l h)) (lo := a) (hi := m) (fun c d hc hcd hd hT => by
  simp only [Bool.not_eq_true'] at hT ⊢
  exact t9 hT (aN2 hs (by omega) hc hcd hd)) (m - a) a m (Nat.le_refl _) (by omega) (Nat.le_refl _) (Nat.le_refl _) (fun c _ _ => by omega) (fun c _ _ => by omega)
 generalize bs (fun h => !j8 sec (atV l m) (atV l h)) (m - a) a m = r at sp ⊢
 obtain ⟨r1, r2, r3, r4⟩ := sp
 refine ⟨r1, r2, ?_⟩
 have e1 : seg l a (m + 1) = seg l a r ++ (seg l r m ++ [atV l m]) := by
  rw [← List.append_assoc, x8 r1 r2, ← x8 (a := a) (m := m) (b := m + 1) (by omega) (by omega), aW2 (by omega)]
 have e2 : l = (l.take a ++ seg l a r) ++ (seg l r m ++ atV l m :: l.drop (m + 1)) := by
  conv => lhs; rw [c94 (l := l) (a := a) (b := m + 1) (by omega), e1]
  simp
 have hA : ∀ x ∈ seg l a r, j8 sec (atV l m) x = false := fun x hx => by
  obtain ⟨k, k1, k2, rfl⟩ := T4 (by omega) hx
  simpa using r3 k k1 k2
 have hB : ∀ x ∈ seg l r m, j8 sec (atV l m) x = true := fun x hx => by
  obtain ⟨k, k1, k2, rfl⟩ := T4 (by omega) hx
  simpa using r4 k k1 k2
 have hAB := a41.1 (show Sd sec (seg l a r ++ seg l r m) by rw [x8 r1 r2]; exact hs)
 have e3 : srt sec (seg l a (m + 1)) = seg l a r ++ atV l m :: seg l r m := by
  refine aN0 (a41.2 ⟨hAB.1, List.pairwise_cons.2 ⟨fun y hy => Q4 (hB y hy), hAB.2.1⟩, fun x hx y hy => ?_⟩) ?_
  · rcases List.mem_cons.1 hy with rfl | hy
    · exact hA x hx
    · exact hAB.2.2 x hx y hy
  · rw [e1]
    have := (Cl.refl sec (seg l a r)).app (aV9 (sec := sec) (A := seg l r m) (B := [atV l m]) (fun x hx y hy => by rw [List.mem_singleton.1 hy]; exact hB x hx)).symm
    simpa using this
 have e4 := bT0 (m - r) (P := l.take a ++ seg l a r) (Y := seg l r m) (Q := l.drop (m + 1)) (x := atV l m) (m := m) (by rw [D2 (by omega)]) (by rw [List.length_append, List.length_take, D2 (by omega)]; omega)
 rw [← e2] at e4
 rw [e4]
 unfold v6
 rw [e3]
 simp
theorem c46 {sec : Bool} {l : List Val} {a m b mid lo hi r : Nat} (h1 : a < m) (h2 : m < b) (hb : b ≤ l.length) (hs1 : Sd sec (seg l a m)) (hs2 : Sd sec (seg l m b)) (hmid : mid = (a + b) / 2)
 (hlh : mid < m ∧ lo = mid + m - b ∧ hi = mid ∨ m ≤ mid ∧ lo = a ∧ hi = m) (hr : r = bs (fun c => !j8 sec (atV l (mid + m - 1 - c)) (atV l c)) (hi - lo) lo hi) :
 a ≤ r ∧ r ≤ m ∧ r ≤ mid ∧ mid + m - r ≤ b ∧ ∃ l1 l2, (r < m → m < mid + m - r → c42 l r m (mid + m - r) = l1) ∧ (¬ (r < m ∧ m < mid + m - r) → l = l1) ∧ l1.Perm l ∧ Sd sec (seg l1 a r) ∧ Sd sec (seg l1 r mid) ∧
  (a < r → r < mid → v6 sec l1 a mid = l2) ∧ (¬ (a < r ∧ r < mid) → l1 = l2) ∧ l2.Perm l ∧ Sd sec (seg l2 mid (mid + m - r)) ∧ Sd sec (seg l2 (mid + m - r) b) ∧
  (mid < mid + m - r → mid + m - r < b → v6 sec l2 mid b = v6 sec l a b) ∧ (¬ (mid < mid + m - r ∧ mid + m - r < b) → l2 = v6 sec l a b) := by
 have hm1 : a < mid := by omega
 have hm2 : mid < b := by omega
 have hlo : a ≤ lo := by omega
 have hhi : hi ≤ m := by omega
 have hhm : hi ≤ mid := by omega
 have hle : lo ≤ hi := by omega
 have hlb : mid + m - b ≤ lo := by omega
 have sp := an5 (T := fun c => !j8 sec (atV l (mid + m - 1 - c)) (atV l c)) (lo := lo) (hi := hi) (fun c d hc hcd hd hT => by
  simp only [Bool.not_eq_true'] at hT ⊢
  have g1 := aN2 hs1 (by omega) (show a ≤ c by omega) hcd (by omega)
  have g2 := aN2 hs2 hb (show m ≤ mid + m - 1 - d by omega) (show mid + m - 1 - d ≤ mid + m - 1 - c by omega) (by omega)
  exact t9 g2 (t9 hT g1)) (hi - lo) lo hi (Nat.le_refl _) hle (Nat.le_refl _) (Nat.le_refl _) (fun c _ _ => by omega) (fun c _ _ => by omega)
 rw [← hr] at sp
 obtain ⟨r1, r2, r3, r4⟩ := sp
 have q1 : a ≤ r := by omega
 have q2 : r ≤ m := by omega
 have q3 : r ≤ mid := by omega
 have q4 : mid + m - r ≤ b := by omega
 refine ⟨q1, q2, q3, q4, ?_⟩
 obtain ⟨e, he⟩ : ∃ e, e = mid + m - r := ⟨_, rfl⟩
 rw [← he] at q4 ⊢
 have q5 : m ≤ e := by omega
 have F1 : ∀ x ∈ seg l r m, ∀ y ∈ seg l m e, j8 sec y x = true := fun x hx y hy => by
  obtain ⟨i, i1, i2, rfl⟩ := T4 (by omega) hx
  obtain ⟨j, j1, j2, rfl⟩ := T4 (by omega) hy
  have hT := r4 r (Nat.le_refl _) (by omega)
  simp only [Bool.not_eq_false'] at hT
  rw [show mid + m - 1 - r = e - 1 by omega] at hT
  have g1 := aN2 hs2 hb j1 (show j ≤ e - 1 by omega) (by omega)
  have g2 := aN2 hs1 (by omega) q1 i1 i2
  exact cu0 (ci9 g1 hT) g2
 have F2 : ∀ x ∈ seg l a r, ∀ y ∈ seg l e b, j8 sec y x = false := fun x hx y hy => by
  obtain ⟨i, i1, i2, rfl⟩ := T4 (by omega) hx
  obtain ⟨j, j1, j2, rfl⟩ := T4 (by omega) hy
  have hT := r3 (r - 1) (by omega) (by omega)
  simp only [Bool.not_eq_true'] at hT
  rw [show mid + m - 1 - (r - 1) = e by omega] at hT
  have g1 := aN2 hs2 hb (show m ≤ e by omega) j1 j2
  have g2 := aN2 hs1 (by omega) i1 (show i ≤ r - 1 by omega) (by omega)
  exact t9 g1 (t9 hT g2)
 have u1s := b73 hs1 (Nat.le_refl a) q1 q2
 have u2s := b73 hs1 q1 q2 (Nat.le_refl m)
 have v1s := b73 hs2 (Nat.le_refl m) q5 q4
 have v2s := b73 hs2 q5 q4 (Nat.le_refl b)
 have F3 := (a41.1 (show Sd sec (seg l a r ++ seg l r m) by rw [x8 q1 q2]; exact hs1)).2.2
 have F4 := (a41.1 (show Sd sec (seg l m e ++ seg l e b) by rw [x8 q5 q4]; exact hs2)).2.2
 have lP : (l.take a).length = a := by rw [List.length_take]; omega
 have l1 := D2 (l := l) (a := a) (b := r) (by omega)
 have l2 := D2 (l := l) (a := r) (b := m) (by omega)
 have l3 := D2 (l := l) (a := m) (b := e) (by omega)
 have l4 := D2 (l := l) (a := e) (b := b) (by omega)
 have hl : l = l.take a ++ (seg l a r ++ (seg l r m ++ (seg l m e ++ (seg l e b ++ l.drop b)))) := by
  conv => lhs; rw [c94 (l := l) (a := a) (b := b) (by omega), ← x8 (a := a) (m := m) (b := b) (by omega) (by omega), ← x8 q1 q2, ← x8 q5 q4]
  simp
 have hsrt : v6 sec l a b = l.take a ++ (srt sec (seg l a r ++ seg l m e) ++ (srt sec (seg l r m ++ seg l e b) ++ l.drop b)) := by
  unfold v6
  rw [← List.append_assoc (srt sec (seg l a r ++ seg l m e))]
  congr 2
  refine aN0 (a41.2 ⟨J8 sec _, J8 sec _, fun x hx y hy => ?_⟩) ?_
  · rcases List.mem_append.1 (aC6.1 hx) with hx | hx <;> rcases List.mem_append.1 (aC6.1 hy) with hy | hy
    · exact F3 x hx y hy
    · exact F2 x hx y hy
    · exact Q4 (F1 y hy x hx)
    · exact F4 x hx y hy
  · refine ((aM9 sec _).app (aM9 sec _)).trans ?_
    have : seg l a b = seg l a r ++ ((seg l r m ++ seg l m e) ++ seg l e b) := by
     rw [← x8 (a := a) (m := m) (b := b) (by omega) (by omega), ← x8 q1 q2, ← x8 q5 q4]; simp
    rw [this]
    have := (Cl.refl sec (seg l a r)).app ((aV9 F1).symm.app (Cl.refl sec (seg l e b)))
    simpa using this
 generalize hP : l.take a = P at hl hsrt lP
 generalize hu1 : seg l a r = u1 at *
 generalize hu2 : seg l r m = u2 at *
 generalize hv1 : seg l m e = v1 at *
 generalize hv2 : seg l e b = v2 at *
 generalize hQ : l.drop b = Q at hl hsrt
 have c1 : seg (P ++ (u1 ++ (v1 ++ (u2 ++ (v2 ++ Q))))) a r = u1 := by
  rw [show P ++ (u1 ++ (v1 ++ (u2 ++ (v2 ++ Q)))) = P ++ u1 ++ (v1 ++ (u2 ++ (v2 ++ Q))) by simp]; exact a92 (by omega) (by omega)
 have c2 : seg (P ++ (u1 ++ (v1 ++ (u2 ++ (v2 ++ Q))))) r mid = v1 := by
  rw [show P ++ (u1 ++ (v1 ++ (u2 ++ (v2 ++ Q)))) = (P ++ u1) ++ v1 ++ (u2 ++ (v2 ++ Q)) by simp]; exact a92 (by simp; omega) (by simp; omega)
 have ls1 := Z4 sec (u1 ++ v1)
 rw [List.length_append] at ls1
 have c3 : seg (P ++ (srt sec (u1 ++ v1) ++ (u2 ++ (v2 ++ Q)))) mid e = u2 := by
  rw [show P ++ (srt sec (u1 ++ v1) ++ (u2 ++ (v2 ++ Q))) = (P ++ srt sec (u1 ++ v1)) ++ u2 ++ (v2 ++ Q) by simp]; exact a92 (by simp; omega) (by simp; omega)
 have c4 : seg (P ++ (srt sec (u1 ++ v1) ++ (u2 ++ (v2 ++ Q)))) e b = v2 := by
  rw [show P ++ (srt sec (u1 ++ v1) ++ (u2 ++ (v2 ++ Q))) = (P ++ srt sec (u1 ++ v1) ++ u2) ++ v2 ++ Q by simp]; exact a92 (by simp; omega) (by simp; omega)
 have p1 : (P ++ (u1 ++ (v1 ++ (u2 ++ (v2 ++ Q))))).Perm l := by
  conv => rhs; rw [hl]
  refine (List.Perm.append_left _ (List.Perm.append_left _ ?_))
  rw [← List.append_assoc, ← List.append_assoc u2]
  exact List.perm_append_comm.append_right _
 have p2 : (P ++ (srt sec (u1 ++ v1) ++ (u2 ++ (v2 ++ Q)))).Perm l := by
  refine List.Perm.trans ?_ p1
  rw [show P ++ (u1 ++ (v1 ++ (u2 ++ (v2 ++ Q)))) = P ++ ((u1 ++ v1) ++ (u2 ++ (v2 ++ Q))) by simp]
  exact ((ac4 sec _).append_right _).append_left _
 refine ⟨P ++ (u1 ++ (v1 ++ (u2 ++ (v2 ++ Q)))), P ++ (srt sec (u1 ++ v1) ++ (u2 ++ (v2 ++ Q))), fun _ _ => ?_, fun hn => ?_, p1, by rw [c1]; exact u1s, by rw [c2]; exact v1s, fun _ _ => ?_, fun hn => ?_, p2, by rw [c3]; exact u2s, by rw [c4]; exact v2s, fun _ _ => ?_, fun hn => ?_⟩
 · conv => lhs; rw [hl, show P ++ (u1 ++ (u2 ++ (v1 ++ (v2 ++ Q)))) = (P ++ u1) ++ (u2 ++ (v1 ++ (v2 ++ Q))) by simp]
   rw [c43 (by simp; omega) (by simp; omega) (by simp; omega)]
   simp
 · rcases Nat.lt_or_ge r m with hh | hh
   · have : v1 = [] := List.length_eq_zero_iff.1 (by omega)
     rw [this] at hl ⊢; exact hl
   · have : u2 = [] := List.length_eq_zero_iff.1 (by omega)
     rw [this] at hl ⊢; exact hl
 · rw [show P ++ (u1 ++ (v1 ++ (u2 ++ (v2 ++ Q)))) = P ++ ((u1 ++ v1) ++ (u2 ++ (v2 ++ Q))) by simp, by8 (by omega) (by simp; omega)]
 · rcases Nat.lt_or_ge a r with hh | hh
   · have : v1 = [] := List.length_eq_zero_iff.1 (by omega)
     rw [this, List.append_nil, aN1 u1s]; rfl
   · have : u1 = [] := List.length_eq_zero_iff.1 (by omega)
     rw [this, show ([] : List Val) ++ v1 = v1 from rfl, aN1 v1s]; rfl
 · rw [hsrt, show P ++ (srt sec (u1 ++ v1) ++ (u2 ++ (v2 ++ Q))) = (P ++ srt sec (u1 ++ v1)) ++ ((u2 ++ v2) ++ Q) by simp, by8 (by simp; omega) (by simp; omega)]
   simp
 · rw [hsrt]
   rcases Nat.lt_or_ge mid e with hh | hh
   · have : v2 = [] := List.length_eq_zero_iff.1 (by omega)
     rw [this, List.append_nil, aN1 u2s]; rfl
   · have : u2 = [] := List.length_eq_zero_iff.1 (by omega)
     rw [this, show ([] : List Val) ++ v2 = v2 from rfl, aN1 v2s]; rfl
noncomputable def X5 (sec : Bool) (a : Nat) : List Val → Nat → Nat × List Val
 | l, 0 => (a, l)
 | l, k + 1 => if j8 sec (atV l (a + k + 1)) (atV l (a + k)) then X5 sec a (swp l (a + k + 1) (a + k)) k else (a + k + 1, l)
theorem aN3 (sec : Bool) (a : Nat) : ∀ (k : Nat) (l : List Val), (X5 sec a l k).2.length = l.length
 | 0, _ => rfl
 | k + 1, l => by
   unfold X5
   split
   · rw [aN3 sec a k, a72]
   · rfl
theorem aD0 (sec : Bool) (x : Val) {P : List Val} {a : Nat} (ha : a = P.length) : ∀ (s t : List Val), (X5 sec a (P ++ (s.reverse ++ x :: t)) s.length).2 = P ++ ((aV6 sec x s).reverse ++ t)
 | [], t => rfl
 | y :: r, t => by
   have e1 : P ++ ((y :: r).reverse ++ x :: t) = (P ++ r.reverse) ++ y :: ([] ++ x :: t) := by simp
   have a1 : atV ((P ++ r.reverse) ++ y :: ([] ++ x :: t)) (a + r.length) = y := an3 (by simp; omega)
   have a2 : atV ((P ++ r.reverse) ++ y :: ([] ++ x :: t)) (a + r.length + 1) = x := by
    rw [show (P ++ r.reverse) ++ y :: ([] ++ x :: t) = (P ++ r.reverse ++ [y]) ++ x :: t by simp]; exact an3 (by simp; omega)
   rw [e1, List.length_cons]
   unfold X5 aV6
   rw [a1, a2]
   split
   · rw [aC7 (by omega), b71 (by simp; omega) (by simp; omega), show (P ++ r.reverse) ++ x :: ([] ++ y :: t) = P ++ (r.reverse ++ x :: (y :: t)) by simp, aD0 sec x ha r (y :: t)]
     simp
   · simp
theorem bM7 {sec : Bool} {l : List Val} {a i : Nat} (h1 : a ≤ i) (h2 : i < l.length) : (X5 sec a (v6 sec l a i) (i - a)).2 = v6 sec l a (i + 1) := by
 have hd : l.drop i = atV l i :: l.drop (i + 1) := by
  rw [List.drop_eq_getElem_cons h2]
  unfold atV
  rw [List.getD_eq_getElem?_getD, List.getElem?_eq_getElem h2]; rfl
 have hl : (dsc sec (seg l a i)).length = i - a := by
  have := Z4 sec (seg l a i)
  unfold srt at this
  rw [List.length_reverse] at this
  rw [this, D2 (by omega)]
 have e := aD0 sec (atV l i) (P := l.take a) (a := a) (by rw [List.length_take]; omega) (dsc sec (seg l a i)) (l.drop (i + 1))
 rw [hl] at e
 have e2 : v6 sec l a i = l.take a ++ ((dsc sec (seg l a i)).reverse ++ atV l i :: l.drop (i + 1)) := by unfold v6 srt; rw [hd]
 rw [e2, e]
 unfold v6 srt
 rw [← x8 (a := a) (m := i) (b := i + 1) h1 (by omega), aW2 h2, by1]
theorem aD1 {sec : Bool} {l : List Val} {a b : Nat} (h1 : a ≤ b) (h2 : b ≤ a + 1) (hb : b ≤ l.length) : v6 sec l a b = l := by
 conv => rhs; rw [c94 (l := l) h1]
 unfold v6
 congr 2
 refine aN1 ?_
 have : (seg l a b).length ≤ 1 := by rw [D2 hb]; omega
 unfold Sd
 match h : seg l a b, this with
 | [], _ => exact .nil
 | [x], _ => simp
 | x :: y :: r, hh => simp at hh
theorem aD2 (sec : Bool) (l : List Val) : v6 sec l 0 l.length = srt sec l := by
 unfold v6 seg
 simp
theorem cj0 {sec : Bool} {l q : List Val} (h : Cl sec l q) : srt sec l = srt sec q := aN0 (J8 sec q) ((aM9 sec q).trans h.symm)
theorem by9 (sec : Bool) {l : List Val} {a b : Nat} (h : a ≤ b) : Cl sec (v6 sec l a b) l := by
 have := (Cl.refl sec (l.take a)).app ((aM9 sec (seg l a b)).app (Cl.refl sec (l.drop b)))
 rwa [← c94 (l := l) h] at this
theorem bz0 {sec : Bool} {l : List Val} {a b : Nat} (h : a ≤ b) (hb : b ≤ l.length) : seg (v6 sec l a b) a b = srt sec (seg l a b) := by
 unfold v6
 rw [← List.append_assoc]
 exact a92 (by rw [List.length_take]; omega) (by rw [List.length_take, Z4, D2 hb]; omega)
theorem c47 {sec : Bool} {l : List Val} {a b c : Nat} (h : a ≤ b) (hb : b ≤ l.length) (hc : c ≤ a) : seg (v6 sec l a b) 0 c = seg l 0 c := by
 unfold v6 seg
 rw [List.drop_zero, List.drop_zero, List.take_append_of_le_length (by rw [List.length_take]; omega), List.take_take, Nat.min_eq_left hc]
def isL : Val → Bool
 | .vl _ => true
 | _ => false
theorem aN4 {v : Val} (h : isL v = true) : v = .vl v.toL := by
 cases v <;> first | rfl | cases h
def J3 (r : Val) : Val := .vl [l5 r 0, l5 r 1, l5 r 2, l5 r 3, l5 r 4, l5 r 5, l5 r 6, l5 r 7]
def ap0 (r : Val) : Val := .vl [l5 r 0, l5 r 1, l5 r 2, l5 r 4, l5 r 5, l5 r 6, l5 r 7]
def chR (r : Val) : Val := .vl [l5 r 0, l5 r 1, l5 r 2, .vb false, l5 r 3, l5 r 4, l5 r 5, l5 r 6]
def chP (r : Val) : Val := .vl [l5 r 0, l5 r 1, l5 r 2, .vb true, .vi 0, .vi 0, .vi 0, .vi 0]
def v4 (r : Val) : Bool := (l5 r 3).toB
structure ChgM where
 key : List UInt8
 a : Int
 b : Int
 dead : Bool
 c : Int
 d : Int
 e : Int
 f : Int
 deriving DecidableEq
def Z6 (r : Val) : ChgM := ⟨(l5 r 0).toS, (l5 r 1).toI, (l5 r 2).toI, (l5 r 3).toB, (l5 r 4).toI, (l5 r 5).toI, (l5 r 6).toI, (l5 r 7).toI⟩
theorem ac5 (a b : Val) : Z6 a = Z6 b ↔ ((l5 a 0).toS = (l5 b 0).toS ∧ (l5 a 1).toI = (l5 b 1).toI ∧ (l5 a 2).toI = (l5 b 2).toI) ∧ (l5 a 3).toB = (l5 b 3).toB ∧ (l5 a 4).toI = (l5 b 4).toI ∧ (l5 a 5).toI = (l5 b 5).toI ∧ (l5 a 6).toI = (l5 b 6).toI ∧ (l5 a 7).toI = (l5 b 7).toI := by
 simp only [Z6, ChgM.mk.injEq]
 constructor <;> intro h <;> simp_all
def an6 (l r : List Val) : Bool := decide (l.map Z6 = r.map Z6)
def okC (r : Val) : Bool := match r with
 | .vl [.vs _, .vi s, .vi e, .vb _, .vi a, .vi b, .vi c, .vi d] => au9 s && (au9 e && (au9 a && (au9 b && (au9 c && au9 d))))
 | _ => false
theorem av0 {r : Val} (h : okC r = true) : J3 r = r ∧ okR (J2 r) = true := by
 unfold okC at h
 split at h
 · rename_i k s e x a b c d
   obtain ⟨h1, h⟩ := a9 h
   obtain ⟨h2, h⟩ := a9 h
   exact ⟨rfl, by show (au9 s && au9 e) = true; rw [h1, h2]; rfl⟩
 · cases h
def okK (r : Val) : Bool := okC r && decide ((pk r).length ≤ 1000)
theorem an7 {r : Val} (h : okK r = true) : okC r = true ∧ (pk r).length ≤ 1000 := by
 obtain ⟨h1, h2⟩ := a9 h
 exact ⟨h1, of_decide_eq_true h2⟩
def aN8 (l n : Val) : Bool := isL l && (l.toL.all okK && (decide (n.toI = (l.toL.length : Int)) && decide (l.toL.length ≤ 100)))
theorem an8 {l n : Val} (h : aN8 l n = true) : l = .vl l.toL ∧ l.toL.all okK = true ∧ n.toI = (l.toL.length : Int) ∧ l.toL.length ≤ 100 := by
 obtain ⟨h1, h⟩ := a9 h
 obtain ⟨h2, h⟩ := a9 h
 obtain ⟨h3, h4⟩ := a9 h
 exact ⟨aN4 h1, h2, of_decide_eq_true h3, of_decide_eq_true h4⟩
def bf0 (r : Val) : Bool := decide (60 < (pk r).length)
def cj1 : Val := .vl [.vs [63], .vi 0, .vi 0, .vb false, .vi 0, .vi 0, .vi 0, .vi 0]
def cj2 : Val := .vl [.vs [63], .vi 0, .vi 0, .vi 0, .vi 0, .vi 0, .vi 0]
def cj3 : Val := .vl [.vs [63], .vi 0, .vi 0]
def aq3 (o : Val) (v : Val) : Nat → Val
 | 0 => v
 | n + 1 => .vl ((aq3 o v n).toL.set n o)
theorem ac6 (o v : Val) : ∀ n, (aq3 o v n).toL.length = v.toL.length
 | 0 => rfl
 | n + 1 => by show ((aq3 o v n).toL.set n o).length = _; rw [List.length_set, ac6 o v n]
def cp3 (bad : Val → Bool) (l : List Val) : Val := v5 (Z3 (.vb false) (fun k => [.vb false, .vi k]) (fun i => bad (atV l i)) l.length)
def bT1 (l r : List Val) : Val := v5 (Z3 (.vb false) (fun k => [.vb false, .vi k]) (fun i => !decide (Z6 (atV l i) = Z6 (atV r i))) l.length)
def nt (v : Val) : Nat := v.toI.toNat
noncomputable def aD3 (f : List Val) : Nat → Nat → List Val → Nat → Nat × List Val
 | p, j, M, 0 => (p, M)
 | p, j, M, n + 1 => if W4 f (atV M j) then aD3 f (p + 1) (j + 1) (M.set p (J3 (atV M j))) n else aD3 f p (j + 1) M n
def isI : Val → Bool
 | .vi _ => true
 | _ => false
theorem b74 {v : Val} (h : isI v = true) : v = .vi v.toI := by cases v <;> first | rfl | cases h
def cx6 (a : List Val) : Prop := aN8 (arg a 5) (arg a 6) = true ∧ 0 ≤ (arg a 7).toI ∧ (arg a 7).toI < (arg a 8).toI ∧ (arg a 8).toI < (arg a 9).toI ∧ (arg a 9).toI ≤ (arg a 6).toI ∧ (arg a 9).toI - (arg a 7).toI ≤ (arg a 10).toI ∧
 isI (arg a 7) = true ∧ isI (arg a 8) = true ∧ isI (arg a 9) = true ∧ Sd (m0 a) (seg (arg a 5).toL (nt (arg a 7)) (nt (arg a 8))) ∧ Sd (m0 a) (seg (arg a 5).toL (nt (arg a 8)) (nt (arg a 9)))
open Classical in
noncomputable def be3 (a : List Val) : Bool := decide (cx6 a)
theorem an9 {a : List Val} : be3 a = true ↔ cx6 a := by unfold be3; simp
noncomputable def CX : Nat → List Val → Val := fun i a => match i with
  | 1 => .vb (!(arg a 0).toL.any bf0 && decide ((arg a 0).toL.length ≤ 30))
  | 200 => .vl ((arg a 0).toL.map J3)
  | 201 => .vb (an6 (arg a 0).toL (arg a 1).toL)
  | 130 => v5 (0, [.vi (arg a 5).toL.length, .vi (arg a 5).toL.length, .vl ((arg a 5).toL.map J3)])
  | 131 => bT1 (arg a 4).toL (arg a 7).toL
  | 132 => v5 (0, [.vi (nt (arg a 2)), aq3 cj1 (arg a 1) (nt (arg a 2))])
  | 420 => .vb (aN8 (arg a 0) (arg a 1) && decide (0 ≤ (arg a 2).toI ∧ 0 ≤ (arg a 4).toI ∧ (arg a 2).toI + (arg a 4).toI ≤ (arg a 3).toI ∧ (arg a 3).toI + (arg a 4).toI ≤ (arg a 1).toI))
  | 421 => .vl (swN (arg a 0).toL (nt (arg a 1)) (nt (arg a 2)) (nt (arg a 3)))
  | 422 => .vb (aN8 (arg a 0) (arg a 1) && decide (0 ≤ (arg a 2).toI ∧ (arg a 2).toI < (arg a 3).toI ∧ (arg a 3).toI < (arg a 4).toI ∧ (arg a 4).toI ≤ (arg a 1).toI))
  | 423 => .vl (c42 (arg a 0).toL (nt (arg a 1)) (nt (arg a 2)) (nt (arg a 3)))
  | 424 => .vb (aN8 (arg a 0) (arg a 1) && decide (0 ≤ (arg a 2).toI ∧ (arg a 2).toI ≤ (arg a 3).toI ∧ (arg a 3).toI ≤ (arg a 1).toI))
  | 425 => .vl (v6 (m0 a) (arg a 5).toL (nt (arg a 6)) (nt (arg a 7)))
  | 426 => .vb (be3 a)
  | 428 => .vb (aN8 (arg a 0) (arg a 1) && (isI (arg a 2) && decide ((arg a 2).toI = (arg a 1).toI ∧ (arg a 2).toI ≤ 30)))
  | 430 => .vl (srt (m0 a) ((arg a 5).toL.filter (W4 a)))
  | 431 => .vb (isL (arg a 0) && (arg a 0).toL.all okK)
  | 432 => .vb (isL (arg a 0) && (arg a 0).toL.all okC && decide ((arg a 0).toL.length ≤ 9223372036854775807))
  | 440 => .vl (((arg a 0).toL.filter (fun r => !v4 r)).map ap0)
  | 441 => .vl (((arg a 0).toL.filter v4).map J2)
  | 442 => .vl ((arg a 0).toL.map chR ++ (arg a 1).toL.map chP)
  | 450 => cp3 bf0 (arg a 4).toL
  | 451 => bT1 (arg a 4).toL (arg a 7).toL
  | 452 => v5 (0, [.vi (nt (arg a 6)), .vl (swN (arg a 1).toL (nt (arg a 4)) (nt (arg a 5)) (nt (arg a 6)))])
  | 453 => v5 (0, [.vi (((arg a 7).toL.filter (fun r => !v4 r)).map ap0).length, .vi (((arg a 7).toL.filter v4).map J2).length, .vi (arg a 7).toL.length, .vl (((arg a 7).toL.filter (fun r => !v4 r)).map ap0), .vl (((arg a 7).toL.filter v4).map J2)])
  | 454 => v5 (0, [.vi (arg a 8).toL.length, .vi (arg a 8).toL.length, .vl ((arg a 8).toL.map chR)])
  | 455 => v5 (0, [.vi ((arg a 2).toL ++ (arg a 5).toL.map chP).length, .vi (arg a 5).toL.length, .vl ((arg a 2).toL ++ (arg a 5).toL.map chP)])
  | 456 => v5 (0, [.vi (nt (arg a 2)), aq3 cj2 (arg a 1) (nt (arg a 2))])
  | 457 => v5 (0, [.vi (nt (arg a 2)), aq3 cj3 (arg a 1) (nt (arg a 2))])
  | 458 => v5 (0, [.vi (aE0 (nt (arg a 5)) (nt (arg a 0) + nt (arg a 1)) (nt (arg a 0)) (nt (arg a 1)) (arg a 2).toL).1, .vi (aE0 (nt (arg a 5)) (nt (arg a 0) + nt (arg a 1)) (nt (arg a 0)) (nt (arg a 1)) (arg a 2).toL).1, .vl (aE0 (nt (arg a 5)) (nt (arg a 0) + nt (arg a 1)) (nt (arg a 0)) (nt (arg a 1)) (arg a 2).toL).2])
  | 460 => v5 (0, [.vi (max (nt (arg a 4) + 1) (nt (arg a 5)) : Nat), .vl (v6 (m0 (a.drop 6)) (arg a 1).toL (nt (arg a 4)) (nt (arg a 5)))])
  | 461 => v5 (0, [.vi (X5 (m0 (a.drop 6)) (nt (arg a 4)) (arg a 1).toL (nt (arg a 0) - nt (arg a 4))).1, .vl (X5 (m0 (a.drop 6)) (nt (arg a 4)) (arg a 1).toL (nt (arg a 0) - nt (arg a 4))).2])
  | 462 => let r := bs (fun h => j8 (m0 (a.drop 5)) (atV (arg a 3).toL h) (atV (arg a 3).toL (nt (arg a 4)))) (nt (arg a 1) - nt (arg a 0)) (nt (arg a 0)) (nt (arg a 1)); v5 (0, [.vi r, .vi r])
  | 463 => v5 (0, [.vi (nt (arg a 4) - 1 : Nat), .vl (mvU (arg a 1).toL (nt (arg a 0)) (nt (arg a 4) - 1 - nt (arg a 0)))])
  | 464 => let r := bs (fun h => !j8 (m0 (a.drop 5)) (atV (arg a 3).toL (nt (arg a 4))) (atV (arg a 3).toL h)) (nt (arg a 1) - nt (arg a 0)) (nt (arg a 0)) (nt (arg a 1)); v5 (0, [.vi r, .vi r])
  | 465 => v5 (0, [arg a 4, .vl (mvD (arg a 1).toL (nt (arg a 0)) (nt (arg a 0) - nt (arg a 4)))])
  | 466 => let r := bs (fun c => !j8 (m0 (a.drop 7)) (atV (arg a 3).toL (nt (arg a 14) - c)) (atV (arg a 3).toL c)) (nt (arg a 1) - nt (arg a 0)) (nt (arg a 0)) (nt (arg a 1)); v5 (0, [.vi r, .vi r])
  | 467 => v5 (0, bif decide (20 ≤ (arg a 5).toI) then [.vi 20, .vi 40, .vl (v6 (m0 (a.drop 6)) (arg a 2).toL 0 20)] else [.vi 0, .vi 20, arg a 2])
  | 468 => v5 (0, bif decide (20 < (arg a 4).toI) then [.vi 40, .vl (v6 (m0 (a.drop 5)) (arg a 1).toL 0 (nt (arg a 4)))] else [.vi 20, arg a 1])
  | 469 => v5 (0, [arg a 0, arg a 1, arg a 2])
  | 470 => v5 (Z3 (.vi 0) (fun i => [.vi i, .vi i]) (fun i => !W4 (a.drop 4) (atV (arg a 3).toL i)) (arg a 3).toL.length)
  | 471 => v5 (0, [.vi (aD3 (a.drop 5) (nt (arg a 0)) (nt (arg a 1)) (arg a 2).toL ((arg a 2).toL.length - nt (arg a 1))).1, .vi (arg a 2).toL.length, .vl (aD3 (a.drop 5) (nt (arg a 0)) (nt (arg a 1)) (arg a 2).toL ((arg a 2).toL.length - nt (arg a 1))).2])
  | 472 => v5 (0, [.vi (srt (m0 (a.drop 6)) ((arg a 5).toL.filter (W4 (a.drop 6)))).length, .vi (arg a 5).toL.length, .vl (srt (m0 (a.drop 6)) ((arg a 5).toL.filter (W4 (a.drop 6))))])
  | 473 => v5 (0, [.vi (X5 (m0 (a.drop 5)) 0 (arg a 1).toL (nt (arg a 0))).1, .vl (X5 (m0 (a.drop 5)) 0 (arg a 1).toL (nt (arg a 0))).2])
  | 474 => v5 (0, [arg a 0, .vi (arg a 10).toL.length, .vi (arg a 12).toL.length, .vi (arg a 6).toL.length])
  | 475 => v5 (0, [arg a 0, .vi (arg a 3).toI])
  | _ => .vb false
noncomputable def GX : Nat → List Val → Val := fun i a => match i with
  | 304 => .vb (cp1 (arg a 0).toI (arg a 1).toS (arg a 2).toS (arg a 3).toI (arg a 4).toI (arg a 5).toS (arg a 7).toI)
  | 305 => .vb (be0 (arg a 6).toB (arg a 0).toS (arg a 1).toI (arg a 2).toI (arg a 3).toS (arg a 4).toI (arg a 5).toI)
  | 306 => .vs (aD9 false (arg a 0).toS (arg a 1).toI (arg a 2).toI)
  | 307 => .vs (aD9 true (arg a 0).toS (arg a 1).toI (arg a 2).toI)
  | 308 => .vi (c93 (aD9 (m0 (a.drop 6)) (arg a 0).toS (arg a 1).toI (arg a 2).toI) (aD9 (m0 (a.drop 6)) (arg a 3).toS (arg a 4).toI (arg a 5).toI))
  | 303 => .vb (isL (arg a 0))
  | i => CX i a
noncomputable abbrev F : Nat → List Val → Val := FX GX
theorem cj4 {ω : Opq} : g8 bL3 ω = some (0, [F 304 [ω.w 0, ω.w 1, ω.w 2, ω.w 3, ω.w 4, ω.w 5, ω.w 6, ω.w 7]]) := by
 have hF : F 304 [ω.w 0, ω.w 1, ω.w 2, ω.w 3, ω.w 4, ω.w 5, ω.w 6, ω.w 7] = .vb (cp1 (ω.w 0).toI (ω.w 1).toS (ω.w 2).toS (ω.w 3).toI (ω.w 4).toI (ω.w 5).toS (ω.w 7).toI) := rfl
 rw [hF]
 unfold bL3 c25 cp1
 simp only [g8, j3, den, dB, z9, g9, G2, p7, W2, aC1, k9, r5, bL8, decide_eq_true_eq]
 by_cases k1 : (ω.w 0).toI = 1
 · by_cases h : (ω.w 5).toS = (ω.w 1).toS <;> simp [k1, h]
 · by_cases k2 : (ω.w 0).toI = 2
   · cases h : aZ3 .geq (ω.w 5).toS (ω.w 1).toS <;> by_cases h2 : (ω.w 2).toS = [] <;> simp [k2, h, h2]
   · by_cases k3 : (ω.w 0).toI = 3
     · by_cases h : (ω.w 3).toI ≤ (ω.w 7).toI <;> simp [k3, h]
     · simp [k1, k2, k3]
theorem cj5 {ω : Opq} : g8 bw0 ω = some (0, [F 304 [ω.w 0, ω.w 1, ω.w 2, ω.w 3, ω.w 4, ω.w 5, ω.w 6, ω.w 7]]) := cj4
theorem c48 {ω : Opq} : g8 aB3 ω = some (0, [F 305 [ω.w 0, ω.w 1, ω.w 2, ω.w 3, ω.w 4, ω.w 5, ω.w 6]]) := by
 have hF : F 305 [ω.w 0, ω.w 1, ω.w 2, ω.w 3, ω.w 4, ω.w 5, ω.w 6] = .vb (be0 (ω.w 6).toB (ω.w 0).toS (ω.w 1).toI (ω.w 2).toI (ω.w 3).toS (ω.w 4).toI (ω.w 5).toI) := rfl
 rw [hF]
 unfold aB3 aU5 aU6 aU7 aU8 aU9 aV0 be0
 simp only [g8, j3, den, dB, z9, g9, G2, p7, W2, k9, decide_eq_true_eq, show ∀ a b, aZ3 .lss a b = ltB a b from fun _ _ => rfl, show ∀ a b, aZ3 .gtr a b = ltB b a from fun _ _ => rfl]
 have hk : ltB (ω.w 0).toS (ω.w 3).toS = false → ltB (ω.w 3).toS (ω.w 0).toS = false → (ω.w 0).toS = (ω.w 3).toS := aC4
 have hne : ltB (ω.w 3).toS (ω.w 0).toS = true → ¬ (ω.w 0).toS = (ω.w 3).toS := fun h e => ci7 h e.symm
 cases h6 : (ω.w 6).toB <;> cases h1 : ltB (ω.w 0).toS (ω.w 3).toS <;> cases h2 : ltB (ω.w 3).toS (ω.w 0).toS <;> simp only [h1, h2] at hk hne <;>
  (by_cases c1 : (ω.w 2).toI < (ω.w 5).toI <;> by_cases c2 : (ω.w 5).toI < (ω.w 2).toI <;> by_cases c3 : (ω.w 1).toI < (ω.w 4).toI <;> by_cases c4 : (ω.w 4).toI < (ω.w 1).toI <;>
   first
   | (exfalso; omega)
   | (have c5 : ¬ (ω.w 2).toI = (ω.w 5).toI := by omega
      simp_all
      try (split <;> simp <;> omega))
   | (have c5 : (ω.w 2).toI = (ω.w 5).toI := by omega
      simp_all
      try (split <;> simp <;> omega)))
theorem av1 {k : List UInt8} (h : k.length ≤ 1000) : (Z5 k).length ≤ 2002 := by
 have := (bM2 k).2; omega
theorem cj6 {ω : Opq} (hf : ∀ i a, ω.f i a = F i a) (hn : (ω.w 0).toS.length ≤ 1000) : g8 b51 ω = some (0, [F 306 [ω.w 0, ω.w 1, ω.w 2]]) := by
 have d0 : den ω b49 = .vl (sbV (Z5 (ω.w 0).toS)) := bT hf 0
 have d1 : den ω b50 = .vl (sbV (Z5 (ω.w 0).toS ++ a37 (ω.w 2).toI)) := by
  show Val.vl ((den ω b49).toL ++ (den ω (.op .sbytes [.app 302 [.va 2]])).toL) = _
  rw [d0, bI hf 2, am6]; rfl
 have d2 : den ω Q9 = .vl (sbV (Z5 (ω.w 0).toS ++ a37 (ω.w 2).toI ++ a37 (ω.w 1).toI)) := by
  show Val.vl ((den ω b50).toL ++ (den ω (.op .sbytes [.app 302 [.va 1]])).toL) = _
  rw [d1, bI hf 1, am6 _ (a37 (ω.w 1).toI)]; rfl
 have l0 := av1 hn
 have l1 := ac2 (ω.w 2).toI
 have l2 := ac2 (ω.w 1).toI
 have hl : ∀ {e : SX} {l : List UInt8}, den ω e = .vl (sbV l) → l.length ≤ 1000000 → dB ω (.op (.cmp .leq) [.op .llen [e], .ci 1000000]) = true := fun he h => by
  show decide (((den ω _).toL.length : Int) ≤ 1000000) = true
  rw [he, j5, R0]; exact decide_eq_true (by omega)
 have hlen : (Z5 (ω.w 0).toS ++ a37 (ω.w 2).toI ++ a37 (ω.w 1).toI).length = (Z5 (ω.w 0).toS).length + 8 + 8 := by rw [List.length_append, List.length_append, l1, l2]
 unfold b51
 refine i4 (decide_eq_true (show ((ω.w 0).toS.length : Int) ≤ 1000 by omega)) (i4 (hl d0 (by omega)) (i4 (hl d1 (by rw [List.length_append]; omega)) (i4 (hl d2 (by omega)) (i4 ?_ (i4 ?_ ?_)))))
 · show decide ((0 : Int) < ((den ω Q9).toL.length : Int)) = true
   rw [d2, j5, R0, hlen]; exact decide_eq_true (by omega)
 · show (decide (((den ω Q9).toL.length : Int) ≤ ((den ω Q9).toL.length : Int)) && c34 (den ω Q9).toL) = true
   rw [d2, j5, b64, decide_eq_true (Int.le_refl _)]; rfl
 · show some (0, [Val.vs (unV (den ω Q9).toL)]) = _
   rw [d2, j5, c33]; rfl
theorem cu1 {ω : Opq} (hf : ∀ i a, ω.f i a = F i a) (hn : (ω.w 0).toS.length ≤ 1000) : g8 bL6 ω = some (0, [F 307 [ω.w 0, ω.w 1, ω.w 2]]) := by
 have d0 : den ω bL4 = .vl (sbV (a37 (ω.w 2).toI)) := bI hf 2
 have d1 : den ω bL5 = .vl (sbV (a37 (ω.w 2).toI ++ Z5 (ω.w 0).toS)) := by
  show Val.vl ((den ω bL4).toL ++ (den ω (.op .sbytes [.app 301 [.va 0]])).toL) = _
  rw [d0, bT hf 0, am6]; rfl
 have d2 : den ω aa0 = .vl (sbV (a37 (ω.w 2).toI ++ Z5 (ω.w 0).toS ++ a37 (ω.w 1).toI)) := by
  show Val.vl ((den ω bL5).toL ++ (den ω (.op .sbytes [.app 302 [.va 1]])).toL) = _
  rw [d1, bI hf 1, am6 _ (a37 (ω.w 1).toI)]; rfl
 have l0 := av1 hn
 have l1 := ac2 (ω.w 2).toI
 have l2 := ac2 (ω.w 1).toI
 have hl : ∀ {e : SX} {l : List UInt8}, den ω e = .vl (sbV l) → l.length ≤ 1000000 → dB ω (.op (.cmp .leq) [.op .llen [e], .ci 1000000]) = true := fun he h => by
  show decide (((den ω _).toL.length : Int) ≤ 1000000) = true
  rw [he, j5, R0]; exact decide_eq_true (by omega)
 have hlen : (a37 (ω.w 2).toI ++ Z5 (ω.w 0).toS ++ a37 (ω.w 1).toI).length = 8 + (Z5 (ω.w 0).toS).length + 8 := by rw [List.length_append, List.length_append, l1, l2]
 unfold bL6
 refine i4 (hl d0 (by omega)) (i4 (decide_eq_true (show ((ω.w 0).toS.length : Int) ≤ 1000 by omega)) (i4 (hl d1 (by rw [List.length_append]; omega)) (i4 (hl d2 (by omega)) (i4 ?_ (i4 ?_ ?_)))))
 · show decide ((0 : Int) < ((den ω aa0).toL.length : Int)) = true
   rw [d2, j5, R0, hlen]; exact decide_eq_true (by omega)
 · show (decide (((den ω aa0).toL.length : Int) ≤ ((den ω aa0).toL.length : Int)) && c34 (den ω aa0).toL) = true
   rw [d2, j5, b64, decide_eq_true (Int.le_refl _)]; rfl
 · show some (0, [Val.vs (unV (den ω aa0).toL)]) = _
   rw [d2, j5, c33]; rfl
theorem A5 {step : List Val → Option (Nat × List Val)} (st : Nat → List Val) {n j : Nat} {p s : List Val} (h0 : s = st 0) (h1 : ∀ i, i < n → step (st i) = some (0, st (i + 1))) (h2 : step (st n) = some (j + 1, p)) : r8 step s = some (j, p) := by
 rw [h0]; exact aC0 h1 h2
theorem b75 {i : Nat} (h : i ≤ 1000000) : arI .add .i64 (i : Int) 1 = ((i + 1 : Nat) : Int) := au8 (by omega)
theorem cu2 {K k : Nat} (h : K = k + 1) (h2 : K ≤ 10000000) : arI .sub .i64 (K : Int) 1 = (k : Int) := by
 rw [c31 (by omega) (by omega)]; omega
theorem c49 (a b c d e : Val) (r x : Val) : F 304 [a, b, c, d, e, l5 r 0, x, l5 r 2] = .vb (W4 [a, b, c, d, e] r) := rfl
theorem cj7 (a b : Val) (s : Bool) : F 305 [l5 a 0, l5 a 1, l5 a 2, l5 b 0, l5 b 1, l5 b 2, .vb s] = .vb (j8 s a b) := rfl
theorem c50 (r : Val) : Val.vl [l5 r 0, l5 r 1, l5 r 2] = J2 r := rfl
def fil (ω : Opq) : List Val := [ω.w 0, ω.w 1, ω.w 2, ω.w 3, ω.w 4]
theorem b76 (ω : Opq) (t : List Val) (r : Val) : W4 (ω.w 0 :: ω.w 1 :: ω.w 2 :: ω.w 3 :: ω.w 4 :: t) r = W4 (fil ω) r := rfl
theorem c51 : (2000 ≤ 2000) = True := by simp
theorem c52 : (2000 ≤ 2001) = True := by simp
theorem cj8 : (2000 ≤ 2002) = True := by simp
theorem w0 : (2000 ≤ 0) = False := by simp
theorem w1 : (2000 ≤ 1) = False := by simp
theorem w2 : (2000 ≤ 2) = False := by simp
theorem w3 : (2000 ≤ 3) = False := by simp
theorem w4 : (2000 ≤ 4) = False := by simp
theorem w5 : (2000 ≤ 5) = False := by simp
end Go.Ev
