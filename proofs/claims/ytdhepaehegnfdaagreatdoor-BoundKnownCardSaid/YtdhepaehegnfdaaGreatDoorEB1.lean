import Derived.Test.YtdhepaehegnfdaaGreatDoorE43
import Derived.Test.YtdhepaehegnfdaaGreatDoorET15
set_option linter.unusedSimpArgs false
set_option linter.unusedVariables false
namespace Go.Ev
open Go
theorem av7 {step : List Val → Option (Nat × List Val)} {st : Nat → List Val} {n j : Nat} {p : List Val} (h1 : ∀ i, i < n → step (st i) = some (0, st (i + 1))) (h2 : step (st n) = some (j + 1, p)) : A0 step (st 0) = some (j, p) := by
 rw [x9]
 have : ∀ k, k ≤ n → Iter step (st (n - k)) j p := by
  intro k
  induction k with
  | zero => intro _; exact .out h2
  | succ k ih =>
    intro hk
    have e := h1 (n - (k + 1)) (by omega)
    rw [show n - (k + 1) + 1 = n - k by omega] at e
    exact .more e (ih (by omega))
 have h := this n (Nat.le_refl _)
 rwa [Nat.sub_self] at h
def aN0 (x : Val) (px : Nat → List Val) (bad : Nat → Bool) (n : Nat) : Nat × List Val := match (List.range n).find? bad with
 | some i => (1, px i)
 | none => (0, [x, .vi n])
theorem ad3 {bad : Nat → Bool} : ∀ {n i : Nat}, (List.range n).find? bad = some i → i < n ∧ bad i = true ∧ ∀ k, k < i → bad k = false := by
 intro n i h
 rw [List.find?_range_eq_some] at h
 exact ⟨List.mem_range.1 h.2.1, h.1, fun k hk => by simpa using h.2.2 k hk⟩
theorem bL2 {step : List Val → Option (Nat × List Val)} {x : Val} {px : Nat → List Val} {bad : Nat → Bool} {n : Nat}
 (h1 : ∀ i, i < n → bad i = false → step [x, .vi i] = some (0, [x, .vi (i + 1 : Nat)])) (h2 : ∀ i, i < n → bad i = true → step [x, .vi i] = some (2, px i))
 (h3 : step [x, .vi n] = some (1, [x, .vi n])) : A0 step [x, .vi (0 : Int)] = some (aN0 x px bad n) := by
 unfold aN0
 split
 · rename_i i hi
   obtain ⟨a, b, c⟩ := ad3 hi
   exact av7 (st := fun i => [x, .vi i]) (n := i) (fun k hk => h1 k (by omega) (c k hk)) (h2 i a b)
 · rename_i hn
   rw [List.find?_range_eq_none] at hn
   exact av7 (st := fun i => [x, .vi i]) (n := n) (fun k hk => h1 k hk (by simpa using hn k hk)) h3
theorem bp9 {n : Nat} (h : n ≤ 10000000) : IntKind.i64.wrap ((n : Int) + 1) = ((n + 1 : Nat) : Int) := by
 have : ((n : Int) + 1) = ((n + 1 : Nat) : Int) := by omega
 rw [this]
 simp only [IntKind.wrap, IntKind.bits, IntKind.signed]
 simp
 omega
@[simp] theorem j1 (n : Int) : (Val.vi n).toI = n := rfl
@[simp] theorem w9 (n : List UInt8) : (Val.vs n).toS = n := rfl
@[simp] theorem p9 (n : Bool) : (Val.vb n).toB = n := rfl
@[simp] theorem j4 (n : List Val) : (Val.vl n).toL = n := rfl
@[simp] theorem l4 (a b : Int) : aG5 .lss a b = decide (a < b) := rfl
@[simp] theorem l9 (a b : Int) : aG5 .leq a b = decide (a ≤ b) := rfl
@[simp] theorem P9 (a b : Int) : aG5 .gtr a b = decide (b < a) := rfl
@[simp] theorem bi6 (a b : Int) : aG5 .geq a b = decide (b ≤ a) := rfl
@[simp] theorem p5 (a b : Int) : aG5 .eql a b = decide (a = b) := rfl
@[simp] theorem cy3 (a b : Int) : aG5 .neq a b = !decide (a = b) := rfl
@[simp] theorem aN1 (a b : List UInt8) : bb2 .eql a b = decide (a = b) := rfl
@[simp] theorem bi7 (a b : List UInt8) : bb2 .neq a b = !decide (a = b) := rfl
theorem U6 (ω : Opq) (v0 : Nat) (l : List Val) (n : Nat) : (ω.upd v0 l).w n = if v0 ≤ n then l.getD (n - v0) (.vb false) else ω.w n := rfl
theorem ce9 (ω : Opq) (v0 : Nat) (l : List Val) : (ω.upd v0 l).f = ω.f := rfl
theorem wu8 (x : Int) : IntKind.u8.wrap x = x % 256 := by simp [IntKind.wrap, IntKind.bits, IntKind.signed]
theorem b81 (x : Int) : IntKind.u64.wrap x = x % 18446744073709551616 := by simp [IntKind.wrap, IntKind.bits, IntKind.signed]
theorem cD2 {x : Int} (h : -9223372036854775808 ≤ x) (h2 : x < 9223372036854775808) : IntKind.i64.wrap x = x := by
 simp only [IntKind.wrap, IntKind.bits, IntKind.signed]
 simp
 omega
theorem az1 {x y : Int} (h : -9223372036854775808 ≤ x + y) (h2 : x + y < 9223372036854775808) : arI .add .i64 x y = x + y := cD2 h h2
theorem cf0 {x y : Int} (h : -9223372036854775808 ≤ x - y) (h2 : x - y < 9223372036854775808) : arI .sub .i64 x y = x - y := cD2 h h2
theorem cD3 {x y : Int} (h : -9223372036854775808 ≤ x * y) (h2 : x * y < 9223372036854775808) : arI .mul .i64 x y = x * y := cD2 h h2
theorem cf1 {x : Int} (h : 0 ≤ x) : arI .shr .u64 x 8 = x / 256 := by
 simp only [arI, IntKind.bits]
 rw [show (8 : Int).toNat = 8 from rfl, show min 8 64 = 8 from rfl, Int.fdiv_eq_ediv_of_nonneg _ (by decide)]; rfl
def sbV (l : List UInt8) : List Val := l.map fun b => .vl [.vi (b.toNat : Int)]
theorem r6 (l : List UInt8) : (sbV l).length = l.length := by simp [sbV]
theorem U7 (a b : List UInt8) : sbV (a ++ b) = sbV a ++ sbV b := by simp [sbV]
def unV (l : List Val) : List UInt8 := l.map fun r => UInt8.ofNat (r.toL.getD 0 default).toI.toNat
theorem az2 (l : List UInt8) : unV (sbV l) = l := by
 unfold unV sbV
 rw [List.map_map]
 conv => rhs; rw [← List.map_id l]
 refine List.map_congr_left fun b _ => ?_
 show UInt8.ofNat ((b.toNat : Int)).toNat = b
 rw [Int.toNat_natCast, UInt8.ofNat_toNat]
def aO7 (l : List Val) : Bool := l.all fun r => decide (0 ≤ (r.toL.getD 0 default).toI) && decide ((r.toL.getD 0 default).toI < 256)
theorem a94 : ∀ l : List UInt8, aO7 (sbV l) = true
 | [] => rfl
 | b :: l => by
   have h := b.toNat_lt
   have h2 : (b.toNat : Int) < 256 := by omega
   show ((decide (0 ≤ (b.toNat : Int)) && decide ((b.toNat : Int) < 256)) && aO7 (sbV l)) = true
   rw [a94 l, decide_eq_true h2, decide_eq_true (Int.natCast_nonneg _)]; rfl
theorem cf2 (a b : List Val) : aO7 (a ++ b) = (aO7 a && aO7 b) := by simp [aO7]
def s8 : List UInt8 → List UInt8
 | [] => []
 | b :: r => (if b = 0 then [0, 255] else [b]) ++ s8 r
theorem a95 : ∀ a b : List UInt8, s8 (a ++ b) = s8 a ++ s8 b
 | [], b => rfl
 | x :: a, b => by simp [s8, a95 a b]
theorem Q0 : ∀ a : List UInt8, (s8 a).length ≤ 2 * a.length
 | [] => by simp [s8]
 | x :: a => by
   have := Q0 a
   simp only [s8, List.length_append, List.length_cons]
   split <;> simp <;> omega
theorem av8 : ∀ a : List UInt8, a.length ≤ (s8 a).length
 | [] => by simp
 | x :: a => by
   have := av8 a
   simp only [s8, List.length_append, List.length_cons]
   split <;> simp <;> omega
theorem a96 : ∀ {a : List UInt8}, j8 0 a = 0 → s8 a = a
 | [], _ => rfl
 | x :: a, h => by
   simp only [j8] at h
   cases hx : Nat.beq x.toNat 0 with
   | true => rw [hx] at h; simp at h
   | false =>
     rw [hx] at h
     have ha := a96 (a := a) (by simpa using h)
     have : ¬ x = 0 := by
      intro e; subst e; simp at hx
     simp [s8, this, ha]
theorem a97 (c : Nat) : ∀ a b : List UInt8, j8 c (a ++ b) = j8 c a + j8 c b
 | [], b => by simp [j8]
 | x :: a, b => by
   simp only [List.cons_append, j8, a97 c a b]
   cases Nat.beq x.toNat c <;> simp <;> omega
theorem aN2 (c : Nat) : ∀ a : List UInt8, j8 c a ≤ a.length
 | [] => by simp [j8]
 | x :: a => by
   have := aN2 c a
   simp only [j8, List.length_cons]
   cases Nat.beq x.toNat c <;> simp <;> omega
def spl : List UInt8 → List UInt8 × List UInt8
 | [] => ([], [])
 | b :: r => if j8 0 r = 0 then (if b = 0 then ([b], r) else ([], b :: r)) else (b :: (spl r).1, (spl r).2)
theorem bi8 : ∀ l : List UInt8, (spl l).1 ++ (spl l).2 = l
 | [] => rfl
 | b :: r => by
   unfold spl
   split
   · split <;> rfl
   · simp [bi8 r]
theorem bi9 : ∀ l : List UInt8, j8 0 (spl l).2 = 0
 | [] => rfl
 | b :: r => by
   unfold spl
   split
   · rename_i h
     split
     · exact h
     · rename_i hb
       simp only [j8, h]
       have : Nat.beq b.toNat 0 = false := by
        cases e : Nat.beq b.toNat 0 with
        | false => rfl
        | true =>
          have : b.toNat = 0 := by simpa using e
          exact absurd (UInt8.toNat_inj.1 (by simpa using this)) hb
       rw [this]; rfl
   · exact bi9 r
theorem bY8 {t : List UInt8} (h : j8 0 t = 0) : spl t = ([], t) := by
 cases t with
 | nil => rfl
 | cons b r =>
   simp only [j8] at h
   cases hx : Nat.beq b.toNat 0 with
   | true => rw [hx] at h; simp at h
   | false =>
     rw [hx] at h
     have hr : j8 0 r = 0 := by simpa using h
     have : ¬ b = 0 := by intro e; subst e; simp at hx
     simp [spl, hr, this]
theorem c53 : ∀ (p : List UInt8) {t : List UInt8}, j8 0 t = 0 → spl (p ++ 0 :: t) = (p ++ [0], t)
 | [], t, h => by simp [spl, h]
 | b :: p, t, h => by
   have ih := c53 p h
   have hc : j8 0 (p ++ 0 :: t) ≠ 0 := by
    rw [a97]
    have : j8 0 (0 :: t) = j8 0 t + 1 := by simp [j8]
    omega
   show (if j8 0 (p ++ 0 :: t) = 0 then (if b = 0 then ([b], p ++ 0 :: t) else ([], b :: (p ++ 0 :: t))) else (b :: (spl (p ++ 0 :: t)).1, (spl (p ++ 0 :: t)).2)) = _
   rw [if_neg hc]
   show (b :: (spl (p ++ 0 :: t)).1, (spl (p ++ 0 :: t)).2) = _
   rw [ih]; rfl
theorem bL3 : ∀ {t : List UInt8} (i : Nat), j8 0 t ≠ 0 → ∃ p q, t = p ++ 0 :: q ∧ j8 0 p = 0 ∧ aF0 0 t i = some (i + p.length)
 | [], i, h => absurd rfl h
 | b :: r, i, h => by
   cases hx : Nat.beq b.toNat 0 with
   | true =>
     have hb : b = 0 := UInt8.toNat_inj.1 (by simpa using hx)
     subst hb
     exact ⟨[], r, rfl, rfl, by simp [aF0]⟩
   | false =>
     simp only [j8, hx] at h
     obtain ⟨p, q, rfl, h2, h3⟩ := bL3 (i + 1) (show j8 0 r ≠ 0 by simpa using h)
     refine ⟨b :: p, q, rfl, by simp [j8, hx, h2], ?_⟩
     simp only [aF0, hx, cond_false, h3, List.length_cons]
     congr 1; omega
theorem cs3 {p q : List UInt8} (hp : j8 0 p = 0) : ae3 0 (p ++ 0 :: q) = (p.length : Int) := by
 have hc : j8 0 (p ++ 0 :: q) ≠ 0 := by
  rw [a97]
  have : j8 0 (0 :: q) = j8 0 q + 1 := by simp [j8]
  omega
 obtain ⟨p', q', e, h2, h3⟩ := bL3 0 hc
 unfold ae3
 rw [h3]
 have : p' = p := by
  have key : ∀ (p p' q q' : List UInt8), j8 0 p = 0 → j8 0 p' = 0 → p ++ 0 :: q = p' ++ 0 :: q' → p = p' := by
   intro p
   induction p with
   | nil =>
     intro p' q q' _ h' e
     cases p' with
     | nil => rfl
     | cons b p' =>
       exfalso
       simp only [List.nil_append, List.cons_append, List.cons.injEq] at e
       rw [← e.1] at h'
       simp [j8] at h'
   | cons b p ih =>
     intro p' q q' h h' e
     cases p' with
     | nil =>
       exfalso
       simp only [List.nil_append, List.cons_append, List.cons.injEq] at e
       rw [e.1] at h
       simp [j8] at h
     | cons b' p' =>
       simp only [List.cons_append, List.cons.injEq] at e
       have c1 : j8 0 p = 0 := by
        simp only [j8] at h
        cases hx : Nat.beq b.toNat 0 <;> rw [hx] at h <;> simp at h
        exact h
       have c2 : j8 0 p' = 0 := by
        simp only [j8] at h'
        cases hx : Nat.beq b'.toNat 0 <;> rw [hx] at h' <;> simp at h'
        exact h'
       rw [e.1, ih p' q q' c1 c2 e.2]
  exact (key p p' q q' hp h2 e).symm
 rw [this]; simp
def n5 (l : List UInt8) : List UInt8 := s8 l ++ [0, 0]
def a34 (n : Int) : Int := arI .xor .u64 (IntKind.u64.wrap n) 9223372036854775808
theorem a98 (n : Int) : 0 ≤ a34 n ∧ a34 n < 18446744073709551616 := by
 unfold a34
 simp only [arI, b81]
 omega
def dv (a : Int) : Nat → Int
 | 0 => a
 | k + 1 => dv a k / 256
theorem aW5 {a : Int} (h : 0 ≤ a) : ∀ k, 0 ≤ dv a k
 | 0 => h
 | k + 1 => by have := aW5 h k; show 0 ≤ dv a k / 256; omega
def byV (a : Int) (k : Nat) : UInt8 := UInt8.ofNat (dv a k % 256).toNat
def aW6 (a : Int) : List UInt8 := [byV a 7, byV a 6, byV a 5, byV a 4, byV a 3, byV a 2, byV a 1, byV a 0]
def m9 (n : Int) : List UInt8 := aW6 (a34 n)
theorem n7 (n : Int) : (m9 n).length = 8 := rfl
def B9 (k : Int) (key to : List UInt8) (least most : Int) : Bool :=
 bif decide (32 < (key.length : Int)) || decide (32 < (to.length : Int)) then false
 else bif decide (k = 1) then decide (to = []) && decide (most = 0) && !decide (key = [])
 else bif decide (k = 2) then decide (least = 0) && decide (most = 0)
 else bif decide (k = 3) then decide (key = []) && decide (to = []) else false
def F0 : List UInt8 → Nat → Nat
 | _, 0 => 0
 | l, n + 1 => bif decide (l.getD n 0 = 255) then F0 l n else n + 1
theorem aN3 (l : List UInt8) : ∀ n, F0 l n ≤ n
 | 0 => Nat.le_refl _
 | n + 1 => by
   unfold F0
   cases decide (l.getD n 0 = 255) with
   | true => exact Nat.le_succ_of_le (aN3 l n)
   | false => exact Nat.le_refl _
def upB (l : List UInt8) (m : Nat) : List UInt8 := l.take m ++ [l.getD m 0 + 1]
def F1 (l : List UInt8) : List UInt8 × Bool := match F0 l l.length with
 | 0 => ([], false)
 | m + 1 => (upB l m, true)
def p8 (k : Int) (key to : List UInt8) (least most : Int) : List UInt8 × List UInt8 :=
 bif !B9 k key to least most then ([0], [0])
 else bif decide (k = 1) then (n5 key ++ m9 least, (F1 (n5 key ++ m9 least)).1)
 else bif decide (k = 2) then (n5 key, bif decide (to = []) then [] else n5 to)
 else (m9 least, m9 most)
def arg (a : List Val) (i : Nat) : Val := a.getD i (.vb false)
noncomputable def FX (X : Nat → List Val → Val) : Nat → List Val → Val := fun i a => match i with
  | 300 => bif decide (j8 0 (arg a 0).toS = 0) then arg a 0 else .vs (s8 (arg a 0).toS)
  | 301 => .vs (n5 (arg a 0).toS)
  | 302 => .vs (m9 (arg a 0).toI)
  | 320 => Q7 (0, [.vi (spl (arg a 4).toS).1.length, .vi (j8 0 (arg a 4).toS : Nat), .vi (s8 (spl (arg a 4).toS).1).length, .vl (sbV (s8 (spl (arg a 4).toS).1))])
  | 330 => .vb (B9 (arg a 0).toI (arg a 1).toS (arg a 2).toS (arg a 3).toI (arg a 4).toI)
  | 331 => .vs (F1 (arg a 0).toS).1
  | 332 => .vb (F1 (arg a 0).toS).2
  | 333 => .vs (p8 (arg a 0).toI (arg a 1).toS (arg a 2).toS (arg a 3).toI (arg a 4).toI).1
  | 334 => .vs (p8 (arg a 0).toI (arg a 1).toS (arg a 2).toS (arg a 3).toI (arg a 4).toI).2
  | 340 => Q7 (0, [.vi (F0 (unV (arg a 1).toL) (arg a 0).toI.toNat), arg a 1])
  | i => X i a
variable {X : Nat → List Val → Val}
theorem p6 {ω : Opq} {hd : LHd} {b : VT} {ks : List VT} {r : Nat × List Val} {x : Option (Nat × List Val)} (h1 : A0 (fun vs => j3 b (ω.upd hd.v0 vs)) (k5 ω hd.s0) = some r) (h2 : ω.f hd.id (k5 ω (hd.s0 ++ hd.fv)) = Q7 r) (h3 : al6 ks r.1 ω = x) : j3 (.loop hd b ks) ω = x := by
 rw [j3.eq_5, h1]
 simp only
 rw [if_pos h2, h3]
theorem i5 {ω : Opq} {e : SX} {x : VT} {r : Option (Nat × List Val)} (h : dB ω e = true) (h2 : j3 x ω = r) : j3 (.need e x) ω = r := by rw [j3.eq_3, if_pos h, h2]
theorem m7 {ω : Opq} {e : SX} {x y : VT} {r : Option (Nat × List Val)} (h : dB ω e = true) (h2 : j3 x ω = r) : j3 (.ite e x y) ω = r := by rw [j3.eq_2, if_pos h, h2]
theorem m8 {ω : Opq} {e : SX} {x y : VT} {r : Option (Nat × List Val)} (h : dB ω e = false) (h2 : j3 y ω = r) : j3 (.ite e x y) ω = r := by rw [j3.eq_2, if_neg (by rw [h]; simp), h2]
theorem a10 {a b : Bool} (h : a = true) (h2 : b = true) : (a && b) = true := by rw [h, h2]; rfl
def aW7 (J : SX) : SX := .op .lcat [.va 2003, .op .sbytes [.op .ssub [.va 0, .va 2000, J]]]
def av9 (J : SX) : SX := .op .lcat [aW7 J, .op .sbytes [.cs [0, 255]]]
def bY9 (J : SX) : VT := .need (.op .and [.op (.cmp .leq) [.va 2000, J], .op (.cmp .leq) [J, .op .slen [.va 0]]]) (.need (.op .and [.op (.cmp .eql) [.va 2002, .op .llen [.va 2003]], .op (.cmp .leq) [.op .llen [aW7 J], .ci 1000000]]) (.need (.op (.cmp .leq) [.op .llen [av9 J], .ci 1000000]) (.ret 0 [.op (.ar .add .i64) [J, .ci 1], .op (.ar .add .i64) [.va 2001, .ci 1], .op .llen [av9 J], av9 J])))
def ad4 : SX := .op .ssub [.va 0, .va 2000, .op .slen [.va 0]]
theorem cf3 : bY3 = .ite (.op (.cmp .lss) [.va 2001, .op .scnt [.va 0, .ci 0]]) (.need (.op .and [.op (.cmp .leq) [.ci 0, .va 2000], .op (.cmp .leq) [.va 2000, .op .slen [.va 0]]]) (.ite (.op (.scmp .eql) [.cs [0], ad4]) (bY9 (.op (.ar .add .i64) [.va 2000, .ci 0])) (bY9 (.op (.ar .add .i64) [.va 2000, .op .sidx [ad4, .ci 0]])))) (.ret 1 [.va 2000, .va 2001, .va 2002, .va 2003]) := rfl
theorem bj0 {ω : Opq} {J : SX} {s s1 p q : List UInt8} {i : Nat} (w0 : (ω.w 0).toS = s) (w1 : ω.w 2000 = .vi s1.length) (w2 : ω.w 2001 = .vi i) (w3 : ω.w 2002 = .vi (s8 s1).length) (w4 : ω.w 2003 = .vl (sbV (s8 s1)))
 (hst : s = s1 ++ (p ++ 0 :: q)) (hn : s.length ≤ 1000) (hi : i ≤ 1000) (hp : j8 0 p = 0) (hJ : dI ω J = ((s1.length + p.length : Nat) : Int)) :
 j3 (bY9 J) ω = some (0, [.vi (s1 ++ p ++ [0]).length, .vi (i + 1 : Nat), .vi (s8 (s1 ++ p ++ [0])).length, .vl (sbV (s8 (s1 ++ p ++ [0])))]) := by
 have hlen : s.length = s1.length + (p.length + (q.length + 1)) := by rw [hst]; simp
 have he1 := Q0 s1
 have hep : s8 p = p := a96 hp
 have ae0 : s8 (s1 ++ p ++ [0]) = s8 s1 ++ p ++ [0, 255] := by rw [a95, a95, hep]; rfl
 have hv : dI ω (.va 2000) = (s1.length : Int) := by show (ω.w 2000).toI = _; rw [w1]; rfl
 have hpart : dS ω (.op .ssub [.va 0, .va 2000, J]) = p := by
  show ((ω.w 0).toS.drop (dI ω (.va 2000)).toNat).take (dI ω J - dI ω (.va 2000)).toNat = p
  rw [w0, hv, hJ, Int.toNat_natCast, hst, List.drop_left, show (((s1.length + p.length : Nat) : Int) - (s1.length : Int)).toNat = p.length by omega, List.take_left]
 have hcut : den ω (aW7 J) = .vl (sbV (s8 s1) ++ sbV p) := by
  show Val.vl ((ω.w 2003).toL ++ sbV (dS ω (.op .ssub [.va 0, .va 2000, J]))) = _
  rw [w4, hpart]; rfl
 have hout : den ω (av9 J) = .vl (sbV (s8 (s1 ++ p ++ [0]))) := by
  show Val.vl ((den ω (aW7 J)).toL ++ sbV [0, 255]) = _
  rw [hcut, ae0, U7, U7]; rfl
 have hol : (s8 (s1 ++ p ++ [0])).length = (s8 s1).length + p.length + 2 := by rw [ae0]; simp [Nat.add_assoc]
 unfold bY9
 refine i5 ?_ (i5 ?_ (i5 ?_ ?_))
 · refine a10 (decide_eq_true (show dI ω (.va 2000) ≤ dI ω J from ?_)) (decide_eq_true (show dI ω J ≤ ((ω.w 0).toS.length : Int) from ?_))
   · rw [hv, hJ]; omega
   · rw [w0, hJ]; omega
 · refine a10 (decide_eq_true (show (ω.w 2002).toI = ((ω.w 2003).toL.length : Int) from ?_)) (decide_eq_true (show ((den ω (aW7 J)).toL.length : Int) ≤ 1000000 from ?_))
   · rw [w3, w4]; show ((s8 s1).length : Int) = ((sbV (s8 s1)).length : Int); rw [r6]
   · rw [hcut, j4, List.length_append, r6, r6]; omega
 · refine decide_eq_true (show ((den ω (av9 J)).toL.length : Int) ≤ 1000000 from ?_)
   rw [hout, j4, r6, hol]; omega
 · show some (0, [Val.vi (arI .add .i64 (dI ω J) 1), Val.vi (arI .add .i64 (ω.w 2001).toI 1), Val.vi ((den ω (av9 J)).toL.length : Int), den ω (av9 J)]) = _
   rw [hJ, w2, hout, j4, r6, j1, az1 (by omega) (by omega), az1 (by omega) (by omega)]
   have e1 : ((s1.length + p.length : Nat) : Int) + 1 = ((s1 ++ p ++ [0]).length : Int) := by simp [Int.add_assoc]
   rw [e1]; rfl
theorem cf4 {ω : Opq} {s s1 t : List UInt8} {c i : Nat} (hs : (ω.w 0).toS = s) (hst : s = s1 ++ t) (hn : s.length ≤ 1000) (hc : j8 0 s = c) (hi : i + j8 0 t = c) (h0 : j8 0 t ≠ 0) :
 ∃ p q, t = p ++ 0 :: q ∧ j8 0 p = 0 ∧ j3 bY3 (ω.upd 2000 [.vi s1.length, .vi i, .vi (s8 s1).length, .vl (sbV (s8 s1))]) = some (0, [.vi (s1 ++ p ++ [0]).length, .vi (i + 1 : Nat), .vi (s8 (s1 ++ p ++ [0])).length, .vl (sbV (s8 (s1 ++ p ++ [0])))]) := by
 obtain ⟨p, q, e, hp, _⟩ := bL3 0 h0
 refine ⟨p, q, e, hp, ?_⟩
 subst e
 obtain ⟨ω', hω⟩ : ∃ ω', ω' = ω.upd 2000 [.vi s1.length, .vi i, .vi (s8 s1).length, .vl (sbV (s8 s1))] := ⟨_, rfl⟩
 have w0 : (ω'.w 0).toS = s := by rw [hω]; exact hs
 have w1 : ω'.w 2000 = .vi s1.length := by rw [hω]; rfl
 have w2 : ω'.w 2001 = .vi i := by rw [hω]; rfl
 have w3 : ω'.w 2002 = .vi (s8 s1).length := by rw [hω]; rfl
 have w4 : ω'.w 2003 = .vl (sbV (s8 s1)) := by rw [hω]; rfl
 rw [← hω, cf3]
 have hlen : s.length = s1.length + (p.length + (q.length + 1)) := by rw [hst]; simp
 have hcs := aN2 0 s
 have hv : dI ω' (.va 2000) = (s1.length : Int) := by show (ω'.w 2000).toI = _; rw [w1]; rfl
 have hrest : dS ω' ad4 = p ++ 0 :: q := by
  show ((ω'.w 0).toS.drop (dI ω' (.va 2000)).toNat).take (((ω'.w 0).toS.length : Int) - dI ω' (.va 2000)).toNat = _
  rw [w0, hv, Int.toNat_natCast]
  conv => lhs; rw [hst, List.drop_left]
  rw [List.take_of_length_le]
  simp; omega
 refine m7 (decide_eq_true (show (ω'.w 2001).toI < ((j8 (0 : Int).toNat (ω'.w 0).toS : Nat) : Int) from ?_)) (i5 (a10 (decide_eq_true (show (0 : Int) ≤ dI ω' (.va 2000) from ?_)) (decide_eq_true (show dI ω' (.va 2000) ≤ ((ω'.w 0).toS.length : Int) from ?_))) ?_)
 · rw [w2, w0]; show (i : Int) < ((j8 0 s : Nat) : Int); omega
 · rw [hv]; omega
 · rw [hv, w0]; omega
 · by_cases hone : [(0 : UInt8)] = p ++ 0 :: q
   · have hp0 : p = [] := by
      cases p with
      | nil => rfl
      | cons b p => exfalso; have := congrArg List.length hone; simp at this
     refine m7 (decide_eq_true (show [(0 : UInt8)] = dS ω' ad4 from ?_)) (bj0 w0 w1 w2 w3 w4 hst hn (by omega) hp ?_)
     · rw [hrest]; exact hone
     · show arI .add .i64 (dI ω' (.va 2000)) 0 = _
       rw [hv, hp0, az1 (by omega) (by omega)]; simp
   · refine m8 (decide_eq_false (show ¬ [(0 : UInt8)] = dS ω' ad4 from ?_)) (bj0 w0 w1 w2 w3 w4 hst hn (by omega) hp ?_)
     · rw [hrest]; exact hone
     · show arI .add .i64 (dI ω' (.va 2000)) (ae3 (0 : Int).toNat (dS ω' ad4)) = _
       rw [hv, hrest, show (0 : Int).toNat = 0 from rfl, cs3 hp, az1 (by omega) (by omega)]; omega
theorem bL4 {ω : Opq} {s : List UInt8} {c : Nat} (hs : (ω.w 0).toS = s) (hn : s.length ≤ 1000) (hc : j8 0 s = c) : ∀ (k : Nat) (s1 t : List UInt8) (i : Nat), s = s1 ++ t → j8 0 t = k → i + k = c → (s1 = [] ∨ ∃ x, s1 = x ++ [0]) →
 Iter (fun vs => j3 bY3 (ω.upd 2000 vs)) [.vi s1.length, .vi i, .vi (s8 s1).length, .vl (sbV (s8 s1))] 0 [.vi (spl s).1.length, .vi c, .vi (s8 (spl s).1).length, .vl (sbV (s8 (spl s).1))]
 | 0, s1, t, i, hst, ht, hi, h1 => by
   have hspl : (spl s).1 = s1 := by
    rcases h1 with rfl | ⟨x, rfl⟩
    · rw [hst, List.nil_append, bY8 ht]
    · rw [hst, List.append_assoc, List.singleton_append, c53 x ht]
   rw [hspl]
   refine .out ?_
   have g1 : ¬ (i : Int) < ((j8 0 s : Nat) : Int) := by omega
   have hic : i = c := by omega
   subst hic
   have cnt0 : j8 (0 : Int).toNat s = j8 0 s := rfl
   show j3 bY3 (ω.upd 2000 [_, _, _, _]) = _
   unfold bY3
   simp only [j3.eq_2, j3.eq_4, k5, den, dB, A1, U6, show (2000 ≤ 2000) = True by simp, show (2000 ≤ 2001) = True by simp, show (2000 ≤ 2002) = True by simp, show (2000 ≤ 2003) = True by simp, if_true, show 2000 - 2000 = 0 from rfl, show 2001 - 2000 = 1 from rfl, show 2002 - 2000 = 2 from rfl, show 2003 - 2000 = 3 from rfl, List.getD_cons_zero, List.getD_cons_succ, show (2000 ≤ 0) = False by simp, if_false, j1, p9, l4, hs, cnt0, g1, decide_false, Bool.false_eq_true]
 | k + 1, s1, t, i, hst, ht, hi, h1 => by
   obtain ⟨p, q, e, hp, hstep⟩ := cf4 (ω := ω) hs hst hn hc (i := i) (by omega) (by omega)
   refine .more hstep (bL4 hs hn hc k (s1 ++ p ++ [0]) q (i + 1) (by rw [hst, e]; simp) ?_ (by omega) (.inr ⟨_, rfl⟩))
   rw [e, a97, hp] at ht
   simpa [j8] using ht
theorem cs4 (x : Val) : (FX X 300 [x]).toS = s8 x.toS := by
 show (bif decide (j8 0 x.toS = 0) then x else .vs (s8 x.toS)).toS = _
 by_cases h : j8 0 x.toS = 0
 · rw [decide_eq_true h, a96 h]; rfl
 · rw [decide_eq_false h]; rfl
theorem cs5 {ω : Opq} (hf : ∀ i a, ω.f i a = FX X i a) (hn : (ω.w 0).toS.length ≤ 1000) : j3 bh0 ω = some (0, [FX X 300 [ω.w 0]]) := by
 obtain ⟨s, hs⟩ : ∃ s, (ω.w 0).toS = s := ⟨_, rfl⟩
 rw [hs] at hn
 have hF : FX X 300 [ω.w 0] = bif decide (j8 0 s = 0) then ω.w 0 else .vs (s8 s) := by rw [← hs]; rfl
 rw [hF]
 have hc0 := aN2 0 s
 have cnt0 : dI ω (.op .scnt [.va 0, .ci 0]) = (j8 0 s : Nat) := by
  show ((j8 (0 : Int).toNat (ω.w 0).toS : Nat) : Int) = _; rw [hs]; rfl
 unfold bh0
 by_cases h0 : j8 0 s = 0
 · rw [decide_eq_true h0]
   exact m7 (by show decide (dI ω (.op .scnt [.va 0, .ci 0]) = 0) = true; rw [cnt0, h0]; rfl) rfl
 · rw [decide_eq_false h0]
   have hsl : dI ω (.op .slen [.va 0]) = (s.length : Nat) := by show ((ω.w 0).toS.length : Int) = _; rw [hs]
   have r0 : dI ω as0 = ((s.length + j8 0 s : Nat) : Int) := by
    show arI .add .i64 (dI ω (.op .slen [.va 0])) (arI .mul .i64 (dI ω (.op .scnt [.va 0, .ci 0])) 1) = _
    rw [hsl, cnt0, cD3 (by omega) (by omega), Int.mul_one, az1 (by omega) (by omega)]; omega
   have r1 : dI ω aV6 = ((s.length + j8 0 s : Nat) : Int) := by
    show arI .add .i64 0 (dI ω as0) = _
    rw [r0, az1 (by omega) (by omega)]; omega
   obtain ⟨a, b, hab⟩ : ∃ a b, spl s = (a, b) := ⟨_, _, rfl⟩
   have hj : a ++ b = s := by have := bi8 s; rw [hab] at this; exact this
   have hb0 : j8 0 b = 0 := by have := bi9 s; rw [hab] at this; exact this
   have hlen : a.length + b.length = s.length := by rw [← hj]; simp
   have hea := Q0 a
   have hloop : A0 (fun vs => j3 bY3 (ω.upd 2000 vs)) [.vi 0, .vi 0, .vi 0, .vl []] = some (0, [.vi a.length, .vi (j8 0 s : Nat), .vi (s8 a).length, .vl (sbV (s8 a))]) := by
    rw [x9]
    have := bL4 (ω := ω) hs hn rfl (j8 0 s) [] s 0 rfl rfl (by omega) (.inl rfl)
    rw [hab] at this
    exact this
   have h320 : FX X 320 [.vi 0, .vi 0, .vi 0, .vl [], ω.w 0, .vi 0, .vi 0, .vl [], .vi (j8 0 s : Nat)] = Q7 (0, [.vi a.length, .vi (j8 0 s : Nat), .vi (s8 a).length, .vl (sbV (s8 a))]) := by
    show Q7 (0, [.vi (spl (ω.w 0).toS).1.length, .vi (j8 0 (ω.w 0).toS : Nat), .vi (s8 (spl (ω.w 0).toS).1).length, .vl (sbV (s8 (spl (ω.w 0).toS).1))]) = _
    rw [hs, hab]
   have e2 : den ω as3 = Q7 (0, [.vi a.length, .vi (j8 0 s : Nat), .vi (s8 a).length, .vl (sbV (s8 a))]) := by
    show ω.f 320 [.vi 0, .vi 0, .vi ((([] : List Val).length : Nat) : Int), .vl [], ω.w 0, .vi ((([] : List Val).length : Nat) : Int), .vi ((([] : List Val).length : Nat) : Int), .vl [], .vi (j8 (0 : Int).toNat (ω.w 0).toS : Nat)] = _
    rw [hf, hs]; exact h320
   have e3 : dI ω af6 = (a.length : Int) := by show (A5 (den ω as3).toL 1 0).toI = _; rw [e2]; rfl
   have e5 : den ω aV7 = .vl (sbV (s8 a)) := by show A5 (den ω as3).toL 1 3 = _; rw [e2]; rfl
   have e6 : den ω N6 = .vl (sbV (s8 s)) := by
    show Val.vl ((den ω aV7).toL ++ (((ω.w 0).toS.drop (dI ω af6).toNat).take (dI ω (.op .slen [.va 0]) - dI ω af6).toNat).map fun b => Val.vl [.vi (b.toNat : Int)]) = _
    rw [e5, e3, hsl, hs, Int.toNat_natCast]
    have : ((s.drop a.length).take ((s.length : Int) - (a.length : Int)).toNat) = b := by
     rw [← hj, List.drop_left, List.take_of_length_le]
     simp; omega
    rw [this]
    show Val.vl (sbV (s8 a) ++ sbV b) = _
    rw [← U7, ← hj, a95, a96 hb0]
   have hes := Q0 s
   have hge := av8 s
   have main : ∀ x, j3 (.loop ⟨320, [.ci 0, .ci 0, .op .llen [.op .row []], .op .row []], 2000, [.va 0, .op .llen [.op .row []], .op .llen [.op .row []], .op .row [], .op .scnt [.va 0, .ci 0]]⟩ bY3 [.need (bI5) (.need (bI6) (.need (bI7) (.need (bI8) (.ret 0 [.op .bstr [N6]]))))]) ω = x → x = some (0, [.vs (s8 s)]) := by
    rintro _ rfl
    refine p6 (r := (0, [.vi a.length, .vi (j8 0 s : Nat), .vi (s8 a).length, .vl (sbV (s8 a))])) hloop e2 ?_
    refine i5 ?_ (i5 ?_ (i5 ?_ (i5 ?_ ?_)))
    · show (decide (0 ≤ dI ω af6) && decide (dI ω af6 ≤ dI ω (.op .slen [.va 0]))) = true
      rw [e3, hsl, Bool.and_eq_true]
      exact ⟨decide_eq_true (by omega), decide_eq_true (by omega)⟩
    · show (decide ((A5 (den ω as3).toL 1 2).toI = ((den ω aV7).toL.length : Int)) && decide (((den ω N6).toL.length : Int) ≤ 1000000)) = true
      rw [e2, e5, e6, Bool.and_eq_true]
      refine ⟨decide_eq_true ?_, decide_eq_true ?_⟩
      · show ((s8 a).length : Int) = ((sbV (s8 a)).length : Int); rw [r6]
      · show ((sbV (s8 s)).length : Int) ≤ _; rw [r6]; omega
    · show decide ((0 : Int) < ((den ω N6).toL.length : Int)) = true
      rw [e6]
      refine decide_eq_true ?_
      show (0 : Int) < ((sbV (s8 s)).length : Int); rw [r6]; omega
    · show (decide (((den ω N6).toL.length : Int) ≤ ((den ω N6).toL.length : Int)) && aO7 (den ω N6).toL) = true
      rw [e6, Bool.and_eq_true]
      exact ⟨decide_eq_true (Int.le_refl _), a94 _⟩
    · show some (0, [Val.vs (unV (den ω N6).toL)]) = _
      rw [e6]
      show some (0, [Val.vs (unV (sbV (s8 s)))]) = _
      rw [az2]
   refine m8 (by show decide (dI ω (.op .scnt [.va 0, .ci 0]) = 0) = false; rw [cnt0]; exact decide_eq_false (by omega)) ?_
   refine m8 (by show decide (dI ω as0 < 0) = false; rw [r0]; exact decide_eq_false (by omega)) ?_
   refine m7 (by show decide (0 < dI ω as0) = true; rw [r0]; exact decide_eq_true (by omega)) ?_
   refine i5 ?_ (i5 rfl ?_)
   · show (decide (0 ≤ dI ω aV6) && decide (dI ω aV6 ≤ 281474976710656)) = true
     rw [r1, Bool.and_eq_true]
     exact ⟨decide_eq_true (by omega), decide_eq_true (by omega)⟩
   · exact main _ rfl
theorem cf5 {ω : Opq} (hf : ∀ i a, ω.f i a = FX X i a) : j3 aK6 ω = some (0, [FX X 302 [ω.w 0]]) := by
 have hF : FX X 302 [ω.w 0] = .vs (aW6 (a34 (ω.w 0).toI)) := rfl
 rw [hF]
 obtain ⟨h0, h1⟩ := a98 (ω.w 0).toI
 have e0 : dI ω as4 = a34 (ω.w 0).toI := rfl
 generalize a34 (ω.w 0).toI = a at *
 have hp := aW5 h0
 have e1 : dI ω as5 = dv a 1 := by show arI .shr .u64 (dI ω as4) 8 = _; rw [e0, cf1 h0]; rfl
 have e2 : dI ω as6 = dv a 2 := by show arI .shr .u64 (dI ω as5) 8 = _; rw [e1, cf1 (hp 1)]; rfl
 have e3 : dI ω as7 = dv a 3 := by show arI .shr .u64 (dI ω as6) 8 = _; rw [e2, cf1 (hp 2)]; rfl
 have e4 : dI ω as8 = dv a 4 := by show arI .shr .u64 (dI ω as7) 8 = _; rw [e3, cf1 (hp 3)]; rfl
 have e5 : dI ω as9 = dv a 5 := by show arI .shr .u64 (dI ω as8) 8 = _; rw [e4, cf1 (hp 4)]; rfl
 have e6 : dI ω at0 = dv a 6 := by show arI .shr .u64 (dI ω as9) 8 = _; rw [e5, cf1 (hp 5)]; rfl
 have row : ∀ x : Int, Val.vl [.vi (IntKind.u8.wrap x)] = .vl [.vi (x % 256)] := fun x => by rw [wu8]
 have e7 : den ω at1 = .vl [.vl [.vi (dv a 7 % 256)], .vl [.vi (dv a 6 % 256)], .vl [.vi (dv a 5 % 256)], .vl [.vi (dv a 4 % 256)], .vl [.vi (dv a 3 % 256)], .vl [.vi (dv a 2 % 256)], .vl [.vi (dv a 1 % 256)], .vl [.vi (dv a 0 % 256)]] := by
  show Val.vl [.vl [.vi (IntKind.u8.wrap (arI .shr .u64 (dI ω at0) 8))], .vl [.vi (IntKind.u8.wrap (dI ω at0))], .vl [.vi (IntKind.u8.wrap (dI ω as9))], .vl [.vi (IntKind.u8.wrap (dI ω as8))], .vl [.vi (IntKind.u8.wrap (dI ω as7))], .vl [.vi (IntKind.u8.wrap (dI ω as6))], .vl [.vi (IntKind.u8.wrap (dI ω as5))], .vl [.vi (IntKind.u8.wrap (dI ω as4))]] = _
  rw [e0, e1, e2, e3, e4, e5, e6, cf1 (hp 6)]
  simp only [row]; rfl
 unfold aK6
 refine i5 ?_ ?_
 · show aO7 (den ω at1).toL = true
   rw [e7]
   have b : ∀ x : Int, (decide (0 ≤ x % 256) && decide (x % 256 < 256)) = true := fun x => by
    rw [Bool.and_eq_true]; exact ⟨decide_eq_true (by omega), decide_eq_true (by omega)⟩
   simp only [aO7, j4, List.all_cons, List.all_nil, List.getD_cons_zero, j1, b, Bool.and_self]
 · show some (0, [Val.vs (unV (den ω at1).toL)]) = _
   rw [e7]; rfl
theorem bj1 {ω : Opq} {a b : SX} {n : Int} {x y : List UInt8} (ha : (den ω a).toS = x) (hb : (den ω b).toS = y) (h : (x.length : Int) + (y.length : Int) < n) : dB ω (.op (.cmp .lss) [.op .iadd [.op .slen [a], .op .slen [b]], .ci n]) = true := by
 show decide (((den ω a).toS.length : Int) + ((den ω b).toS.length : Int) < n) = true
 rw [ha, hb]; exact decide_eq_true h
theorem cf6 {ω : Opq} (hf : ∀ i a, ω.f i a = FX X i a) (hn : (ω.w 0).toS.length ≤ 1000) : j3 aK9 ω = some (0, [FX X 301 [ω.w 0]]) := by
 have hF : FX X 301 [ω.w 0] = .vs (s8 (ω.w 0).toS ++ [0, 0]) := rfl
 have h3 : (den ω (.app 300 [.va 0])).toS = s8 (ω.w 0).toS := by show (ω.f 300 [ω.w 0]).toS = _; rw [hf]; exact cs4 _
 have hl := Q0 (ω.w 0).toS
 unfold aK9
 refine i5 (decide_eq_true (show ((ω.w 0).toS.length : Int) ≤ 1000 by omega)) (i5 ?_ ?_)
 · exact bj1 (n := 4294967296) h3 rfl (by show ((s8 (ω.w 0).toS).length : Int) + (2 : Nat) < 4294967296; omega)
 · show some (0, [Val.vs ((den ω (.app 300 [.va 0])).toS ++ [0, 0])]) = _
   rw [h3, hF]
theorem cf7 {ω : Opq} (hf : ∀ i a, ω.f i a = FX X i a) : j3 aK7 ω = some (0, [FX X 330 [ω.w 0, ω.w 1, ω.w 2, ω.w 3, ω.w 4]]) := by
 have hF : FX X 330 [ω.w 0, ω.w 1, ω.w 2, ω.w 3, ω.w 4] = .vb (B9 (ω.w 0).toI (ω.w 1).toS (ω.w 2).toS (ω.w 3).toI (ω.w 4).toI) := rfl
 rw [hF]
 unfold aK7 b60 b61 b62 b63 b64 b65 B9
 simp only [j3, k5, den, dB, A1, j1, w9, p9, P9, p5, aN1, bi7, decide_eq_true_eq]
 by_cases h1 : (32 : Int) < ((ω.w 1).toS.length : Int)
 · simp [h1]
 · by_cases h2 : (32 : Int) < ((ω.w 2).toS.length : Int)
   · simp [h1, h2]
   · by_cases k1 : (ω.w 0).toI = 1
     · by_cases a : (ω.w 2).toS = [] <;> by_cases b : (ω.w 4).toI = 0 <;> simp [h1, h2, k1, a, b]
     · by_cases k2 : (ω.w 0).toI = 2
       · simp [h1, h2, k2]
       · by_cases k3 : (ω.w 0).toI = 3
         · simp [h1, h2, k3]
         · simp [h1, h2, k1, k2, k3]
theorem cs6 (l : List UInt8) (i : Nat) (h : i < l.length) : A5 (sbV l) (i : Int) 0 = .vi ((l.getD i 0).toNat : Int) := by
 show (((sbV l).getD (i : Int).toNat (.vl [])).toL).getD 0 default = _
 rw [Int.toNat_natCast, List.getD_eq_getElem?_getD, List.getD_eq_getElem?_getD]
 unfold sbV
 rw [List.getElem?_map, List.getElem?_eq_getElem h, List.getD_eq_getElem?_getD, List.getElem?_eq_getElem h]; rfl
theorem aD9 (b : UInt8) : decide ((b.toNat : Int) = 255) = decide (b = 255) := by
 by_cases h : b = 255
 · subst h; rfl
 · rw [decide_eq_false h]
   refine decide_eq_false fun e => h (UInt8.toNat_inj.1 ?_)
   show b.toNat = 255
   omega
theorem bL5 {ω : Opq} {l : List UInt8} (hn : l.length ≤ 1000000) : ∀ n, n ≤ l.length → Iter (fun vs => j3 cj9 (ω.upd 2000 vs)) [.vi n, .vl (sbV l)] 0 [.vi (F0 l n), .vl (sbV l)]
 | 0, _ => by
   refine .out ?_
   show j3 cj9 (ω.upd 2000 [_, _]) = _
   unfold cj9
   simp only [j3, k5, den, dB, A1, U6, show (2000 ≤ 2000) = True by simp, show (2000 ≤ 2001) = True by simp, if_true, show 2000 - 2000 = 0 from rfl, show 2001 - 2000 = 1 from rfl, List.getD_cons_zero, List.getD_cons_succ, j1, p9, l9, P9, Int.le_refl, decide_true, show ¬ (0 : Int) < ((0 : Nat) : Int) by omega, decide_false, Bool.false_eq_true, if_false, show (0 : Int) ≤ ((0 : Nat) : Int) by omega, F0]
 | n + 1, h => by
   have hs : arI .sub .i64 ((n + 1 : Nat) : Int) 1 = (n : Int) := by rw [cf0 (by omega) (by omega)]; omega
   have hat := cs6 l n (by omega)
   have g1 : (0 : Int) ≤ ((n + 1 : Nat) : Int) := by omega
   have g2 : (0 : Int) < ((n + 1 : Nat) : Int) := by omega
   have g3 : (0 : Int) ≤ (n : Int) := by omega
   have g4 : (n : Int) < ((n + 1 : Nat) : Int) := by omega
   have g5 : (n : Int) < ((sbV l).length : Int) := by rw [r6]; omega
   have g6 : (n : Int) ≤ ((n + 1 : Nat) : Int) := by omega
   have step : ∀ b, decide (l.getD n 0 = 255) = b → j3 cj9 (ω.upd 2000 [.vi (n + 1 : Nat), .vl (sbV l)]) = bif b then some (0, [.vi n, .vl (sbV l)]) else some (1, [.vi (n + 1 : Nat), .vl (sbV l)]) := by
    intro b hb
    unfold cj9
    simp only [j3, k5, den, dB, A1, U6, show (2000 ≤ 2000) = True by simp, show (2000 ≤ 2001) = True by simp, if_true, show 2000 - 2000 = 0 from rfl, show 2001 - 2000 = 1 from rfl, List.getD_cons_zero, List.getD_cons_succ, j1, j4, p9, l9, P9, l4, p5, hs, hat, g1, g2, g3, g4, g5, g6, decide_true, Bool.and_self, aD9, hb]
    cases b <;> rfl
   cases hb : decide (l.getD n 0 = 255) with
   | true =>
     have ht : F0 l (n + 1) = F0 l n := by rw [F0, hb]; rfl
     rw [ht]
     exact .more (by rw [step true hb]; rfl) (bL5 hn n (by omega))
   | false =>
     have ht : F0 l (n + 1) = n + 1 := by rw [F0, hb]; rfl
     rw [ht]
     exact .out (by rw [step false hb]; rfl)
theorem bj2 (L : List Val) (k : Nat) (v : Val) (h : k < L.length) : (L.set k v).take (k + 1) = L.take k ++ [v] := by
 rw [List.take_add_one, List.getElem?_set_self h, List.take_set_of_le (Nat.le_refl _)]; rfl
theorem b82 (b : UInt8) : UInt8.ofNat (((b.toNat : Int) + 1) % 256).toNat = b + 1 := by
 rw [← UInt8.toNat_inj, UInt8.toNat_add, UInt8.toNat_ofNat']
 have := b.toNat_lt
 show (((b.toNat : Int) + 1) % 256).toNat % 256 = (b.toNat + 1) % 256
 omega
theorem cf8 {ω : Opq} (hf : ∀ i a, ω.f i a = FX X i a) (hn : (ω.w 0).toS.length ≤ 1000) : j3 aK8 ω = some (0, [FX X 331 [ω.w 0], FX X 332 [ω.w 0]]) := by
 obtain ⟨l, hl⟩ : ∃ l, (ω.w 0).toS = l := ⟨_, rfl⟩
 rw [hl] at hn
 have hF1 : FX X 331 [ω.w 0] = .vs (F1 l).1 := by rw [← hl]; rfl
 have hF2 : FX X 332 [ω.w 0] = .vb (F1 l).2 := by rw [← hl]; rfl
 rw [hF1, hF2]
 have hr : den ω (.op .sbytes [.va 0]) = .vl (sbV l) := by rw [← hl]; rfl
 have e0 : den ω ad1 = .vi l.length := by
  show Val.vi ((den ω (.op .sbytes [.va 0])).toL.length : Int) = _
  rw [hr, j4, r6]
 have h340 : FX X 340 [.vi l.length, .vl (sbV l)] = Q7 (0, [.vi (F0 l l.length), .vl (sbV l)]) := by
  show Q7 (0, [.vi (F0 (unV (sbV l)) (l.length : Int).toNat), .vl (sbV l)]) = _
  rw [az2, Int.toNat_natCast]
 have hm := aN3 l l.length
 generalize hk : F0 l l.length = m at h340 hm
 have e1 : den ω at2 = Q7 (0, [.vi m, .vl (sbV l)]) := by
  show ω.f 340 [den ω ad1, den ω (.op .sbytes [.va 0])] = _
  rw [e0, hr, hf, h340]
 have e2 : dI ω G6 = (m : Int) := by show (A5 (den ω at2).toL 1 0).toI = _; rw [e1]; rfl
 have e5 : den ω a31 = .vl (sbV l) := by show A5 (den ω at2).toL 1 1 = _; rw [e1]; rfl
 unfold aK8
 refine p6 (r := (0, [.vi m, .vl (sbV l)])) ?_ ?_ ?_
 · show A0 _ [den ω ad1, den ω (.op .sbytes [.va 0])] = _
   rw [e0, hr, x9, ← hk]
   exact bL5 (by omega) l.length (Nat.le_refl _)
 · show ω.f 340 [den ω ad1, den ω (.op .sbytes [.va 0])] = _
   rw [e0, hr, hf, h340]
 · refine i5 (by show decide (0 ≤ dI ω G6) = true; rw [e2]; exact decide_eq_true (by omega)) ?_
   cases m with
   | zero =>
     refine m7 (by show decide (dI ω G6 = 0) = true; rw [e2]; rfl) ?_
     have : F1 l = ([], false) := by unfold F1; rw [hk]
     rw [this]; rfl
   | succ k =>
     have ha : F1 l = (upB l k, true) := by unfold F1; rw [hk]
     rw [ha]
     have e4 : dI ω N7 = (k : Int) := by
      show arI .sub .i64 (dI ω G6) 1 = _
      rw [e2, cf0 (by omega) (by omega)]; omega
     have e6 : dI ω at3 = ((k + 1 : Nat) : Int) := by show 0 + dI ω G6 = _; rw [e2]; omega
     have hat := cs6 l k (by omega)
     have e7 : den ω at4 = .vl ((sbV l).set k (.vl [.vi (((l.getD k 0).toNat + 1 : Int) % 256)])) := by
      show Val.vl ((den ω a31).toL.set (dI ω N7).toNat (.vl [.vi (arI .add .u8 (A5 (den ω a31).toL (dI ω N7) 0).toI 1)])) = _
      rw [e5, e4, Int.toNat_natCast, j4, hat]
      show Val.vl ((sbV l).set k (.vl [.vi (IntKind.u8.wrap (((l.getD k 0).toNat : Int) + 1))])) = _
      rw [wu8]
     have e8 : den ω at5 = .vl ((sbV l).take k ++ [.vl [.vi (((l.getD k 0).toNat + 1 : Int) % 256)]]) := by
      show Val.vl (((den ω at4).toL.drop (0 : Int).toNat).take (dI ω at3 - 0).toNat) = _
      rw [e7, e6, j4, show (0 : Int).toNat = 0 from rfl, List.drop_zero, show (((k + 1 : Nat) : Int) - 0).toNat = k + 1 by omega, bj2 _ _ _ (by rw [r6]; omega)]
     refine m8 (by show decide (dI ω G6 = 0) = false; rw [e2]; exact decide_eq_false (by omega)) ?_
     refine i5 ?_ (i5 ?_ (i5 ?_ ?_))
     · show (decide (0 ≤ dI ω N7) && decide (dI ω N7 < dI ω G6)) = true
       rw [e4, e2, Bool.and_eq_true]
       exact ⟨decide_eq_true (by omega), decide_eq_true (by omega)⟩
     · show decide (dI ω N7 < ((den ω a31).toL.length : Int)) = true
       rw [e4, e5, j4, r6]; exact decide_eq_true (by omega)
     · show ((decide ((0 : Int) ≤ 0) && decide (0 ≤ dI ω G6)) && (decide (dI ω at3 ≤ ((den ω at4).toL.length : Int)) && aO7 (den ω at5).toL)) = true
       rw [e2, e6, e7, e8, j4, j4, List.length_set, r6, cf2]
       have b1 : aO7 ((sbV l).take k) = true := by
        have : (sbV l).take k = sbV (l.take k) := by unfold sbV; rw [List.map_take]
        rw [this]; exact a94 _
       rw [b1, decide_eq_true (show (0 : Int) ≤ ((k + 1 : Nat) : Int) by omega), decide_eq_true (show ((k + 1 : Nat) : Int) ≤ (l.length : Int) by omega)]
       simp only [aO7, List.all_cons, List.all_nil, j4, List.getD_cons_zero, j1, Int.le_refl, decide_true, Bool.and_true, Bool.true_and]
       rw [Bool.and_eq_true]
       exact ⟨decide_eq_true (by omega), decide_eq_true (by omega)⟩
     · show some (0, [Val.vs (unV (den ω at5).toL), Val.vb true]) = _
       rw [e8, j4]
       have : unV ((sbV l).take k ++ [.vl [.vi (((l.getD k 0).toNat + 1 : Int) % 256)]]) = upB l k := by
        have h1 : (sbV l).take k = sbV (l.take k) := by unfold sbV; rw [List.map_take]
        unfold upB
        rw [h1]
        show (sbV (l.take k) ++ [_]).map _ = _
        rw [List.map_append]
        have := az2 (l.take k)
        unfold unV at this
        rw [this, ← b82]; rfl
       rw [this]
theorem O3 {ω : Opq} {e : SX} {l : List UInt8} {r : Option (Nat × List Val)} {x : VT} (he : den ω e = .vl (sbV l)) (h0 : 0 < l.length) (h1 : l.length ≤ 1000) (h : j3 x ω = r) :
 j3 (.need (.op (.cmp .leq) [.op .llen [e], .ci 1000000]) (.need (.op (.cmp .lss) [.ci 0, .op .llen [e]]) (.need (.op .and [.op (.cmp .leq) [.op .llen [e], .op .llen [e]], .op .bok [e]]) x))) ω = r := by
 refine i5 ?_ (i5 ?_ (i5 ?_ h))
 · show decide (((den ω e).toL.length : Int) ≤ 1000000) = true
   rw [he, j4, r6]; exact decide_eq_true (by omega)
 · show decide ((0 : Int) < ((den ω e).toL.length : Int)) = true
   rw [he, j4, r6]; exact decide_eq_true (by omega)
 · show (decide (((den ω e).toL.length : Int) ≤ ((den ω e).toL.length : Int)) && aO7 (den ω e).toL) = true
   rw [he, j4, a94, decide_eq_true (Int.le_refl _)]; rfl
theorem I4 (l : List UInt8) : 0 < (n5 l).length ∧ (n5 l).length ≤ 2 * l.length + 2 := by
 have := Q0 l
 unfold n5
 rw [List.length_append]
 simp; omega
theorem aw0 {k : Int} {key to : List UInt8} {least most : Int} (h : B9 k key to least most = true) : key.length ≤ 32 ∧ to.length ≤ 32 := by
 unfold B9 at h
 cases hc : (decide (32 < (key.length : Int)) || decide (32 < (to.length : Int))) with
 | true => rw [hc] at h; cases h
 | false =>
   rw [Bool.or_eq_false_iff] at hc
   have h1 := of_decide_eq_false hc.1
   have h2 := of_decide_eq_false hc.2
   omega
theorem aE0 {k : Int} {key to : List UInt8} {least most : Int} (h : B9 k key to least most = true) : k = 1 ∨ k = 2 ∨ k = 3 := by
 unfold B9 at h
 cases hc : (decide (32 < (key.length : Int)) || decide (32 < (to.length : Int))) with
 | true => rw [hc] at h; cases h
 | false =>
   rw [hc] at h
   by_cases k1 : k = 1
   · exact .inl k1
   · by_cases k2 : k = 2
     · exact .inr (.inl k2)
     · by_cases k3 : k = 3
       · exact .inr (.inr k3)
       · simp [k1, k2, k3] at h
section
variable {ω : Opq} (hf : ∀ i a, ω.f i a = FX X i a)
include hf
theorem bT (i : Nat) : den ω (.op .sbytes [.app 301 [.va i]]) = .vl (sbV (n5 (ω.w i).toS)) := by
 show Val.vl (sbV (ω.f 301 [ω.w i]).toS) = _
 rw [hf]; rfl
theorem bI (i : Nat) : den ω (.op .sbytes [.app 302 [.va i]]) = .vl (sbV (m9 (ω.w i).toI)) := by
 show Val.vl (sbV (ω.f 302 [ω.w i]).toS) = _
 rw [hf]; rfl
omit hf in
theorem T8 {e : SX} {l : List UInt8} (h : den ω e = .vl (sbV l)) : den ω (.op .bstr [e]) = .vs l := by
 show Val.vs (unV (den ω e).toL) = _
 rw [h, j4, az2]
theorem bL6 (hk : ¬ ((ω.w 0).toI = 1 ∨ (ω.w 0).toI = 2 ∨ (ω.w 0).toI = 3)) : j3 at6 ω = some (0, [FX X 333 [ω.w 0, ω.w 1, ω.w 2, ω.w 3, ω.w 4], FX X 334 [ω.w 0, ω.w 1, ω.w 2, ω.w 3, ω.w 4]]) := by
 have hr : B9 (ω.w 0).toI (ω.w 1).toS (ω.w 2).toS (ω.w 3).toI (ω.w 4).toI = false := by
  cases e : B9 (ω.w 0).toI (ω.w 1).toS (ω.w 2).toS (ω.w 3).toI (ω.w 4).toI with
  | false => rfl
  | true => exact absurd (aE0 e) hk
 unfold at6
 refine m7 (by show (!(ω.f 330 [ω.w 0, ω.w 1, ω.w 2, ω.w 3, ω.w 4]).toB) = true; rw [hf]; show (!(B9 _ _ _ _ _)) = true; rw [← Bool.not_false]; congr 1) ?_
 have hb : p8 (ω.w 0).toI (ω.w 1).toS (ω.w 2).toS (ω.w 3).toI (ω.w 4).toI = ([0], [0]) := by unfold p8; rw [hr]; rfl
 show some (0, [Val.vs [0], Val.vs [0]]) = some (0, [Val.vs (p8 (ω.w 0).toI (ω.w 1).toS (ω.w 2).toS (ω.w 3).toI (ω.w 4).toI).1, Val.vs (p8 (ω.w 0).toI (ω.w 1).toS (ω.w 2).toS (ω.w 3).toI (ω.w 4).toI).2])
 rw [hb]
theorem aN4 {k : Int} {x : VT} {a b : List UInt8} (hk : (ω.w 0).toI = k) (h : B9 k (ω.w 1).toS (ω.w 2).toS (ω.w 3).toI (ω.w 4).toI = true → j3 x ω = some (0, [Val.vs (p8 k (ω.w 1).toS (ω.w 2).toS (ω.w 3).toI (ω.w 4).toI).1, Val.vs (p8 k (ω.w 1).toS (ω.w 2).toS (ω.w 3).toI (ω.w 4).toI).2])) :
 j3 (.ite (.op .not [.app 330 [.ci k, .va 1, .va 2, .va 3, .va 4]]) (.ret 0 [.cs [0], .cs [0]]) x) ω = some (0, [FX X 333 [ω.w 0, ω.w 1, ω.w 2, ω.w 3, ω.w 4], FX X 334 [ω.w 0, ω.w 1, ω.w 2, ω.w 3, ω.w 4]]) := by
 have e1 : some (0, [FX X 333 [ω.w 0, ω.w 1, ω.w 2, ω.w 3, ω.w 4], FX X 334 [ω.w 0, ω.w 1, ω.w 2, ω.w 3, ω.w 4]]) = some (0, [Val.vs (p8 k (ω.w 1).toS (ω.w 2).toS (ω.w 3).toI (ω.w 4).toI).1, Val.vs (p8 k (ω.w 1).toS (ω.w 2).toS (ω.w 3).toI (ω.w 4).toI).2]) := by
  rw [← hk]; rfl
 rw [e1]
 have e2 : dB ω (.op .not [.app 330 [.ci k, .va 1, .va 2, .va 3, .va 4]]) = !B9 k (ω.w 1).toS (ω.w 2).toS (ω.w 3).toI (ω.w 4).toI := by
  show (!(ω.f 330 [.vi k, ω.w 1, ω.w 2, ω.w 3, ω.w 4]).toB) = _
  rw [hf]; rfl
 cases hr : B9 k (ω.w 1).toS (ω.w 2).toS (ω.w 3).toI (ω.w 4).toI with
 | true => exact m8 (by rw [e2, hr]; rfl) (h hr)
 | false =>
   refine m7 (by rw [e2, hr]; rfl) ?_
   have hb : p8 k (ω.w 1).toS (ω.w 2).toS (ω.w 3).toI (ω.w 4).toI = ([0], [0]) := by unfold p8; rw [hr]; rfl
   rw [hb]; rfl
theorem bL7 (hk : (ω.w 0).toI = 1) : j3 at7 ω = some (0, [FX X 333 [ω.w 0, ω.w 1, ω.w 2, ω.w 3, ω.w 4], FX X 334 [ω.w 0, ω.w 1, ω.w 2, ω.w 3, ω.w 4]]) := by
 unfold at7
 refine aN4 (a := []) (b := []) hf hk fun hr => ?_
 obtain ⟨l1, l2⟩ := aw0 hr
 obtain ⟨p1, p2⟩ := I4 (ω.w 1).toS
 have q := n7 (ω.w 3).toI
 have d0 : den ω E7 = .vl (sbV (n5 (ω.w 1).toS)) := bT hf 1
 have d1 : den ω E8 = .vl (sbV (m9 (ω.w 3).toI)) := bI hf 3
 have d2 : den ω N8 = .vs (n5 (ω.w 1).toS ++ m9 (ω.w 3).toI) := by
  show Val.vs ((den ω (.op .bstr [E7])).toS ++ (den ω (.op .bstr [E8])).toS) = _
  rw [T8 d0, T8 d1]; rfl
 have hb : p8 1 (ω.w 1).toS (ω.w 2).toS (ω.w 3).toI (ω.w 4).toI = (n5 (ω.w 1).toS ++ m9 (ω.w 3).toI, (F1 (n5 (ω.w 1).toS ++ m9 (ω.w 3).toI)).1) := by unfold p8; rw [hr]; rfl
 rw [hb]
 refine i5 (decide_eq_true (show ((ω.w 1).toS.length : Int) ≤ 1000 by omega)) (O3 d0 p1 (by omega) (O3 d1 (by omega) (by omega) (i5 ?_ (i5 ?_ ?_))))
 · exact bj1 (n := 4294967296) (x := n5 (ω.w 1).toS) (y := m9 (ω.w 3).toI) (by rw [T8 d0]; rfl) (by rw [T8 d1]; rfl) (by omega)
 · show decide (((den ω N8).toS.length : Int) ≤ 1000) = true
   rw [d2, w9, List.length_append]
   exact decide_eq_true (by omega)
 · show some (0, [den ω N8, ω.f 331 [den ω N8]]) = _
   rw [hf, d2]; rfl
theorem bL8 (hk : (ω.w 0).toI = 2) : j3 at8 ω = some (0, [FX X 333 [ω.w 0, ω.w 1, ω.w 2, ω.w 3, ω.w 4], FX X 334 [ω.w 0, ω.w 1, ω.w 2, ω.w 3, ω.w 4]]) := by
 unfold at8
 refine aN4 (a := []) (b := []) hf hk fun hr => ?_
 obtain ⟨l1, l2⟩ := aw0 hr
 obtain ⟨p1, p2⟩ := I4 (ω.w 1).toS
 obtain ⟨q1, q2⟩ := I4 (ω.w 2).toS
 have d0 : den ω J0 = .vl (sbV (n5 (ω.w 2).toS)) := bT hf 2
 have d2 : den ω C7 = .vl (sbV (n5 (ω.w 1).toS)) := bT hf 1
 have hc : dB ω (.op (.scmp .neq) [.va 2, .cs []]) = !decide ((ω.w 2).toS = []) := rfl
 by_cases h2 : (ω.w 2).toS = []
 · have hb : p8 2 (ω.w 1).toS (ω.w 2).toS (ω.w 3).toI (ω.w 4).toI = (n5 (ω.w 1).toS, []) := by unfold p8; rw [hr]; simp [h2]
   rw [hb]
   refine m8 (by rw [hc, decide_eq_true h2]; rfl) (i5 (decide_eq_true (show ((ω.w 1).toS.length : Int) ≤ 1000 by omega)) (O3 d2 p1 (by omega) ?_))
   show some (0, [den ω (.op .bstr [C7]), Val.vs []]) = _
   rw [T8 d2]
 · have hb : p8 2 (ω.w 1).toS (ω.w 2).toS (ω.w 3).toI (ω.w 4).toI = (n5 (ω.w 1).toS, n5 (ω.w 2).toS) := by unfold p8; rw [hr]; simp [h2]
   rw [hb]
   refine m7 (by rw [hc, decide_eq_false h2]; rfl) (i5 (decide_eq_true (show ((ω.w 2).toS.length : Int) ≤ 1000 by omega)) (O3 d0 q1 (by omega) (i5 (decide_eq_true (show ((ω.w 1).toS.length : Int) ≤ 1000 by omega)) (O3 d2 p1 (by omega) ?_))))
   show some (0, [den ω (.op .bstr [C7]), den ω (.op .bstr [J0])]) = _
   rw [T8 d2, T8 d0]
theorem bL9 (hk : (ω.w 0).toI = 3) : j3 at9 ω = some (0, [FX X 333 [ω.w 0, ω.w 1, ω.w 2, ω.w 3, ω.w 4], FX X 334 [ω.w 0, ω.w 1, ω.w 2, ω.w 3, ω.w 4]]) := by
 unfold at9
 refine aN4 (a := []) (b := []) hf hk fun hr => ?_
 have d0 : den ω J1 = .vl (sbV (m9 (ω.w 3).toI)) := bI hf 3
 have d1 : den ω J2 = .vl (sbV (m9 (ω.w 4).toI)) := bI hf 4
 have q0 := n7 (ω.w 3).toI
 have q1 := n7 (ω.w 4).toI
 have hb : p8 3 (ω.w 1).toS (ω.w 2).toS (ω.w 3).toI (ω.w 4).toI = (m9 (ω.w 3).toI, m9 (ω.w 4).toI) := by unfold p8; rw [hr]; rfl
 rw [hb]
 refine O3 d0 (by omega) (by omega) (O3 d1 (by omega) (by omega) ?_)
 show some (0, [den ω (.op .bstr [J1]), den ω (.op .bstr [J2])]) = _
 rw [T8 d0, T8 d1]
end
theorem E2 : ∀ x : List UInt8, ltB x x = false
 | [] => rfl
 | a :: x => by
   show (bif Nat.blt a.toNat a.toNat then true else bif Nat.beq a.toNat a.toNat then ltB x x else false) = false
   rw [E2 x]
   have h1 : Nat.blt a.toNat a.toNat = false := by
    cases h : Nat.blt a.toNat a.toNat with
    | false => rfl
    | true => exact absurd (k8.1 h) (Nat.lt_irrefl _)
   rw [h1]; cases Nat.beq a.toNat a.toNat <;> rfl
theorem r5 (a b : UInt8) (x y : List UInt8) : ltB (a :: x) (b :: y) = true ↔ a.toNat < b.toNat ∨ a = b ∧ ltB x y = true := by
 show (bif Nat.blt a.toNat b.toNat then true else bif Nat.beq a.toNat b.toNat then ltB x y else false) = true ↔ _
 cases h1 : Nat.blt a.toNat b.toNat with
 | true => simp [k8.1 h1]
 | false =>
   have h1' : ¬ a.toNat < b.toNat := fun h => by rw [k8.2 h] at h1; cases h1
   cases h2 : Nat.beq a.toNat b.toNat with
   | true =>
     have : a = b := UInt8.toNat_inj.1 (j0.1 h2)
     simp [h1', this]
   | false =>
     have : ¬ a = b := fun h => by rw [h, j0.2 rfl] at h2; cases h2
     simp [h1', this]
theorem X5 : ∀ {x y z : List UInt8}, ltB x y = true → ltB y z = true → ltB x z = true
 | _, [], [], _, h => by cases h
 | _, _ :: _, [], _, h => by cases h
 | [], [], _, h, _ => by cases h
 | _ :: _, [], _, h, _ => by cases h
 | [], _ :: _, _ :: _, _, _ => rfl
 | a :: x, b :: y, c :: z, h1, h2 => by
   rw [r5] at *
   rcases h1 with h1 | ⟨rfl, h1⟩ <;> rcases h2 with h2 | ⟨rfl, h2⟩
   · exact .inl (Nat.lt_trans h1 h2)
   · exact .inl h1
   · exact .inl h2
   · exact .inr ⟨rfl, X5 h1 h2⟩
theorem aw1 : ∀ {x y : List UInt8}, ltB x y = false → ltB y x = false → x = y
 | [], [], _, _ => rfl
 | [], _ :: _, h, _ => by cases h
 | _ :: _, [], _, h => by cases h
 | a :: x, b :: y, h1, h2 => by
   rw [← Bool.not_eq_true, r5] at h1 h2
   have hab : a = b := UInt8.toNat_inj.1 (by omega)
   subst hab
   have := aw1 (x := x) (y := y) (by rw [← Bool.not_eq_true]; exact fun h => h1 (.inr ⟨rfl, h⟩)) (by rw [← Bool.not_eq_true]; exact fun h => h2 (.inr ⟨rfl, h⟩))
   rw [this]
theorem aW8 (b : UInt8) (y : List UInt8) : ltB (b :: y) [] = true ↔ False := ⟨fun h => (by cases h), fun h => h.elim⟩
theorem aj8 (x : List UInt8) : n5 [] ++ x = 0 :: 0 :: x := rfl
theorem R6 (k x : List UInt8) : n5 (0 :: k) ++ x = 0 :: 255 :: (n5 k ++ x) := by simp [n5, s8]
theorem R7 {b : UInt8} (h : ¬ b = 0) (k x : List UInt8) : n5 (b :: k) ++ x = b :: (n5 k ++ x) := by simp [n5, s8, h]
theorem u0 : (0 : UInt8).toNat = 0 := rfl
theorem cD4 : (255 : UInt8).toNat = 255 := rfl
theorem bM0 {b : UInt8} (h : ¬ b = 0) : 0 < b.toNat := by
 rcases Nat.eq_zero_or_pos b.toNat with e | e
 · exact absurd (UInt8.toNat_inj.1 e) h
 · exact e
theorem aN5 : ∀ (a b x y : List UInt8), ltB (n5 a ++ x) (n5 b ++ y) = true ↔ ltB a b = true ∨ a = b ∧ ltB x y = true
 | [], [], x, y => by
   rw [aj8, aj8, r5, r5, E2]
   simp
 | [], b :: r, x, y => by
   have e : ltB [] (b :: r) = true := rfl
   rw [e, aj8]
   by_cases h : b = 0
   · subst h
     rw [R6, r5, r5, u0, cD4]; simp
   · have := bM0 h
     rw [R7 h, r5, u0]; simp [this]
 | b :: r, [], x, y => by
   rw [aj8, aW8]
   by_cases h : b = 0
   · subst h
     rw [R6, r5, r5, u0, cD4]; simp
   · have := bM0 h
     rw [R7 h, r5, u0]; simp [h]
 | a :: p, b :: q, x, y => by
   have ih := aN5 p q x y
   rw [r5]
   by_cases h : a = 0
   · subst h
     by_cases h2 : b = 0
     · subst h2
       rw [R6, R6, r5, r5, ih, u0, cD4]; simp
     · have := bM0 h2
       rw [R6, R7 h2, r5, u0]
       simp [this]
   · have ha := bM0 h
     by_cases h2 : b = 0
     · subst h2
       rw [R6, R7 h, r5, u0]
       simp [h]
     · rw [R7 h, R7 h2, r5, ih]
       simp only [List.cons.injEq]
       constructor
       · rintro (h | ⟨h, h3 | h3⟩)
         · exact .inl (.inl h)
         · exact .inl (.inr ⟨h, h3⟩)
         · exact .inr ⟨⟨h, h3.1⟩, h3.2⟩
       · rintro ((h | h) | h)
         · exact .inl h
         · exact .inr ⟨h.1, .inl h.2⟩
         · exact .inr ⟨h.1.1, .inr ⟨h.1.2, h.2⟩⟩
theorem b83 {a : Nat} (h : a < 2 ^ 64) : a ^^^ 2 ^ 63 = if a < 2 ^ 63 then a + 2 ^ 63 else a - 2 ^ 63 := by
 have h1 : (a ^^^ 2 ^ 63) % 2 ^ 63 = a % 2 ^ 63 := by rw [Nat.xor_mod_two_pow]; simp
 have h2 : (a ^^^ 2 ^ 63) / 2 ^ 63 = (a / 2 ^ 63) ^^^ 1 := by rw [Nat.xor_div_two_pow]
 have h3 : a / 2 ^ 63 = 0 ∨ a / 2 ^ 63 = 1 := by omega
 rcases h3 with h3 | h3
 · rw [h3] at h2
   have h2 : (a ^^^ 2 ^ 63) / 2 ^ 63 = 1 := h2
   rw [if_pos (by omega)]; omega
 · rw [h3] at h2
   have h2 : (a ^^^ 2 ^ 63) / 2 ^ 63 = 0 := h2
   rw [if_neg (by omega)]; omega
theorem aN6 {n : Int} (h1 : -9223372036854775808 ≤ n) (h2 : n < 9223372036854775808) : a34 n = n + 9223372036854775808 := by
 show IntKind.u64.wrap ((BitVec.ofInt 64 (IntKind.u64.wrap n) ^^^ BitVec.ofInt 64 9223372036854775808).toNat : Int) = _
 rw [b81, b81]
 obtain ⟨m, hm⟩ : ∃ m : Nat, n % 18446744073709551616 = (m : Int) := ⟨(n % 18446744073709551616).toNat, by omega⟩
 have hm2 : m < 2 ^ 64 := by omega
 rw [hm]
 have e1 : (BitVec.ofInt 64 (m : Int) ^^^ BitVec.ofInt 64 9223372036854775808).toNat = m ^^^ 2 ^ 63 := by
  rw [BitVec.toNat_xor]
  have : (BitVec.ofInt 64 (m : Int)).toNat = m := by
   rw [BitVec.toNat_ofInt]
   omega
  rw [this]; rfl
 rw [e1, b83 hm2]
 split <;> omega
theorem a99 (a : Int) (k : Nat) (h : 0 ≤ a) : ((byV a k).toNat : Int) = dv a k % 256 := by
 unfold byV
 rw [UInt8.toNat_ofNat']
 have := aW5 h k
 omega
theorem dig {a b : Int} {P : Prop} : (a / 256 < b / 256 ∨ a / 256 = b / 256 ∧ (a % 256 < b % 256 ∨ a % 256 = b % 256 ∧ P)) ↔ (a < b ∨ a = b ∧ P) := by
 by_cases h : P <;> simp only [h, and_true, and_false, or_false] <;> omega
theorem cs7 (a b : Int) (ha : 0 ≤ a) (hb : 0 ≤ b) (k : Nat) (x y : List UInt8) : ltB (byV a k :: x) (byV b k :: y) = true ↔ dv a k % 256 < dv b k % 256 ∨ dv a k % 256 = dv b k % 256 ∧ ltB x y = true := by
 rw [r5]
 have h1 := a99 a k ha
 have h2 := a99 b k hb
 constructor
 · rintro (h | ⟨h, h3⟩)
   · left; omega
   · right; exact ⟨by rw [← h1, ← h2, h], h3⟩
 · rintro (h | ⟨h, h3⟩)
   · left; omega
   · right; exact ⟨UInt8.toNat_inj.1 (by omega), h3⟩
theorem bZ0 {a b : Int} (ha : 0 ≤ a) (hb : 0 ≤ b) (ha2 : a < 18446744073709551616) (hb2 : b < 18446744073709551616) (x y : List UInt8) : ltB (aW6 a ++ x) (aW6 b ++ y) = true ↔ a < b ∨ a = b ∧ ltB x y = true := by
 unfold aW6
 simp only [List.cons_append, List.nil_append, cs7 a b ha hb]
 have t1 : dv a 7 % 256 = dv a 7 := by
  have := aW5 ha 7
  simp only [dv] at this ⊢; omega
 have t2 : dv b 7 % 256 = dv b 7 := by
  have := aW5 hb 7
  simp only [dv] at this ⊢; omega
 rw [t1, t2]
 show (dv a 6 / 256 < dv b 6 / 256 ∨ dv a 6 / 256 = dv b 6 / 256 ∧ _) ↔ _
 rw [dig]
 show (dv a 5 / 256 < dv b 5 / 256 ∨ dv a 5 / 256 = dv b 5 / 256 ∧ _) ↔ _
 rw [dig]
 show (dv a 4 / 256 < dv b 4 / 256 ∨ dv a 4 / 256 = dv b 4 / 256 ∧ _) ↔ _
 rw [dig]
 show (dv a 3 / 256 < dv b 3 / 256 ∨ dv a 3 / 256 = dv b 3 / 256 ∧ _) ↔ _
 rw [dig]
 show (dv a 2 / 256 < dv b 2 / 256 ∨ dv a 2 / 256 = dv b 2 / 256 ∧ _) ↔ _
 rw [dig]
 show (dv a 1 / 256 < dv b 1 / 256 ∨ dv a 1 / 256 = dv b 1 / 256 ∧ _) ↔ _
 rw [dig]
 show (dv a 0 / 256 < dv b 0 / 256 ∨ dv a 0 / 256 = dv b 0 / 256 ∧ _) ↔ _
 rw [dig]
 rfl
def inI (n : Int) : Prop := -9223372036854775808 ≤ n ∧ n < 9223372036854775808
theorem ad5 {m n : Int} (hm : inI m) (hn : inI n) (x y : List UInt8) : ltB (m9 m ++ x) (m9 n ++ y) = true ↔ m < n ∨ m = n ∧ ltB x y = true := by
 unfold m9
 have h1 := a98 m
 have h2 := a98 n
 rw [bZ0 h1.1 h2.1 h1.2 h2.2, aN6 hm.1 hm.2, aN6 hn.1 hn.2]
 constructor
 · rintro (h | ⟨h, h3⟩)
   · left; omega
   · right; exact ⟨by omega, h3⟩
 · rintro (h | ⟨h, h3⟩)
   · left; omega
   · right; exact ⟨by omega, h3⟩
def ck3 (l : List UInt8) : Int := (l.take 8).foldl (fun (n : Int) b => n * 256 + (b.toNat : Int)) 0
def Q1 (l : List UInt8) : Int := ck3 l - 9223372036854775808
def az3 (s : List UInt8) : Nat → Nat → List UInt8 → Nat × Nat × List UInt8
 | 0, i, o => (0, i, o)
 | f + 1, i, o => bif decide (i < s.length) then (bif !decide (s.getD i 0 = 0) then az3 s f (i + 1) (o ++ [s.getD i 0])
  else bif decide ((s.drop i).take 2 = [0, 0]) then (1, i, o) else bif decide ((s.drop i).take 2 = [0, 255]) then az3 s f (i + 2) (o ++ [0]) else (0, i, o)) else (0, i, o)
def aw2 (s : List UInt8) : Option (List UInt8 × List UInt8) := match az3 s (s.length + 1) 0 [] with
 | (1, i, o) => some (o, s.drop (i + 2))
 | _ => none
def bq0 (s : List UInt8) : Nat → Nat → List UInt8 → Nat × Nat × List UInt8
 | 0, i, o => (0, i, o)
 | f + 1, i, o => bif decide (i + 1 < s.length) then (bif decide (s.getD i 0 = 0) then (bif decide (s.getD (i + 1) 0 = 0) then (1, i, o) else bq0 s f (i + 2) (o ++ [s.getD i 0]))
  else bq0 s f (i + 1) (o ++ [s.getD i 0])) else (0, i, o)
theorem O4 {l : List UInt8} {i : Nat} (h : i < l.length) : l.drop i = l.getD i 0 :: l.drop (i + 1) := by
 rw [List.drop_eq_getElem_cons h, List.getD_eq_getElem?_getD, List.getElem?_eq_getElem h]; rfl
theorem bj3 {l : List UInt8} {i : Nat} (h : i < l.length) : l.take (i + 1) = l.take i ++ [l.getD i 0] := by
 rw [List.take_add_one, List.getD_eq_getElem?_getD, List.getElem?_eq_getElem h]; rfl
theorem bq1 {l : List UInt8} {i : Nat} {a b : UInt8} (h : (l.drop i).take 2 = [a, b]) : i + 1 < l.length ∧ l.take (i + 2) = l.take i ++ [a, b] := by
 have hl := congrArg List.length h
 rw [List.length_take, List.length_drop] at hl
 simp at hl
 refine ⟨by omega, ?_⟩
 rw [← h, ← List.take_add]
theorem aw3 (o : List UInt8) (b : UInt8) : s8 (o ++ [b]) = s8 o ++ (if b = 0 then [0, 255] else [b]) := by rw [a95]; simp [s8]
theorem ad6 (s : List UInt8) : ∀ (f i : Nat) (o : List UInt8), i ≤ s.length → s.take i = s8 o → ∀ {j : Nat} {p : List UInt8}, az3 s f i o = (1, j, p) → j + 1 < s.length ∧ s.take j = s8 p ∧ (s.drop j).take 2 = [0, 0]
 | 0, i, o, _, _, j, p, h => by cases h
 | f + 1, i, o, hi, hs, j, p, h => by
   unfold az3 at h
   by_cases h1 : i < s.length
   · rw [decide_eq_true h1, cond_true] at h
     by_cases h2 : s.getD i 0 = 0
     · rw [decide_eq_true h2, Bool.not_true, cond_false] at h
       by_cases h3 : (s.drop i).take 2 = [0, 0]
       · rw [decide_eq_true h3, cond_true] at h
         simp only [Prod.mk.injEq, true_and] at h
         obtain ⟨rfl, rfl⟩ := h
         exact ⟨(bq1 h3).1, hs, h3⟩
       · rw [decide_eq_false h3, cond_false] at h
         by_cases h4 : (s.drop i).take 2 = [0, 255]
         · rw [decide_eq_true h4, cond_true] at h
           obtain ⟨h5, h6⟩ := bq1 h4
           exact ad6 s f (i + 2) (o ++ [0]) (by omega) (by rw [h6, hs, aw3]; rfl) h
         · rw [decide_eq_false h4, cond_false] at h; cases h
     · rw [decide_eq_false h2, Bool.not_false, cond_true] at h
       exact ad6 s f (i + 1) (o ++ [s.getD i 0]) (by omega) (by rw [bj3 h1, hs, aw3, if_neg h2]) h
   · rw [decide_eq_false h1, cond_false] at h; cases h
theorem Z9 {s t r : List UInt8} (h : aw2 s = some (t, r)) : s = n5 t ++ r := by
 unfold aw2 at h
 split at h
 · rename_i i o he
   simp only [Option.some.injEq, Prod.mk.injEq] at h
   obtain ⟨rfl, rfl⟩ := h
   obtain ⟨h1, h2, h3⟩ := ad6 s _ 0 [] (Nat.zero_le _) rfl he
   have h4 := (bq1 h3).2
   unfold n5
   rw [← h2, ← h4, List.take_append_drop]
 · cases h
theorem aN7 : ∀ (t : List UInt8) (s r : List UInt8) (f i : Nat) (o : List UInt8), s.drop i = n5 t ++ r → t.length < f → az3 s f i o = (1, i + (s8 t).length, o ++ t)
 | t, s, r, 0, i, o, _, h => absurd h (Nat.not_lt_zero _)
 | [], s, r, f + 1, i, o, h, _ => by
   have hi : i < s.length := by
    rcases Nat.lt_or_ge i s.length with h1 | h1
    · exact h1
    · rw [List.drop_eq_nil_of_le h1] at h; cases h
   have hd := O4 hi
   rw [h] at hd
   have h0 : s.getD i 0 = 0 := by
    have e : n5 [] ++ r = 0 :: 0 :: r := rfl
    rw [e] at hd
    exact (List.cons.inj hd).1.symm
   have h2 : (s.drop i).take 2 = [0, 0] := by rw [h]; rfl
   unfold az3
   rw [decide_eq_true hi, cond_true, decide_eq_true h0, Bool.not_true, cond_false, decide_eq_true h2, cond_true]
   simp [s8]
 | b :: t, s, r, f + 1, i, o, h, hf => by
   have hi : i < s.length := by
    rcases Nat.lt_or_ge i s.length with h1 | h1
    · exact h1
    · rw [List.drop_eq_nil_of_le h1] at h
      by_cases hb : b = 0 <;> simp [n5, s8, hb] at h
   have hd := O4 hi
   rw [h] at hd
   simp only [List.length_cons] at hf
   unfold az3
   rw [decide_eq_true hi, cond_true]
   by_cases hb : b = 0
   · subst hb
     have e : n5 (0 :: t) ++ r = 0 :: 255 :: (n5 t ++ r) := by simp [n5, s8]
     rw [e] at hd h
     have h0 : s.getD i 0 = 0 := (List.cons.inj hd).1.symm
     have h2 : (s.drop i).take 2 = [0, 255] := by rw [h]; rfl
     have h3 : s.drop (i + 2) = n5 t ++ r := by
      rw [← List.drop_drop, h]; rfl
     rw [decide_eq_true h0, Bool.not_true, cond_false, h2, decide_eq_false (by decide), cond_false, decide_eq_true rfl, cond_true, aN7 t s r f (i + 2) (o ++ [0]) h3 (by omega)]
     simp [s8]; omega
   · have e : n5 (b :: t) ++ r = b :: (n5 t ++ r) := by simp [n5, s8, hb]
     rw [e] at hd h
     have h0 : s.getD i 0 = b := (List.cons.inj hd).1.symm
     have h3 : s.drop (i + 1) = n5 t ++ r := (List.cons.inj hd).2.symm
     rw [h0, decide_eq_false hb, Bool.not_false, cond_true, aN7 t s r f (i + 1) (o ++ [b]) h3 (by omega)]
     simp [s8, hb]; omega
theorem aj9 (t r : List UInt8) : aw2 (n5 t ++ r) = some (t, r) := by
 unfold aw2
 have hl : t.length < (n5 t ++ r).length + 1 := by
  have := av8 t
  unfold n5
  simp only [List.length_append]; omega
 rw [aN7 t (n5 t ++ r) r _ 0 [] rfl hl]
 simp only [List.nil_append, Nat.zero_add]
 have : (n5 t ++ r).drop ((s8 t).length + 2) = r := by
  have e : n5 t = s8 t ++ [0, 0] := rfl
  rw [show (s8 t).length + 2 = (n5 t).length by rw [e]; simp, List.drop_left]
 rw [this]
theorem aN8 : ∀ (t : List UInt8) (s r : List UInt8) (f i : Nat) (o : List UInt8), s.drop i = n5 t ++ r → t.length < f → bq0 s f i o = (1, i + (s8 t).length, o ++ t)
 | t, s, r, 0, i, o, _, h => absurd h (Nat.not_lt_zero _)
 | [], s, r, f + 1, i, o, h, _ => by
   have h2 : (s.drop i).take 2 = [0, 0] := by rw [h]; rfl
   obtain ⟨hi, _⟩ := bq1 h2
   have hd := O4 (show i < s.length by omega)
   rw [h] at hd
   have e : n5 [] ++ r = 0 :: 0 :: r := rfl
   rw [e] at hd
   have h0 : s.getD i 0 = 0 := (List.cons.inj hd).1.symm
   have h1 : s.getD (i + 1) 0 = 0 := by
    have := O4 (show i + 1 < s.length by omega)
    rw [← (List.cons.inj hd).2] at this
    exact (List.cons.inj this).1.symm
   unfold bq0
   rw [decide_eq_true hi, cond_true, decide_eq_true h0, cond_true, decide_eq_true h1, cond_true]
   simp [s8]
 | b :: t, s, r, f + 1, i, o, h, hf => by
   simp only [List.length_cons] at hf
   have hlen := congrArg List.length h
   rw [List.length_drop] at hlen
   have hz : (n5 (b :: t) ++ r).length ≥ 3 := by
    have := av8 (b :: t)
    unfold n5
    simp only [List.length_append, List.length_cons, List.length_nil] at this ⊢
    omega
   have hi : i + 1 < s.length := by omega
   have hd := O4 (show i < s.length by omega)
   rw [h] at hd
   unfold bq0
   rw [decide_eq_true hi, cond_true]
   by_cases hb : b = 0
   · subst hb
     have e : n5 (0 :: t) ++ r = 0 :: 255 :: (n5 t ++ r) := by simp [n5, s8]
     rw [e] at hd h
     have h0 : s.getD i 0 = 0 := (List.cons.inj hd).1.symm
     have h1 : s.getD (i + 1) 0 = 255 := by
      have := O4 hi
      rw [← (List.cons.inj hd).2] at this
      exact (List.cons.inj this).1.symm
     have h3 : s.drop (i + 2) = n5 t ++ r := by
      rw [← List.drop_drop, h]; rfl
     rw [h0, h1, decide_eq_true rfl, cond_true, decide_eq_false (by decide), cond_false, aN8 t s r f (i + 2) (o ++ [0]) h3 (by omega)]
     simp [s8]; omega
   · have e : n5 (b :: t) ++ r = b :: (n5 t ++ r) := by simp [n5, s8, hb]
     rw [e] at hd h
     have h0 : s.getD i 0 = b := (List.cons.inj hd).1.symm
     have h3 : s.drop (i + 1) = n5 t ++ r := (List.cons.inj hd).2.symm
     rw [h0, decide_eq_false hb, cond_false, aN8 t s r f (i + 1) (o ++ [b]) h3 (by omega)]
     simp [s8, hb]; omega
theorem bZ1 {l : List UInt8} (h : 8 ≤ l.length) : ∃ a b c d e f g i r, l = a :: b :: c :: d :: e :: f :: g :: i :: r := by
 match l, h with
 | a :: b :: c :: d :: e :: f :: g :: i :: r, _ => exact ⟨a, b, c, d, e, f, g, i, r, rfl⟩
theorem b84 (a b c d e f g i : UInt8) (r : List UInt8) : ck3 (a :: b :: c :: d :: e :: f :: g :: i :: r) = ((((((((a.toNat : Int) * 256 + b.toNat) * 256 + c.toNat) * 256 + d.toNat) * 256 + e.toNat) * 256 + f.toNat) * 256 + g.toNat) * 256 + i.toNat) := by
 simp [ck3]
theorem M3 (b : UInt8) : 0 ≤ (b.toNat : Int) ∧ (b.toNat : Int) < 256 := by
 have := b.toNat_lt
 omega
theorem af9 {a : Int} {k : Nat} {b : UInt8} (ha : 0 ≤ a) (h : dv a k % 256 = (b.toNat : Int)) : byV a k = b := by
 refine UInt8.toNat_inj.1 ?_
 have := a99 a k ha
 omega
theorem aW9 (a b c d e f g i : UInt8) (r : List UInt8) : aW6 (ck3 (a :: b :: c :: d :: e :: f :: g :: i :: r)) = [a, b, c, d, e, f, g, i] ∧ 0 ≤ ck3 (a :: b :: c :: d :: e :: f :: g :: i :: r) ∧ ck3 (a :: b :: c :: d :: e :: f :: g :: i :: r) < 18446744073709551616 := by
 have la := M3 a; have lb := M3 b; have lc := M3 c; have ld := M3 d; have le := M3 e; have lf := M3 f; have lg := M3 g; have li := M3 i
 rw [b84]
 obtain ⟨s1, h1⟩ : ∃ s1, (a.toNat : Int) * 256 + b.toNat = s1 := ⟨_, rfl⟩
 obtain ⟨s2, h2⟩ : ∃ s2, s1 * 256 + (c.toNat : Int) = s2 := ⟨_, rfl⟩
 obtain ⟨s3, h3⟩ : ∃ s3, s2 * 256 + (d.toNat : Int) = s3 := ⟨_, rfl⟩
 obtain ⟨s4, h4⟩ : ∃ s4, s3 * 256 + (e.toNat : Int) = s4 := ⟨_, rfl⟩
 obtain ⟨s5, h5⟩ : ∃ s5, s4 * 256 + (f.toNat : Int) = s5 := ⟨_, rfl⟩
 obtain ⟨s6, h6⟩ : ∃ s6, s5 * 256 + (g.toNat : Int) = s6 := ⟨_, rfl⟩
 obtain ⟨s7, h7⟩ : ∃ s7, s6 * 256 + (i.toNat : Int) = s7 := ⟨_, rfl⟩
 rw [h1, h2, h3, h4, h5, h6, h7]
 have p : 0 ≤ s7 := by omega
 have q : s7 < 18446744073709551616 := by omega
 have d0 : dv s7 0 = s7 := rfl
 have d1 : dv s7 1 = s6 := by show s7 / 256 = _; omega
 have d2 : dv s7 2 = s5 := by show dv s7 1 / 256 = _; rw [d1]; omega
 have d3 : dv s7 3 = s4 := by show dv s7 2 / 256 = _; rw [d2]; omega
 have d4 : dv s7 4 = s3 := by show dv s7 3 / 256 = _; rw [d3]; omega
 have d5 : dv s7 5 = s2 := by show dv s7 4 / 256 = _; rw [d4]; omega
 have d6 : dv s7 6 = s1 := by show dv s7 5 / 256 = _; rw [d5]; omega
 have d7 : dv s7 7 = a.toNat := by show dv s7 6 / 256 = _; rw [d6]; omega
 refine ⟨?_, p, q⟩
 unfold aW6
 rw [af9 (b := a) p (by rw [d7]; omega), af9 (b := b) p (by rw [d6]; omega), af9 (b := c) p (by rw [d5]; omega), af9 (b := d) p (by rw [d4]; omega), af9 (b := e) p (by rw [d3]; omega), af9 (b := f) p (by rw [d2]; omega), af9 (b := g) p (by rw [d1]; omega), af9 (b := i) p (by rw [d0]; omega)]
theorem a35 {l : List UInt8} (h : 8 ≤ l.length) : inI (Q1 l) := by
 obtain ⟨a, b, c, d, e, f, g, i, r, rfl⟩ := bZ1 h
 obtain ⟨_, h1, h2⟩ := aW9 a b c d e f g i r
 unfold Q1 inI
 omega
theorem bj4 {l : List UInt8} (h : 8 ≤ l.length) : m9 (Q1 l) ++ l.drop 8 = l := by
 have hi := a35 h
 obtain ⟨a, b, c, d, e, f, g, i, r, rfl⟩ := bZ1 h
 obtain ⟨h0, h1, h2⟩ := aW9 a b c d e f g i r
 unfold m9
 rw [aN6 hi.1 hi.2]
 unfold Q1
 rw [Int.sub_add_cancel, h0]
 rfl
theorem T9 {n : Int} (h : inI n) (r : List UInt8) : Q1 (m9 n ++ r) = n := by
 have hl : 8 ≤ (m9 n ++ r).length := by rw [List.length_append, n7]; omega
 have he := bj4 hl
 have hd : (m9 n ++ r).drop 8 = r := by rw [show (8 : Nat) = (m9 n).length from rfl, List.drop_left]
 rw [hd] at he
 have hlt : ∀ a b, inI a → inI b → a < b → m9 a ++ r = m9 b ++ r → False := fun a b ha hb h e => by
  have := (ad5 ha hb r r).2 (.inl h)
  rw [e, E2] at this; cases this
 have hi := a35 hl
 rcases Int.lt_trichotomy (Q1 (m9 n ++ r)) n with h1 | h1 | h1
 · exact (hlt _ _ hi h h1 he).elim
 · exact h1
 · exact (hlt _ _ h hi h1 he.symm).elim
def ag9 (s : List UInt8) : Option (Int × List UInt8) := bif decide (8 ≤ s.length) then some (Q1 s, s.drop 8) else none
def C1 (s : List UInt8) : Option (List UInt8 × Int × Int) := match aw2 s with
 | none => none
 | some (t, r) => match ag9 r with
   | none => none
   | some (e, r2) => match ag9 r2 with
     | none => none
     | some (b, r3) => bif decide (r3 = []) then some (t, b, e) else none
def C3 (s : List UInt8) : Option (List UInt8 × Int × Int) := match ag9 s with
 | none => none
 | some (e, r) => match aw2 r with
   | none => none
   | some (t, r2) => match ag9 r2 with
     | none => none
     | some (b, r3) => bif decide (r3 = []) then some (t, b, e) else none
theorem ak0 {s r : List UInt8} {n : Int} (h : ag9 s = some (n, r)) : 8 ≤ s.length ∧ n = Q1 s ∧ r = s.drop 8 ∧ s = m9 n ++ r ∧ inI n := by
 unfold ag9 at h
 by_cases h8 : 8 ≤ s.length
 · rw [decide_eq_true h8, cond_true] at h
   simp only [Option.some.injEq, Prod.mk.injEq] at h
   obtain ⟨rfl, rfl⟩ := h
   exact ⟨h8, rfl, rfl, (bj4 h8).symm, a35 h8⟩
 · rw [decide_eq_false h8, cond_false] at h; cases h
theorem aa0 {n : Int} (h : inI n) (r : List UInt8) : ag9 (m9 n ++ r) = some (n, r) := by
 unfold ag9
 have hl : 8 ≤ (m9 n ++ r).length := by rw [List.length_append, n7]; omega
 have hd : (m9 n ++ r).drop 8 = r := by rw [show (8 : Nat) = (m9 n).length from rfl, List.drop_left]
 rw [decide_eq_true hl, cond_true, T9 h, hd]
theorem aX0 (t : List UInt8) {b e : Int} (hb : inI b) (he : inI e) : C1 (n5 t ++ m9 e ++ m9 b) = some (t, b, e) := by
 unfold C1
 rw [List.append_assoc, aj9]
 simp only
 rw [aa0 he]
 simp only
 rw [show m9 b = m9 b ++ [] from (List.append_nil _).symm, aa0 hb]
 rfl
theorem aX1 (t : List UInt8) {b e : Int} (hb : inI b) (he : inI e) : C3 (m9 e ++ n5 t ++ m9 b) = some (t, b, e) := by
 unfold C3
 rw [List.append_assoc, aa0 he]
 simp only
 rw [aj9]
 simp only
 rw [show m9 b = m9 b ++ [] from (List.append_nil _).symm, aa0 hb]
 rfl
theorem aw4 {s t : List UInt8} {b e : Int} (h : C1 s = some (t, b, e)) : s = n5 t ++ m9 e ++ m9 b ∧ inI b ∧ inI e := by
 unfold C1 at h
 split at h
 · cases h
 · rename_i t' r h1
   split at h
   · cases h
   · rename_i e' r2 h2
     split at h
     · cases h
     · rename_i b' r3 h3
       by_cases h4 : r3 = []
       · rw [decide_eq_true h4, cond_true] at h
         simp only [Option.some.injEq, Prod.mk.injEq] at h
         obtain ⟨rfl, rfl, rfl⟩ := h
         obtain ⟨_, _, _, q2, i2⟩ := ak0 h2
         obtain ⟨_, _, _, q3, i3⟩ := ak0 h3
         rw [h4, List.append_nil] at q3
         exact ⟨by rw [Z9 h1, q2, q3, List.append_assoc], i3, i2⟩
       · rw [decide_eq_false h4, cond_false] at h; cases h
theorem aw5 {s t : List UInt8} {b e : Int} (h : C3 s = some (t, b, e)) : s = m9 e ++ n5 t ++ m9 b ∧ inI b ∧ inI e := by
 unfold C3 at h
 split at h
 · cases h
 · rename_i e' r h1
   split at h
   · cases h
   · rename_i t' r2 h2
     split at h
     · cases h
     · rename_i b' r3 h3
       by_cases h4 : r3 = []
       · rw [decide_eq_true h4, cond_true] at h
         simp only [Option.some.injEq, Prod.mk.injEq] at h
         obtain ⟨rfl, rfl, rfl⟩ := h
         obtain ⟨_, _, _, q1, i1⟩ := ak0 h1
         obtain ⟨_, _, _, q3, i3⟩ := ak0 h3
         rw [h4, List.append_nil] at q3
         exact ⟨by rw [q1, Z9 h2, q3, List.append_assoc], i3, i1⟩
       · rw [decide_eq_false h4, cond_false] at h; cases h
def ah0 (r : Val) (j : Nat) : Val := r.toL.getD j default
def atV (l : List Val) (i : Nat) : Val := l.getD i (.vl [])
def J3 (r : Val) : Val := .vl [ah0 r 0, ah0 r 1, ah0 r 2]
def pk (r : Val) : List UInt8 := (ah0 r 0).toS
def ps (r : Val) : Int := (ah0 r 1).toI
def pe (r : Val) : Int := (ah0 r 2).toI
theorem aE1 (l : List Val) (i : Nat) : A5 l (i : Int) 0 = ah0 (atV l i) 0 := rfl
theorem aE2 (l : List Val) (i : Nat) : A5 l (i : Int) 1 = ah0 (atV l i) 1 := rfl
theorem aE3 (l : List Val) (i : Nat) : A5 l (i : Int) 2 = ah0 (atV l i) 2 := rfl
def c54 (n : Int) : Bool := decide (-9223372036854775808 ≤ n) && decide (n < 9223372036854775808)
theorem bM1 {n : Int} (h : c54 n = true) : inI n := by
 unfold c54 at h
 rw [Bool.and_eq_true, decide_eq_true_eq, decide_eq_true_eq] at h
 exact h
def okR (r : Val) : Bool := match r with
 | .vl [.vs _, .vi s, .vi e] => c54 s && c54 e
 | _ => false
theorem aX2 {r : Val} (h : okR r = true) : r = .vl [.vs (pk r), .vi (ps r), .vi (pe r)] ∧ inI (ps r) ∧ inI (pe r) := by
 unfold okR at h
 split at h
 · rename_i k s e
   obtain ⟨h1, h2⟩ := g9 h
   exact ⟨rfl, bM1 h1, bM1 h2⟩
 · cases h
theorem ak1 {r : Val} (h : okR r = true) : J3 r = r := by
 have := (aX2 h).1
 rw [this]; rfl
def okP (r : Val) : Bool := okR r && decide ((pk r).length ≤ 1000)
theorem aE4 {r : Val} (h : okP r = true) : okR r = true ∧ (pk r).length ≤ 1000 := by
 obtain ⟨h1, h2⟩ := g9 h
 exact ⟨h1, of_decide_eq_true h2⟩
noncomputable def c55 (k : Int) (key to : List UInt8) (least most : Int) (pkey : List UInt8) (pend : Int) : Bool :=
 bif decide (k = 1) then (bif decide (pkey = key) then decide (pend = least) else false)
 else bif decide (k = 2) then (bif bb2 .geq pkey key then (bif decide (to = []) then bb2 .geq pkey key else bb2 .lss pkey to) else false)
 else bif decide (k = 3) then (bif decide (least ≤ pend) then decide (pend < most) else false) else false
noncomputable def V1 (a : List Val) (r : Val) : Bool := c55 (arg a 0).toI (arg a 1).toS (arg a 2).toS (arg a 3).toI (arg a 4).toI (pk r) (pe r)
def V2 (a : List Val) : Bool := decide ((arg a 0).toI = 3)
noncomputable def bq2 (sec : Bool) (k : List UInt8) (s e : Int) (k' : List UInt8) (s' e' : Int) : Bool :=
 bif sec then decide (e < e') || decide (e = e') && (ltB k k' || decide (k = k') && decide (s < s'))
 else ltB k k' || decide (k = k') && (decide (e < e') || decide (e = e') && decide (s < s'))
noncomputable def C4 (sec : Bool) (a b : Val) : Bool := bq2 sec (pk a) (ps a) (pe a) (pk b) (ps b) (pe b)
def a36 (sec : Bool) (k : List UInt8) (s e : Int) : List UInt8 := bif sec then m9 e ++ n5 k ++ m9 s else n5 k ++ m9 e ++ m9 s
def cf9 (sec : Bool) (r : Val) : List UInt8 := a36 sec (pk r) (ps r) (pe r)
noncomputable def ck4 (x y : List UInt8) : Int := bif ltB x y then -1 else bif ltB y x then 1 else 0
noncomputable def cfP (sec : Bool) (a b : Val) : Int := ck4 (cf9 sec a) (cf9 sec b)
noncomputable def br7 (sec : Bool) (x : Val) : List Val → List Val
 | [] => [x]
 | y :: r => if C4 sec x y then y :: br7 sec x r else x :: y :: r
noncomputable def dsc (sec : Bool) (l : List Val) : List Val := l.foldl (fun s x => br7 sec x s) []
noncomputable def srt (sec : Bool) (l : List Val) : List Val := (dsc sec l).reverse
theorem cg0 (sec : Bool) (l : List Val) (x : Val) : dsc sec (l ++ [x]) = br7 sec x (dsc sec l) := by simp [dsc]
theorem aw6 (sec : Bool) (x : Val) : ∀ s : List Val, (br7 sec x s).Perm (x :: s)
 | [] => .refl _
 | y :: r => by
   unfold br7
   split
   · exact ((aw6 sec x r).cons y).trans (.swap x y r)
   · exact .refl _
theorem bZ2 (sec : Bool) (l : List Val) : ∀ s : List Val, (l.foldl (fun s x => br7 sec x s) s).Perm (l ++ s) := by
 induction l with
 | nil => intro s; exact .refl _
 | cons x l ih =>
   intro s
   rw [List.foldl_cons]
   exact (ih _).trans (((aw6 sec x s).append_left l).trans List.perm_middle)
theorem ak2 (sec : Bool) (l : List Val) : (srt sec l).Perm l := by
 have := bZ2 sec l []
 rw [List.append_nil] at this
 exact (List.reverse_perm _).trans this
theorem aN9 (sec : Bool) (l : List Val) : (srt sec l).length = l.length := (ak2 sec l).length_eq
theorem aa1 (sec : Bool) (k : List UInt8) (s e : Int) (k' : List UInt8) (s' e' : Int) : bq2 sec k s e k' s' e' = true ↔ (sec = true ∧ (e < e' ∨ e = e' ∧ (ltB k k' = true ∨ k = k' ∧ s < s')) ∨ sec = false ∧ (ltB k k' = true ∨ k = k' ∧ (e < e' ∨ e = e' ∧ s < s'))) := by
 unfold bq2
 cases sec <;> simp
theorem cs8 {x y : List UInt8} (h : ltB x y = true) : ¬ x = y := fun e => by rw [e, E2] at h; cases h
theorem aX3 (sec : Bool) (a : Val) : C4 sec a a = false := by
 rw [← Bool.not_eq_true, C4, aa1, E2]
 cases sec <;> simp
theorem aw7 {sec : Bool} {a b c : Val} (h1 : C4 sec a b = true) (h2 : C4 sec b c = true) : C4 sec a c = true := by
 unfold C4 at *
 rw [aa1] at *
 cases sec with
 | true =>
   simp only [true_and, Bool.true_eq_false, false_and, or_false] at *
   rcases h1 with h1 | ⟨e1, h1 | ⟨k1, h1⟩⟩ <;> rcases h2 with h2 | ⟨e2, h2 | ⟨k2, h2⟩⟩
   · exact .inl (by omega)
   · exact .inl (by omega)
   · exact .inl (by omega)
   · exact .inl (by omega)
   · exact .inr ⟨by omega, .inl (X5 h1 h2)⟩
   · exact .inr ⟨by omega, .inl (k2 ▸ h1)⟩
   · exact .inl (by omega)
   · exact .inr ⟨by omega, .inl (k1 ▸ h2)⟩
   · exact .inr ⟨by omega, .inr ⟨k1.trans k2, by omega⟩⟩
 | false =>
   simp only [true_and, Bool.false_eq_true, false_and, false_or] at *
   rcases h1 with h1 | ⟨e1, h1⟩ <;> rcases h2 with h2 | ⟨e2, h2⟩
   · exact .inl (X5 h1 h2)
   · exact .inl (e2 ▸ h1)
   · exact .inl (e1 ▸ h2)
   · exact .inr ⟨e1.trans e2, by omega⟩
theorem b85 {sec : Bool} {a b : Val} (h : C4 sec a b = true) : C4 sec b a = false := by
 rw [← Bool.not_eq_true]
 intro h2
 have := aw7 h h2
 rw [aX3] at this; cases this
theorem aX4 {sec : Bool} {a b : Val} (h1 : C4 sec a b = false) (h2 : C4 sec b a = false) : pk a = pk b ∧ ps a = ps b ∧ pe a = pe b := by
 unfold C4 at *
 rw [← Bool.not_eq_true, aa1] at h1 h2
 cases sec with
 | true =>
   simp only [true_and, Bool.true_eq_false, false_and, or_false, not_or] at h1 h2
   obtain ⟨a1, a2⟩ := h1
   obtain ⟨b1, b2⟩ := h2
   have he : pe a = pe b := by omega
   simp only [he, true_and, not_or] at a2 b2
   have hk := aw1 (by rw [← Bool.not_eq_true]; exact a2.1) (by rw [← Bool.not_eq_true]; exact b2.1)
   have a3 := a2.2
   have b3 := b2.2
   simp only [hk, true_and] at a3 b3
   exact ⟨hk, by omega, he⟩
 | false =>
   simp only [true_and, Bool.false_eq_true, false_and, false_or, not_or] at h1 h2
   obtain ⟨a1, a2⟩ := h1
   obtain ⟨b1, b2⟩ := h2
   have hk := aw1 (by rw [← Bool.not_eq_true]; exact a1) (by rw [← Bool.not_eq_true]; exact b1)
   simp only [hk, true_and] at a2 b2
   exact ⟨hk, by omega, by omega⟩
theorem bq3 {sec : Bool} {a b : Val} (h : pk a = pk b ∧ ps a = ps b ∧ pe a = pe b) (c : Val) : C4 sec a c = C4 sec b c := by
 unfold C4; rw [h.1, h.2.1, h.2.2]
theorem aX5 {sec : Bool} {a b c : Val} (h1 : C4 sec a b = false) (h2 : C4 sec b c = false) : C4 sec a c = false := by
 rw [← Bool.not_eq_true]
 intro h
 cases h3 : C4 sec b a with
 | true => have := aw7 h3 h; rw [h2] at this; cases this
 | false => rw [bq3 (aX4 h1 h3)] at h; rw [h2] at h; cases h
theorem aw8 (sec : Bool) (x : Val) : ∀ s : List Val, s.Pairwise (fun a b => C4 sec a b = false) → (br7 sec x s).Pairwise (fun a b => C4 sec a b = false)
 | [], _ => by simp [br7]
 | y :: r, h => by
   unfold br7
   rw [List.pairwise_cons] at h
   split
   · rename_i hl
     rw [List.pairwise_cons]
     refine ⟨fun z hz => ?_, aw8 sec x r h.2⟩
     rcases List.mem_cons.1 ((aw6 sec x r).mem_iff.1 hz) with rfl | hz
     · exact b85 hl
     · exact h.1 z hz
   · rename_i hl
     have hl : C4 sec x y = false := by simpa using hl
     rw [List.pairwise_cons, List.pairwise_cons]
     refine ⟨fun z hz => ?_, h⟩
     rcases List.mem_cons.1 hz with rfl | hz
     · exact hl
     · exact aX5 hl (h.1 z hz)
theorem bq4 (sec : Bool) (l : List Val) : ∀ s : List Val, s.Pairwise (fun a b => C4 sec a b = false) → (l.foldl (fun s x => br7 sec x s) s).Pairwise (fun a b => C4 sec a b = false) := by
 induction l with
 | nil => intro s h; exact h
 | cons x l ih => intro s h; exact ih _ (aw8 sec x s h)
theorem bq5 (sec : Bool) (l : List Val) : (srt sec l).Pairwise (fun a b => C4 sec b a = false) := by
 unfold srt
 rw [List.pairwise_reverse]
 exact bq4 sec l [] .nil
theorem cy4 (s : Int) : m9 s = m9 s ++ [] := (List.append_nil _).symm
theorem cs9 (sec : Bool) {a b : Val} (ha : okR a = true) (hb : okR b = true) : ltB (cf9 sec a) (cf9 sec b) = true ↔ C4 sec a b = true := by
 obtain ⟨_, s1, e1⟩ := aX2 ha
 obtain ⟨_, s2, e2⟩ := aX2 hb
 unfold C4
 rw [aa1]
 unfold cf9 a36
 cases sec with
 | true =>
   simp only [cond_true, List.append_assoc]
   rw [ad5 e1 e2, aN5, cy4 (ps a), cy4 (ps b), ad5 s1 s2, E2]
   simp
 | false =>
   simp only [cond_false, List.append_assoc]
   rw [aN5, ad5 e1 e2, cy4 (ps a), cy4 (ps b), ad5 s1 s2, E2]
   simp
theorem bj5 (x y : List UInt8) : ck4 x y < 0 ↔ ltB x y = true := by
 unfold ck4
 cases ltB x y <;> cases ltB y x <;> simp
theorem bZ3 {sec : Bool} {l q : List Val} (ho : ∀ v ∈ l, okR v = true) (hp : q.Perm l) (hs : q.Pairwise (fun a b => cfP sec b a < 0 → False)) : srt sec l = q := by
 refine List.Perm.eq_of_pairwise (le := fun a b => C4 sec b a = false) (fun a b ha hb h1 h2 => ?_) (bq5 sec l) ?_ ((ak2 sec l).trans hp.symm)
 · have oa := ho a ((ak2 sec l).mem_iff.1 ha)
   have ob := ho b (hp.mem_iff.1 hb)
   obtain ⟨t1, t2, t3⟩ := aX4 h2 h1
   rw [(aX2 oa).1, (aX2 ob).1, t1, t2, t3]
 · have hm : ∀ v ∈ q, okR v = true := fun v hv => ho v (hp.mem_iff.1 hv)
   refine List.Pairwise.imp_of_mem (fun {a b} ha hb h => ?_) hs
   rw [← Bool.not_eq_true]
   intro hh
   exact h ((bj5 _ _).2 ((cs9 sec (hm b hb) (hm a ha)).2 hh))
def bq6 (l : List Val) (k : Nat) : List Val := (l.set k (J3 (atV l (k + 1)))).set (k + 1) (J3 (atV l k))
noncomputable def bub (sec : Bool) : List Val → Nat → Nat × List Val
 | l, 0 => (0, l)
 | l, k + 1 => if C4 sec (atV l (k + 1)) (atV l k) then bub sec (bq6 l k) k else (k + 1, l)
theorem aX6 (l : List Val) (k : Nat) : (bq6 l k).length = l.length := by simp [bq6]
theorem bM2 (sec : Bool) : ∀ (k : Nat) (l : List Val), (bub sec l k).2.length = l.length
 | 0, _ => rfl
 | k + 1, l => by
   unfold bub
   split
   · rw [bM2 sec k, aX6]
   · rfl
theorem b86 (a b : List Val) (k : Nat) (h : a.length = k) : atV (a ++ b) k = atV b 0 := by
 subst h
 unfold atV
 rw [List.getD_eq_getElem?_getD, List.getD_eq_getElem?_getD, List.getElem?_append_right (Nat.le_refl _), Nat.sub_self]
theorem bM3 (sec : Bool) (x : Val) (hx : J3 x = x) : ∀ (s t : List Val), (∀ y ∈ s, J3 y = y) → (bub sec (s.reverse ++ x :: t) s.length).2 = (br7 sec x s).reverse ++ t
 | [], t, _ => rfl
 | y :: r, t, h => by
   have hy : J3 y = y := h y (by simp)
   have e1 : (y :: r).reverse ++ x :: t = r.reverse ++ y :: x :: t := by simp
   have a1 : atV (r.reverse ++ y :: x :: t) r.length = y := by rw [b86 _ _ _ (by simp)]; rfl
   have a2 : atV (r.reverse ++ y :: x :: t) (r.length + 1) = x := by
    rw [show r.reverse ++ y :: x :: t = (r.reverse ++ [y]) ++ x :: t by simp, b86 _ _ _ (by simp)]; rfl
   rw [e1, List.length_cons]
   unfold bub br7
   rw [a1, a2]
   split
   · have sw : bq6 (r.reverse ++ y :: x :: t) r.length = r.reverse ++ x :: (y :: t) := by
      have q1 : ∀ v, (r.reverse ++ y :: x :: t).set r.length v = r.reverse ++ v :: x :: t := fun v => by rw [List.set_append]; simp
      have q2 : (r.reverse ++ x :: x :: t).set (r.length + 1) y = r.reverse ++ x :: y :: t := by rw [List.set_append, if_neg (by simp)]; simp
      unfold bq6
      rw [a1, a2, hx, hy, q1, q2]
     rw [sw, bM3 sec x hx r (y :: t) (fun z hz => h z (by simp [hz]))]
     simp
   · simp
noncomputable def del (f : List Val) : Nat → Nat → List Val → Nat → Nat × List Val
 | p, j, M, 0 => (p, M)
 | p, j, M, n + 1 => if V1 f (atV M j) then del f (p + 1) (j + 1) (M.set p (J3 (atV M j))) n else del f p (j + 1) M n
theorem b87 (f : List Val) : ∀ (n p j : Nat) (M : List Val), (del f p j M n).2.length = M.length
 | 0, _, _, _ => rfl
 | n + 1, p, j, M => by
   unfold del
   split
   · rw [b87 f n]; simp
   · exact b87 f n p (j + 1) M
theorem bM4 (f : List Val) : ∀ (n p j : Nat) (M : List Val), (del f p j M n).1 ≤ p + n
 | 0, p, _, _ => Nat.le_refl _
 | n + 1, p, j, M => by
   unfold del
   split
   · have := bM4 f n (p + 1) (j + 1) (M.set p (J3 (atV M j))); omega
   · have := bM4 f n p (j + 1) M; omega
theorem aO0 {M : List Val} {j n : Nat} (h : M.length = j + (n + 1)) : M.drop j = atV M j :: M.drop (j + 1) := by
 have hj : j < M.length := by omega
 rw [List.drop_eq_getElem_cons hj]
 unfold atV
 rw [List.getD_eq_getElem?_getD, List.getElem?_eq_getElem hj]; rfl
theorem aO1 (f : List Val) : ∀ (n p j : Nat) (M : List Val), M.length = j + n → p ≤ j → (∀ v ∈ M.drop j, J3 v = v) → (del f p j M n).2.take (del f p j M n).1 = M.take p ++ (M.drop j).filter (V1 f)
 | 0, p, j, M, h, hp, _ => by
   rw [List.drop_eq_nil_of_le (by omega)]
   simp [del]
 | n + 1, p, j, M, h, hp, hn => by
   have hd := aO0 h
   have hv : J3 (atV M j) = atV M j := hn _ (by rw [hd]; exact List.mem_cons_self ..)
   unfold del
   rw [hd, List.filter_cons]
   split
   · rw [hv, aO1 f n (p + 1) (j + 1) _ (by rw [List.length_set]; omega) (by omega) (by
       rw [List.drop_set_of_lt (by omega)]
       exact fun v hvm => hn v (by rw [hd]; exact List.mem_cons_of_mem _ hvm)), List.drop_set_of_lt (by omega), bj2 _ _ _ (by omega), List.append_assoc]
     rfl
   · exact aO1 f n p (j + 1) M (by omega) (by omega) (fun v hvm => hn v (by rw [hd]; exact List.mem_cons_of_mem _ hvm))
def isL : Val → Bool
 | .vl _ => true
 | _ => false
theorem bM5 {v : Val} (h : isL v = true) : v = .vl v.toL := by
 cases v <;> first | rfl | cases h
def aO2 : Val := .vl [.vs [], .vi 0, .vi 0]
def cg1 (f : List Val) (r : Val) : Bool := decide ((arg f 1).toS.length ≤ 100) && decide ((arg f 2).toS.length ≤ 100) && decide ((pk r).length ≤ 100)
def X6 (f L : List Val) : Nat × List Val := match (List.range L.length).find? (fun i => !cg1 f (atV L i)) with
 | some i => (1, [.vb true, .vi i, .vi i, .vl ((L.take i).map J3)])
 | none => (0, [.vb false, .vi L.length, .vi L.length, .vl (L.map J3)])
def ah1 (s : List UInt8) : Nat × Nat × List UInt8 := bq0 s (s.length + 1) 0 []
def a11 (s : List UInt8) (r : Nat × Nat × List UInt8) : Nat × List Val := bif Nat.beq r.1 1 then (1, [.vs (s.drop (r.2.1 + 2)), .vb true, .vi r.2.1, .vi 2, .vi 0, .vs r.2.2, .vi r.2.2.length]) else (0, [.vs [], .vb false, .vi r.2.1, .vi 0, .vi 0, .vs [], .vi r.2.2.length, .vl (sbV r.2.2)])
def aa2 (r : Nat × Nat × List UInt8) : Nat × List Val := bif Nat.beq r.1 1 then (1, [.vi (r.2.1 + 2 : Nat), .vi r.2.2.length, .vi r.2.1, .vi 2, .vi 0, .vs r.2.2, .vl (sbV r.2.2)]) else (0, [.vi 0, .vi r.2.2.length, .vi r.2.1, .vi 0, .vi 0, .vs [], .vl (sbV r.2.2)])
noncomputable def GX : Nat → List Val → Val := fun i a => match i with
  | 304 => .vb (c55 (arg a 0).toI (arg a 1).toS (arg a 2).toS (arg a 3).toI (arg a 4).toI (arg a 5).toS (arg a 7).toI)
  | 305 => .vb (bq2 (arg a 6).toB (arg a 0).toS (arg a 1).toI (arg a 2).toI (arg a 3).toS (arg a 4).toI (arg a 5).toI)
  | 306 => .vs (a36 false (arg a 0).toS (arg a 1).toI (arg a 2).toI)
  | 307 => .vs (a36 true (arg a 0).toS (arg a 1).toI (arg a 2).toI)
  | 308 => .vi (ck4 (a36 (V2 (a.drop 6)) (arg a 0).toS (arg a 1).toI (arg a 2).toI) (a36 (V2 (a.drop 6)) (arg a 3).toS (arg a 4).toI (arg a 5).toI))
  | 303 => .vb (isL (arg a 0))
  | 309 => .vb (isL (arg a 0) && (arg a 0).toL.all okR)
  | 310 => .vb (isL (arg a 0) && (arg a 0).toL.all okP)
  | 311 => .vl (srt (V2 a) (arg a 5).toL)
  | 312 => .vl (srt (V2 a) ((arg a 5).toL.filter (V1 a)))
  | 313 => Q7 (aN0 (.vi 0) (fun i => [.vi i, .vi i]) (fun i => !V1 (a.drop 4) (atV (arg a 3).toL i)) (arg a 3).toL.length)
  | 314 => Q7 (0, [.vi (del (a.drop 5) (arg a 0).toI.toNat (arg a 1).toI.toNat (arg a 2).toL ((arg a 2).toL.length - (arg a 1).toI.toNat)).1, .vi (arg a 2).toL.length, .vl (del (a.drop 5) (arg a 0).toI.toNat (arg a 1).toI.toNat (arg a 2).toL ((arg a 2).toL.length - (arg a 1).toI.toNat)).2])
  | 315 => Q7 (X6 (a.drop 7) (arg a 6).toL)
  | 316 => Q7 (0, [arg a 0, .vi (arg a 2).toL.length, .vl (List.replicate (arg a 2).toL.length aO2)])
  | 317 => Q7 (0, [arg a 0, .vi (arg a 4).toL.length])
  | 318 => Q7 (0, [.vi (srt (V2 (a.drop 6)) ((arg a 5).toL.filter (V1 (a.drop 6)))).length, .vi (arg a 5).toL.length, .vl (srt (V2 (a.drop 6)) ((arg a 5).toL.filter (V1 (a.drop 6))))])
  | 319 => Q7 (0, [.vi (bub (V2 (a.drop 5)) (arg a 1).toL (arg a 0).toI.toNat).1, .vl (bub (V2 (a.drop 5)) (arg a 1).toL (arg a 0).toI.toNat).2])
  | 350 => .vi (bif decide (8 ≤ (arg a 0).toS.length) then 1 else 0)
  | 351 => .vi (bif decide (8 ≤ (arg a 0).toS.length) then Q1 (arg a 0).toS else 0)
  | 352 => bif decide (8 ≤ (arg a 0).toS.length) then .vs ((arg a 0).toS.drop 8) else arg a 0
  | 353 => .vb (decide (8 ≤ (arg a 0).toS.length))
  | 354 => .vi (bif (aw2 (arg a 0).toS).isSome then 2 else 0)
  | 355 => .vs ((aw2 (arg a 0).toS).getD ([], [])).1
  | 356 => bif (aw2 (arg a 0).toS).isSome then .vs ((aw2 (arg a 0).toS).getD ([], [])).2 else arg a 0
  | 357 => .vb (aw2 (arg a 0).toS).isSome
  | 358 => .vi (bif decide (8 ≤ (arg a 0).toS.length) then 8 else 0)
  | 359 => .vi (bif Nat.beq (ah1 (arg a 0).toS).1 1 then 2 else 0)
  | 360 => .vs (bif Nat.beq (ah1 (arg a 0).toS).1 1 then (ah1 (arg a 0).toS).2.2 else [])
  | 361 => .vi (bif Nat.beq (ah1 (arg a 0).toS).1 1 then ((ah1 (arg a 0).toS).2.1 + 2 : Nat) else 0)
  | 362 => Q7 (a11 (arg a 8).toS (az3 (arg a 8).toS (arg a 8).toS.length (arg a 2).toI.toNat (unV (arg a 7).toL)))
  | 363 => Q7 (0, [.vi (s8 (arg a 5).toS).length, .vi (arg a 5).toS.length, .vl (sbV (s8 (arg a 5).toS))])
  | 364 => Q7 (aa2 (ah1 (arg a 7).toS))
  | 365 => Q7 (0, [.vi (F0 (arg a 1).toS (arg a 1).toS.length)])
  | 366 => .vs (bif decide ((arg a 0).toI = 1) then m9 (arg a 1).toI else n5 (arg a 2).toS)
  | 370 => .vs ((C1 (arg a 0).toS).getD ([], 0, 0)).1
  | 371 => .vi ((C1 (arg a 0).toS).getD ([], 0, 0)).2.1
  | 372 => .vi ((C1 (arg a 0).toS).getD ([], 0, 0)).2.2
  | 373 => .vb (C1 (arg a 0).toS).isSome
  | 374 => .vs ((C3 (arg a 0).toS).getD ([], 0, 0)).1
  | 375 => .vi ((C3 (arg a 0).toS).getD ([], 0, 0)).2.1
  | 376 => .vi ((C3 (arg a 0).toS).getD ([], 0, 0)).2.2
  | 377 => .vb (C3 (arg a 0).toS).isSome
  | 381 => Q7 (0, [arg a 0, .vi 8, arg a 2, arg a 3])
  | 382 => Q7 (0, [arg a 0, .vi 8])
  | 383 => Q7 (0, [arg a 0, .vi 7])
  | _ => .vb false
noncomputable abbrev F : Nat → List Val → Val := FX GX
theorem ct0 {ω : Opq} : j3 bY4 ω = some (0, [F 304 [ω.w 0, ω.w 1, ω.w 2, ω.w 3, ω.w 4, ω.w 5, ω.w 6, ω.w 7]]) := by
 have hF : F 304 [ω.w 0, ω.w 1, ω.w 2, ω.w 3, ω.w 4, ω.w 5, ω.w 6, ω.w 7] = .vb (c55 (ω.w 0).toI (ω.w 1).toS (ω.w 2).toS (ω.w 3).toI (ω.w 4).toI (ω.w 5).toS (ω.w 7).toI) := rfl
 rw [hF]
 unfold bY4 ce8 c55
 simp only [j3, k5, den, dB, A1, j1, w9, p9, P9, bi6, l4, p5, aN1, decide_eq_true_eq]
 by_cases k1 : (ω.w 0).toI = 1
 · by_cases h : (ω.w 5).toS = (ω.w 1).toS <;> simp [k1, h]
 · by_cases k2 : (ω.w 0).toI = 2
   · cases h : bb2 .geq (ω.w 5).toS (ω.w 1).toS <;> by_cases h2 : (ω.w 2).toS = [] <;> simp [k2, h, h2]
   · by_cases k3 : (ω.w 0).toI = 3
     · by_cases h : (ω.w 3).toI ≤ (ω.w 7).toI <;> simp [k3, h]
     · simp [k1, k2, k3]
theorem ct1 {ω : Opq} : j3 bJ0 ω = some (0, [F 304 [ω.w 0, ω.w 1, ω.w 2, ω.w 3, ω.w 4, ω.w 5, ω.w 6, ω.w 7]]) := ct0
theorem cg2 {ω : Opq} (hn : (ω.w 0).toL.length ≤ 100) (hl : isL (ω.w 0) = true) : j3 aL0 ω = some (0, [ω.w 0]) := by
 have e := bM5 hl
 generalize (ω.w 0).toL = l at hn e
 unfold aL0 b66
 have h1 : (l.length : Int) ≤ 1000000 := by omega
 simp only [j3, k5, den, dB, A1, e, j4, j1, p9, l4, l9, h1, decide_true, if_true]
 cases l with
 | nil => simp [e]
 | cons x l => rw [if_pos (decide_eq_true (by rw [List.length_cons]; omega))]
theorem cg3 {ω : Opq} : j3 aL1 ω = some (0, [F 305 [ω.w 0, ω.w 1, ω.w 2, ω.w 3, ω.w 4, ω.w 5, ω.w 6]]) := by
 have hF : F 305 [ω.w 0, ω.w 1, ω.w 2, ω.w 3, ω.w 4, ω.w 5, ω.w 6] = .vb (bq2 (ω.w 6).toB (ω.w 0).toS (ω.w 1).toI (ω.w 2).toI (ω.w 3).toS (ω.w 4).toI (ω.w 5).toI) := rfl
 rw [hF]
 unfold aL1 b67 b68 b69 b70 b71 b72 bq2
 simp only [j3, k5, den, dB, A1, j1, w9, p9, P9, l4, decide_eq_true_eq, show ∀ a b, bb2 .lss a b = ltB a b from fun _ _ => rfl, show ∀ a b, bb2 .gtr a b = ltB b a from fun _ _ => rfl]
 have hk : ltB (ω.w 0).toS (ω.w 3).toS = false → ltB (ω.w 3).toS (ω.w 0).toS = false → (ω.w 0).toS = (ω.w 3).toS := aw1
 have hne : ltB (ω.w 3).toS (ω.w 0).toS = true → ¬ (ω.w 0).toS = (ω.w 3).toS := fun h e => cs8 h e.symm
 cases h6 : (ω.w 6).toB <;> cases h1 : ltB (ω.w 0).toS (ω.w 3).toS <;> cases h2 : ltB (ω.w 3).toS (ω.w 0).toS <;> simp only [h1, h2] at hk hne <;>
  (by_cases c1 : (ω.w 2).toI < (ω.w 5).toI <;> by_cases c2 : (ω.w 5).toI < (ω.w 2).toI <;> by_cases c3 : (ω.w 1).toI < (ω.w 4).toI <;> by_cases c4 : (ω.w 4).toI < (ω.w 1).toI <;>
   first
   | (exfalso; omega)
   | (have c5 : ¬ (ω.w 2).toI = (ω.w 5).toI := by omega
      simp_all
      try (split <;> simp <;> omega))
   | (have c5 : (ω.w 2).toI = (ω.w 5).toI := by omega
      simp_all
      try (split <;> simp <;> omega)))
theorem M7 {k : List UInt8} (h : k.length ≤ 1000) : (n5 k).length ≤ 2002 := by
 have := (I4 k).2; omega
theorem ct2 {ω : Opq} (hf : ∀ i a, ω.f i a = F i a) (hn : (ω.w 0).toS.length ≤ 1000) : j3 bh3 ω = some (0, [F 306 [ω.w 0, ω.w 1, ω.w 2]]) := by
 have d0 : den ω bh1 = .vl (sbV (n5 (ω.w 0).toS)) := bT hf 0
 have d1 : den ω bh2 = .vl (sbV (n5 (ω.w 0).toS ++ m9 (ω.w 2).toI)) := by
  show Val.vl ((den ω bh1).toL ++ (den ω (.op .sbytes [.app 302 [.va 2]])).toL) = _
  rw [d0, bI hf 2, U7]; rfl
 have d2 : den ω U4 = .vl (sbV (n5 (ω.w 0).toS ++ m9 (ω.w 2).toI ++ m9 (ω.w 1).toI)) := by
  show Val.vl ((den ω bh2).toL ++ (den ω (.op .sbytes [.app 302 [.va 1]])).toL) = _
  rw [d1, bI hf 1, U7 _ (m9 (ω.w 1).toI)]; rfl
 have l0 := M7 hn
 have l1 := n7 (ω.w 2).toI
 have l2 := n7 (ω.w 1).toI
 have hl : ∀ {e : SX} {l : List UInt8}, den ω e = .vl (sbV l) → l.length ≤ 1000000 → dB ω (.op (.cmp .leq) [.op .llen [e], .ci 1000000]) = true := fun he h => by
  show decide (((den ω _).toL.length : Int) ≤ 1000000) = true
  rw [he, j4, r6]; exact decide_eq_true (by omega)
 have hlen : (n5 (ω.w 0).toS ++ m9 (ω.w 2).toI ++ m9 (ω.w 1).toI).length = (n5 (ω.w 0).toS).length + 8 + 8 := by rw [List.length_append, List.length_append, l1, l2]
 unfold bh3
 refine i5 (decide_eq_true (show ((ω.w 0).toS.length : Int) ≤ 1000 by omega)) (i5 (hl d0 (by omega)) (i5 (hl d1 (by rw [List.length_append]; omega)) (i5 (hl d2 (by omega)) (i5 ?_ (i5 ?_ ?_)))))
 · show decide ((0 : Int) < ((den ω U4).toL.length : Int)) = true
   rw [d2, j4, r6, hlen]; exact decide_eq_true (by omega)
 · show (decide (((den ω U4).toL.length : Int) ≤ ((den ω U4).toL.length : Int)) && aO7 (den ω U4).toL) = true
   rw [d2, j4, a94, decide_eq_true (Int.le_refl _)]; rfl
 · show some (0, [Val.vs (unV (den ω U4).toL)]) = _
   rw [d2, j4, az2]; rfl
theorem cD5 {ω : Opq} (hf : ∀ i a, ω.f i a = F i a) (hn : (ω.w 0).toS.length ≤ 1000) : j3 bY7 ω = some (0, [F 307 [ω.w 0, ω.w 1, ω.w 2]]) := by
 have d0 : den ω bY5 = .vl (sbV (m9 (ω.w 2).toI)) := bI hf 2
 have d1 : den ω bY6 = .vl (sbV (m9 (ω.w 2).toI ++ n5 (ω.w 0).toS)) := by
  show Val.vl ((den ω bY5).toL ++ (den ω (.op .sbytes [.app 301 [.va 0]])).toL) = _
  rw [d0, bT hf 0, U7]; rfl
 have d2 : den ω ag8 = .vl (sbV (m9 (ω.w 2).toI ++ n5 (ω.w 0).toS ++ m9 (ω.w 1).toI)) := by
  show Val.vl ((den ω bY6).toL ++ (den ω (.op .sbytes [.app 302 [.va 1]])).toL) = _
  rw [d1, bI hf 1, U7 _ (m9 (ω.w 1).toI)]; rfl
 have l0 := M7 hn
 have l1 := n7 (ω.w 2).toI
 have l2 := n7 (ω.w 1).toI
 have hl : ∀ {e : SX} {l : List UInt8}, den ω e = .vl (sbV l) → l.length ≤ 1000000 → dB ω (.op (.cmp .leq) [.op .llen [e], .ci 1000000]) = true := fun he h => by
  show decide (((den ω _).toL.length : Int) ≤ 1000000) = true
  rw [he, j4, r6]; exact decide_eq_true (by omega)
 have hlen : (m9 (ω.w 2).toI ++ n5 (ω.w 0).toS ++ m9 (ω.w 1).toI).length = 8 + (n5 (ω.w 0).toS).length + 8 := by rw [List.length_append, List.length_append, l1, l2]
 unfold bY7
 refine i5 (hl d0 (by omega)) (i5 (decide_eq_true (show ((ω.w 0).toS.length : Int) ≤ 1000 by omega)) (i5 (hl d1 (by rw [List.length_append]; omega)) (i5 (hl d2 (by omega)) (i5 ?_ (i5 ?_ ?_)))))
 · show decide ((0 : Int) < ((den ω ag8).toL.length : Int)) = true
   rw [d2, j4, r6, hlen]; exact decide_eq_true (by omega)
 · show (decide (((den ω ag8).toL.length : Int) ≤ ((den ω ag8).toL.length : Int)) && aO7 (den ω ag8).toL) = true
   rw [d2, j4, a94, decide_eq_true (Int.le_refl _)]; rfl
 · show some (0, [Val.vs (unV (den ω ag8).toL)]) = _
   rw [d2, j4, az2]; rfl
theorem ct3 {ω : Opq} (hf : ∀ i a, ω.f i a = F i a) (h1 : (ω.w 0).toS.length ≤ 1000) (h2 : (ω.w 3).toS.length ≤ 1000) : j3 bh4 ω = some (0, [F 308 [ω.w 0, ω.w 1, ω.w 2, ω.w 3, ω.w 4, ω.w 5, ω.w 6, ω.w 7, ω.w 8, ω.w 9, ω.w 10]]) := by
 have hF : F 308 [ω.w 0, ω.w 1, ω.w 2, ω.w 3, ω.w 4, ω.w 5, ω.w 6, ω.w 7, ω.w 8, ω.w 9, ω.w 10] = .vi (ck4 (a36 (decide ((ω.w 6).toI = 3)) (ω.w 0).toS (ω.w 1).toI (ω.w 2).toI) (a36 (decide ((ω.w 6).toI = 3)) (ω.w 3).toS (ω.w 4).toI (ω.w 5).toI)) := rfl
 have f7 : ∀ a b c : Val, F 307 [a, b, c] = .vs (a36 true a.toS b.toI c.toI) := fun _ _ _ => rfl
 have f6 : ∀ a b c : Val, F 306 [a, b, c] = .vs (a36 false a.toS b.toI c.toI) := fun _ _ _ => rfl
 have g1 : ((ω.w 0).toS.length : Int) ≤ 1000 := by omega
 have g2 : ((ω.w 3).toS.length : Int) ≤ 1000 := by omega
 rw [hF]
 unfold bh4 bJ1 bJ2 bJ3 bJ4 bJ5 bJ6 ck4
 simp only [j3, k5, den, dB, A1, j1, w9, p9, p5, l9, g1, g2, decide_true, if_true, hf, f6, f7, show ∀ a b, bb2 .lss a b = ltB a b from fun _ _ => rfl, show ∀ a b, bb2 .gtr a b = ltB b a from fun _ _ => rfl]
 by_cases h : (ω.w 6).toI = 3
 · simp only [h, decide_true, if_true]
   cases ltB (a36 true (ω.w 0).toS (ω.w 1).toI (ω.w 2).toI) (a36 true (ω.w 3).toS (ω.w 4).toI (ω.w 5).toI) <;> cases ltB (a36 true (ω.w 3).toS (ω.w 4).toI (ω.w 5).toI) (a36 true (ω.w 0).toS (ω.w 1).toI (ω.w 2).toI) <;> rfl
 · simp only [h, decide_false, Bool.false_eq_true, if_false]
   cases ltB (a36 false (ω.w 0).toS (ω.w 1).toI (ω.w 2).toI) (a36 false (ω.w 3).toS (ω.w 4).toI (ω.w 5).toI) <;> cases ltB (a36 false (ω.w 3).toS (ω.w 4).toI (ω.w 5).toI) (a36 false (ω.w 0).toS (ω.w 1).toI (ω.w 2).toI) <;> rfl
theorem aX7 {l : List Val} (h : l.all okP = true) {v : Val} (hv : v ∈ l) : okP v = true := List.all_eq_true.1 h v hv
theorem a37 (sec : Bool) (a b : Val) : Go.Proofs.ltOf (cfP sec) a b = ltB (cf9 sec a) (cf9 sec b) := by
 unfold Go.Proofs.ltOf cfP
 rw [Bool.eq_iff_iff, decide_eq_true_iff, bj5]
theorem bq7 {x y z : List UInt8} (h1 : ltB x y = false) (h2 : ltB y z = false) : ltB x z = false := by
 rw [← Bool.not_eq_true]
 intro h
 cases h3 : ltB y x with
 | true => have := X5 h3 h; rw [h2] at this; cases this
 | false => rw [aw1 h1 h3] at h; rw [h2] at h; cases h
theorem O5 {step : List Val → Option (Nat × List Val)} (st : Nat → List Val) {n j : Nat} {p s : List Val} (h0 : s = st 0) (h1 : ∀ i, i < n → step (st i) = some (0, st (i + 1))) (h2 : step (st n) = some (j + 1, p)) : A0 step s = some (j, p) := by
 rw [h0]; exact av7 h1 h2
theorem aX8 {i : Nat} (h : i ≤ 1000000) : arI .add .i64 (i : Int) 1 = ((i + 1 : Nat) : Int) := bp9 (by omega)
theorem cy5 {K k : Nat} (h : K = k + 1) (h2 : K ≤ 10000000) : arI .sub .i64 (K : Int) 1 = (k : Int) := by
 rw [cf0 (by omega) (by omega)]; omega
theorem cg4 (a b c d e : Val) (r x : Val) : F 304 [a, b, c, d, e, ah0 r 0, x, ah0 r 2] = .vb (V1 [a, b, c, d, e] r) := rfl
theorem ct4 (a b : Val) (s : Bool) : F 305 [ah0 a 0, ah0 a 1, ah0 a 2, ah0 b 0, ah0 b 1, ah0 b 2, .vb s] = .vb (C4 s a b) := rfl
theorem aO3 (r : Val) : Val.vl [ah0 r 0, ah0 r 1, ah0 r 2] = J3 r := rfl
def fil (ω : Opq) : List Val := [ω.w 0, ω.w 1, ω.w 2, ω.w 3, ω.w 4]
theorem bj6 (ω : Opq) (t : List Val) (r : Val) : V1 (ω.w 0 :: ω.w 1 :: ω.w 2 :: ω.w 3 :: ω.w 4 :: t) r = V1 (fil ω) r := rfl
theorem bq8 : (2000 ≤ 2000) = True := by simp
theorem bM6 : (2000 ≤ 2001) = True := by simp
theorem bZ4 : (2000 ≤ 2002) = True := by simp
theorem cD6 : (2000 ≤ 2003) = True := by simp
theorem w0 : (2000 ≤ 0) = False := by simp
theorem w1 : (2000 ≤ 1) = False := by simp
theorem w2 : (2000 ≤ 2) = False := by simp
theorem w3 : (2000 ≤ 3) = False := by simp
theorem w4 : (2000 ≤ 4) = False := by simp
theorem w5 : (2000 ≤ 5) = False := by simp
theorem cD7 {ω : Opq} (hf : ∀ i a, ω.f i a = F i a) (hn : (ω.w 5).toL.length ≤ 100) : A0 (fun vs => j3 c48 (ω.upd 2000 vs)) [.vi 0, .vi 0] = some (aN0 (.vi 0) (fun i => [.vi i, .vi i]) (fun i => !V1 (fil ω) (atV (ω.w 5).toL i)) (ω.w 5).toL.length) := by
 have key : ∀ i : Nat, i < (ω.w 5).toL.length → j3 c48 (ω.upd 2000 [.vi 0, .vi i]) = some (if V1 (fil ω) (atV (ω.w 5).toL i) then (0, [.vi 0, .vi (i + 1 : Nat)]) else (2, [.vi i, .vi i])) := fun i hi => by
  have p1 : (i : Int) < ((ω.w 5).toL.length : Int) := by omega
  have p2 : (0 : Int) ≤ (i : Int) := by omega
  unfold c48
  simp only [j3, k5, den, dB, A1, U6, bq8, bM6, w0, w1, w2, w3, w4, w5, if_true, if_false, show 2000 - 2000 = 0 from rfl, show 2001 - 2000 = 1 from rfl, List.getD_cons_zero, List.getD_cons_succ, j1, p9, l4, l9, p1, p2, decide_true, aE1, aE2, aE3, ce9, hf, cg4, bj6, aX8 (show i ≤ 1000000 by omega)]
  cases V1 (fil ω) (atV (ω.w 5).toL i) <;> rfl
 refine bL2 (fun i hi hb => ?_) (fun i hi hb => ?_) ?_
 · show j3 c48 (ω.upd 2000 [.vi 0, .vi i]) = _
   rw [key i hi, if_pos (by simpa using hb)]
 · show j3 c48 (ω.upd 2000 [.vi 0, .vi i]) = _
   rw [key i hi, if_neg (by simpa using hb)]
 · show j3 c48 (ω.upd 2000 [.vi 0, .vi _]) = _
   unfold c48
   simp [j3, k5, den, dB, A1, U6]
theorem cg5 {ω : Opq} (hf : ∀ i a, ω.f i a = F i a) {N : Nat} (hN : (ω.w 5).toL.length = N) (hn : N ≤ 100) : ∀ (n p j : Nat) (M : List Val), M.length = N → j + n = N → p < j →
 Iter (fun vs => j3 ck0 (ω.upd 2000 vs)) [.vi p, .vi j, .vl M] 0 [.vi (del (fil ω) p j M n).1, .vi N, .vl (del (fil ω) p j M n).2]
 | 0, p, j, M, hM, hj, hp => by
   refine .out ?_
   show j3 ck0 (ω.upd 2000 [.vi p, .vi j, .vl M]) = _
   have p1 : ¬ (j : Int) < (N : Int) := by omega
   obtain rfl : j = N := by omega
   unfold ck0
   simp only [j3, k5, den, dB, A1, U6, bq8, bM6, bZ4, w5, if_true, if_false, show 2000 - 2000 = 0 from rfl, show 2001 - 2000 = 1 from rfl, show 2002 - 2000 = 2 from rfl, List.getD_cons_zero, List.getD_cons_succ, j1, j4, p9, l4, hN, p1, decide_false, Bool.false_eq_true, del]
 | n + 1, p, j, M, hM, hj, hp => by
   have p1 : (j : Int) < (N : Int) := by omega
   have p2 : (0 : Int) ≤ (j : Int) := by omega
   have p3 : (p : Int) < (N : Int) := by omega
   have p4 : (0 : Int) ≤ (p : Int) := by omega
   have key : j3 ck0 (ω.upd 2000 [.vi p, .vi j, .vl M]) = some (0, if V1 (fil ω) (atV M j) then [.vi (p + 1 : Nat), .vi (j + 1 : Nat), .vl (M.set p (J3 (atV M j)))] else [.vi p, .vi (j + 1 : Nat), .vl M]) := by
    unfold ck0
    simp only [j3, k5, den, dB, A1, U6, bq8, bM6, bZ4, w0, w1, w2, w3, w4, w5, if_true, if_false, show 2000 - 2000 = 0 from rfl, show 2001 - 2000 = 1 from rfl, show 2002 - 2000 = 2 from rfl, List.getD_cons_zero, List.getD_cons_succ, j1, j4, p9, l4, l9, hN, hM, p1, p2, p3, p4, decide_true, Bool.and_self, aE1, aE2, aE3, ce9, hf, cg4, bj6, aO3, Int.toNat_natCast, aX8 (show j ≤ 1000000 by omega), aX8 (show p ≤ 1000000 by omega)]
    cases V1 (fil ω) (atV M j) <;> rfl
   unfold del
   split
   · rename_i hb
     rw [hb, if_pos rfl] at key
     exact .more key (cg5 hf hN hn n (p + 1) (j + 1) _ (by rw [List.length_set, hM]) (by omega) (by omega))
   · rename_i hb
     rw [if_neg hb] at key
     exact .more key (cg5 hf hN hn n p (j + 1) M hM (by omega) (by omega))
theorem aX9 {f : Val → Bool} {L : List Val} {i : Nat} (hi : i < L.length) (h1 : ∀ k, k < i → f (atV L k) = true) (h2 : f (atV L i) = false) : L.filter f = L.take i ++ (L.drop (i + 1)).filter f := by
 have hd : L.drop i = atV L i :: L.drop (i + 1) := aO0 (n := L.length - (i + 1)) (by omega)
 have ht : (L.take i).filter f = L.take i := by
  rw [List.filter_eq_self]
  intro v hv
  obtain ⟨k, hk, rfl⟩ := List.getElem_of_mem hv
  have hk' : k < i := by rw [List.length_take] at hk; omega
  have := h1 k hk'
  unfold atV at this
  rw [List.getD_eq_getElem?_getD, List.getElem?_eq_getElem (by omega)] at this
  rw [List.getElem_take]; exact this
 conv => lhs; rw [← List.take_append_drop i L, List.filter_append, ht, hd, List.filter_cons, if_neg (by rw [h2]; simp)]
theorem bq9 {f : Val → Bool} {L : List Val} (h : ∀ k, k < L.length → f (atV L k) = true) : L.filter f = L := by
 rw [List.filter_eq_self]
 intro v hv
 obtain ⟨k, hk, rfl⟩ := List.getElem_of_mem hv
 have := h k hk
 unfold atV at this
 rw [List.getD_eq_getElem?_getD, List.getElem?_eq_getElem hk] at this
 exact this
theorem cg6 {f : Val → Bool} {L M : List Val} (h : L.all f = true) (hs : ∀ v ∈ M, v ∈ L) : M.all f = true := List.all_eq_true.2 fun v hv => List.all_eq_true.1 h v (hs v hv)
theorem ct5 {ω : Opq} (hf : ∀ i a, ω.f i a = F i a) (hn : (ω.w 5).toL.length ≤ 100) (ho : (isL (ω.w 5) && (ω.w 5).toL.all okP) = true) : j3 bh8 ω = some (0, [F 312 [ω.w 0, ω.w 1, ω.w 2, ω.w 3, ω.w 4, ω.w 5]]) := by
 obtain ⟨hl, ha⟩ := g9 ho
 have e5 : ω.w 5 = .vl (ω.w 5).toL := bM5 hl
 have hF : F 312 [ω.w 0, ω.w 1, ω.w 2, ω.w 3, ω.w 4, ω.w 5] = .vl (srt (V2 (fil ω)) ((ω.w 5).toL.filter (V1 (fil ω)))) := rfl
 have h311 : ∀ v : Val, F 311 [ω.w 0, ω.w 1, ω.w 2, ω.w 3, ω.w 4, v] = .vl (srt (V2 (fil ω)) v.toL) := fun _ => rfl
 have h310 : ∀ v : Val, F 310 [v] = .vb (isL v && v.toL.all okP) := fun _ => rfl
 have hlp := cD7 hf hn
 have h313 : F 313 [.vi 0, .vi 0, .vi (ω.w 5).toL.length, ω.w 5, ω.w 0, ω.w 1, ω.w 2, ω.w 3, ω.w 4, .vi (ω.w 5).toL.length] = Q7 (aN0 (.vi 0) (fun i => [.vi i, .vi i]) (fun i => !V1 (fil ω) (atV (ω.w 5).toL i)) (ω.w 5).toL.length) := rfl
 rw [hF]
 unfold bh8
 refine i5 (a10 (decide_eq_true (show ((ω.w 5).toL.length : Int) ≤ 100 by omega)) (by show (ω.f 303 [ω.w 5]).toB = true; rw [hf]; exact hl)) ?_
 cases hfd : (List.range (ω.w 5).toL.length).find? (fun i => !V1 (fil ω) (atV (ω.w 5).toL i)) with
 | none =>
   have hs : aN0 (.vi 0) (fun i => [.vi i, .vi i]) (fun i => !V1 (fil ω) (atV (ω.w 5).toL i)) (ω.w 5).toL.length = (0, [.vi 0, .vi (ω.w 5).toL.length]) := by unfold aN0; rw [hfd]
   rw [hs] at hlp h313
   have hall : (ω.w 5).toL.filter (V1 (fil ω)) = (ω.w 5).toL := bq9 fun k hk => by
    rw [List.find?_range_eq_none] at hfd
    simpa using hfd k hk
   have d1 : den ω af7 = .vl (srt (V2 (fil ω)) (ω.w 5).toL) := by
    show ω.f 311 [ω.w 0, ω.w 1, ω.w 2, ω.w 3, ω.w 4, ω.w 5] = _
    rw [hf, h311]
   rw [hall]
   refine p6 (r := (0, [.vi 0, .vi (ω.w 5).toL.length])) hlp ?_ ?_
   · show ω.f 313 [.vi 0, .vi 0, .vi (ω.w 5).toL.length, ω.w 5, ω.w 0, ω.w 1, ω.w 2, ω.w 3, ω.w 4, .vi (ω.w 5).toL.length] = _
     rw [hf, h313]
   · show j3 (.need bh5 (.need bh6 (.ret 0 [af7]))) ω = _
     refine i5 (a10 (decide_eq_true (show ((ω.w 5).toL.length : Int) ≤ 1000000 by omega)) (by show (ω.f 310 [ω.w 5]).toB = true; rw [hf, h310]; exact ho)) (i5 ?_ ?_)
     · show decide (((ω.w 5).toL.length : Int) = ((den ω af7).toL.length : Int)) = true
       rw [d1, j4, aN9]; exact decide_eq_true rfl
     · show some (0, [den ω af7]) = _
       rw [d1]
 | some i =>
   obtain ⟨hi, hb, hlt⟩ := ad3 hfd
   have hs : aN0 (.vi 0) (fun i => [.vi i, .vi i]) (fun i => !V1 (fil ω) (atV (ω.w 5).toL i)) (ω.w 5).toL.length = (1, [.vi i, .vi i]) := by unfold aN0; rw [hfd]
   rw [hs] at hlp h313
   have hsplit := aX9 (f := V1 (fil ω)) hi (fun k hk => by simpa using hlt k hk) (by simpa using hb)
   have hnorm : ∀ v ∈ (ω.w 5).toL, J3 v = v := fun v hv => ak1 (aE4 (aX7 ha hv)).1
   have hdt := aO1 (fil ω) ((ω.w 5).toL.length - (i + 1)) i (i + 1) (ω.w 5).toL (by omega) (by omega) (fun v hv => hnorm v (List.mem_of_mem_drop hv))
   have hdl := b87 (fil ω) ((ω.w 5).toL.length - (i + 1)) i (i + 1) (ω.w 5).toL
   have hde := bM4 (fil ω) ((ω.w 5).toL.length - (i + 1)) i (i + 1) (ω.w 5).toL
   rw [← hsplit] at hdt
   have hit := cg5 hf (N := (ω.w 5).toL.length) rfl hn ((ω.w 5).toL.length - (i + 1)) i (i + 1) (ω.w 5).toL rfl (by omega) (by omega)
   have h314 : F 314 [.vi i, .vi (i + 1 : Nat), ω.w 5, .vi (ω.w 5).toL.length, ω.w 5, ω.w 0, ω.w 1, ω.w 2, ω.w 3, ω.w 4] = Q7 (0, [.vi (del (fil ω) i (i + 1) (ω.w 5).toL ((ω.w 5).toL.length - (i + 1))).1, .vi (ω.w 5).toL.length, .vl (del (fil ω) i (i + 1) (ω.w 5).toL ((ω.w 5).toL.length - (i + 1))).2]) := rfl
   generalize hdv : del (fil ω) i (i + 1) (ω.w 5).toL ((ω.w 5).toL.length - (i + 1)) = D at hdt hdl hde hit h314
   obtain ⟨p, M⟩ := D
   simp only at hdt hdl hde hit h314
   have d3 : den ω X1 = .vi i := by
    show A5 (ω.f 313 [.vi 0, .vi 0, .vi (ω.w 5).toL.length, ω.w 5, ω.w 0, ω.w 1, ω.w 2, ω.w 3, ω.w 4, .vi (ω.w 5).toL.length]).toL 1 0 = _
    rw [hf, h313]; rfl
   have d4 : den ω aD7 = .vi (i + 1 : Nat) := by
    show Val.vi (arI .add .i64 (den ω X1).toI 1) = _
    rw [d3, j1, aX8 (by omega)]
   have d5 : den ω aW2 = Q7 (0, [.vi p, .vi (ω.w 5).toL.length, .vl M]) := by
    show ω.f 314 [den ω X1, den ω aD7, ω.w 5, .vi (ω.w 5).toL.length, ω.w 5, ω.w 0, ω.w 1, ω.w 2, ω.w 3, ω.w 4] = _
    rw [d3, d4, hf, h314]
   have d6 : den ω C8 = .vi p := by show A5 (den ω aW2).toL 1 0 = _; rw [d5]; rfl
   have d10 : den ω G7 = .vl M := by show A5 (den ω aW2).toL 1 2 = _; rw [d5]; rfl
   have d8 : dI ω a08 = ((ω.w 5).toL.length : Int) - p := by show ((ω.w 5).toL.length : Int) - dI ω C8 = _; rw [show dI ω C8 = (den ω C8).toI from rfl, d6]; rfl
   have i6 : dI ω C8 = p := by show (den ω C8).toI = _; rw [d6]; rfl
   have i9 : dI ω aD8 = ((ω.w 5).toL.length : Int) := by show dI ω C8 + dI ω a08 = _; rw [i6, d8]; omega
   have l10 : dL ω G7 = M := by show (den ω G7).toL = _; rw [d10]; rfl
   have hpM : p ≤ M.length := by omega
   have htl : (M.take p).length = p := by rw [List.length_take]; omega
   obtain ⟨Z, hZ⟩ : ∃ Z, dL ω ad2 = M.take p ++ Z := by
    have hcat : dL ω ad2 = ((dL ω G7).drop (0 : Int).toNat).take (dI ω C8 - 0).toNat ++ dL ω (.op .lcat [.op .lrep [a08, .op .row [.cs [], .ci 0, .ci 0]], .op .lsub [G7, aD8, .op .llen [G7]]]) := rfl
    refine ⟨dL ω (.op .lcat [.op .lrep [a08, .op .row [.cs [], .ci 0, .ci 0]], .op .lsub [G7, aD8, .op .llen [G7]]]), hcat.trans ?_⟩
    rw [l10, i6, show (0 : Int).toNat = 0 from rfl, List.drop_zero, show ((p : Int) - 0).toNat = p by omega]
   have l12 : den ω a32 = .vl ((ω.w 5).toL.filter (V1 (fil ω))) := by
    show Val.vl (((dL ω ad2).drop (0 : Int).toNat).take (dI ω C8 - 0).toNat) = _
    rw [hZ, i6, show (0 : Int).toNat = 0 from rfl, List.drop_zero, show ((p : Int) - 0).toNat = p by omega]
    have : (M.take p ++ Z).take p = M.take p := by
     rw [List.take_append_of_le_length (by omega), List.take_take, Nat.min_self]
    rw [this, hdt]
   have hfl : ((ω.w 5).toL.filter (V1 (fil ω))).length = p := by rw [← hdt, htl]
   have d13 : den ω au0 = .vl (srt (V2 (fil ω)) ((ω.w 5).toL.filter (V1 (fil ω)))) := by
    show ω.f 311 [ω.w 0, ω.w 1, ω.w 2, ω.w 3, ω.w 4, den ω a32] = _
    rw [l12, hf, h311]; rfl
   have g7 : dB ω bh7 = true := by show decide (0 ≤ dI ω C8) = true; rw [i6]; exact decide_eq_true (by omega)
   refine p6 (r := (1, [.vi i, .vi i])) hlp ?_ ?_
   · show ω.f 313 [.vi 0, .vi 0, .vi (ω.w 5).toL.length, ω.w 5, ω.w 0, ω.w 1, ω.w 2, ω.w 3, ω.w 4, .vi (ω.w 5).toL.length] = _
     rw [hf, h313]
   · refine (m8 (x := .need bh5 (.need bh6 (.ret 0 [af7]))) (e := .op (.cmp .eql) [X1, .ci (-1)]) ?_ ?_)
     · show decide ((den ω X1).toI = -1) = false
       rw [d3, j1]; exact decide_eq_false (by omega)
     · refine p6 (r := (0, [.vi p, .vi (ω.w 5).toL.length, .vl M])) ?_ ?_ ?_
       · show A0 _ [den ω X1, den ω aD7, ω.w 5] = _
         rw [d3, d4, e5, x9]
         rw [j4]
         exact hit
       · show ω.f 314 [den ω X1, den ω aD7, ω.w 5, .vi (ω.w 5).toL.length, ω.w 5, ω.w 0, ω.w 1, ω.w 2, ω.w 3, ω.w 4] = _
         rw [d3, d4, hf, h314]
       · refine i5 (a10 g7 ?_) (i5 (a10 (a10 g7 ?_) (a10 ?_ ?_)) (i5 (a10 (a10 g7 ?_) (a10 ?_ ?_)) (i5 ?_ ?_)))
         · show decide (dI ω C8 ≤ ((ω.w 5).toL.length : Int)) = true
           rw [i6]; exact decide_eq_true (by omega)
         · show decide (0 ≤ dI ω a08) = true
           rw [d8]; exact decide_eq_true (by omega)
         · show decide (dI ω a08 ≤ 1000000) = true
           rw [d8]; exact decide_eq_true (by omega)
         · show decide (dI ω aD8 ≤ ((dL ω G7).length : Int)) = true
           rw [i9, l10, hdl]; exact decide_eq_true (Int.le_refl _)
         · show decide (dI ω C8 ≤ ((dL ω ad2).length : Int)) = true
           rw [i6, hZ, List.length_append, htl]; exact decide_eq_true (by omega)
         · show decide (((den ω a32).toL.length : Int) ≤ 1000000) = true
           rw [l12, j4, hfl]; exact decide_eq_true (by omega)
         · show (ω.f 310 [den ω a32]).toB = true
           rw [hf, h310, l12]
           exact a10 rfl (cg6 ha fun v hv => (List.mem_filter.1 hv).1)
         · show decide (dI ω C8 = ((den ω au0).toL.length : Int)) = true
           rw [i6, d13, j4, aN9, hfl]; exact decide_eq_true rfl
         · show some (0, [den ω au0]) = _
           rw [d13]
theorem cD8 : (3000 ≤ 3000) = True := by simp
theorem cD9 : (3000 ≤ 3001) = True := by simp
theorem cE0 : (3000 ≤ 2001) = False := by simp
theorem cE1 : (3000 ≤ 2002) = False := by simp
theorem y0 : (3000 ≤ 0) = False := by simp
theorem y5 : (3000 ≤ 5) = False := by simp
theorem cg7 {ω : Opq} (hf : ∀ i a, ω.f i a = F i a) {i k K : Nat} (hK : K = k + 1) (hKi : K ≤ i) (hi : i ≤ 1000000) (hacc : (ω.w 2002).toL.length = i) {l : List Val} (hl : l.length = i + 1) :
 j3 c49 (ω.upd 3000 [.vi K, .vl l]) = some (if C4 (V2 (fil ω)) (atV l K) (atV l k) then (0, [.vi k, .vl ((l.set k (J3 (atV l K))).set K (J3 (atV l k)))]) else (1, [.vi K, .vl l])) := by
 have e1 := cy5 hK (by omega)
 have p0 : (0 : Int) < K := by omega
 have p1 : (0 : Int) ≤ K := by omega
 have p2 : (K : Int) < ((i + 1 : Nat) : Int) := by omega
 have p3 : (0 : Int) ≤ k := by omega
 have p4 : (k : Int) < ((i + 1 : Nat) : Int) := by omega
 have hs : decide ((ω.w 0).toI = 3) = V2 (fil ω) := rfl
 unfold c49
 simp only [j3, k5, den, dB, A1, U6, cD8, cD9, cE0, cE1, y0, y5, if_true, if_false, show 3000 - 3000 = 0 from rfl, show 3001 - 3000 = 1 from rfl, List.getD_cons_zero, List.getD_cons_succ, j1, j4, p9, e1, aE1, aE2, aE3, ce9, hf, p5, ct4, aO3, P9, l9, l4, List.length_append, List.length_cons, List.length_nil, hacc, hl, List.length_set, p0, p1, p2, p3, p4, decide_true, Bool.and_true, Int.toNat_natCast, hs]
 cases C4 (V2 (fil ω)) (atV l K) (atV l k) <;> rfl
theorem ct6 {ω : Opq} (hf : ∀ i a, ω.f i a = F i a) {i : Nat} (hi : i ≤ 1000000) (hacc : (ω.w 2002).toL.length = i) : ∀ (k : Nat), k ≤ i → ∀ l : List Val, l.length = i + 1 →
 A0 (fun vs => j3 c49 (ω.upd 3000 vs)) [.vi k, .vl l] = some (0, [.vi (bub (V2 (fil ω)) l k).1, .vl (bub (V2 (fil ω)) l k).2])
 | 0, _, l, hl => by
   rw [x9]
   refine .out ?_
   show j3 c49 (ω.upd 3000 [.vi 0, .vl l]) = _
   simp [c49, j3, k5, den, dB, A1, U6, bub]
 | k + 1, hk, l, hl => by
   have hs := cg7 hf (K := k + 1) rfl hk hi hacc hl
   rw [x9]
   cases hc : C4 (V2 (fil ω)) (atV l (k + 1)) (atV l k) with
   | true =>
     rw [hc, if_pos rfl] at hs
     have ih := ct6 hf hi hacc k (by omega) (bq6 l k) (by rw [aX6, hl])
     rw [x9] at ih
     refine .more hs ?_
     unfold bub
     rw [hc, if_pos rfl]
     exact ih
   | false =>
     rw [hc, if_neg (by simp)] at hs
     refine .out ?_
     show j3 c49 (ω.upd 3000 [.vi (k + 1 : Nat), .vl l]) = _
     unfold bub
     rw [hc, if_neg (by simp), hs]
def bM7 : SX := .op .row [.op .lget [.va 5, .va 2001, .ci 0], .op .lget [.va 5, .va 2001, .ci 1], .op .lget [.va 5, .va 2001, .ci 2]]
def J4 : SX := .op .lcat [.va 2002, .op .row [bM7]]
def cg8 : SX := .op (.ar .sub .i64) [.op .llen [J4], .ci 1]
def bZ5 : List SX := [.ci 0, .op .llen [.va 5], .va 5, .va 0, .va 1, .va 2, .va 3, .va 4, .op .llen [J4], J4, .va 2001]
def aw9 : SX := .op .lget [.app 319 (cg8 :: J4 :: bZ5), .ci 1, .ci 1]
def bj7 : SX := .app 304 [.va 0, .va 1, .va 2, .va 3, .va 4, .op .lget [.va 5, .va 2001, .ci 0], .op .lget [.va 5, .va 2001, .ci 1], .op .lget [.va 5, .va 2001, .ci 2]]
theorem bM8 : cx7 = .ite (.op (.cmp .lss) [.va 2001, .op .llen [.va 5]]) (.need (.op (.cmp .leq) [.ci 0, .va 2001]) (.ite (.op .not [bj7]) (.ret 0 [.va 2000, .op (.ar .add .i64) [.va 2001, .ci 1], .va 2002]) (.need (.op .and [.op (.cmp .eql) [.va 2000, .op .llen [.va 2002]], .op (.cmp .leq) [.op .llen [J4], .ci 1000000]]) (.loop ⟨319, [cg8, J4], 3000, bZ5⟩ c49 [.need (.op (.cmp .eql) [.op .llen [J4], .op .llen [aw9]]) (.ret 0 [.op .llen [aw9], .op (.ar .add .i64) [.va 2001, .ci 1], aw9])])))) (.ret 1 [.va 2000, .va 2001, .va 2002]) := rfl
noncomputable def E3 (ω : Opq) (i : Nat) : List Val := srt (V2 (fil ω)) (((ω.w 5).toL.take i).filter (V1 (fil ω)))
theorem bM9 {L : List Val} {i : Nat} (hi : i < L.length) : L.take (i + 1) = L.take i ++ [atV L i] := by
 rw [List.take_add_one]
 unfold atV
 rw [List.getD_eq_getElem?_getD, List.getElem?_eq_getElem hi]; rfl
theorem cg9 {ω : Opq} (hf : ∀ i a, ω.f i a = F i a) {i : Nat} (hi : i < (ω.w 5).toL.length) (hn : (ω.w 5).toL.length ≤ 100) (ho : (ω.w 5).toL.all okP = true) :
 j3 cx7 (ω.upd 2000 [.vi (E3 ω i).length, .vi i, .vl (E3 ω i)]) = some (0, [.vi (E3 ω (i + 1)).length, .vi (i + 1 : Nat), .vl (E3 ω (i + 1))]) := by
 obtain ⟨A, hA⟩ : ∃ A, E3 ω i = A := ⟨_, rfl⟩
 have hal : A.length ≤ 100 := by
  rw [← hA, E3, aN9]
  have h1 := List.length_filter_le (V1 (fil ω)) ((ω.w 5).toL.take i)
  have h2 := List.length_take_le i (ω.w 5).toL
  omega
 have hmem : atV (ω.w 5).toL i ∈ (ω.w 5).toL := by
  unfold atV
  rw [List.getD_eq_getElem?_getD, List.getElem?_eq_getElem hi]
  exact List.getElem_mem hi
 have hx := ak1 (aE4 (aX7 ho hmem)).1
 obtain ⟨x, hxd⟩ : ∃ x, atV (ω.w 5).toL i = x := ⟨_, rfl⟩
 rw [hxd] at hx
 have hstep : E3 ω (i + 1) = if V1 (fil ω) x then (bub (V2 (fil ω)) (A ++ [x]) A.length).2 else A := by
  rw [← hA]
  unfold E3
  rw [bM9 hi, hxd, List.filter_append]
  by_cases hh : V1 (fil ω) x = true
  · have hnorm : ∀ y ∈ dsc (V2 (fil ω)) (((ω.w 5).toL.take i).filter (V1 (fil ω))), J3 y = y := fun y hy => by
     have : y ∈ srt (V2 (fil ω)) (((ω.w 5).toL.take i).filter (V1 (fil ω))) := List.mem_reverse.2 hy
     have := (List.mem_filter.1 ((ak2 _ _).mem_iff.1 this)).1
     exact ak1 (aE4 (aX7 ho (List.mem_of_mem_take this))).1
    have hb := bM3 (V2 (fil ω)) x hx (dsc (V2 (fil ω)) (((ω.w 5).toL.take i).filter (V1 (fil ω)))) [] hnorm
    rw [if_pos hh, List.filter_cons, if_pos hh, List.filter_nil]
    unfold srt
    rw [cg0, List.length_reverse, hb, List.append_nil]
  · rw [if_neg hh, List.filter_cons, if_neg hh, List.filter_nil, List.append_nil]
 rw [hA]
 obtain ⟨ω', hω⟩ : ∃ ω', ω' = ω.upd 2000 [.vi A.length, .vi i, .vl A] := ⟨_, rfl⟩
 have v0 : ω'.w 2000 = .vi A.length := by rw [hω]; rfl
 have v1 : ω'.w 2001 = .vi i := by rw [hω]; rfl
 have v2 : ω'.w 2002 = .vl A := by rw [hω]; rfl
 have u5 : ω'.w 5 = ω.w 5 := by rw [hω]; rfl
 have uf : fil ω' = fil ω := by rw [hω]; rfl
 have hf' : ∀ i a, ω'.f i a = F i a := by rw [hω]; exact hf
 rw [← hω, bM8]
 have r0 : den ω' bM7 = .vl [ah0 x 0, ah0 x 1, ah0 x 2] := by
  show Val.vl [A5 (ω'.w 5).toL (ω'.w 2001).toI 0, A5 (ω'.w 5).toL (ω'.w 2001).toI 1, A5 (ω'.w 5).toL (ω'.w 2001).toI 2] = _
  rw [u5, v1, j1, aE1, aE2, aE3, hxd]
 have r1 : den ω' J4 = .vl (A ++ [x]) := by
  show Val.vl ((ω'.w 2002).toL ++ [den ω' bM7]) = _
  rw [v2, r0, aO3, hx]; rfl
 have hl1 : (A ++ [x]).length = A.length + 1 := by simp
 have r2 : den ω' cg8 = .vi A.length := by
  show Val.vi (arI .sub .i64 ((den ω' J4).toL.length : Int) 1) = _
  rw [r1, j4, hl1, cy5 (k := A.length) rfl (by omega)]
 have r3 : dB ω' bj7 = V1 (fil ω) x := by
  show (ω'.f 304 [ω'.w 0, ω'.w 1, ω'.w 2, ω'.w 3, ω'.w 4, A5 (ω'.w 5).toL (ω'.w 2001).toI 0, A5 (ω'.w 5).toL (ω'.w 2001).toI 1, A5 (ω'.w 5).toL (ω'.w 2001).toI 2]).toB = _
  rw [hf', u5, v1, j1, aE1, aE2, aE3, hxd, cg4, ← uf]; rfl
 have hadd : arI .add .i64 (ω'.w 2001).toI 1 = ((i + 1 : Nat) : Int) := by rw [v1, j1, aX8 (by omega)]
 refine m7 (by show decide ((ω'.w 2001).toI < ((ω'.w 5).toL.length : Int)) = true; rw [v1, u5, j1]; exact decide_eq_true (by omega)) (i5 (by show decide ((0 : Int) ≤ (ω'.w 2001).toI) = true; rw [v1, j1]; exact decide_eq_true (by omega)) ?_)
 by_cases hh : V1 (fil ω) x = true
 · rw [if_pos hh] at hstep
   rw [hstep]
   have hbl := bM2 (V2 (fil ω)) A.length (A ++ [x])
   have h319 : ∀ a b c d e f g h : Val, F 319 [.vi A.length, .vl (A ++ [x]), a, b, c, ω'.w 0, d, e, f, g, h, .vl (A ++ [x]), .vi i] = Q7 (0, [.vi (bub (V2 (fil ω')) (A ++ [x]) A.length).1, .vl (bub (V2 (fil ω')) (A ++ [x]) A.length).2]) := fun _ _ _ _ _ _ _ _ => rfl
   have e319 : ω'.f 319 (k5 ω' (cg8 :: J4 :: bZ5)) = Q7 (0, [.vi (bub (V2 (fil ω)) (A ++ [x]) A.length).1, .vl (bub (V2 (fil ω)) (A ++ [x]) A.length).2]) := by
    show ω'.f 319 [den ω' cg8, den ω' J4, .vi 0, .vi (ω'.w 5).toL.length, ω'.w 5, ω'.w 0, ω'.w 1, ω'.w 2, ω'.w 3, ω'.w 4, .vi (den ω' J4).toL.length, den ω' J4, ω'.w 2001] = _
    rw [hf', r2, r1, v1, h319, uf]
   have r4 : den ω' aw9 = .vl (bub (V2 (fil ω)) (A ++ [x]) A.length).2 := by
    show A5 (ω'.f 319 (k5 ω' (cg8 :: J4 :: bZ5))).toL 1 1 = _
    rw [e319]; rfl
   refine m8 (by show (!dB ω' bj7) = false; rw [r3, hh]; rfl) (i5 (a10 ?_ ?_) (p6 (r := (0, [.vi (bub (V2 (fil ω)) (A ++ [x]) A.length).1, .vl (bub (V2 (fil ω)) (A ++ [x]) A.length).2])) ?_ e319 ?_))
   · show decide ((ω'.w 2000).toI = ((ω'.w 2002).toL.length : Int)) = true
     rw [v0, v2]; exact decide_eq_true rfl
   · show decide (((den ω' J4).toL.length : Int) ≤ 1000000) = true
     rw [r1, j4, hl1]; exact decide_eq_true (by omega)
   · show A0 _ [den ω' cg8, den ω' J4] = _
     rw [r2, r1]
     have := ct6 hf' (i := A.length) (by omega) (by rw [v2]; rfl) A.length (Nat.le_refl _) (A ++ [x]) hl1
     rw [uf] at this
     exact this
   · refine i5 ?_ ?_
     · show decide (((den ω' J4).toL.length : Int) = ((den ω' aw9).toL.length : Int)) = true
       rw [r1, r4, j4, j4, hbl]; exact decide_eq_true rfl
     · show some (0, [Val.vi ((den ω' aw9).toL.length : Int), Val.vi (arI .add .i64 (ω'.w 2001).toI 1), den ω' aw9]) = _
       rw [r4, hadd, j4]
 · rw [if_neg hh] at hstep
   rw [hstep]
   refine m7 (by show (!dB ω' bj7) = true; rw [r3]; simpa using hh) ?_
   show some (0, [ω'.w 2000, Val.vi (arI .add .i64 (ω'.w 2001).toI 1), ω'.w 2002]) = _
   rw [v0, v2, hadd]
theorem ch0 {ω : Opq} (hf : ∀ i a, ω.f i a = F i a) (hn : (ω.w 5).toL.length ≤ 100) (ho : (isL (ω.w 5) && (ω.w 5).toL.all okP) = true) : j3 aL2 ω = some (0, [F 312 [ω.w 0, ω.w 1, ω.w 2, ω.w 3, ω.w 4, ω.w 5]]) := by
 obtain ⟨hl, ha⟩ := g9 ho
 have hF : F 312 [ω.w 0, ω.w 1, ω.w 2, ω.w 3, ω.w 4, ω.w 5] = .vl (E3 ω (ω.w 5).toL.length) := by unfold E3; rw [List.take_length]; rfl
 have h318 : F 318 [.vi 0, .vi 0, .vl [], .vi 0, .vi (ω.w 5).toL.length, ω.w 5, ω.w 0, ω.w 1, ω.w 2, ω.w 3, ω.w 4] = Q7 (0, [.vi (E3 ω (ω.w 5).toL.length).length, .vi (ω.w 5).toL.length, .vl (E3 ω (ω.w 5).toL.length)]) := by unfold E3; rw [List.take_length]; rfl
 have d0 : den ω au1 = Q7 (0, [.vi (E3 ω (ω.w 5).toL.length).length, .vi (ω.w 5).toL.length, .vl (E3 ω (ω.w 5).toL.length)]) := by
  show ω.f 318 [.vi 0, .vi 0, .vl [], .vi 0, .vi (ω.w 5).toL.length, ω.w 5, ω.w 0, ω.w 1, ω.w 2, ω.w 3, ω.w 4] = _
  rw [hf, h318]
 have d1 : den ω au2 = .vl (E3 ω (ω.w 5).toL.length) := by show A5 (den ω au1).toL 1 2 = _; rw [d0]; rfl
 rw [hF]
 unfold aL2
 refine p6 (r := (0, [.vi (E3 ω (ω.w 5).toL.length).length, .vi (ω.w 5).toL.length, .vl (E3 ω (ω.w 5).toL.length)])) ?_ d0 ?_
 · refine O5 (fun i => [.vi (E3 ω i).length, .vi i, .vl (E3 ω i)]) (n := (ω.w 5).toL.length) rfl (fun i hi => cg9 hf hi hn ha) ?_
   show j3 cx7 (ω.upd 2000 [_, .vi (ω.w 5).toL.length, _]) = _
   rw [bM8]
   refine m8 ?_ rfl
   show decide ((((ω.w 5).toL.length : Nat) : Int) < ((ω.w 5).toL.length : Int)) = false
   exact decide_eq_false (by omega)
 · refine i5 ?_ ?_
   · show decide ((A5 (den ω au1).toL 1 0).toI = ((den ω au2).toL.length : Int)) = true
     rw [d0, d1]; exact decide_eq_true rfl
   · show some (0, [den ω au2]) = _
     rw [d1]
theorem ch1 {step : List Val → Option (Nat × List Val)} {st px : Nat → List Val} {bad : Nat → Bool} {n : Nat}
 (h1 : ∀ i, i < n → bad i = false → step (st i) = some (0, st (i + 1))) (h2 : ∀ i, i < n → bad i = true → step (st i) = some (2, px i))
 (h3 : step (st n) = some (1, st n)) : A0 step (st 0) = some (match (List.range n).find? bad with
  | some i => (1, px i)
  | none => (0, st n)) := by
 split
 · rename_i i hi
   obtain ⟨a, b, c⟩ := ad3 hi
   exact av7 (st := st) (n := i) (fun k hk => h1 k (by omega) (c k hk)) (h2 i a b)
 · rename_i hn
   rw [List.find?_range_eq_none] at hn
   exact av7 (st := st) (n := n) (fun k hk => h1 k hk (by simpa using hn k hk)) h3
theorem cE2 {ω : Opq} (hf : ∀ i a, ω.f i a = F i a) (hn : (ω.w 5).toL.length ≤ 30) : A0 (fun vs => j3 c50 (ω.upd 2000 vs)) [.vb false, .vi 0, .vi 0, .vl []] = some (X6 (fil ω) (ω.w 5).toL) := by
 have key : ∀ i : Nat, i < (ω.w 5).toL.length → ∀ A : List Val, A.length = i → j3 c50 (ω.upd 2000 [.vb false, .vi i, .vi i, .vl A]) = some (if cg1 (fil ω) (atV (ω.w 5).toL i) then (0, [.vb false, .vi (i + 1 : Nat), .vi (i + 1 : Nat), .vl (A ++ [J3 (atV (ω.w 5).toL i)])]) else (2, [.vb true, .vi i, .vi i, .vl A])) := fun i hi A hA => by
  have p1 : (i : Int) < ((ω.w 5).toL.length : Int) := by omega
  have p2 : (0 : Int) ≤ (i : Int) := by omega
  have p3 : ((i + 1 : Nat) : Int) ≤ 1000000 := by omega
  have hF : cg1 (fil ω) (atV (ω.w 5).toL i) = (decide ((ω.w 1).toS.length ≤ 100) && decide ((ω.w 2).toS.length ≤ 100) && decide ((ah0 (atV (ω.w 5).toL i) 0).toS.length ≤ 100)) := rfl
  have hc : ∀ l : List UInt8, decide ((l.length : Int) ≤ 100) = decide (l.length ≤ 100) := fun l => by
   by_cases h : l.length ≤ 100
   · rw [decide_eq_true h, decide_eq_true (by omega)]
   · rw [decide_eq_false h, decide_eq_false (by omega)]
  rw [hF]
  unfold c50
  simp only [j3, k5, den, dB, A1, U6, bq8, bM6, bZ4, cD6, w1, w2, w5, if_true, if_false, show 2000 - 2000 = 0 from rfl, show 2001 - 2000 = 1 from rfl, show 2002 - 2000 = 2 from rfl, show 2003 - 2000 = 3 from rfl, List.getD_cons_zero, List.getD_cons_succ, j1, j4, p9, l4, l9, p5, p1, p2, p3, decide_true, Bool.and_self, aE1, aE2, aE3, aO3, List.length_append, List.length_cons, List.length_nil, hA, Nat.zero_add, hc, aX8 (show i ≤ 1000000 by omega)]
  cases decide ((ω.w 1).toS.length ≤ 100) <;> cases decide ((ω.w 2).toS.length ≤ 100) <;> cases decide ((ah0 (atV (ω.w 5).toL i) 0).toS.length ≤ 100) <;> rfl
 have hlen : ∀ i : Nat, i ≤ (ω.w 5).toL.length → (((ω.w 5).toL.take i).map J3).length = i := fun i hi => by
  rw [List.length_map, List.length_take]; omega
 have := ch1 (step := fun vs => j3 c50 (ω.upd 2000 vs)) (st := fun i => [.vb false, .vi i, .vi i, .vl (((ω.w 5).toL.take i).map J3)]) (px := fun i => [.vb true, .vi i, .vi i, .vl (((ω.w 5).toL.take i).map J3)]) (bad := fun i => !cg1 (fil ω) (atV (ω.w 5).toL i)) (n := (ω.w 5).toL.length) (fun i hi hb => by
  show j3 c50 (ω.upd 2000 [.vb false, .vi i, .vi i, .vl (((ω.w 5).toL.take i).map J3)]) = _
  rw [key i hi _ (hlen i (by omega)), if_pos (by simpa using hb), bM9 hi, List.map_append]; rfl) (fun i hi hb => by
  show j3 c50 (ω.upd 2000 [.vb false, .vi i, .vi i, .vl (((ω.w 5).toL.take i).map J3)]) = _
  rw [key i hi _ (hlen i (by omega)), if_neg (by simpa using hb)]) (by
  show j3 c50 (ω.upd 2000 [.vb false, .vi _, .vi (ω.w 5).toL.length, .vl _]) = _
  refine m8 ?_ rfl
  show decide ((((ω.w 5).toL.length : Nat) : Int) < ((ω.w 5).toL.length : Int)) = false
  exact decide_eq_false (by omega))
 refine (show A0 _ _ = _ from this).trans ?_
 unfold X6
 congr 1
 cases (List.range (ω.w 5).toL.length).find? (fun i => !cg1 (fil ω) (atV (ω.w 5).toL i)) with
 | some i => rfl
 | none => simp only [List.take_length]
theorem bN0 : ck1 = .ite (.op (.cmp .lss) [.va 2001, .op .llen [j5]]) (.need (.op (.cmp .leq) [.ci 0, .va 2001]) (.need (.op (.cmp .lss) [.va 2001, .op .llen [.va 2002]]) (.need (.op (.cmp .lss) [.va 2001, .op .llen [j6]]) (.ite (.op .not [.op .and [.op (.scmp .eql) [.op .lget [.va 2002, .va 2001, .ci 0], .op .lget [j6, .va 2001, .ci 0]], .op .and [.op (.cmp .eql) [.op .lget [.va 2002, .va 2001, .ci 1], .op .lget [j6, .va 2001, .ci 1]], .op (.cmp .eql) [.op .lget [.va 2002, .va 2001, .ci 2], .op .lget [j6, .va 2001, .ci 2]]]]]) (.ret 2 [.cb false, .va 2001, .va 2002]) (.ret 0 [.va 2000, .op (.ar .add .i64) [.va 2001, .ci 1], .op .lset [.va 2002, .va 2001, .op .row [.cs [], .ci 0, .ci 0]]]))))) (.ret 1 [.va 2000, .va 2001, .va 2002]) := rfl
def R9 (G : List Val) (i : Nat) : List Val := List.replicate i aO2 ++ G.drop i
theorem bN1 {G : List Val} {i : Nat} (h : i ≤ G.length) : (R9 G i).length = G.length := by
 unfold R9
 rw [List.length_append, List.length_replicate, List.length_drop]; omega
theorem bZ6 {G : List Val} {i : Nat} (h : i < G.length) : atV (R9 G i) i = atV G i := by
 unfold R9
 rw [b86 _ _ _ (List.length_replicate ..), aO0 (n := G.length - (i + 1)) (by omega)]; rfl
theorem bN2 {G : List Val} {i : Nat} (h : i < G.length) : (R9 G i).set i aO2 = R9 G (i + 1) := by
 unfold R9
 rw [aO0 (n := G.length - (i + 1)) (by omega), List.set_append, if_neg (by simp), List.length_replicate, Nat.sub_self, List.set_cons_zero, List.replicate_succ', List.append_assoc]; rfl
theorem cG3 {a b c : Bool} (h1 : a = true) (h2 : b = true) (h3 : c = true) : (a && (b && c)) = true := by rw [h1, h2, h3]; rfl
theorem cE3 {ω : Opq} {G : List Val} {x : Val} (hn : G.length ≤ 100) (h4 : ∀ vs, den (ω.upd 2000 vs) j5 = .vl G) (h5 : ∀ vs, den (ω.upd 2000 vs) j6 = .vl G) :
 A0 (fun vs => j3 ck1 (ω.upd 2000 vs)) [x, .vi 0, .vl G] = some (0, [x, .vi G.length, .vl (List.replicate G.length aO2)]) := by
 refine O5 (fun i => [x, .vi i, .vl (R9 G i)]) (n := G.length) rfl (fun i hi => ?_) ?_
 · obtain ⟨vs, hv⟩ : ∃ vs : List Val, vs = [x, .vi i, .vl (R9 G i)] := ⟨_, rfl⟩
   show j3 ck1 (ω.upd 2000 [x, .vi i, .vl (R9 G i)]) = _
   have a4 := h4 [x, .vi i, .vl (R9 G i)]
   have a5 := h5 [x, .vi i, .vl (R9 G i)]
   obtain ⟨ω', hω⟩ : ∃ ω', ω' = ω.upd 2000 [x, .vi i, .vl (R9 G i)] := ⟨_, rfl⟩
   rw [← hω] at a4 a5 ⊢
   have u0 : ω'.w 2000 = x := by rw [hω]; rfl
   have u1 : ω'.w 2001 = .vi i := by rw [hω]; rfl
   have u2 : ω'.w 2002 = .vl (R9 G i) := by rw [hω]; rfl
   have hg : ∀ j : Int, A5 (ω'.w 2002).toL (ω'.w 2001).toI j = A5 (den ω' j6).toL (ω'.w 2001).toI j := fun j => by
    rw [u1, u2, a5, j1, j4, j4]
    show (atV (R9 G i) i).toL.getD j.toNat default = (atV G i).toL.getD j.toNat default
    rw [bZ6 hi]
   rw [bN0]
   refine m7 ?_ (i5 ?_ (i5 ?_ (i5 ?_ (m8 ?_ ?_))))
   · show decide ((ω'.w 2001).toI < ((den ω' j5).toL.length : Int)) = true
     rw [u1, a4]; exact decide_eq_true (by show (i : Int) < (G.length : Int); omega)
   · show decide ((0 : Int) ≤ (ω'.w 2001).toI) = true
     rw [u1]; exact decide_eq_true (by show (0 : Int) ≤ (i : Int); omega)
   · show decide ((ω'.w 2001).toI < ((ω'.w 2002).toL.length : Int)) = true
     rw [u1, u2, j4, bN1 (by omega)]; exact decide_eq_true (by show (i : Int) < (G.length : Int); omega)
   · show decide ((ω'.w 2001).toI < ((den ω' j6).toL.length : Int)) = true
     rw [u1, a5]; exact decide_eq_true (by show (i : Int) < (G.length : Int); omega)
   · show (!(decide ((A5 (ω'.w 2002).toL (ω'.w 2001).toI 0).toS = (A5 (den ω' j6).toL (ω'.w 2001).toI 0).toS) && (decide ((A5 (ω'.w 2002).toL (ω'.w 2001).toI 1).toI = (A5 (den ω' j6).toL (ω'.w 2001).toI 1).toI) && decide ((A5 (ω'.w 2002).toL (ω'.w 2001).toI 2).toI = (A5 (den ω' j6).toL (ω'.w 2001).toI 2).toI)))) = false
     rw [hg 0, hg 1, hg 2, cG3 (decide_eq_true rfl) (decide_eq_true rfl) (decide_eq_true rfl)]; rfl
   · show some (0, [ω'.w 2000, Val.vi (arI .add .i64 (ω'.w 2001).toI 1), Val.vl ((ω'.w 2002).toL.set (ω'.w 2001).toI.toNat aO2)]) = _
     rw [u0, u1, u2, j1, aX8 (by omega), Int.toNat_natCast, j4, bN2 hi]
 · show j3 ck1 (ω.upd 2000 [x, .vi G.length, .vl (R9 G G.length)]) = _
   have a4 := h4 [x, .vi G.length, .vl (R9 G G.length)]
   rw [bN0]
   refine m8 ?_ ?_
   · show decide (((G.length : Nat) : Int) < ((den (ω.upd 2000 [x, .vi G.length, .vl (R9 G G.length)]) j5).toL.length : Int)) = false
     rw [a4]; exact decide_eq_false (by show ¬ ((G.length : Nat) : Int) < (G.length : Int); omega)
   · show some (1, [x, Val.vi G.length, Val.vl (R9 G G.length)]) = _
     unfold R9
     rw [List.drop_length, List.append_nil]
theorem bN3 : cs0 = .ite (.op (.cmp .lss) [.va 2001, .op .llen [.va 5]]) (.need (.op (.cmp .leq) [.ci 0, .va 2001]) (.need (.op (.cmp .lss) [.va 2001, k6]) (.need (.op (.cmp .lss) [.va 2001, .op .llen [j7]]) (.ite (.op .not [.op .and [.op (.scmp .eql) [.op .lget [.va 5, .va 2001, .ci 0], .op .lget [j7, .va 2001, .ci 0]], .op .and [.op (.cmp .eql) [.op .lget [.va 5, .va 2001, .ci 1], .op .lget [j7, .va 2001, .ci 1]], .op (.cmp .eql) [.op .lget [.va 5, .va 2001, .ci 2], .op .lget [j7, .va 2001, .ci 2]]]]]) (.ret 2 [.cb false, .va 2001]) (.ret 0 [.va 2000, .op (.ar .add .i64) [.va 2001, .ci 1]]))))) (.ret 1 [.va 2000, .va 2001]) := rfl
theorem cE4 {ω : Opq} {x : Val} (hn : (ω.w 5).toL.length ≤ 100) (h1 : ∀ vs, den (ω.upd 2000 vs) k6 = .vi (ω.w 5).toL.length) (h2 : ∀ vs, den (ω.upd 2000 vs) j7 = .vl (ω.w 5).toL) :
 A0 (fun vs => j3 cs0 (ω.upd 2000 vs)) [x, .vi 0] = some (0, [x, .vi (ω.w 5).toL.length]) := by
 refine O5 (fun i => [x, .vi i]) (n := (ω.w 5).toL.length) rfl (fun i hi => ?_) ?_
 · show j3 cs0 (ω.upd 2000 [x, .vi i]) = _
   have a1 := h1 [x, .vi i]
   have a2 := h2 [x, .vi i]
   obtain ⟨ω', hω⟩ : ∃ ω', ω' = ω.upd 2000 [x, .vi i] := ⟨_, rfl⟩
   rw [← hω] at a1 a2 ⊢
   have u0 : ω'.w 2000 = x := by rw [hω]; rfl
   have u1 : ω'.w 2001 = .vi i := by rw [hω]; rfl
   have u5 : ω'.w 5 = ω.w 5 := by rw [hω]; rfl
   have hg : ∀ j : Int, A5 (ω'.w 5).toL (ω'.w 2001).toI j = A5 (den ω' j7).toL (ω'.w 2001).toI j := fun j => by
    rw [u5, a2]; rfl
   rw [bN3]
   refine m7 ?_ (i5 ?_ (i5 ?_ (i5 ?_ (m8 ?_ ?_))))
   · show decide ((ω'.w 2001).toI < ((ω'.w 5).toL.length : Int)) = true
     rw [u1, u5]; exact decide_eq_true (by show (i : Int) < ((ω.w 5).toL.length : Int); omega)
   · show decide ((0 : Int) ≤ (ω'.w 2001).toI) = true
     rw [u1]; exact decide_eq_true (by show (0 : Int) ≤ (i : Int); omega)
   · show decide ((ω'.w 2001).toI < (den ω' k6).toI) = true
     rw [u1, a1]; exact decide_eq_true (by show (i : Int) < ((ω.w 5).toL.length : Int); omega)
   · show decide ((ω'.w 2001).toI < ((den ω' j7).toL.length : Int)) = true
     rw [u1, a2]; exact decide_eq_true (by show (i : Int) < ((ω.w 5).toL.length : Int); omega)
   · show (!(decide ((A5 (ω'.w 5).toL (ω'.w 2001).toI 0).toS = (A5 (den ω' j7).toL (ω'.w 2001).toI 0).toS) && (decide ((A5 (ω'.w 5).toL (ω'.w 2001).toI 1).toI = (A5 (den ω' j7).toL (ω'.w 2001).toI 1).toI) && decide ((A5 (ω'.w 5).toL (ω'.w 2001).toI 2).toI = (A5 (den ω' j7).toL (ω'.w 2001).toI 2).toI)))) = false
     rw [hg 0, hg 1, hg 2, cG3 (decide_eq_true rfl) (decide_eq_true rfl) (decide_eq_true rfl)]; rfl
   · show some (0, [ω'.w 2000, Val.vi (arI .add .i64 (ω'.w 2001).toI 1)]) = _
     rw [u0, u1, j1, aX8 (by omega)]
 · show j3 cs0 (ω.upd 2000 [x, .vi (ω.w 5).toL.length]) = _
   rw [bN3]
   refine m8 ?_ rfl
   show decide ((((ω.w 5).toL.length : Nat) : Int) < ((ω.w 5).toL.length : Int)) = false
   exact decide_eq_false (by omega)
theorem aY0 {ω : Opq} (hf : ∀ i a, ω.f i a = F i a) (ho : (isL (ω.w 5) && (ω.w 5).toL.all okR) = true) : j3 P5 ω = some (0, [.vb true]) := by
 obtain ⟨hl, ha⟩ := g9 ho
 have e5 : ω.w 5 = .vl (ω.w 5).toL := bM5 hl
 unfold P5
 by_cases h30 : (30 : Int) < ((ω.w 5).toL.length : Int)
 · exact m7 (by show decide ((30 : Int) < ((ω.w 5).toL.length : Int)) = true; exact decide_eq_true h30) rfl
 have hn : (ω.w 5).toL.length ≤ 30 := by omega
 refine m8 (by show decide ((30 : Int) < ((ω.w 5).toL.length : Int)) = false; exact decide_eq_false h30) ?_
 have hlp := cE2 hf hn
 have h315 : ∀ ω' : Opq, (∀ i a, ω'.f i a = F i a) → ω'.w 5 = ω.w 5 → fil ω' = fil ω → den ω' y9 = Q7 (X6 (fil ω) (ω.w 5).toL) := fun ω' h1 h2 h3 => by
  show ω'.f 315 [.vb false, .vi 0, .vi 0, .vl [], .vi 0, .vi (ω'.w 5).toL.length, ω'.w 5, ω'.w 0, ω'.w 1, ω'.w 2, ω'.w 3, ω'.w 4] = _
  rw [h1, ← h3, ← h2]; rfl
 cases hfd : (List.range (ω.w 5).toL.length).find? (fun i => !cg1 (fil ω) (atV (ω.w 5).toL i)) with
 | some i =>
   have hs : X6 (fil ω) (ω.w 5).toL = (1, [.vb true, .vi i, .vi i, .vl (((ω.w 5).toL.take i).map J3)]) := by unfold X6; rw [hfd]
   have d0 := h315 ω hf rfl rfl
   rw [hs] at hlp d0
   refine p6 hlp d0 ?_
   show some (0, [A5 (den ω y9).toL 1 0]) = _
   rw [d0]; rfl
 | none =>
   have hm : (ω.w 5).toL.map J3 = (ω.w 5).toL := by
    rw [List.map_congr_left (fun v hv => ak1 (List.all_eq_true.1 ha v hv))]; simp
   have hs : X6 (fil ω) (ω.w 5).toL = (0, [.vb false, .vi (ω.w 5).toL.length, .vi (ω.w 5).toL.length, .vl (ω.w 5).toL]) := by unfold X6; rw [hfd]; simp only; rw [hm]
   rw [hs] at hlp h315
   have hP : (ω.w 5).toL.all okP = true := List.all_eq_true.2 fun v hv => by
    obtain ⟨k, hk, rfl⟩ := List.getElem_of_mem hv
    rw [List.find?_range_eq_none] at hfd
    have h1 := hfd k hk
    have h2 : cg1 (fil ω) (atV (ω.w 5).toL k) = true := by simpa using h1
    have h3 := (g9 h2).2
    have h4 : (pk (ω.w 5).toL[k]).length ≤ 100 := by
     have := of_decide_eq_true h3
     unfold atV at this
     rw [List.getD_eq_getElem?_getD, List.getElem?_eq_getElem hk] at this
     exact this
    exact a10 (List.all_eq_true.1 ha _ (List.getElem_mem hk)) (decide_eq_true (by omega))
   have key : ∀ ω' : Opq, (∀ i a, ω'.f i a = F i a) → ω'.w 5 = ω.w 5 → fil ω' = fil ω → den ω' k6 = .vi (ω.w 5).toL.length ∧ den ω' j7 = .vl (ω.w 5).toL ∧ den ω' z8 = .vl (ω.w 5).toL ∧ den ω' j5 = .vl (srt (V2 (fil ω)) ((ω.w 5).toL.filter (V1 (fil ω)))) ∧ den ω' j6 = .vl (srt (V2 (fil ω)) ((ω.w 5).toL.filter (V1 (fil ω)))) := fun ω' h1 h2 h3 => by
    have d0 := h315 ω' h1 h2 h3
    have d1 : den ω' k6 = .vi (ω.w 5).toL.length := by show A5 (den ω' y9).toL 1 1 = _; rw [d0]; rfl
    have d2 : den ω' j7 = .vl (ω.w 5).toL := by show A5 (den ω' y9).toL 1 3 = _; rw [d0]; rfl
    have d3 : den ω' z8 = .vl (ω.w 5).toL := by
     show Val.vl (((den ω' j7).toL.drop (0 : Int).toNat).take ((den ω' k6).toI - 0).toNat) = _
     rw [d1, d2, j1, j4, show (0 : Int).toNat = 0 from rfl, List.drop_zero, Int.sub_zero, Int.toNat_natCast, List.take_length]
    refine ⟨d1, d2, d3, ?_, ?_⟩
    · show ω'.f 312 [ω'.w 0, ω'.w 1, ω'.w 2, ω'.w 3, ω'.w 4, ω'.w 5] = _
      rw [h1, ← h3, h2]; rfl
    · show ω'.f 312 [ω'.w 0, ω'.w 1, ω'.w 2, ω'.w 3, ω'.w 4, den ω' z8] = _
      rw [h1, ← h3, d3]; rfl
   obtain ⟨d1, d2, d3, d4, d5⟩ := key ω hf rfl rfl
   have kv : ∀ vs, _ := fun vs => key (ω.upd 2000 vs) hf rfl rfl
   have d0 := h315 ω hf rfl rfl
   obtain ⟨G, hG⟩ : ∃ G, srt (V2 (fil ω)) ((ω.w 5).toL.filter (V1 (fil ω))) = G := ⟨_, rfl⟩
   have hGl : G.length ≤ 100 := by
    rw [← hG, aN9]
    have := List.length_filter_le (V1 (fil ω)) (ω.w 5).toL
    omega
   rw [hG] at kv d4 d5
   have d6 : den ω A9 = .vb false := by show A5 (den ω y9).toL 1 0 = _; rw [d0]; rfl
   have h316 : ∀ x : Val, ω.f 316 [x, .vi 0, .vl G, .vi 0, .vi (ω.w 5).toL.length, ω.w 5, ω.w 0, ω.w 1, ω.w 2, ω.w 3, ω.w 4, den ω k6, den ω j7, .vi (den ω j6).toL.length, den ω j6, .vi (den ω j5).toL.length, den ω j5] = Q7 (0, [x, .vi G.length, .vl (List.replicate G.length aO2)]) := fun x => by rw [hf]; rfl
   have d7 : den ω B0 = .vb false := by
    show A5 (ω.f 316 [den ω A9, .vi 0, den ω j5, .vi 0, .vi (ω.w 5).toL.length, ω.w 5, ω.w 0, ω.w 1, ω.w 2, ω.w 3, ω.w 4, den ω k6, den ω j7, .vi (den ω j6).toL.length, den ω j6, .vi (den ω j5).toL.length, den ω j5]).toL 1 0 = _
    have := h316 (.vb false)
    rw [d6]
    rw [d4] at this ⊢
    rw [this]; rfl
   have d8 : den ω D8 = .vb false := by
    show A5 (ω.f 316 [den ω B0, .vi 0, den ω j5, .vi 0, .vi (ω.w 5).toL.length, ω.w 5, ω.w 0, ω.w 1, ω.w 2, ω.w 3, ω.w 4, den ω k6, den ω j7, .vi (den ω j6).toL.length, den ω j6, .vi (den ω j5).toL.length, den ω j5]).toL 1 0 = _
    have := h316 (.vb false)
    rw [d7]
    rw [d4] at this ⊢
    rw [this]; rfl
   have l6 := cE3 (x := .vb false) hGl (fun vs => (kv vs).2.2.2.1) (fun vs => (kv vs).2.2.2.2)
   have l7 := cE4 (x := .vb false) (show (ω.w 5).toL.length ≤ 100 by omega) (fun vs => (kv vs).1) (fun vs => (kv vs).2.1)
   have h310 : ∀ v : Val, (ω.f 310 [v]).toB = (isL v && v.toL.all okP) := fun v => by rw [hf]; rfl
   refine p6 hlp d0 (i5 (a10 (a10 ?_ ?_) (a10 ?_ ?_)) (i5 (a10 ?_ ?_) (m8 ?_ (p6 (r := (0, [.vb false, .vi G.length, .vl (List.replicate G.length aO2)])) ?_ ?_ (p6 (r := (0, [.vb false, .vi G.length, .vl (List.replicate G.length aO2)])) ?_ ?_ (p6 (r := (0, [.vb false, .vi (ω.w 5).toL.length])) ?_ ?_ rfl))))))
   · show decide ((0 : Int) ≤ (den ω k6).toI) = true
     rw [d1]; exact decide_eq_true (by show (0 : Int) ≤ ((ω.w 5).toL.length : Int); omega)
   · show decide ((den ω k6).toI ≤ ((den ω j7).toL.length : Int)) = true
     rw [d1, d2]; exact decide_eq_true (by show ((ω.w 5).toL.length : Int) ≤ ((ω.w 5).toL.length : Int); omega)
   · show decide (((den ω z8).toL.length : Int) ≤ 100) = true
     rw [d3, j4]; exact decide_eq_true (by omega)
   · show (ω.f 310 [den ω z8]).toB = true
     rw [h310, d3]; exact a10 rfl hP
   · show decide (((ω.w 5).toL.length : Int) ≤ 100) = true
     exact decide_eq_true (by omega)
   · show (ω.f 310 [ω.w 5]).toB = true
     rw [h310]; exact a10 hl hP
   · show (!decide (((den ω j5).toL.length : Int) = ((den ω j6).toL.length : Int))) = false
     rw [d4, d5, decide_eq_true rfl]; rfl
   · show A0 _ [den ω A9, .vi 0, den ω j5] = _
     rw [d6, d4]; exact l6
   · show ω.f 316 [den ω A9, .vi 0, den ω j5, .vi 0, .vi (ω.w 5).toL.length, ω.w 5, ω.w 0, ω.w 1, ω.w 2, ω.w 3, ω.w 4, den ω k6, den ω j7, .vi (den ω j6).toL.length, den ω j6, .vi (den ω j5).toL.length, den ω j5] = _
     have := h316 (.vb false)
     rw [d6]
     rw [d4] at this ⊢
     exact this
   · show A0 _ [den ω B0, .vi 0, den ω j5] = _
     rw [d7, d4]; exact l6
   · show ω.f 316 [den ω B0, .vi 0, den ω j5, .vi 0, .vi (ω.w 5).toL.length, ω.w 5, ω.w 0, ω.w 1, ω.w 2, ω.w 3, ω.w 4, den ω k6, den ω j7, .vi (den ω j6).toL.length, den ω j6, .vi (den ω j5).toL.length, den ω j5] = _
     have := h316 (.vb false)
     rw [d7]
     rw [d4] at this ⊢
     exact this
   · show A0 _ [den ω D8, .vi 0] = _
     rw [d8]; exact l7
   · show ω.f 317 [den ω D8, .vi 0, .vi 0, .vi (ω.w 5).toL.length, ω.w 5, den ω k6, den ω j7] = _
     rw [d8, hf]; rfl
end Go.Ev
