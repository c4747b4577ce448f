/- Chapters 4 and 10: how a pane's row is written; what the symbols of these contracts stand for. -/
import Derived.Test.YthgndhfpfblphabGreatDoorEM1
import Derived.Test.YthgndhfpfblphabGreatDoorET15
set_option linter.unusedSimpArgs false
set_option linter.unusedVariables false
namespace Go.Ev
open Go

@[simp] theorem toI_vi (n : Int) : (Val.vi n).toI = n := rfl
@[simp] theorem toS_vs (n : List UInt8) : (Val.vs n).toS = n := rfl
@[simp] theorem toB_vb (n : Bool) : (Val.vb n).toB = n := rfl
@[simp] theorem toL_vl (n : List Val) : (Val.vl n).toL = n := rfl
@[simp] theorem cmpI_lss (a b : Int) : cmpI .lss a b = decide (a < b) := rfl
@[simp] theorem cmpI_leq (a b : Int) : cmpI .leq a b = decide (a ≤ b) := rfl
@[simp] theorem cmpI_gtr (a b : Int) : cmpI .gtr a b = decide (b < a) := rfl
@[simp] theorem cmpI_geq (a b : Int) : cmpI .geq a b = decide (b ≤ a) := rfl
@[simp] theorem cmpI_eql (a b : Int) : cmpI .eql a b = decide (a = b) := rfl
@[simp] theorem cmpI_neq (a b : Int) : cmpI .neq a b = !decide (a = b) := rfl
@[simp] theorem cmpS_eql (a b : List UInt8) : cmpS .eql a b = decide (a = b) := rfl
@[simp] theorem cmpS_neq (a b : List UInt8) : cmpS .neq a b = !decide (a = b) := rfl
theorem upd_at (ω : Opq) (v0 : Nat) (l : List Val) (n : Nat) : (ω.upd v0 l).w n = if v0 ≤ n then l.getD (n - v0) (.vb false) else ω.w n := rfl
theorem upd_f (ω : Opq) (v0 : Nat) (l : List Val) : (ω.upd v0 l).f = ω.f := rfl
theorem wu8 (x : Int) : IntKind.u8.wrap x = x % 256 := by simp [IntKind.wrap, IntKind.bits, IntKind.signed]
theorem wu64 (x : Int) : IntKind.u64.wrap x = x % 18446744073709551616 := by simp [IntKind.wrap, IntKind.bits, IntKind.signed]
theorem wi64 {x : Int} (h : -9223372036854775808 ≤ x) (h2 : x < 9223372036854775808) : IntKind.i64.wrap x = x := by
  simp only [IntKind.wrap, IntKind.bits, IntKind.signed]
  simp
  omega
theorem add64 {x y : Int} (h : -9223372036854775808 ≤ x + y) (h2 : x + y < 9223372036854775808) : arI .add .i64 x y = x + y := wi64 h h2
theorem sub64 {x y : Int} (h : -9223372036854775808 ≤ x - y) (h2 : x - y < 9223372036854775808) : arI .sub .i64 x y = x - y := wi64 h h2
theorem mul64 {x y : Int} (h : -9223372036854775808 ≤ x * y) (h2 : x * y < 9223372036854775808) : arI .mul .i64 x y = x * y := wi64 h h2
theorem shr8 {x : Int} (h : 0 ≤ x) : arI .shr .u64 x 8 = x / 256 := by
  simp only [arI, IntKind.bits]
  rw [show (8 : Int).toNat = 8 from rfl, show min 8 64 = 8 from rfl, Int.fdiv_eq_ediv_of_nonneg _ (by decide)]; rfl
/-- A text's bytes as rows, and back. -/
def sbV (l : List UInt8) : List Val := l.map fun b => .vl [.vi (b.toNat : Int)]
theorem sb_len (l : List UInt8) : (sbV l).length = l.length := by simp [sbV]
theorem sb_app (a b : List UInt8) : sbV (a ++ b) = sbV a ++ sbV b := by simp [sbV]
def unV (l : List Val) : List UInt8 := l.map fun r => UInt8.ofNat (r.toL.getD 0 default).toI.toNat
theorem un_sb (l : List UInt8) : unV (sbV l) = l := by
  unfold unV sbV
  rw [List.map_map]
  conv => rhs; rw [← List.map_id l]
  refine List.map_congr_left fun b _ => ?_
  show UInt8.ofNat ((b.toNat : Int)).toNat = b
  rw [Int.toNat_natCast, UInt8.ofNat_toNat]
theorem and2b {a b : Bool} (h : a = true ∧ b = true) : (a && b) = true := by rw [h.1, h.2]; rfl
def bokV (l : List Val) : Bool := l.all fun r => decide (0 ≤ (r.toL.getD 0 default).toI) && decide ((r.toL.getD 0 default).toI < 256)
theorem bok1 (n : Int) (h : 0 ≤ n) (h2 : n < 256) : (decide (0 ≤ ((Val.vl [.vi n]).toL.getD 0 default).toI) && decide (((Val.vl [.vi n]).toL.getD 0 default).toI < 256)) = true := by
  show (decide (0 ≤ n) && decide (n < 256)) = true
  rw [decide_eq_true h, decide_eq_true h2]; rfl
theorem bok_sb : ∀ l : List UInt8, bokV (sbV l) = true
  | [] => rfl
  | b :: l => by
    have h := b.toNat_lt
    have h2 : (b.toNat : Int) < 256 := by omega
    show ((decide (0 ≤ (b.toNat : Int)) && decide ((b.toNat : Int) < 256)) && bokV (sbV l)) = true
    rw [bok_sb l, decide_eq_true h2, decide_eq_true (Int.natCast_nonneg _)]; rfl
theorem bok_app (a b : List Val) : bokV (a ++ b) = (bokV a && bokV b) := by simp [bokV]

/-! How texts and numbers are written. -/
def encZ : List UInt8 → List UInt8
  | [] => []
  | b :: r => (if b = 0 then [0, 255] else [b]) ++ encZ r
theorem encZ_app : ∀ a b : List UInt8, encZ (a ++ b) = encZ a ++ encZ b
  | [], b => rfl
  | x :: a, b => by simp [encZ, encZ_app a b]
theorem encZ_len : ∀ a : List UInt8, (encZ a).length ≤ 2 * a.length
  | [] => by simp [encZ]
  | x :: a => by
    have := encZ_len a
    simp only [encZ, List.length_append, List.length_cons]
    split <;> simp <;> omega
theorem encZ_ge : ∀ a : List UInt8, a.length ≤ (encZ a).length
  | [] => by simp
  | x :: a => by
    have := encZ_ge a
    simp only [encZ, List.length_append, List.length_cons]
    split <;> simp <;> omega
theorem encZ_none : ∀ {a : List UInt8}, countB 0 a = 0 → encZ a = a
  | [], _ => rfl
  | x :: a, h => by
    simp only [countB] at h
    cases hx : Nat.beq x.toNat 0 with
    | true => rw [hx] at h; simp at h
    | false =>
      rw [hx] at h
      have ha := encZ_none (a := a) (by simpa using h)
      have : ¬ x = 0 := by
        intro e; subst e; simp at hx
      simp [encZ, this, ha]
theorem count_app (c : Nat) : ∀ a b : List UInt8, countB c (a ++ b) = countB c a + countB c b
  | [], b => by simp [countB]
  | x :: a, b => by
    simp only [List.cons_append, countB, count_app c a b]
    cases Nat.beq x.toNat c <;> simp <;> omega
theorem count_le (c : Nat) : ∀ a : List UInt8, countB c a ≤ a.length
  | [] => by simp [countB]
  | x :: a => by
    have := count_le c a
    simp only [countB, List.length_cons]
    cases Nat.beq x.toNat c <;> simp <;> omega
/-- Up to the last byte 0, and what is behind. -/
def spl : List UInt8 → List UInt8 × List UInt8
  | [] => ([], [])
  | b :: r => if countB 0 r = 0 then (if b = 0 then ([b], r) else ([], b :: r)) else (b :: (spl r).1, (spl r).2)
theorem spl_join : ∀ l : List UInt8, (spl l).1 ++ (spl l).2 = l
  | [] => rfl
  | b :: r => by
    unfold spl
    split
    · split <;> rfl
    · simp [spl_join r]
theorem spl_tail : ∀ l : List UInt8, countB 0 (spl l).2 = 0
  | [] => rfl
  | b :: r => by
    unfold spl
    split
    · rename_i h
      split
      · exact h
      · rename_i hb
        simp only [countB, h]
        have : Nat.beq b.toNat 0 = false := by
          cases e : Nat.beq b.toNat 0 with
          | false => rfl
          | true =>
            have : b.toNat = 0 := by simpa using e
            exact absurd (UInt8.toNat_inj.1 (by simpa using this)) hb
        rw [this]; rfl
    · exact spl_tail r
theorem spl_none {t : List UInt8} (h : countB 0 t = 0) : spl t = ([], t) := by
  cases t with
  | nil => rfl
  | cons b r =>
    simp only [countB] at h
    cases hx : Nat.beq b.toNat 0 with
    | true => rw [hx] at h; simp at h
    | false =>
      rw [hx] at h
      have hr : countB 0 r = 0 := by simpa using h
      have : ¬ b = 0 := by intro e; subst e; simp at hx
      simp [spl, hr, this]
theorem spl_at : ∀ (p : List UInt8) {t : List UInt8}, countB 0 t = 0 → spl (p ++ 0 :: t) = (p ++ [0], t)
  | [], t, h => by simp [spl, h]
  | b :: p, t, h => by
    have ih := spl_at p h
    have hc : countB 0 (p ++ 0 :: t) ≠ 0 := by
      rw [count_app]
      have : countB 0 (0 :: t) = countB 0 t + 1 := by simp [countB]
      omega
    show (if countB 0 (p ++ 0 :: t) = 0 then (if b = 0 then ([b], p ++ 0 :: t) else ([], b :: (p ++ 0 :: t))) else (b :: (spl (p ++ 0 :: t)).1, (spl (p ++ 0 :: t)).2)) = _
    rw [if_neg hc]
    show (b :: (spl (p ++ 0 :: t)).1, (spl (p ++ 0 :: t)).2) = _
    rw [ih]; rfl
/-- The first byte 0. -/
theorem split0 : ∀ {t : List UInt8} (i : Nat), countB 0 t ≠ 0 → ∃ p q, t = p ++ 0 :: q ∧ countB 0 p = 0 ∧ findB 0 t i = some (i + p.length)
  | [], i, h => absurd rfl h
  | b :: r, i, h => by
    cases hx : Nat.beq b.toNat 0 with
    | true =>
      have hb : b = 0 := UInt8.toNat_inj.1 (by simpa using hx)
      subst hb
      exact ⟨[], r, rfl, rfl, by simp [findB]⟩
    | false =>
      simp only [countB, hx] at h
      obtain ⟨p, q, rfl, h2, h3⟩ := split0 (i + 1) (show countB 0 r ≠ 0 by simpa using h)
      refine ⟨b :: p, q, rfl, by simp [countB, hx, h2], ?_⟩
      simp only [findB, hx, cond_false, h3, List.length_cons]
      congr 1; omega
theorem index0 {p q : List UInt8} (hp : countB 0 p = 0) : indexB 0 (p ++ 0 :: q) = (p.length : Int) := by
  have hc : countB 0 (p ++ 0 :: q) ≠ 0 := by
    rw [count_app]
    have : countB 0 (0 :: q) = countB 0 q + 1 := by simp [countB]
    omega
  obtain ⟨p', q', e, h2, h3⟩ := split0 0 hc
  unfold indexB
  rw [h3]
  have : p' = p := by
    have key : ∀ (p p' q q' : List UInt8), countB 0 p = 0 → countB 0 p' = 0 → p ++ 0 :: q = p' ++ 0 :: q' → p = p' := by
      intro p
      induction p with
      | nil =>
        intro p' q q' _ h' e
        cases p' with
        | nil => rfl
        | cons b p' =>
          exfalso
          simp only [List.nil_append, List.cons_append, List.cons.injEq] at e
          rw [← e.1] at h'
          simp [countB] at h'
      | cons b p ih =>
        intro p' q q' h h' e
        cases p' with
        | nil =>
          exfalso
          simp only [List.nil_append, List.cons_append, List.cons.injEq] at e
          rw [e.1] at h
          simp [countB] at h
        | cons b' p' =>
          simp only [List.cons_append, List.cons.injEq] at e
          have c1 : countB 0 p = 0 := by
            simp only [countB] at h
            cases hx : Nat.beq b.toNat 0 <;> rw [hx] at h <;> simp at h
            exact h
          have c2 : countB 0 p' = 0 := by
            simp only [countB] at h'
            cases hx : Nat.beq b'.toNat 0 <;> rw [hx] at h' <;> simp at h'
            exact h'
          rw [e.1, ih p' q q' c1 c2 e.2]
    exact (key p p' q q' hp h2 e).symm
  rw [this]; simp
def encT (l : List UInt8) : List UInt8 := encZ l ++ [0, 0]
/-- A number's bytes: the sign turned, the greatest first. -/
def turnV (n : Int) : Int := arI .xor .u64 (IntKind.u64.wrap n) 9223372036854775808
theorem turnV_lim (n : Int) : 0 ≤ turnV n ∧ turnV n < 18446744073709551616 := by
  unfold turnV
  simp only [arI, wu64]
  omega
def dv (a : Int) : Nat → Int
  | 0 => a
  | k + 1 => dv a k / 256
theorem dv_pos {a : Int} (h : 0 ≤ a) : ∀ k, 0 ≤ dv a k
  | 0 => h
  | k + 1 => by have := dv_pos h k; show 0 ≤ dv a k / 256; omega
def byV (a : Int) (k : Nat) : UInt8 := UInt8.ofNat (dv a k % 256).toNat
def rows8 (a : Int) : List UInt8 := [byV a 7, byV a 6, byV a 5, byV a 4, byV a 3, byV a 2, byV a 1, byV a 0]
def enc8 (n : Int) : List UInt8 := rows8 (turnV n)
theorem enc8_len (n : Int) : (enc8 n).length = 8 := rfl
/-! Filters. -/
def rightV (k : Int) (key to : List UInt8) (least most : Int) : Bool :=
  bif decide (32 < (key.length : Int)) || decide (32 < (to.length : Int)) then false
  else bif decide (k = 1) then decide (to = []) && decide (most = 0) && !decide (key = [])
  else bif decide (k = 2) then decide (least = 0) && decide (most = 0)
  else bif decide (k = 3) then decide (key = []) && decide (to = []) else false
/-- How many bytes stay that are not 255 at the end. -/
def trimN : List UInt8 → Nat → Nat
  | _, 0 => 0
  | l, n + 1 => bif decide (l.getD n 0 = 255) then trimN l n else n + 1
theorem trimN_le (l : List UInt8) : ∀ n, trimN l n ≤ n
  | 0 => Nat.le_refl _
  | n + 1 => by
    unfold trimN
    cases decide (l.getD n 0 = 255) with
    | true => exact Nat.le_succ_of_le (trimN_le l n)
    | false => exact Nat.le_refl _
def upB (l : List UInt8) (m : Nat) : List UInt8 := l.take m ++ [l.getD m 0 + 1]
def afterV (l : List UInt8) : List UInt8 × Bool := match trimN l l.length with
  | 0 => ([], false)
  | m + 1 => (upB l m, true)
def boundsV (k : Int) (key to : List UInt8) (least most : Int) : List UInt8 × List UInt8 :=
  bif !rightV k key to least most then ([0], [0])
  else bif decide (k = 1) then (encT key ++ enc8 least, (afterV (encT key ++ enc8 least)).1)
  else bif decide (k = 2) then (encT key, bif decide (to = []) then [] else encT to)
  else (enc8 least, enc8 most)
def arg (a : List Val) (i : Nat) : Val := a.getD i (.vb false)
/-- What the symbols stand for. -/
noncomputable def F : Nat → List Val → Val := fun i a => match i with
  | 300 => bif decide (countB 0 (arg a 0).toS = 0) then arg a 0 else .vs (encZ (arg a 0).toS)
  | 301 => .vs (encT (arg a 0).toS)
  | 302 => .vs (enc8 (arg a 0).toI)
  | 320 => encR (0, [.vi (spl (arg a 4).toS).1.length, .vi (countB 0 (arg a 4).toS : Nat), .vi (encZ (spl (arg a 4).toS).1).length, .vl (sbV (encZ (spl (arg a 4).toS).1))])
  | 330 => .vb (rightV (arg a 0).toI (arg a 1).toS (arg a 2).toS (arg a 3).toI (arg a 4).toI)
  | 331 => .vs (afterV (arg a 0).toS).1
  | 332 => .vb (afterV (arg a 0).toS).2
  | 333 => .vs (boundsV (arg a 0).toI (arg a 1).toS (arg a 2).toS (arg a 3).toI (arg a 4).toI).1
  | 334 => .vs (boundsV (arg a 0).toI (arg a 1).toS (arg a 2).toS (arg a 3).toI (arg a 4).toI).2
  | 340 => encR (0, [.vi (trimN (unV (arg a 1).toL) (arg a 0).toI.toNat), arg a 1])
  | _ => .vb false

/-! ReplaceAll. -/
theorem evalT_loop {ω : Opq} {hd : LHd} {b : VT} {ks : List VT} {r : Nat × List Val} {x : Option (Nat × List Val)} (h1 : loopOf (fun vs => evalT b (ω.upd hd.v0 vs)) (dens ω hd.s0) = some r) (h2 : ω.f hd.id (dens ω (hd.s0 ++ hd.fv)) = encR r) (h3 : evalTs ks r.1 ω = x) : evalT (.loop hd b ks) ω = x := by
  rw [evalT.eq_5, h1]
  simp only
  rw [if_pos h2, h3]
theorem need_ok {ω : Opq} {e : SX} {x : VT} {r : Option (Nat × List Val)} (h : dB ω e = true) (h2 : evalT x ω = r) : evalT (.need e x) ω = r := by rw [evalT.eq_3, if_pos h, h2]
theorem ite_t {ω : Opq} {e : SX} {x y : VT} {r : Option (Nat × List Val)} (h : dB ω e = true) (h2 : evalT x ω = r) : evalT (.ite e x y) ω = r := by rw [evalT.eq_2, if_pos h, h2]
theorem ite_f {ω : Opq} {e : SX} {x y : VT} {r : Option (Nat × List Val)} (h : dB ω e = false) (h2 : evalT y ω = r) : evalT (.ite e x y) ω = r := by rw [evalT.eq_2, if_neg (by rw [h]; simp), h2]
theorem and2 {a b : Bool} (h : a = true) (h2 : b = true) : (a && b) = true := by rw [h, h2]; rfl
def cut320 (J : SX) : SX := .op .lcat [.va 2003, .op .sbytes [.op .ssub [.va 0, .va 2000, J]]]
def out320 (J : SX) : SX := .op .lcat [cut320 J, .op .sbytes [.cs [0, 255]]]
def br320 (J : SX) : VT := .need (.op .and [.op (.cmp .leq) [.va 2000, J], .op (.cmp .leq) [J, .op .slen [.va 0]]]) (.need (.op .and [.op (.cmp .eql) [.va 2002, .op .llen [.va 2003]], .op (.cmp .leq) [.op .llen [cut320 J], .ci 1000000]]) (.need (.op (.cmp .leq) [.op .llen [out320 J], .ci 1000000]) (.ret 0 [.op (.ar .add .i64) [J, .ci 1], .op (.ar .add .i64) [.va 2001, .ci 1], .op .llen [out320 J], out320 J])))
def rest320 : SX := .op .ssub [.va 0, .va 2000, .op .slen [.va 0]]
theorem L320_eq : L320 = .ite (.op (.cmp .lss) [.va 2001, .op .scnt [.va 0, .ci 0]]) (.need (.op .and [.op (.cmp .leq) [.ci 0, .va 2000], .op (.cmp .leq) [.va 2000, .op .slen [.va 0]]]) (.ite (.op (.scmp .eql) [.cs [0], rest320]) (br320 (.op (.ar .add .i64) [.va 2000, .ci 0])) (br320 (.op (.ar .add .i64) [.va 2000, .op .sidx [rest320, .ci 0]])))) (.ret 1 [.va 2000, .va 2001, .va 2002, .va 2003]) := rfl
theorem br320_ok {ω : Opq} {J : SX} {s s1 p q : List UInt8} {i : Nat} (w0 : (ω.w 0).toS = s) (w1 : ω.w 2000 = .vi s1.length) (w2 : ω.w 2001 = .vi i) (w3 : ω.w 2002 = .vi (encZ s1).length) (w4 : ω.w 2003 = .vl (sbV (encZ s1)))
    (hst : s = s1 ++ (p ++ 0 :: q)) (hn : s.length ≤ 1000) (hi : i ≤ 1000) (hp : countB 0 p = 0) (hJ : dI ω J = ((s1.length + p.length : Nat) : Int)) :
    evalT (br320 J) ω = some (0, [.vi (s1 ++ p ++ [0]).length, .vi (i + 1 : Nat), .vi (encZ (s1 ++ p ++ [0])).length, .vl (sbV (encZ (s1 ++ p ++ [0])))]) := by
  have hlen : s.length = s1.length + (p.length + (q.length + 1)) := by rw [hst]; simp
  have he1 := encZ_len s1
  have hep : encZ p = p := encZ_none hp
  have hnew : encZ (s1 ++ p ++ [0]) = encZ s1 ++ p ++ [0, 255] := by rw [encZ_app, encZ_app, hep]; rfl
  have hv : dI ω (.va 2000) = (s1.length : Int) := by show (ω.w 2000).toI = _; rw [w1]; rfl
  have hpart : dS ω (.op .ssub [.va 0, .va 2000, J]) = p := by
    show ((ω.w 0).toS.drop (dI ω (.va 2000)).toNat).take (dI ω J - dI ω (.va 2000)).toNat = p
    rw [w0, hv, hJ, Int.toNat_natCast, hst, List.drop_left, show (((s1.length + p.length : Nat) : Int) - (s1.length : Int)).toNat = p.length by omega, List.take_left]
  have hcut : den ω (cut320 J) = .vl (sbV (encZ s1) ++ sbV p) := by
    show Val.vl ((ω.w 2003).toL ++ sbV (dS ω (.op .ssub [.va 0, .va 2000, J]))) = _
    rw [w4, hpart]; rfl
  have hout : den ω (out320 J) = .vl (sbV (encZ (s1 ++ p ++ [0]))) := by
    show Val.vl ((den ω (cut320 J)).toL ++ sbV [0, 255]) = _
    rw [hcut, hnew, sb_app, sb_app]; rfl
  have hol : (encZ (s1 ++ p ++ [0])).length = (encZ s1).length + p.length + 2 := by rw [hnew]; simp [Nat.add_assoc]
  unfold br320
  refine need_ok ?_ (need_ok ?_ (need_ok ?_ ?_))
  · refine and2 (decide_eq_true (show dI ω (.va 2000) ≤ dI ω J from ?_)) (decide_eq_true (show dI ω J ≤ ((ω.w 0).toS.length : Int) from ?_))
    · rw [hv, hJ]; omega
    · rw [w0, hJ]; omega
  · refine and2 (decide_eq_true (show (ω.w 2002).toI = ((ω.w 2003).toL.length : Int) from ?_)) (decide_eq_true (show ((den ω (cut320 J)).toL.length : Int) ≤ 1000000 from ?_))
    · rw [w3, w4]; show ((encZ s1).length : Int) = ((sbV (encZ s1)).length : Int); rw [sb_len]
    · rw [hcut, toL_vl, List.length_append, sb_len, sb_len]; omega
  · refine decide_eq_true (show ((den ω (out320 J)).toL.length : Int) ≤ 1000000 from ?_)
    rw [hout, toL_vl, sb_len, hol]; omega
  · show some (0, [Val.vi (arI .add .i64 (dI ω J) 1), Val.vi (arI .add .i64 (ω.w 2001).toI 1), Val.vi ((den ω (out320 J)).toL.length : Int), den ω (out320 J)]) = _
    rw [hJ, w2, hout, toL_vl, sb_len, toI_vi, add64 (by omega) (by omega), add64 (by omega) (by omega)]
    have e1 : ((s1.length + p.length : Nat) : Int) + 1 = ((s1 ++ p ++ [0]).length : Int) := by simp [Int.add_assoc]
    rw [e1]; rfl
theorem step320 {ω : Opq} {s s1 t : List UInt8} {c i : Nat} (hs : (ω.w 0).toS = s) (hst : s = s1 ++ t) (hn : s.length ≤ 1000) (hc : countB 0 s = c) (hi : i + countB 0 t = c) (h0 : countB 0 t ≠ 0) :
    ∃ p q, t = p ++ 0 :: q ∧ countB 0 p = 0 ∧ evalT L320 (ω.upd 2000 [.vi s1.length, .vi i, .vi (encZ s1).length, .vl (sbV (encZ s1))]) = some (0, [.vi (s1 ++ p ++ [0]).length, .vi (i + 1 : Nat), .vi (encZ (s1 ++ p ++ [0])).length, .vl (sbV (encZ (s1 ++ p ++ [0])))]) := by
  obtain ⟨p, q, e, hp, _⟩ := split0 0 h0
  refine ⟨p, q, e, hp, ?_⟩
  subst e
  obtain ⟨ω', hω⟩ : ∃ ω', ω' = ω.upd 2000 [.vi s1.length, .vi i, .vi (encZ s1).length, .vl (sbV (encZ s1))] := ⟨_, rfl⟩
  have w0 : (ω'.w 0).toS = s := by rw [hω]; exact hs
  have w1 : ω'.w 2000 = .vi s1.length := by rw [hω]; rfl
  have w2 : ω'.w 2001 = .vi i := by rw [hω]; rfl
  have w3 : ω'.w 2002 = .vi (encZ s1).length := by rw [hω]; rfl
  have w4 : ω'.w 2003 = .vl (sbV (encZ s1)) := by rw [hω]; rfl
  rw [← hω, L320_eq]
  have hlen : s.length = s1.length + (p.length + (q.length + 1)) := by rw [hst]; simp
  have hcs := count_le 0 s
  have hv : dI ω' (.va 2000) = (s1.length : Int) := by show (ω'.w 2000).toI = _; rw [w1]; rfl
  have hrest : dS ω' rest320 = p ++ 0 :: q := by
    show ((ω'.w 0).toS.drop (dI ω' (.va 2000)).toNat).take (((ω'.w 0).toS.length : Int) - dI ω' (.va 2000)).toNat = _
    rw [w0, hv, Int.toNat_natCast]
    conv => lhs; rw [hst, List.drop_left]
    rw [List.take_of_length_le]
    simp; omega
  refine ite_t (decide_eq_true (show (ω'.w 2001).toI < ((countB (0 : Int).toNat (ω'.w 0).toS : Nat) : Int) from ?_)) (need_ok (and2 (decide_eq_true (show (0 : Int) ≤ dI ω' (.va 2000) from ?_)) (decide_eq_true (show dI ω' (.va 2000) ≤ ((ω'.w 0).toS.length : Int) from ?_))) ?_)
  · rw [w2, w0]; show (i : Int) < ((countB 0 s : Nat) : Int); omega
  · rw [hv]; omega
  · rw [hv, w0]; omega
  · by_cases hone : [(0 : UInt8)] = p ++ 0 :: q
    · have hp0 : p = [] := by
        cases p with
        | nil => rfl
        | cons b p => exfalso; have := congrArg List.length hone; simp at this
      refine ite_t (decide_eq_true (show [(0 : UInt8)] = dS ω' rest320 from ?_)) (br320_ok w0 w1 w2 w3 w4 hst hn (by omega) hp ?_)
      · rw [hrest]; exact hone
      · show arI .add .i64 (dI ω' (.va 2000)) 0 = _
        rw [hv, hp0, add64 (by omega) (by omega)]; simp
    · refine ite_f (decide_eq_false (show ¬ [(0 : UInt8)] = dS ω' rest320 from ?_)) (br320_ok w0 w1 w2 w3 w4 hst hn (by omega) hp ?_)
      · rw [hrest]; exact hone
      · show arI .add .i64 (dI ω' (.va 2000)) (indexB (0 : Int).toNat (dS ω' rest320)) = _
        rw [hv, hrest, show (0 : Int).toNat = 0 from rfl, index0 hp, add64 (by omega) (by omega)]; omega
theorem iter320 {ω : Opq} {s : List UInt8} {c : Nat} (hs : (ω.w 0).toS = s) (hn : s.length ≤ 1000) (hc : countB 0 s = c) : ∀ (k : Nat) (s1 t : List UInt8) (i : Nat), s = s1 ++ t → countB 0 t = k → i + k = c → (s1 = [] ∨ ∃ x, s1 = x ++ [0]) →
    Iter (fun vs => evalT L320 (ω.upd 2000 vs)) [.vi s1.length, .vi i, .vi (encZ s1).length, .vl (sbV (encZ s1))] 0 [.vi (spl s).1.length, .vi c, .vi (encZ (spl s).1).length, .vl (sbV (encZ (spl s).1))]
  | 0, s1, t, i, hst, ht, hi, h1 => by
    have hspl : (spl s).1 = s1 := by
      rcases h1 with rfl | ⟨x, rfl⟩
      · rw [hst, List.nil_append, spl_none ht]
      · rw [hst, List.append_assoc, List.singleton_append, spl_at x ht]
    rw [hspl]
    refine .out ?_
    have g1 : ¬ (i : Int) < ((countB 0 s : Nat) : Int) := by omega
    have hic : i = c := by omega
    subst hic
    have cnt0 : countB (0 : Int).toNat s = countB 0 s := rfl
    show evalT L320 (ω.upd 2000 [_, _, _, _]) = _
    unfold L320
    simp only [evalT.eq_2, evalT.eq_4, dens, den, dB, prim, upd_at, show (2000 ≤ 2000) = True by simp, show (2000 ≤ 2001) = True by simp, show (2000 ≤ 2002) = True by simp, show (2000 ≤ 2003) = True by simp, if_true, show 2000 - 2000 = 0 from rfl, show 2001 - 2000 = 1 from rfl, show 2002 - 2000 = 2 from rfl, show 2003 - 2000 = 3 from rfl, List.getD_cons_zero, List.getD_cons_succ, show (2000 ≤ 0) = False by simp, if_false, toI_vi, toB_vb, cmpI_lss, hs, cnt0, g1, decide_false, Bool.false_eq_true]
  | k + 1, s1, t, i, hst, ht, hi, h1 => by
    obtain ⟨p, q, e, hp, hstep⟩ := step320 (ω := ω) hs hst hn hc (i := i) (by omega) (by omega)
    refine .more hstep (iter320 hs hn hc k (s1 ++ p ++ [0]) q (i + 1) (by rw [hst, e]; simp) ?_ (by omega) (.inr ⟨_, rfl⟩))
    rw [e, count_app, hp] at ht
    simpa [countB] using ht
theorem F300_S (x : Val) : (F 300 [x]).toS = encZ x.toS := by
  show (bif decide (countB 0 x.toS = 0) then x else .vs (encZ x.toS)).toS = _
  by_cases h : countB 0 x.toS = 0
  · rw [decide_eq_true h, encZ_none h]; rfl
  · rw [decide_eq_false h]; rfl
theorem t_repl {ω : Opq} (hf : ∀ i a, ω.f i a = F i a) (hn : (ω.w 0).toS.length ≤ 1000) : evalT T_repl ω = some (0, [F 300 [ω.w 0]]) := by
  obtain ⟨s, hs⟩ : ∃ s, (ω.w 0).toS = s := ⟨_, rfl⟩
  rw [hs] at hn
  have hF : F 300 [ω.w 0] = bif decide (countB 0 s = 0) then ω.w 0 else .vs (encZ s) := by rw [← hs]; rfl
  rw [hF]
  have hc0 := count_le 0 s
  have cnt0 : dI ω (.op .scnt [.va 0, .ci 0]) = (countB 0 s : Nat) := by
    show ((countB (0 : Int).toNat (ω.w 0).toS : Nat) : Int) = _; rw [hs]; rfl
  unfold T_repl
  by_cases h0 : countB 0 s = 0
  · rw [decide_eq_true h0]
    exact ite_t (by show decide (dI ω (.op .scnt [.va 0, .ci 0]) = 0) = true; rw [cnt0, h0]; rfl) rfl
  · rw [decide_eq_false h0]
    have hsl : dI ω (.op .slen [.va 0]) = (s.length : Nat) := by show ((ω.w 0).toS.length : Int) = _; rw [hs]
    have r0 : dI ω repl_0 = ((s.length + countB 0 s : Nat) : Int) := by
      show arI .add .i64 (dI ω (.op .slen [.va 0])) (arI .mul .i64 (dI ω (.op .scnt [.va 0, .ci 0])) 1) = _
      rw [hsl, cnt0, mul64 (by omega) (by omega), Int.mul_one, add64 (by omega) (by omega)]; omega
    have r1 : dI ω repl_1 = ((s.length + countB 0 s : Nat) : Int) := by
      show arI .add .i64 0 (dI ω repl_0) = _
      rw [r0, add64 (by omega) (by omega)]; omega
    obtain ⟨a, b, hab⟩ : ∃ a b, spl s = (a, b) := ⟨_, _, rfl⟩
    have hj : a ++ b = s := by have := spl_join s; rw [hab] at this; exact this
    have hb0 : countB 0 b = 0 := by have := spl_tail s; rw [hab] at this; exact this
    have hlen : a.length + b.length = s.length := by rw [← hj]; simp
    have hea := encZ_len a
    have hloop : loopOf (fun vs => evalT L320 (ω.upd 2000 vs)) [.vi 0, .vi 0, .vi 0, .vl []] = some (0, [.vi a.length, .vi (countB 0 s : Nat), .vi (encZ a).length, .vl (sbV (encZ a))]) := by
      rw [loopOf_iff]
      have := iter320 (ω := ω) hs hn rfl (countB 0 s) [] s 0 rfl rfl (by omega) (.inl rfl)
      rw [hab] at this
      exact this
    have h320 : F 320 [.vi 0, .vi 0, .vi 0, .vl [], ω.w 0, .vi 0, .vi 0, .vl [], .vi (countB 0 s : Nat)] = encR (0, [.vi a.length, .vi (countB 0 s : Nat), .vi (encZ a).length, .vl (sbV (encZ a))]) := by
      show encR (0, [.vi (spl (ω.w 0).toS).1.length, .vi (countB 0 (ω.w 0).toS : Nat), .vi (encZ (spl (ω.w 0).toS).1).length, .vl (sbV (encZ (spl (ω.w 0).toS).1))]) = _
      rw [hs, hab]
    have e2 : den ω repl_2 = encR (0, [.vi a.length, .vi (countB 0 s : Nat), .vi (encZ a).length, .vl (sbV (encZ a))]) := by
      show ω.f 320 [.vi 0, .vi 0, .vi ((([] : List Val).length : Nat) : Int), .vl [], ω.w 0, .vi ((([] : List Val).length : Nat) : Int), .vi ((([] : List Val).length : Nat) : Int), .vl [], .vi (countB (0 : Int).toNat (ω.w 0).toS : Nat)] = _
      rw [hf, hs]; exact h320
    have e3 : dI ω repl_3 = (a.length : Int) := by show (getV (den ω repl_2).toL 1 0).toI = _; rw [e2]; rfl
    have e5 : den ω repl_5 = .vl (sbV (encZ a)) := by show getV (den ω repl_2).toL 1 3 = _; rw [e2]; rfl
    have e6 : den ω repl_6 = .vl (sbV (encZ s)) := by
      show Val.vl ((den ω repl_5).toL ++ (((ω.w 0).toS.drop (dI ω repl_3).toNat).take (dI ω (.op .slen [.va 0]) - dI ω repl_3).toNat).map fun b => Val.vl [.vi (b.toNat : Int)]) = _
      rw [e5, e3, hsl, hs, Int.toNat_natCast]
      have : ((s.drop a.length).take ((s.length : Int) - (a.length : Int)).toNat) = b := by
        rw [← hj, List.drop_left, List.take_of_length_le]
        simp; omega
      rw [this]
      show Val.vl (sbV (encZ a) ++ sbV b) = _
      rw [← sb_app, ← hj, encZ_app, encZ_none hb0]
    have hes := encZ_len s
    have hge := encZ_ge s
    have main : ∀ x, evalT (.loop ⟨320, [.ci 0, .ci 0, .op .llen [.op .row []], .op .row []], 2000, [.va 0, .op .llen [.op .row []], .op .llen [.op .row []], .op .row [], .op .scnt [.va 0, .ci 0]]⟩ L320 [.need (repl_4) (.need (repl_7) (.need (repl_8) (.need (repl_9) (.ret 0 [.op .bstr [repl_6]]))))]) ω = x → x = some (0, [.vs (encZ s)]) := by
      rintro _ rfl
      refine evalT_loop (r := (0, [.vi a.length, .vi (countB 0 s : Nat), .vi (encZ a).length, .vl (sbV (encZ a))])) hloop e2 ?_
      refine need_ok ?_ (need_ok ?_ (need_ok ?_ (need_ok ?_ ?_)))
      · show (decide (0 ≤ dI ω repl_3) && decide (dI ω repl_3 ≤ dI ω (.op .slen [.va 0]))) = true
        rw [e3, hsl, Bool.and_eq_true]
        exact ⟨decide_eq_true (by omega), decide_eq_true (by omega)⟩
      · show (decide ((getV (den ω repl_2).toL 1 2).toI = ((den ω repl_5).toL.length : Int)) && decide (((den ω repl_6).toL.length : Int) ≤ 1000000)) = true
        rw [e2, e5, e6, Bool.and_eq_true]
        refine ⟨decide_eq_true ?_, decide_eq_true ?_⟩
        · show ((encZ a).length : Int) = ((sbV (encZ a)).length : Int); rw [sb_len]
        · show ((sbV (encZ s)).length : Int) ≤ _; rw [sb_len]; omega
      · show decide ((0 : Int) < ((den ω repl_6).toL.length : Int)) = true
        rw [e6]
        refine decide_eq_true ?_
        show (0 : Int) < ((sbV (encZ s)).length : Int); rw [sb_len]; omega
      · show (decide (((den ω repl_6).toL.length : Int) ≤ ((den ω repl_6).toL.length : Int)) && bokV (den ω repl_6).toL) = true
        rw [e6, Bool.and_eq_true]
        exact ⟨decide_eq_true (Int.le_refl _), bok_sb _⟩
      · show some (0, [Val.vs (unV (den ω repl_6).toL)]) = _
        rw [e6]
        show some (0, [Val.vs (unV (sbV (encZ s)))]) = _
        rw [un_sb]
    refine ite_f (by show decide (dI ω (.op .scnt [.va 0, .ci 0]) = 0) = false; rw [cnt0]; exact decide_eq_false (by omega)) ?_
    refine ite_f (by show decide (dI ω repl_0 < 0) = false; rw [r0]; exact decide_eq_false (by omega)) ?_
    refine ite_t (by show decide (0 < dI ω repl_0) = true; rw [r0]; exact decide_eq_true (by omega)) ?_
    refine need_ok ?_ (need_ok rfl ?_)
    · show (decide (0 ≤ dI ω repl_1) && decide (dI ω repl_1 ≤ 281474976710656)) = true
      rw [r1, Bool.and_eq_true]
      exact ⟨decide_eq_true (by omega), decide_eq_true (by omega)⟩
    · exact main _ rfl
/-! A part. -/
theorem t_partI {ω : Opq} (hf : ∀ i a, ω.f i a = F i a) : evalT T_partI ω = some (0, [F 302 [ω.w 0]]) := by
  have hF : F 302 [ω.w 0] = .vs (rows8 (turnV (ω.w 0).toI)) := rfl
  rw [hF]
  obtain ⟨h0, h1⟩ := turnV_lim (ω.w 0).toI
  have e0 : dI ω partI_0 = turnV (ω.w 0).toI := rfl
  generalize turnV (ω.w 0).toI = a at *
  have hp := dv_pos h0
  have e1 : dI ω partI_1 = dv a 1 := by show arI .shr .u64 (dI ω partI_0) 8 = _; rw [e0, shr8 h0]; rfl
  have e2 : dI ω partI_2 = dv a 2 := by show arI .shr .u64 (dI ω partI_1) 8 = _; rw [e1, shr8 (hp 1)]; rfl
  have e3 : dI ω partI_3 = dv a 3 := by show arI .shr .u64 (dI ω partI_2) 8 = _; rw [e2, shr8 (hp 2)]; rfl
  have e4 : dI ω partI_4 = dv a 4 := by show arI .shr .u64 (dI ω partI_3) 8 = _; rw [e3, shr8 (hp 3)]; rfl
  have e5 : dI ω partI_5 = dv a 5 := by show arI .shr .u64 (dI ω partI_4) 8 = _; rw [e4, shr8 (hp 4)]; rfl
  have e6 : dI ω partI_6 = dv a 6 := by show arI .shr .u64 (dI ω partI_5) 8 = _; rw [e5, shr8 (hp 5)]; rfl
  have row : ∀ x : Int, Val.vl [.vi (IntKind.u8.wrap x)] = .vl [.vi (x % 256)] := fun x => by rw [wu8]
  have e7 : den ω partI_7 = .vl [.vl [.vi (dv a 7 % 256)], .vl [.vi (dv a 6 % 256)], .vl [.vi (dv a 5 % 256)], .vl [.vi (dv a 4 % 256)], .vl [.vi (dv a 3 % 256)], .vl [.vi (dv a 2 % 256)], .vl [.vi (dv a 1 % 256)], .vl [.vi (dv a 0 % 256)]] := by
    show Val.vl [.vl [.vi (IntKind.u8.wrap (arI .shr .u64 (dI ω partI_6) 8))], .vl [.vi (IntKind.u8.wrap (dI ω partI_6))], .vl [.vi (IntKind.u8.wrap (dI ω partI_5))], .vl [.vi (IntKind.u8.wrap (dI ω partI_4))], .vl [.vi (IntKind.u8.wrap (dI ω partI_3))], .vl [.vi (IntKind.u8.wrap (dI ω partI_2))], .vl [.vi (IntKind.u8.wrap (dI ω partI_1))], .vl [.vi (IntKind.u8.wrap (dI ω partI_0))]] = _
    rw [e0, e1, e2, e3, e4, e5, e6, shr8 (hp 6)]
    simp only [row]; rfl
  unfold T_partI
  refine need_ok ?_ ?_
  · show bokV (den ω partI_7).toL = true
    rw [e7]
    have b : ∀ x : Int, (decide (0 ≤ x % 256) && decide (x % 256 < 256)) = true := fun x => by
      rw [Bool.and_eq_true]; exact ⟨decide_eq_true (by omega), decide_eq_true (by omega)⟩
    simp only [bokV, toL_vl, List.all_cons, List.all_nil, List.getD_cons_zero, toI_vi, b, Bool.and_self]
  · show some (0, [Val.vs (unV (den ω partI_7).toL)]) = _
    rw [e7]; rfl
theorem lim_ok {ω : Opq} {a b : SX} {n : Int} {x y : List UInt8} (ha : (den ω a).toS = x) (hb : (den ω b).toS = y) (h : (x.length : Int) + (y.length : Int) < n) : dB ω (.op (.cmp .lss) [.op .iadd [.op .slen [a], .op .slen [b]], .ci n]) = true := by
  show decide (((den ω a).toS.length : Int) + ((den ω b).toS.length : Int) < n) = true
  rw [ha, hb]; exact decide_eq_true h
theorem t_partT {ω : Opq} (hf : ∀ i a, ω.f i a = F i a) (hn : (ω.w 0).toS.length ≤ 1000) : evalT T_partT ω = some (0, [F 301 [ω.w 0]]) := by
  have hF : F 301 [ω.w 0] = .vs (encZ (ω.w 0).toS ++ [0, 0]) := rfl
  have h3 : (den ω (.app 300 [.va 0])).toS = encZ (ω.w 0).toS := by show (ω.f 300 [ω.w 0]).toS = _; rw [hf]; exact F300_S _
  have hl := encZ_len (ω.w 0).toS
  unfold T_partT
  refine need_ok (decide_eq_true (show ((ω.w 0).toS.length : Int) ≤ 1000 by omega)) (need_ok ?_ ?_)
  · exact lim_ok (n := 4294967296) h3 rfl (by show ((encZ (ω.w 0).toS).length : Int) + (2 : Nat) < 4294967296; omega)
  · show some (0, [Val.vs ((den ω (.app 300 [.va 0])).toS ++ [0, 0])]) = _
    rw [h3, hF]
theorem t_right {ω : Opq} (hf : ∀ i a, ω.f i a = F i a) : evalT T_right ω = some (0, [F 330 [ω.w 0, ω.w 1, ω.w 2, ω.w 3, ω.w 4]]) := by
  have hF : F 330 [ω.w 0, ω.w 1, ω.w 2, ω.w 3, ω.w 4] = .vb (rightV (ω.w 0).toI (ω.w 1).toS (ω.w 2).toS (ω.w 3).toI (ω.w 4).toI) := rfl
  rw [hF]
  unfold T_right right_0 right_1 right_2 right_3 right_4 right_5 rightV
  simp only [evalT, dens, den, dB, prim, toI_vi, toS_vs, toB_vb, cmpI_gtr, cmpI_eql, cmpS_eql, cmpS_neq, decide_eq_true_eq]
  by_cases h1 : (32 : Int) < ((ω.w 1).toS.length : Int)
  · simp [h1]
  · by_cases h2 : (32 : Int) < ((ω.w 2).toS.length : Int)
    · simp [h1, h2]
    · by_cases k1 : (ω.w 0).toI = 1
      · by_cases a : (ω.w 2).toS = [] <;> by_cases b : (ω.w 4).toI = 0 <;> simp [h1, h2, k1, a, b]
      · by_cases k2 : (ω.w 0).toI = 2
        · simp [h1, h2, k2]
        · by_cases k3 : (ω.w 0).toI = 3
          · simp [h1, h2, k3]
          · simp [h1, h2, k1, k2, k3]
/-! What comes behind all texts that begin so. -/
theorem sb_at (l : List UInt8) (i : Nat) (h : i < l.length) : getV (sbV l) (i : Int) 0 = .vi ((l.getD i 0).toNat : Int) := by
  show (((sbV l).getD (i : Int).toNat (.vl [])).toL).getD 0 default = _
  rw [Int.toNat_natCast, List.getD_eq_getElem?_getD, List.getD_eq_getElem?_getD]
  unfold sbV
  rw [List.getElem?_map, List.getElem?_eq_getElem h, List.getD_eq_getElem?_getD, List.getElem?_eq_getElem h]; rfl
theorem byte_eq255 (b : UInt8) : decide ((b.toNat : Int) = 255) = decide (b = 255) := by
  by_cases h : b = 255
  · subst h; rfl
  · rw [decide_eq_false h]
    refine decide_eq_false fun e => h (UInt8.toNat_inj.1 ?_)
    show b.toNat = 255
    omega
theorem iter340 {ω : Opq} {l : List UInt8} (hn : l.length ≤ 1000000) : ∀ n, n ≤ l.length → Iter (fun vs => evalT L340 (ω.upd 2000 vs)) [.vi n, .vl (sbV l)] 0 [.vi (trimN l n), .vl (sbV l)]
  | 0, _ => by
    refine .out ?_
    show evalT L340 (ω.upd 2000 [_, _]) = _
    unfold L340
    simp only [evalT, dens, den, dB, prim, upd_at, show (2000 ≤ 2000) = True by simp, show (2000 ≤ 2001) = True by simp, if_true, show 2000 - 2000 = 0 from rfl, show 2001 - 2000 = 1 from rfl, List.getD_cons_zero, List.getD_cons_succ, toI_vi, toB_vb, cmpI_leq, cmpI_gtr, Int.le_refl, decide_true, show ¬ (0 : Int) < ((0 : Nat) : Int) by omega, decide_false, Bool.false_eq_true, if_false, show (0 : Int) ≤ ((0 : Nat) : Int) by omega, trimN]
  | n + 1, h => by
    have hs : arI .sub .i64 ((n + 1 : Nat) : Int) 1 = (n : Int) := by rw [sub64 (by omega) (by omega)]; omega
    have hat := sb_at l n (by omega)
    have g1 : (0 : Int) ≤ ((n + 1 : Nat) : Int) := by omega
    have g2 : (0 : Int) < ((n + 1 : Nat) : Int) := by omega
    have g3 : (0 : Int) ≤ (n : Int) := by omega
    have g4 : (n : Int) < ((n + 1 : Nat) : Int) := by omega
    have g5 : (n : Int) < ((sbV l).length : Int) := by rw [sb_len]; omega
    have g6 : (n : Int) ≤ ((n + 1 : Nat) : Int) := by omega
    have step : ∀ b, decide (l.getD n 0 = 255) = b → evalT L340 (ω.upd 2000 [.vi (n + 1 : Nat), .vl (sbV l)]) = bif b then some (0, [.vi n, .vl (sbV l)]) else some (1, [.vi (n + 1 : Nat), .vl (sbV l)]) := by
      intro b hb
      unfold L340
      simp only [evalT, dens, den, dB, prim, upd_at, show (2000 ≤ 2000) = True by simp, show (2000 ≤ 2001) = True by simp, if_true, show 2000 - 2000 = 0 from rfl, show 2001 - 2000 = 1 from rfl, List.getD_cons_zero, List.getD_cons_succ, toI_vi, toL_vl, toB_vb, cmpI_leq, cmpI_gtr, cmpI_lss, cmpI_eql, hs, hat, g1, g2, g3, g4, g5, g6, decide_true, Bool.and_self, byte_eq255, hb]
      cases b <;> rfl
    cases hb : decide (l.getD n 0 = 255) with
    | true =>
      have ht : trimN l (n + 1) = trimN l n := by rw [trimN, hb]; rfl
      rw [ht]
      exact .more (by rw [step true hb]; rfl) (iter340 hn n (by omega))
    | false =>
      have ht : trimN l (n + 1) = n + 1 := by rw [trimN, hb]; rfl
      rw [ht]
      exact .out (by rw [step false hb]; rfl)
theorem take_set (L : List Val) (k : Nat) (v : Val) (h : k < L.length) : (L.set k v).take (k + 1) = L.take k ++ [v] := by
  rw [List.take_add_one, List.getElem?_set_self h, List.take_set_of_le (Nat.le_refl _)]; rfl
theorem up_byte (b : UInt8) : UInt8.ofNat (((b.toNat : Int) + 1) % 256).toNat = b + 1 := by
  rw [← UInt8.toNat_inj, UInt8.toNat_add, UInt8.toNat_ofNat']
  have := b.toNat_lt
  show (((b.toNat : Int) + 1) % 256).toNat % 256 = (b.toNat + 1) % 256
  omega
theorem t_after {ω : Opq} (hf : ∀ i a, ω.f i a = F i a) (hn : (ω.w 0).toS.length ≤ 1000) : evalT T_after ω = some (0, [F 331 [ω.w 0], F 332 [ω.w 0]]) := by
  obtain ⟨l, hl⟩ : ∃ l, (ω.w 0).toS = l := ⟨_, rfl⟩
  rw [hl] at hn
  have hF1 : F 331 [ω.w 0] = .vs (afterV l).1 := by rw [← hl]; rfl
  have hF2 : F 332 [ω.w 0] = .vb (afterV l).2 := by rw [← hl]; rfl
  rw [hF1, hF2]
  have hr : den ω (.op .sbytes [.va 0]) = .vl (sbV l) := by rw [← hl]; rfl
  have e0 : den ω after_0 = .vi l.length := by
    show Val.vi ((den ω (.op .sbytes [.va 0])).toL.length : Int) = _
    rw [hr, toL_vl, sb_len]
  have h340 : F 340 [.vi l.length, .vl (sbV l)] = encR (0, [.vi (trimN l l.length), .vl (sbV l)]) := by
    show encR (0, [.vi (trimN (unV (sbV l)) (l.length : Int).toNat), .vl (sbV l)]) = _
    rw [un_sb, Int.toNat_natCast]
  have hm := trimN_le l l.length
  generalize hk : trimN l l.length = m at h340 hm
  have e1 : den ω after_1 = encR (0, [.vi m, .vl (sbV l)]) := by
    show ω.f 340 [den ω after_0, den ω (.op .sbytes [.va 0])] = _
    rw [e0, hr, hf, h340]
  have e2 : dI ω after_2 = (m : Int) := by show (getV (den ω after_1).toL 1 0).toI = _; rw [e1]; rfl
  have e5 : den ω after_5 = .vl (sbV l) := by show getV (den ω after_1).toL 1 1 = _; rw [e1]; rfl
  unfold T_after
  refine evalT_loop (r := (0, [.vi m, .vl (sbV l)])) ?_ ?_ ?_
  · show loopOf _ [den ω after_0, den ω (.op .sbytes [.va 0])] = _
    rw [e0, hr, loopOf_iff, ← hk]
    exact iter340 (by omega) l.length (Nat.le_refl _)
  · show ω.f 340 [den ω after_0, den ω (.op .sbytes [.va 0])] = _
    rw [e0, hr, hf, h340]
  · refine need_ok (by show decide (0 ≤ dI ω after_2) = true; rw [e2]; exact decide_eq_true (by omega)) ?_
    cases m with
    | zero =>
      refine ite_t (by show decide (dI ω after_2 = 0) = true; rw [e2]; rfl) ?_
      have : afterV l = ([], false) := by unfold afterV; rw [hk]
      rw [this]; rfl
    | succ k =>
      have ha : afterV l = (upB l k, true) := by unfold afterV; rw [hk]
      rw [ha]
      have e4 : dI ω after_4 = (k : Int) := by
        show arI .sub .i64 (dI ω after_2) 1 = _
        rw [e2, sub64 (by omega) (by omega)]; omega
      have e6 : dI ω after_6 = ((k + 1 : Nat) : Int) := by show 0 + dI ω after_2 = _; rw [e2]; omega
      have hat := sb_at l k (by omega)
      have e7 : den ω after_7 = .vl ((sbV l).set k (.vl [.vi (((l.getD k 0).toNat + 1 : Int) % 256)])) := by
        show Val.vl ((den ω after_5).toL.set (dI ω after_4).toNat (.vl [.vi (arI .add .u8 (getV (den ω after_5).toL (dI ω after_4) 0).toI 1)])) = _
        rw [e5, e4, Int.toNat_natCast, toL_vl, hat]
        show Val.vl ((sbV l).set k (.vl [.vi (IntKind.u8.wrap (((l.getD k 0).toNat : Int) + 1))])) = _
        rw [wu8]
      have e8 : den ω after_8 = .vl ((sbV l).take k ++ [.vl [.vi (((l.getD k 0).toNat + 1 : Int) % 256)]]) := by
        show Val.vl (((den ω after_7).toL.drop (0 : Int).toNat).take (dI ω after_6 - 0).toNat) = _
        rw [e7, e6, toL_vl, show (0 : Int).toNat = 0 from rfl, List.drop_zero, show (((k + 1 : Nat) : Int) - 0).toNat = k + 1 by omega, take_set _ _ _ (by rw [sb_len]; omega)]
      refine ite_f (by show decide (dI ω after_2 = 0) = false; rw [e2]; exact decide_eq_false (by omega)) ?_
      refine need_ok ?_ (need_ok ?_ (need_ok ?_ ?_))
      · show (decide (0 ≤ dI ω after_4) && decide (dI ω after_4 < dI ω after_2)) = true
        rw [e4, e2, Bool.and_eq_true]
        exact ⟨decide_eq_true (by omega), decide_eq_true (by omega)⟩
      · show decide (dI ω after_4 < ((den ω after_5).toL.length : Int)) = true
        rw [e4, e5, toL_vl, sb_len]; exact decide_eq_true (by omega)
      · show ((decide ((0 : Int) ≤ 0) && decide (0 ≤ dI ω after_2)) && (decide (dI ω after_6 ≤ ((den ω after_7).toL.length : Int)) && bokV (den ω after_8).toL)) = true
        rw [e2, e6, e7, e8, toL_vl, toL_vl, List.length_set, sb_len, bok_app]
        have b1 : bokV ((sbV l).take k) = true := by
          have : (sbV l).take k = sbV (l.take k) := by unfold sbV; rw [List.map_take]
          rw [this]; exact bok_sb _
        rw [b1, decide_eq_true (show (0 : Int) ≤ ((k + 1 : Nat) : Int) by omega), decide_eq_true (show ((k + 1 : Nat) : Int) ≤ (l.length : Int) by omega)]
        simp only [bokV, List.all_cons, List.all_nil, toL_vl, List.getD_cons_zero, toI_vi, Int.le_refl, decide_true, Bool.and_true, Bool.true_and]
        rw [Bool.and_eq_true]
        exact ⟨decide_eq_true (by omega), decide_eq_true (by omega)⟩
      · show some (0, [Val.vs (unV (den ω after_8).toL), Val.vb true]) = _
        rw [e8, toL_vl]
        have : unV ((sbV l).take k ++ [.vl [.vi (((l.getD k 0).toNat + 1 : Int) % 256)]]) = upB l k := by
          have h1 : (sbV l).take k = sbV (l.take k) := by unfold sbV; rw [List.map_take]
          unfold upB
          rw [h1]
          show (sbV (l.take k) ++ [_]).map _ = _
          rw [List.map_append]
          have := un_sb (l.take k)
          unfold unV at this
          rw [this, ← up_byte]; rfl
        rw [this]
/-! Bounds. -/
theorem bnd_parts {ω : Opq} {e : SX} {l : List UInt8} {r : Option (Nat × List Val)} {x : VT} (he : den ω e = .vl (sbV l)) (h0 : 0 < l.length) (h1 : l.length ≤ 1000) (h : evalT x ω = r) :
    evalT (.need (.op (.cmp .leq) [.op .llen [e], .ci 1000000]) (.need (.op (.cmp .lss) [.ci 0, .op .llen [e]]) (.need (.op .and [.op (.cmp .leq) [.op .llen [e], .op .llen [e]], .op .bok [e]]) x))) ω = r := by
  refine need_ok ?_ (need_ok ?_ (need_ok ?_ h))
  · show decide (((den ω e).toL.length : Int) ≤ 1000000) = true
    rw [he, toL_vl, sb_len]; exact decide_eq_true (by omega)
  · show decide ((0 : Int) < ((den ω e).toL.length : Int)) = true
    rw [he, toL_vl, sb_len]; exact decide_eq_true (by omega)
  · show (decide (((den ω e).toL.length : Int) ≤ ((den ω e).toL.length : Int)) && bokV (den ω e).toL) = true
    rw [he, toL_vl, bok_sb, decide_eq_true (Int.le_refl _)]; rfl
theorem encT_len (l : List UInt8) : 0 < (encT l).length ∧ (encT l).length ≤ 2 * l.length + 2 := by
  have := encZ_len l
  unfold encT
  rw [List.length_append]
  simp; omega
theorem right_len {k : Int} {key to : List UInt8} {least most : Int} (h : rightV k key to least most = true) : key.length ≤ 32 ∧ to.length ≤ 32 := by
  unfold rightV at h
  cases hc : (decide (32 < (key.length : Int)) || decide (32 < (to.length : Int))) with
  | true => rw [hc] at h; cases h
  | false =>
    rw [Bool.or_eq_false_iff] at hc
    have h1 := of_decide_eq_false hc.1
    have h2 := of_decide_eq_false hc.2
    omega
theorem right_kind {k : Int} {key to : List UInt8} {least most : Int} (h : rightV k key to least most = true) : k = 1 ∨ k = 2 ∨ k = 3 := by
  unfold rightV at h
  cases hc : (decide (32 < (key.length : Int)) || decide (32 < (to.length : Int))) with
  | true => rw [hc] at h; cases h
  | false =>
    rw [hc] at h
    by_cases k1 : k = 1
    · exact .inl k1
    · by_cases k2 : k = 2
      · exact .inr (.inl k2)
      · by_cases k3 : k = 3
        · exact .inr (.inr k3)
        · simp [k1, k2, k3] at h
section
variable {ω : Opq} (hf : ∀ i a, ω.f i a = F i a)
include hf
theorem bT (i : Nat) : den ω (.op .sbytes [.app 301 [.va i]]) = .vl (sbV (encT (ω.w i).toS)) := by
  show Val.vl (sbV (ω.f 301 [ω.w i]).toS) = _
  rw [hf]; rfl
theorem bI (i : Nat) : den ω (.op .sbytes [.app 302 [.va i]]) = .vl (sbV (enc8 (ω.w i).toI)) := by
  show Val.vl (sbV (ω.f 302 [ω.w i]).toS) = _
  rw [hf]; rfl
omit hf in
theorem bstr_of {e : SX} {l : List UInt8} (h : den ω e = .vl (sbV l)) : den ω (.op .bstr [e]) = .vs l := by
  show Val.vs (unV (den ω e).toL) = _
  rw [h, toL_vl, un_sb]
theorem t_bounds0 (hk : ¬ ((ω.w 0).toI = 1 ∨ (ω.w 0).toI = 2 ∨ (ω.w 0).toI = 3)) : evalT T_bounds0 ω = some (0, [F 333 [ω.w 0, ω.w 1, ω.w 2, ω.w 3, ω.w 4], F 334 [ω.w 0, ω.w 1, ω.w 2, ω.w 3, ω.w 4]]) := by
  have hr : rightV (ω.w 0).toI (ω.w 1).toS (ω.w 2).toS (ω.w 3).toI (ω.w 4).toI = false := by
    cases e : rightV (ω.w 0).toI (ω.w 1).toS (ω.w 2).toS (ω.w 3).toI (ω.w 4).toI with
    | false => rfl
    | true => exact absurd (right_kind e) hk
  unfold T_bounds0
  refine ite_t (by show (!(ω.f 330 [ω.w 0, ω.w 1, ω.w 2, ω.w 3, ω.w 4]).toB) = true; rw [hf]; show (!(rightV _ _ _ _ _)) = true; rw [← Bool.not_false]; congr 1) ?_
  have hb : boundsV (ω.w 0).toI (ω.w 1).toS (ω.w 2).toS (ω.w 3).toI (ω.w 4).toI = ([0], [0]) := by unfold boundsV; rw [hr]; rfl
  show some (0, [Val.vs [0], Val.vs [0]]) = some (0, [Val.vs (boundsV (ω.w 0).toI (ω.w 1).toS (ω.w 2).toS (ω.w 3).toI (ω.w 4).toI).1, Val.vs (boundsV (ω.w 0).toI (ω.w 1).toS (ω.w 2).toS (ω.w 3).toI (ω.w 4).toI).2])
  rw [hb]
theorem bnd_head {k : Int} {x : VT} {a b : List UInt8} (hk : (ω.w 0).toI = k) (h : rightV k (ω.w 1).toS (ω.w 2).toS (ω.w 3).toI (ω.w 4).toI = true → evalT x ω = some (0, [Val.vs (boundsV k (ω.w 1).toS (ω.w 2).toS (ω.w 3).toI (ω.w 4).toI).1, Val.vs (boundsV k (ω.w 1).toS (ω.w 2).toS (ω.w 3).toI (ω.w 4).toI).2])) :
    evalT (.ite (.op .not [.app 330 [.ci k, .va 1, .va 2, .va 3, .va 4]]) (.ret 0 [.cs [0], .cs [0]]) x) ω = some (0, [F 333 [ω.w 0, ω.w 1, ω.w 2, ω.w 3, ω.w 4], F 334 [ω.w 0, ω.w 1, ω.w 2, ω.w 3, ω.w 4]]) := by
  have e1 : some (0, [F 333 [ω.w 0, ω.w 1, ω.w 2, ω.w 3, ω.w 4], F 334 [ω.w 0, ω.w 1, ω.w 2, ω.w 3, ω.w 4]]) = some (0, [Val.vs (boundsV k (ω.w 1).toS (ω.w 2).toS (ω.w 3).toI (ω.w 4).toI).1, Val.vs (boundsV k (ω.w 1).toS (ω.w 2).toS (ω.w 3).toI (ω.w 4).toI).2]) := by
    rw [← hk]; rfl
  rw [e1]
  have e2 : dB ω (.op .not [.app 330 [.ci k, .va 1, .va 2, .va 3, .va 4]]) = !rightV k (ω.w 1).toS (ω.w 2).toS (ω.w 3).toI (ω.w 4).toI := by
    show (!(ω.f 330 [.vi k, ω.w 1, ω.w 2, ω.w 3, ω.w 4]).toB) = _
    rw [hf]; rfl
  cases hr : rightV k (ω.w 1).toS (ω.w 2).toS (ω.w 3).toI (ω.w 4).toI with
  | true => exact ite_f (by rw [e2, hr]; rfl) (h hr)
  | false =>
    refine ite_t (by rw [e2, hr]; rfl) ?_
    have hb : boundsV k (ω.w 1).toS (ω.w 2).toS (ω.w 3).toI (ω.w 4).toI = ([0], [0]) := by unfold boundsV; rw [hr]; rfl
    rw [hb]; rfl
theorem t_bounds1 (hk : (ω.w 0).toI = 1) : evalT T_bounds1 ω = some (0, [F 333 [ω.w 0, ω.w 1, ω.w 2, ω.w 3, ω.w 4], F 334 [ω.w 0, ω.w 1, ω.w 2, ω.w 3, ω.w 4]]) := by
  unfold T_bounds1
  refine bnd_head (a := []) (b := []) hf hk fun hr => ?_
  obtain ⟨l1, l2⟩ := right_len hr
  obtain ⟨p1, p2⟩ := encT_len (ω.w 1).toS
  have q := enc8_len (ω.w 3).toI
  have d0 : den ω bounds1_0 = .vl (sbV (encT (ω.w 1).toS)) := bT hf 1
  have d1 : den ω bounds1_1 = .vl (sbV (enc8 (ω.w 3).toI)) := bI hf 3
  have d2 : den ω bounds1_2 = .vs (encT (ω.w 1).toS ++ enc8 (ω.w 3).toI) := by
    show Val.vs ((den ω (.op .bstr [bounds1_0])).toS ++ (den ω (.op .bstr [bounds1_1])).toS) = _
    rw [bstr_of d0, bstr_of d1]; rfl
  have hb : boundsV 1 (ω.w 1).toS (ω.w 2).toS (ω.w 3).toI (ω.w 4).toI = (encT (ω.w 1).toS ++ enc8 (ω.w 3).toI, (afterV (encT (ω.w 1).toS ++ enc8 (ω.w 3).toI)).1) := by unfold boundsV; rw [hr]; rfl
  rw [hb]
  refine need_ok (decide_eq_true (show ((ω.w 1).toS.length : Int) ≤ 1000 by omega)) (bnd_parts d0 p1 (by omega) (bnd_parts d1 (by omega) (by omega) (need_ok ?_ (need_ok ?_ ?_))))
  · exact lim_ok (n := 4294967296) (x := encT (ω.w 1).toS) (y := enc8 (ω.w 3).toI) (by rw [bstr_of d0]; rfl) (by rw [bstr_of d1]; rfl) (by omega)
  · show decide (((den ω bounds1_2).toS.length : Int) ≤ 1000) = true
    rw [d2, toS_vs, List.length_append]
    exact decide_eq_true (by omega)
  · show some (0, [den ω bounds1_2, ω.f 331 [den ω bounds1_2]]) = _
    rw [hf, d2]; rfl
theorem t_bounds2 (hk : (ω.w 0).toI = 2) : evalT T_bounds2 ω = some (0, [F 333 [ω.w 0, ω.w 1, ω.w 2, ω.w 3, ω.w 4], F 334 [ω.w 0, ω.w 1, ω.w 2, ω.w 3, ω.w 4]]) := by
  unfold T_bounds2
  refine bnd_head (a := []) (b := []) hf hk fun hr => ?_
  obtain ⟨l1, l2⟩ := right_len hr
  obtain ⟨p1, p2⟩ := encT_len (ω.w 1).toS
  obtain ⟨q1, q2⟩ := encT_len (ω.w 2).toS
  have d0 : den ω bounds2_0 = .vl (sbV (encT (ω.w 2).toS)) := bT hf 2
  have d2 : den ω bounds2_2 = .vl (sbV (encT (ω.w 1).toS)) := bT hf 1
  have hc : dB ω (.op (.scmp .neq) [.va 2, .cs []]) = !decide ((ω.w 2).toS = []) := rfl
  by_cases h2 : (ω.w 2).toS = []
  · have hb : boundsV 2 (ω.w 1).toS (ω.w 2).toS (ω.w 3).toI (ω.w 4).toI = (encT (ω.w 1).toS, []) := by unfold boundsV; rw [hr]; simp [h2]
    rw [hb]
    refine ite_f (by rw [hc, decide_eq_true h2]; rfl) (need_ok (decide_eq_true (show ((ω.w 1).toS.length : Int) ≤ 1000 by omega)) (bnd_parts d2 p1 (by omega) ?_))
    show some (0, [den ω (.op .bstr [bounds2_2]), Val.vs []]) = _
    rw [bstr_of d2]
  · have hb : boundsV 2 (ω.w 1).toS (ω.w 2).toS (ω.w 3).toI (ω.w 4).toI = (encT (ω.w 1).toS, encT (ω.w 2).toS) := by unfold boundsV; rw [hr]; simp [h2]
    rw [hb]
    refine ite_t (by rw [hc, decide_eq_false h2]; rfl) (need_ok (decide_eq_true (show ((ω.w 2).toS.length : Int) ≤ 1000 by omega)) (bnd_parts d0 q1 (by omega) (need_ok (decide_eq_true (show ((ω.w 1).toS.length : Int) ≤ 1000 by omega)) (bnd_parts d2 p1 (by omega) ?_))))
    show some (0, [den ω (.op .bstr [bounds2_2]), den ω (.op .bstr [bounds2_0])]) = _
    rw [bstr_of d2, bstr_of d0]
theorem t_bounds3 (hk : (ω.w 0).toI = 3) : evalT T_bounds3 ω = some (0, [F 333 [ω.w 0, ω.w 1, ω.w 2, ω.w 3, ω.w 4], F 334 [ω.w 0, ω.w 1, ω.w 2, ω.w 3, ω.w 4]]) := by
  unfold T_bounds3
  refine bnd_head (a := []) (b := []) hf hk fun hr => ?_
  have d0 : den ω bounds3_0 = .vl (sbV (enc8 (ω.w 3).toI)) := bI hf 3
  have d1 : den ω bounds3_1 = .vl (sbV (enc8 (ω.w 4).toI)) := bI hf 4
  have q0 := enc8_len (ω.w 3).toI
  have q1 := enc8_len (ω.w 4).toI
  have hb : boundsV 3 (ω.w 1).toS (ω.w 2).toS (ω.w 3).toI (ω.w 4).toI = (enc8 (ω.w 3).toI, enc8 (ω.w 4).toI) := by unfold boundsV; rw [hr]; rfl
  rw [hb]
  refine bnd_parts d0 (by omega) (by omega) (bnd_parts d1 (by omega) (by omega) ?_)
  show some (0, [den ω (.op .bstr [bounds3_0]), den ω (.op .bstr [bounds3_1])]) = _
  rw [bstr_of d0, bstr_of d1]
end
theorem t_cursorNone {ω : Opq} (hf : ∀ i a, ω.f i a = F i a) : evalT T_cursorNone ω = some (0, [.vb true]) := by
  unfold T_cursorNone
  simp only [evalT, dens, den, dB, prim, toI_vi, toB_vb, cmpI_leq, cmpI_gtr]
  by_cases h1 : ((ω.w 1).toS.length : Int) ≤ 60
  · by_cases h2 : ((ω.w 2).toS.length : Int) ≤ 60
    · have g1 : ((ω.w 1).toS.length : Int) ≤ 1000 := by omega
      have g2 : ((ω.w 2).toS.length : Int) ≤ 1000 := by omega
      simp only [h1, h2, g1, g2, decide_true, Bool.and_self, if_true, Bool.not_true, Bool.false_eq_true, if_false]
      split
      · rfl
      · split <;> rfl
    · simp [h1, h2]
  · simp [h1]
end Go.Ev
