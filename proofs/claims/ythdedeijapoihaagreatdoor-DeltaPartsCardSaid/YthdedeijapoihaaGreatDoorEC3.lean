import Derived.Test.YthdedeijapoihaaGreatDoorEB1
import Derived.Test.YthdedeijapoihaaGreatDoorET15
set_option autoImplicit false
set_option linter.unusedSimpArgs false
set_option linter.unusedVariables false
namespace Go.Ev
open Go
@[simp] theorem W5 {i : Nat} (h : i ≤ 10000000) : arI .add .i64 (i : Int) 1 = ((i + 1 : Nat) : Int) := au8 h
theorem G4 (l : List Val) (i : Nat) : w6 l (i : Int) 3 = l5 (atV l i) 3 := rfl
theorem G5 (l : List Val) (i : Nat) : w6 l (i : Int) 4 = l5 (atV l i) 4 := rfl
theorem G6 (l : List Val) (i : Nat) : w6 l (i : Int) 5 = l5 (atV l i) 5 := rfl
theorem G7 (l : List Val) (i : Nat) : w6 l (i : Int) 6 = l5 (atV l i) 6 := rfl
theorem M0 (l : List Val) (i : Nat) : w6 l (i : Int) 7 = l5 (atV l i) 7 := rfl
theorem T6 (r : Val) : Val.vl [l5 r 0, l5 r 1, l5 r 2, l5 r 3, l5 r 4, l5 r 5, l5 r 6, l5 r 7] = J3 r := rfl
theorem b77 (bad : Val → Bool) (l : List Val) (px : Nat → List Val) (x : Val) : Z3 x px (fun i => bad (atV l i)) l.length = if l.any bad then (1, px (((List.range l.length).find? (fun i => bad (atV l i))).getD 0)) else (0, [x, .vi l.length]) := by
  rw [au5]
  rw [show (List.range l.length).any (fun i => bad (atV l i)) = l.any bad from aM3 bad (.vl []) l]
theorem a42 (l r : List Val) (h : l.length = r.length) (px : Nat → List Val) (x : Val) : Z3 x px (fun i => !decide (Z6 (atV l i) = Z6 (atV r i))) l.length = if l.map Z6 = r.map Z6 then (0, [x, .vi l.length]) else (1, px (((List.range l.length).find? (fun i => !decide (Z6 (atV l i) = Z6 (atV r i)))).getD 0)) := by
 rw [au5, show ((List.range l.length).any fun i => !decide (Z6 (atV l i) = Z6 (atV r i))) = !decide (l.map Z6 = r.map Z6) from b62 Z6 (.vl []) l r h]
 by_cases h1 : l.map Z6 = r.map Z6 <;> simp [h1]
theorem bT2 {l r : List Val} (h : l.length ≠ r.length) : ¬ l.map Z6 = r.map Z6 := fun e => h (by simpa using congrArg List.length e)
theorem b78 {α β : Type} (f : α → β) : ∀ l : List α, l.flatMap (fun r => [f r]) = l.map f
 | [] => rfl
 | a :: l => by rw [List.flatMap_cons, b78 f l]; rfl
theorem ao0 {step : List Val → Option (Nat × List Val)} {n : Nat} {a0 : List Val} {g : Nat → List Val} (mk : Nat → List Val → List Val) {s0 p : List Val} (h0 : s0 = mk 0 a0)
 (h1 : ∀ i, i < n → step (mk i (a0 ++ aM2 g i)) = some (0, mk (i + 1) (a0 ++ aM2 g i ++ g i))) (h2 : step (mk n (a0 ++ aM2 g n)) = some (1, p)) : r8 step s0 = some (0, p) := by
 have := aC0 (step := step) (st := fun i => mk i (a0 ++ aM2 g i)) (n := n) (j := 0) (p := p) (fun i hi => by
   show step (mk i (a0 ++ aM2 g i)) = some (0, mk (i + 1) (a0 ++ (aM2 g i ++ g i)))
   rw [h1 i hi, List.append_assoc]) h2
 rw [h0]
 simpa only [aM2, List.append_nil] using this
theorem aD4 (f : Val → Val) (l : List Val) : aM2 (fun i => [f (atV l i)]) l.length = l.map f := by
 rw [au6, show (fun i => [f (atV l i)]) = fun i => (fun r => [f r]) (l.getD i (.vl [])) from rfl, au7 (fun r => [f r]) (.vl []) l]
 exact b78 _ _
theorem aW3 {g : Nat → List Val} (hg : ∀ i, (g i).length ≤ 1) (n : Nat) : (aM2 g n).length ≤ n := by simpa using b61 hg n
theorem bz1 {ω : Opq} (hf : ∀ i a, ω.f i a = F i a) (hn : (ω.w 0).toL.length ≤ 1000000) : g8 al7 ω = some (0, [F 201 [ω.w 0, ω.w 1]]) := by
 have hF : F 201 [ω.w 0, ω.w 1] = .vb (an6 (ω.w 0).toL (ω.w 1).toL) := rfl
 have hF2 : ∀ a b c d e f : Val, F 131 [a, b, c, d, ω.w 0, e, f, ω.w 1] = bT1 (ω.w 0).toL (ω.w 1).toL := fun _ _ _ _ _ _ => rfl
 rw [hF]
 unfold al7 cx0
 simp only [g8, B5, j3, den, dB, z9, List.cons_append, List.nil_append]
 by_cases hl : (ω.w 0).toL.length = (ω.w 1).toL.length
 · have hl' : ((ω.w 0).toL.length : Int) = (ω.w 1).toL.length := by rw [hl]
   rw [a34 (bad := fun i => !decide (Z6 (atV (ω.w 0).toL i) = Z6 (atV (ω.w 1).toL i))) (px := fun k => [.vb false, .vi k]) (n := (ω.w 0).toL.length)]
   · simp only [hf, hF2, bT1, a42 _ _ hl, hl']
     by_cases h : (ω.w 0).toL.map Z6 = (ω.w 1).toL.map Z6 <;> simp [B5, g8, h, den, j3, z9, v5, w6, hf, hF2, bT1, a42 _ _ hl, hl', an6]
   · intro i hi hb
     have hi' : i < (ω.w 1).toL.length := by omega
     simp only [Bool.not_eq_false', decide_eq_true_eq, ac5] at hb
     simp [hi, hi', o9, W5 (show i ≤ 10000000 by omega), A2, A3, A4, G4, G5, G6, G7, M0, hb]
   · intro i hi hb
     have hi' : i < (ω.w 1).toL.length := by omega
     simp only [Bool.not_eq_true', decide_eq_false_iff_not, ac5] at hb
     simp [hi, hi', o9, A2, A3, A4, G4, G5, G6, G7, M0]
     simpa using hb
   · simp [o9]
 · have hl' : ¬ ((ω.w 0).toL.length : Int) = (ω.w 1).toL.length := by omega
   simp [hl', an6, bT2 hl, j3, den]
theorem c53 {ω : Opq} (hf : ∀ i a, ω.f i a = F i a) (hn : (ω.w 0).toL.length ≤ 1000000) : g8 al7 ω = some (0, [F 201 [ω.w 0, ω.w 1]]) := bz1 hf hn
theorem bM8 {ω : Opq} (hf : ∀ i a, ω.f i a = F i a) (hn : (ω.w 0).toL.length ≤ 1000000) : g8 ab9 ω = some (0, [F 201 [ω.w 0, ω.w 1]]) := by
 have hF : F 201 [ω.w 0, ω.w 1] = .vb (an6 (ω.w 0).toL (ω.w 1).toL) := rfl
 have hF2 : ∀ a b c d e f g : Val, F 451 [a, b, c, d, ω.w 0, e, f, ω.w 1, g] = bT1 (ω.w 0).toL (ω.w 1).toL := fun _ _ _ _ _ _ _ => rfl
 rw [hF]
 unfold ab9 cx3
 simp only [g8, B5, j3, den, dB, z9, List.cons_append, List.nil_append]
 by_cases hl : (ω.w 0).toL.length = (ω.w 1).toL.length
 · have hl' : ((ω.w 0).toL.length : Int) = (ω.w 1).toL.length := by rw [hl]
   rw [a34 (bad := fun i => !decide (Z6 (atV (ω.w 0).toL i) = Z6 (atV (ω.w 1).toL i))) (px := fun k => [.vb false, .vi k]) (n := (ω.w 0).toL.length)]
   · simp only [hf, hF2, bT1, a42 _ _ hl, hl']
     by_cases h : (ω.w 0).toL.map Z6 = (ω.w 1).toL.map Z6 <;> simp [B5, g8, h, den, j3, z9, v5, w6, hf, hF2, bT1, a42 _ _ hl, hl', an6]
   · intro i hi hb
     have hi' : i < (ω.w 1).toL.length := by omega
     simp only [Bool.not_eq_false', decide_eq_true_eq, ac5] at hb
     simp [hi, hi', o9, W5 (show i ≤ 10000000 by omega), A2, A3, A4, G4, G5, G6, G7, M0, hb]
   · intro i hi hb
     have hi' : i < (ω.w 1).toL.length := by omega
     simp only [Bool.not_eq_true', decide_eq_false_iff_not, ac5] at hb
     simp [hi, hi', o9, A2, A3, A4, G4, G5, G6, G7, M0]
     simpa using hb
   · simp [o9]
 · have hl' : ¬ ((ω.w 0).toL.length : Int) = (ω.w 1).toL.length := by omega
   simp [hl', an6, bT2 hl, j3, den]
theorem c54 {i n : Nat} (h : i < n) (h2 : n ≤ 9223372036854775807) : arI .add .i64 (i : Int) 1 = ((i + 1 : Nat) : Int) := by
 rw [aC2 (by omega) (by omega)]; omega
theorem bM9 {ω : Opq} (hf : ∀ i a, ω.f i a = F i a) (hn : (ω.w 0).toL.length ≤ 9223372036854775807) : g8 ab8 ω = some (0, [F 1 [ω.w 0]]) := by
 have hF : F 1 [ω.w 0] = .vb (!(ω.w 0).toL.any bf0 && decide ((ω.w 0).toL.length ≤ 30)) := rfl
 have hF2 : ∀ a b c d : Val, F 450 [a, b, c, d, ω.w 0] = cp3 bf0 (ω.w 0).toL := fun _ _ _ _ => rfl
 rw [hF]
 unfold ab8 cx2
 simp only [g8, B5, j3, den, dB, z9, List.cons_append, List.nil_append]
 rw [a34 (bad := fun i => bf0 (atV (ω.w 0).toL i)) (px := fun k => [.vb false, .vi k]) (n := (ω.w 0).toL.length)]
 · simp only [hf, hF2, cp3, b77]
   cases h : (ω.w 0).toL.any bf0 <;> simp [B5, g8, h, den, j3, z9, v5, w6, hf, hF2, cp3, b77]
   omega
 · intro i hi hb
   simp [hi, o9, c54 hi hn, bf0, pk, b63, atV, l5] at hb ⊢
   omega
 · intro i hi hb
   simp [hi, o9, bf0, pk, b63, atV, l5] at hb ⊢
   omega
 · simp [o9]
theorem bz2 {ω : Opq} (hf : ∀ i a, ω.f i a = F i a) (hn : (ω.w 0).toL.length ≤ 1000) : g8 a27 ω = some (0, [F 200 [ω.w 0]]) := by
 have hg : ∀ i, (aM2 (fun i => [J3 (atV (ω.w 0).toL i)]) i).length ≤ i := aW3 (fun _ => by simp)
 have hr := aD4 J3 (ω.w 0).toL
 have hF : F 200 [ω.w 0] = .vl ((ω.w 0).toL.map J3) := rfl
 have hF2 : ∀ a b c d e : Val, F 130 [a, b, c, d, e, ω.w 0] = v5 (0, [.vi (ω.w 0).toL.length, .vi (ω.w 0).toL.length, .vl ((ω.w 0).toL.map J3)]) := fun _ _ _ _ _ => rfl
 rw [hF]
 unfold a27 cw9 al6 al5
 simp only [g8, B5, j3, den, dB, z9, List.cons_append, List.nil_append]
 rw [ao0 (fun i acc => [.vi acc.length, .vi i, .vl acc]) (a0 := []) (g := fun i => [J3 (atV (ω.w 0).toL i)]) (n := (ω.w 0).toL.length) (p := [.vi (ω.w 0).toL.length, .vi (ω.w 0).toL.length, .vl ((ω.w 0).toL.map J3)]) (by simp)]
 · simp [hf, hF2, B5, g8, den, j3, dB, z9, v5, w6, hr]
 · intro i hi
   have := hg i
   have hb : ((aM2 (fun i => [J3 (atV (ω.w 0).toL i)]) i).length : Int) + 1 ≤ 1000000 := by omega
   simp [hi, o9, W5 (show i ≤ 10000000 by omega), A2, A3, A4, G4, G5, G6, G7, M0, T6, hb]
 · simp [o9, hr]
theorem bN0 {ω : Opq} (hf : ∀ i a, ω.f i a = F i a) (h : (ω.w 0).toI = (ω.w 1).toL.length) (hn : (ω.w 1).toL.length ≤ 1000000) : g8 ab7 ω = some (0, []) := by
 have hF : ∀ a d : Val, F 132 [a, ω.w 1, ω.w 0, d] = v5 (0, [.vi (nt (ω.w 0)), aq3 cj1 (ω.w 1) (nt (ω.w 0))]) := fun _ _ => rfl
 unfold ab7 cx1
 simp only [g8, B5, j3, den, dB, z9, List.cons_append, List.nil_append]
 rw [A5 (fun i => [.vi i, aq3 cj1 (ω.w 1) i]) (n := (ω.w 1).toL.length) (j := 0) (p := [.vi (ω.w 1).toL.length, aq3 cj1 (ω.w 1) (ω.w 1).toL.length]) (by simp [aq3])]
 · simp [hf, hF, nt, h, B5, g8, j3]
 · intro i hi
   simp [hi, o9, h, W5 (show i ≤ 10000000 by omega), aq3, ac6, cj1]
 · simp [o9, h]
theorem bz3 {ω : Opq} (hf : ∀ i a, ω.f i a = F i a) (h : (ω.w 0).toI = (ω.w 1).toL.length) (hn : (ω.w 1).toL.length ≤ 1000000) : g8 a28 ω = some (0, []) := by
 have hF : ∀ a d : Val, F 456 [a, ω.w 1, ω.w 0, d] = v5 (0, [.vi (nt (ω.w 0)), aq3 cj2 (ω.w 1) (nt (ω.w 0))]) := fun _ _ => rfl
 unfold a28 cx4
 simp only [g8, B5, j3, den, dB, z9, List.cons_append, List.nil_append]
 rw [A5 (fun i => [.vi i, aq3 cj2 (ω.w 1) i]) (n := (ω.w 1).toL.length) (j := 0) (p := [.vi (ω.w 1).toL.length, aq3 cj2 (ω.w 1) (ω.w 1).toL.length]) (by simp [aq3])]
 · simp [hf, hF, nt, h, B5, g8, j3]
 · intro i hi
   simp [hi, o9, h, W5 (show i ≤ 10000000 by omega), aq3, ac6, cj2]
 · simp [o9, h]
theorem bz4 {ω : Opq} (hf : ∀ i a, ω.f i a = F i a) (h : (ω.w 0).toI = (ω.w 1).toL.length) (hn : (ω.w 1).toL.length ≤ 1000000) : g8 a29 ω = some (0, []) := by
 have hF : ∀ a d : Val, F 457 [a, ω.w 1, ω.w 0, d] = v5 (0, [.vi (nt (ω.w 0)), aq3 cj3 (ω.w 1) (nt (ω.w 0))]) := fun _ _ => rfl
 unfold a29 cx5
 simp only [g8, B5, j3, den, dB, z9, List.cons_append, List.nil_append]
 rw [A5 (fun i => [.vi i, aq3 cj3 (ω.w 1) i]) (n := (ω.w 1).toL.length) (j := 0) (p := [.vi (ω.w 1).toL.length, aq3 cj3 (ω.w 1) (ω.w 1).toL.length]) (by simp [aq3])]
 · simp [hf, hF, nt, h, B5, g8, j3]
 · intro i hi
   simp [hi, o9, h, W5 (show i ≤ 10000000 by omega), aq3, ac6, cj3]
 · simp [o9, h]
theorem bN1 {ω : Opq} (hn : (ω.w 0).toL.length ≤ 100) (hl : isL (ω.w 0) = true) : g8 ac0 ω = some (0, [ω.w 0]) := by
 have e := aN4 hl
 generalize (ω.w 0).toL = l at hn e
 unfold ac0 aB4
 have h1 : (l.length : Int) ≤ 1000000 := by omega
 simp only [g8, j3, den, dB, z9, e, j5, g9, p7, k9, l7, h1, decide_true, if_true]
 cases l with
 | nil => simp [e]
 | cons x l => rw [if_pos (decide_eq_true (by rw [List.length_cons]; omega))]
theorem cj9 {ω : Opq} (hf : ∀ i a, ω.f i a = F i a) (h1 : (ω.w 0).toS.length ≤ 1000) (h2 : (ω.w 8).toS.length ≤ 1000) : g8 b53 ω = some (0, [F 308 [ω.w 0, ω.w 1, ω.w 2, ω.w 8, ω.w 9, ω.w 10, ω.w 16, ω.w 17, ω.w 18, ω.w 19, ω.w 20]]) := by
 have hF : F 308 [ω.w 0, ω.w 1, ω.w 2, ω.w 8, ω.w 9, ω.w 10, ω.w 16, ω.w 17, ω.w 18, ω.w 19, ω.w 20] = .vi (c93 (aD9 (decide ((ω.w 16).toI = 3)) (ω.w 0).toS (ω.w 1).toI (ω.w 2).toI) (aD9 (decide ((ω.w 16).toI = 3)) (ω.w 8).toS (ω.w 9).toI (ω.w 10).toI)) := rfl
 have f7 : ∀ a b c : Val, F 307 [a, b, c] = .vs (aD9 true a.toS b.toI c.toI) := fun _ _ _ => rfl
 have f6 : ∀ a b c : Val, F 306 [a, b, c] = .vs (aD9 false a.toS b.toI c.toI) := fun _ _ _ => rfl
 have g1 : ((ω.w 0).toS.length : Int) ≤ 1000 := by omega
 have g2 : ((ω.w 8).toS.length : Int) ≤ 1000 := by omega
 rw [hF]
 unfold b53 bw3 bw4 bw5 bw6 bw7 bw8 c93
 simp only [g8, j3, den, dB, z9, g9, G2, p7, r5, l7, g1, g2, decide_true, if_true, hf, f6, f7, show ∀ a b, aZ3 .lss a b = ltB a b from fun _ _ => rfl, show ∀ a b, aZ3 .gtr a b = ltB b a from fun _ _ => rfl]
 by_cases h : (ω.w 16).toI = 3
 · simp only [h, decide_true, if_true]
   cases ltB (aD9 true (ω.w 0).toS (ω.w 1).toI (ω.w 2).toI) (aD9 true (ω.w 8).toS (ω.w 9).toI (ω.w 10).toI) <;> cases ltB (aD9 true (ω.w 8).toS (ω.w 9).toI (ω.w 10).toI) (aD9 true (ω.w 0).toS (ω.w 1).toI (ω.w 2).toI) <;> rfl
 · simp only [h, decide_false, Bool.false_eq_true, if_false]
   cases ltB (aD9 false (ω.w 0).toS (ω.w 1).toI (ω.w 2).toI) (aD9 false (ω.w 8).toS (ω.w 9).toI (ω.w 10).toI) <;> cases ltB (aD9 false (ω.w 8).toS (ω.w 9).toI (ω.w 10).toI) (aD9 false (ω.w 0).toS (ω.w 1).toI (ω.w 2).toI) <;> rfl
theorem c55 {x y : Nat} (h : x + y ≤ 1000000) : arI .add .i64 (x : Int) (y : Int) = ((x + y : Nat) : Int) := by
 rw [aC2 (by omega) (by omega)]; omega
theorem aN9 {x y : Nat} (h : y ≤ x) (h2 : x ≤ 1000000) : arI .sub .i64 (x : Int) (y : Int) = ((x - y : Nat) : Int) := by
 rw [c31 (by omega) (by omega)]; omega
theorem bz5 {x : Nat} (h : 1 ≤ x) (h2 : x ≤ 1000000) : arI .sub .i64 (x : Int) 1 = ((x - 1 : Nat) : Int) := by
 rw [c31 (by omega) (by omega)]; omega
theorem aW4 {x : Nat} (h2 : x ≤ 1000000) : arI .add .i64 (x : Int) 1 = ((x + 1 : Nat) : Int) := by
 rw [aC2 (by omega) (by omega)]; omega
theorem ao1 {v : Val} (h : 0 ≤ v.toI) : v.toI = (nt v : Int) := by unfold nt; omega
theorem okN {l : List Val} (h : l.all okK = true) {k : Nat} (hk : k < l.length) : J3 (atV l k) = atV l k := (av0 (an7 (List.all_eq_true.1 h _ (a71 hk))).1).1
theorem a43 {l q : List Val} {f : Val → Bool} (h : l.all f = true) (hp : q.Perm l) : q.all f = true := List.all_eq_true.2 fun v hv => List.all_eq_true.1 h v (hp.mem_iff.1 hv)
theorem ao2 {l : List Val} {i j : Nat} (h : l.all okK = true) (hi : i < l.length) (hj : j < l.length) : (swp l i j).all okK = true := by
 rw [List.all_eq_true] at h ⊢
 intro v hv
 unfold swp at hv
 rcases List.mem_or_eq_of_mem_set hv with hv | rfl
 · rcases List.mem_or_eq_of_mem_set hv with hv | rfl
   · exact h v hv
   · exact h _ (a71 hj)
 · exact h _ (a71 hi)
theorem a44 {l : List Val} (h : l.all okK = true) {i j : Nat} (hi : i < l.length) (hj : j < l.length) : (l.set i (J3 (atV l j))).set j (J3 (atV l i)) = swp l i j := by
 rw [okN h hi, okN h hj]; rfl
theorem a73 {l : List Val} {a b : Nat} (h : l.all okK = true) : ∀ n, a + n ≤ l.length → b + n ≤ l.length → (swN l a b n).all okK = true
 | 0, _, _ => h
 | n + 1, h1, h2 => ao2 (a73 h n (by omega) (by omega)) (by rw [T5]; omega) (by rw [T5]; omega)
theorem c56 {ω : Opq} {a b n N i : Nat} (h7 : (ω.w 7).toI = a) (h8 : (ω.w 8).toI = b) (h9 : (ω.w 9).toI = n) (h6 : (ω.w 6).toI = N) (hi : i < n) (h1 : a + n ≤ b) (h2 : b + n ≤ N) (hN : N ≤ 100) {M : List Val} (hM : M.length = N) (ho : M.all okK = true) :
 g8 cn9 (ω.upd 2000 [.vi i, .vl M]) = some (0, [.vi (i + 1 : Nat), .vl (swp M (a + i) (b + i))]) := by
 have e1 := c55 (x := a) (y := i) (by omega)
 have e2 := c55 (x := b) (y := i) (by omega)
 have e3 := aW4 (x := i) (by omega)
 have p1 : (i : Int) < n := by omega
 have p2 : (0 : Int) ≤ ((b + i : Nat) : Int) := by omega
 have p3 : ((b + i : Nat) : Int) < N := by omega
 have p4 : (0 : Int) ≤ ((a + i : Nat) : Int) := by omega
 have p5 : ((a + i : Nat) : Int) < N := by omega
 rw [← a44 ho (by omega) (by omega)]
 unfold cn9
 simp only [g8, j3, den, dB, z9, o9, Nat.reduceLeDiff, Nat.reduceSub, if_true, if_false, List.getD_cons_zero, List.getD_cons_succ, g9, j5, p7, h7, h8, h9, h6, e1, e2, e3, k9, l7, p1, p2, p3, p4, p5, decide_true, Bool.and_true, hM, List.length_set, A2, A3, A4, G4, G5, G6, G7, M0, T6, Int.toNat_natCast]
theorem c57 {ω : Opq} (hf : ∀ i a, ω.f i a = F i a) (hn : (F 420 [ω.w 5, ω.w 6, ω.w 7, ω.w 8, ω.w 9]).toB = true) : g8 aB5 ω = some (0, [F 421 [ω.w 5, ω.w 7, ω.w 8, ω.w 9]]) := by
 obtain ⟨ho, hd⟩ := a9 (show (aN8 (ω.w 5) (ω.w 6) && decide (0 ≤ (ω.w 7).toI ∧ 0 ≤ (ω.w 9).toI ∧ (ω.w 7).toI + (ω.w 9).toI ≤ (ω.w 8).toI ∧ (ω.w 8).toI + (ω.w 9).toI ≤ (ω.w 6).toI)) = true from hn)
 obtain ⟨e5, oa, h6, hl⟩ := an8 ho
 obtain ⟨q1, q2, q3, q4⟩ := of_decide_eq_true hd
 have h7 := ao1 q1
 have h9 := ao1 q2
 have h8 := ao1 (show 0 ≤ (ω.w 8).toI by omega)
 have hF : F 421 [ω.w 5, ω.w 7, ω.w 8, ω.w 9] = .vl (swN (ω.w 5).toL (nt (ω.w 7)) (nt (ω.w 8)) (nt (ω.w 9))) := rfl
 have hF2 : ∀ a c d : Val, F 452 [a, ω.w 5, c, d, ω.w 7, ω.w 8, ω.w 9] = v5 (0, [.vi (nt (ω.w 9)), .vl (swN (ω.w 5).toL (nt (ω.w 7)) (nt (ω.w 8)) (nt (ω.w 9)))]) := fun _ _ _ => rfl
 rw [hF]
 unfold aB5
 refine k5 (r := (0, [.vi (nt (ω.w 9)), .vl (swN (ω.w 5).toL (nt (ω.w 7)) (nt (ω.w 8)) (nt (ω.w 9)))])) ?_ ?_ ?_
 · refine A5 (fun i => [.vi i, .vl (swN (ω.w 5).toL (nt (ω.w 7)) (nt (ω.w 8)) i)]) (n := nt (ω.w 9)) (by rw [show j3 ω [.ci 0, .va 5] = [.vi 0, ω.w 5] from rfl, e5]; rfl) (fun i hi => ?_) ?_
   · exact c56 h7 h8 h9 h6 hi (by omega) (by omega) hl (T5 ..) (a73 oa i (by omega) (by omega))
   · unfold cn9
     have p1 : ¬ ((nt (ω.w 9) : Nat) : Int) < (ω.w 9).toI := by omega
     simp only [g8, j3, den, dB, z9, o9, Nat.reduceLeDiff, Nat.reduceSub, if_true, if_false, List.getD_cons_zero, List.getD_cons_succ, g9, j5, p7, k9, p1, decide_false, Bool.false_eq_true]
 · show ω.f 452 [.vi 0, ω.w 5, ω.w 6, ω.w 5, ω.w 7, ω.w 8, ω.w 9] = _
   rw [hf, hF2]
 · show some (0, [w6 (ω.f 452 [.vi 0, ω.w 5, ω.w 6, ω.w 5, ω.w 7, ω.w 8, ω.w 9]).toL 1 1]) = _
   rw [hf, hF2]; rfl
theorem aD5 (m N : Nat) : ∀ (n i j : Nat) (M : List Val), 0 < i → 0 < j → i ≤ m → m + j ≤ N → M.length = N → M.all okK = true → (aE0 m n i j M).2.all okK = true ∧ (aE0 m n i j M).2.length = N
 | 0, i, j, M, _, _, _, _, hM, ho => ⟨ho, hM⟩
 | n + 1, i, j, M, hi, hj, him, hjN, hM, ho => by
   unfold aE0
   by_cases h1 : i = j
   · rw [if_pos h1]; exact ⟨ho, hM⟩
   · rw [if_neg h1]
     by_cases h2 : j < i
     · rw [if_pos h2]
       exact aD5 m N n (i - j) j _ (by omega) hj (by omega) hjN (by rw [T5]; exact hM) (a73 ho j (by omega) (by omega))
     · rw [if_neg h2]
       exact aD5 m N n i (j - i) _ hi (by omega) him (by omega) (by rw [T5]; exact hM) (a73 ho i (by omega) (by omega))
theorem ao3 {l : List Val} {n : Val} {N : Nat} (ho : l.all okK = true) (hl : l.length = N) (hn : n.toI = (N : Int)) (hN : N ≤ 100) : aN8 (.vl l) n = true :=
 T3 rfl (T3 ho (T3 (decide_eq_true (by rw [hn]; show (N : Int) = (l.length : Int); omega)) (decide_eq_true (by show l.length ≤ 100; omega))))
theorem ao4 {v : Val} {n : Nat} (h : v.toI = (n : Int)) : nt v = n := by unfold nt; omega
theorem aW5 {M : List Val} {n va vb vk : Val} {N a b k : Nat} (ho : M.all okK = true) (hM : M.length = N) (hn : n.toI = (N : Int)) (hN : N ≤ 100) (ha : va.toI = (a : Int)) (hb : vb.toI = (b : Int)) (hk : vk.toI = (k : Int)) (h1 : a + k ≤ b) (h2 : b + k ≤ N) : (F 420 [.vl M, n, va, vb, vk]).toB = true := by
 show (aN8 (.vl M) n && decide (0 ≤ va.toI ∧ 0 ≤ vk.toI ∧ va.toI + vk.toI ≤ vb.toI ∧ vb.toI + vk.toI ≤ n.toI)) = true
 exact T3 (ao3 ho hM hn hN) (decide_eq_true (by rw [hn, ha, hb, hk]; omega))
theorem cu3 {M : List Val} {va vb vk : Val} {a b k : Nat} (ha : va.toI = (a : Int)) (hb : vb.toI = (b : Int)) (hk : vk.toI = (k : Int)) : F 421 [.vl M, va, vb, vk] = .vl (swN M a b k) := by
 show Val.vl (swN M (nt va) (nt vb) (nt vk)) = _
 rw [ao4 ha, ao4 hb, ao4 hk]
def aD6 : SX := .op (.ar .sub .i64) [.va 8, .va 2000]
def bz6 : SX := .op (.ar .sub .i64) [.op (.ar .add .i64) [.va 8, .va 2001], .va 2000]
theorem aW6 : c89 = .ite (.op (.cmp .neq) [.va 2000, .va 2001]) (.ite (.op (.cmp .gtr) [.va 2000, .va 2001]) (.need (.app 420 [.va 2002, .va 6, aD6, .va 8, .va 2001]) (.ret 0 [.op (.ar .sub .i64) [.va 2000, .va 2001], .va 2001, .app 421 [.va 2002, aD6, .va 8, .va 2001]])) (.need (.app 420 [.va 2002, .va 6, aD6, bz6, .va 2000]) (.ret 0 [.va 2000, .op (.ar .sub .i64) [.va 2001, .va 2000], .app 421 [.va 2002, aD6, bz6, .va 2000]]))) (.ret 1 [.va 2000, .va 2001, .va 2002]) := rfl
theorem c58 {ω : Opq} (hf : ∀ i a, ω.f i a = F i a) {m N : Nat} (h8 : (ω.w 8).toI = m) (h6 : (ω.w 6).toI = N) (hN : N ≤ 100) : ∀ (n i j : Nat) (M : List Val), i + j ≤ n + 1 → 0 < i → 0 < j → i ≤ m → m + j ≤ N → M.length = N → M.all okK = true →
 Iter (fun vs => g8 c89 (ω.upd 2000 vs)) [.vi i, .vi j, .vl M] 0 [.vi (aE0 m n i j M).1, .vi (aE0 m n i j M).1, .vl (aE0 m n i j M).2]
 | 0, i, j, M, hn, hi, hj, him, hjN, hM, ho => by omega
 | n + 1, i, j, M, hn, hi, hj, him, hjN, hM, ho => by
   obtain ⟨ω', hω⟩ : ∃ ω', ω' = ω.upd 2000 [.vi i, .vi j, .vl M] := ⟨_, rfl⟩
   have v0 : ω'.w 2000 = .vi i := by rw [hω]; rfl
   have v1 : ω'.w 2001 = .vi j := by rw [hω]; rfl
   have v2 : ω'.w 2002 = .vl M := by rw [hω]; rfl
   have u8 : (ω'.w 8).toI = m := by rw [hω]; exact h8
   have u6 : (ω'.w 6).toI = N := by rw [hω]; exact h6
   have hf' : ∀ i a, ω'.f i a = F i a := by rw [hω]; exact hf
   have a1 : den ω' aD6 = .vi (m - i : Nat) := by
    show Val.vi (arI .sub .i64 (ω'.w 8).toI (ω'.w 2000).toI) = _
    rw [u8, v0, g9, aN9 him (by omega)]
   have a2 : den ω' bz6 = .vi (m + j - i : Nat) := by
    show Val.vi (arI .sub .i64 (arI .add .i64 (ω'.w 8).toI (ω'.w 2001).toI) (ω'.w 2000).toI) = _
    rw [u8, v0, v1, g9, g9, c55 (by omega), aN9 (by omega) (by omega)]
   unfold aE0
   by_cases h1 : i = j
   · rw [if_pos h1]
     refine .out ?_
     show g8 c89 (ω.upd 2000 [.vi i, .vi j, .vl M]) = _
     rw [← hω, aW6]
     refine x7 (by show (!decide ((ω'.w 2000).toI = (ω'.w 2001).toI)) = false; rw [v0, v1, g9, g9, h1, decide_eq_true rfl]; rfl) ?_
     show some (1, [ω'.w 2000, ω'.w 2001, ω'.w 2002]) = _
     rw [v0, v1, v2, h1]
   · rw [if_neg h1]
     have c1 : dB ω' (.op (.cmp .neq) [.va 2000, .va 2001]) = true := by
      show (!decide ((ω'.w 2000).toI = (ω'.w 2001).toI)) = true
      rw [v0, v1, g9, g9, decide_eq_false (by omega)]; rfl
     by_cases h2 : j < i
     · rw [if_pos h2]
       refine .more (vs' := [.vi (i - j : Nat), .vi j, .vl (swN M (m - i) m j)]) ?_ (c58 hf h8 h6 hN n (i - j) j _ (by omega) (by omega) hj (by omega) hjN (by rw [T5]; exact hM) (a73 ho j (by omega) (by omega)))
       show g8 c89 (ω.upd 2000 [.vi i, .vi j, .vl M]) = _
       rw [← hω, aW6]
       refine E8 c1 (E8 (by show decide ((ω'.w 2001).toI < (ω'.w 2000).toI) = true; rw [v0, v1]; exact decide_eq_true (by show (j : Int) < (i : Int); omega)) (i4 ?_ ?_))
       · show (ω'.f 420 [ω'.w 2002, ω'.w 6, den ω' aD6, ω'.w 8, ω'.w 2001]).toB = true
         rw [hf', v2, a1, v1]
         exact aW5 ho hM u6 hN rfl u8 rfl (by omega) (by omega)
       · show some (0, [Val.vi (arI .sub .i64 (ω'.w 2000).toI (ω'.w 2001).toI), ω'.w 2001, ω'.f 421 [ω'.w 2002, den ω' aD6, ω'.w 8, ω'.w 2001]]) = _
         rw [hf', v0, v1, v2, a1, g9, g9, aN9 (by omega) (by omega), cu3 rfl u8 rfl]
     · rw [if_neg h2]
       refine .more (vs' := [.vi i, .vi (j - i : Nat), .vl (swN M (m - i) (m + j - i) i)]) ?_ (c58 hf h8 h6 hN n i (j - i) _ (by omega) hi (by omega) him (by omega) (by rw [T5]; exact hM) (a73 ho i (by omega) (by omega)))
       show g8 c89 (ω.upd 2000 [.vi i, .vi j, .vl M]) = _
       rw [← hω, aW6]
       refine E8 c1 (x7 (by show decide ((ω'.w 2001).toI < (ω'.w 2000).toI) = false; rw [v0, v1]; exact decide_eq_false (by show ¬ (j : Int) < (i : Int); omega)) (i4 ?_ ?_))
       · show (ω'.f 420 [ω'.w 2002, ω'.w 6, den ω' aD6, den ω' bz6, ω'.w 2000]).toB = true
         rw [hf', v2, a1, a2, v0]
         exact aW5 ho hM u6 hN rfl rfl rfl (by omega) (by omega)
       · show some (0, [ω'.w 2000, Val.vi (arI .sub .i64 (ω'.w 2001).toI (ω'.w 2000).toI), ω'.f 421 [ω'.w 2002, den ω' aD6, den ω' bz6, ω'.w 2000]]) = _
         rw [hf', v0, v1, v2, a1, a2, g9, g9, aN9 (by omega) (by omega), cu3 rfl rfl rfl]
theorem ck0 {ω : Opq} (hf : ∀ i a, ω.f i a = F i a) (hn : (F 422 [ω.w 5, ω.w 6, ω.w 7, ω.w 8, ω.w 9]).toB = true) : g8 b52 ω = some (0, [F 423 [ω.w 5, ω.w 7, ω.w 8, ω.w 9]]) := by
 obtain ⟨ho, hd⟩ := a9 (show (aN8 (ω.w 5) (ω.w 6) && decide (0 ≤ (ω.w 7).toI ∧ (ω.w 7).toI < (ω.w 8).toI ∧ (ω.w 8).toI < (ω.w 9).toI ∧ (ω.w 9).toI ≤ (ω.w 6).toI)) = true from hn)
 obtain ⟨e5, oa, h6, hl⟩ := an8 ho
 obtain ⟨q1, q2, q3, q4⟩ := of_decide_eq_true hd
 have h7 := ao1 q1
 have h8 := ao1 (show 0 ≤ (ω.w 8).toI by omega)
 have h9 := ao1 (show 0 ≤ (ω.w 9).toI by omega)
 have hF : F 423 [ω.w 5, ω.w 7, ω.w 8, ω.w 9] = .vl (c42 (ω.w 5).toL (nt (ω.w 7)) (nt (ω.w 8)) (nt (ω.w 9))) := rfl
 rw [hF]
 generalize nt (ω.w 7) = a at h7 ⊢
 generalize hm : nt (ω.w 8) = m at h8 ⊢
 generalize nt (ω.w 9) = b at h9 ⊢
 generalize hL : (ω.w 5).toL = l at e5 oa h6 hl ⊢
 have r0 : den ω aL4 = .vi (m - a : Nat) := by
  show Val.vi (arI .sub .i64 (ω.w 8).toI (ω.w 7).toI) = _
  rw [h8, h7, aN9 (by omega) (by omega)]
 have r1 : den ω aL5 = .vi (b - m : Nat) := by
  show Val.vi (arI .sub .i64 (ω.w 9).toI (ω.w 8).toI) = _
  rw [h8, h9, aN9 (by omega) (by omega)]
 have hF2 : ∀ x y z u v w t : Val, F 458 [.vi (m - a : Nat), .vi (b - m : Nat), .vl l, x, y, ω.w 8, z, u, v, w, t] = v5 (0, [.vi (aE0 (nt (ω.w 8)) (m - a + (b - m)) (m - a) (b - m) l).1, .vi (aE0 (nt (ω.w 8)) (m - a + (b - m)) (m - a) (b - m) l).1, .vl (aE0 (nt (ω.w 8)) (m - a + (b - m)) (m - a) (b - m) l).2]) := fun _ _ _ _ _ _ _ => rfl
 rw [hm] at hF2
 have sp := an4 m (m - a + (b - m)) (m - a) (b - m) (l.take a) (seg l a m) (seg l m b) (l.drop b) (by omega) (by omega) (by omega) (D2 (by omega)) (D2 (by omega)) (by rw [List.length_take]; omega)
 rw [← cz5 (l := l) (by omega) (by omega)] at sp
 have al := aD5 m l.length (m - a + (b - m)) (m - a) (b - m) l (by omega) (by omega) (by omega) (by omega) rfl oa
 have it := c58 hf h8 h6 hl (m - a + (b - m)) (m - a) (b - m) l (by omega) (by omega) (by omega) (by omega) (by omega) rfl oa
 generalize aE0 m (m - a + (b - m)) (m - a) (b - m) l = R at sp al it hF2
 obtain ⟨r, M⟩ := R
 simp only at sp al it hF2
 obtain ⟨s1, s2, s3, s4, s5⟩ := sp
 obtain ⟨al1, al2⟩ := al
 have d2 : den ω aL6 = v5 (0, [.vi r, .vi r, .vl M]) := by
  show ω.f 458 [den ω aL4, den ω aL5, ω.w 5, ω.w 6, ω.w 5, ω.w 8, ω.w 0, ω.w 1, ω.w 2, ω.w 3, ω.w 4] = _
  rw [r0, r1, e5, hf, hF2]
 have d3 : den ω aL7 = .vl M := by show w6 (den ω aL6).toL 1 2 = _; rw [d2]; rfl
 have d4 : den ω am1 = .vi r := by show w6 (den ω aL6).toL 1 0 = _; rw [d2]; rfl
 have d5 : den ω aL8 = .vi (m - r : Nat) := by
  show Val.vi (arI .sub .i64 (ω.w 8).toI (den ω am1).toI) = _
  rw [h8, d4, g9, aN9 (by omega) (by omega)]
 unfold b52
 refine k5 (r := (0, [.vi r, .vi r, .vl M])) ?_ d2 (i4 ?_ ?_)
 · show r8 _ [den ω aL4, den ω aL5, ω.w 5] = _
   rw [r0, r1, e5, q9]
   exact it
 · show (ω.f 420 [den ω aL7, ω.w 6, den ω aL8, ω.w 8, den ω am1]).toB = true
   rw [hf, d3, d4, d5]
   exact aW5 al1 al2 h6 hl rfl h8 rfl (by omega) (by omega)
 · show some (0, [ω.f 421 [den ω aL7, den ω aL8, ω.w 8, den ω am1]]) = _
   rw [hf, d3, d4, d5, cu3 rfl h8 rfl, s5]; rfl
theorem T7 {l : List Val} (h : l.all okK = true) {k : Nat} (hk : k < l.length) : ((l5 (atV l k) 0).toS.length : Int) ≤ 1000 := by
 have := (an7 (List.all_eq_true.1 h _ (a71 hk))).2
 unfold pk at this; omega
theorem b79 {l : List Val} (h : l.all okK = true) {i j : Nat} (hi : i < l.length) (hj : j < l.length) (a b c d e : Val) :
 decide ((F 308 [l5 (atV l i) 0, l5 (atV l i) 1, l5 (atV l i) 2, l5 (atV l j) 0, l5 (atV l j) 1, l5 (atV l j) 2, a, b, c, d, e]).toI < 0) = j8 (m0 [a, b, c, d, e]) (atV l i) (atV l j) := by
 have h1 := (av0 (an7 (List.all_eq_true.1 h _ (a71 hi))).1).2
 have h2 := (av0 (an7 (List.all_eq_true.1 h _ (a71 hj))).1).2
 have e1 : (F 308 [l5 (atV l i) 0, l5 (atV l i) 1, l5 (atV l i) 2, l5 (atV l j) 0, l5 (atV l j) 1, l5 (atV l j) 2, a, b, c, d, e]).toI = c93 (ci6 (m0 [a, b, c, d, e]) (J2 (atV l i))) (ci6 (m0 [a, b, c, d, e]) (J2 (atV l j))) := rfl
 have e2 : j8 (m0 [a, b, c, d, e]) (atV l i) (atV l j) = j8 (m0 [a, b, c, d, e]) (J2 (atV l i)) (J2 (atV l j)) := rfl
 rw [e1, e2, Bool.eq_iff_iff, decide_eq_true_iff, bM6, ci8 _ h1 h2]
theorem cp4 (ω : Opq) : m0 [ω.w 0, ω.w 1, ω.w 2, ω.w 3, ω.w 4] = m0 (fil ω) := rfl
theorem c59 {ω : Opq} (hf : ∀ i a, ω.f i a = F i a) {a N k : Nat} (h7 : (ω.w 7).toI = a) (h6 : (ω.w 6).toI = N) (hN : N ≤ 100) {l : List Val} (hl : l.length = N) (ho : l.all okK = true) (hk : a + k + 1 < N) :
 g8 c26 (ω.upd 3000 [.vi (a + k + 1 : Nat), .vl l]) = some (if j8 (m0 (fil ω)) (atV l (a + k + 1)) (atV l (a + k)) then (0, [.vi (a + k : Nat), .vl (swp l (a + k + 1) (a + k))]) else (1, [.vi (a + k + 1 : Nat), .vl l])) := by
 have e1 := cu2 (K := a + k + 1) (k := a + k) rfl (by omega)
 have p0 : (a : Int) < ((a + k + 1 : Nat) : Int) := by omega
 have p1 : (0 : Int) ≤ ((a + k + 1 : Nat) : Int) := by omega
 have p2 : ((a + k + 1 : Nat) : Int) < N := by omega
 have p3 : (0 : Int) ≤ ((a + k : Nat) : Int) := by omega
 have p4 : ((a + k : Nat) : Int) < N := by omega
 have p5 := T7 ho (k := a + k + 1) (by omega)
 have p6 := T7 ho (k := a + k) (by omega)
 have hc := b79 ho (i := a + k + 1) (j := a + k) (by omega) (by omega) (ω.w 0) (ω.w 1) (ω.w 2) (ω.w 3) (ω.w 4)
 rw [cp4] at hc
 rw [← a44 ho (by omega) (by omega)]
 unfold c26
 simp only [g8, j3, den, dB, z9, o9, Nat.reduceLeDiff, Nat.reduceSub, if_true, if_false, List.getD_cons_zero, List.getD_cons_succ, g9, j5, p7, h7, h6, e1, k9, l7, W2, p0, p1, p2, p3, p4, p5, p6, decide_true, Bool.and_true, hl, List.length_set, A2, A3, A4, G4, G5, G6, G7, M0, T6, Int.toNat_natCast, am5, hf, hc]
 cases j8 (m0 (fil ω)) (atV l (a + k + 1)) (atV l (a + k)) <;> rfl
theorem ck1 {ω : Opq} (hf : ∀ i a, ω.f i a = F i a) {a N : Nat} (h7 : (ω.w 7).toI = a) (h6 : (ω.w 6).toI = N) (hN : N ≤ 100) : ∀ (k : Nat) (l : List Val), a + k < N → l.length = N → l.all okK = true →
 Iter (fun vs => g8 c26 (ω.upd 3000 vs)) [.vi (a + k : Nat), .vl l] 0 [.vi (X5 (m0 (fil ω)) a l k).1, .vl (X5 (m0 (fil ω)) a l k).2]
 | 0, l, hk, hl, ho => by
   refine .out ?_
   have p0 : ¬ (a : Int) < ((a : Nat) : Int) := by omega
   show g8 c26 (ω.upd 3000 [.vi (a : Nat), .vl l]) = _
   unfold c26
   simp only [g8, j3, den, dB, z9, o9, Nat.reduceLeDiff, Nat.reduceSub, if_true, if_false, List.getD_cons_zero, List.getD_cons_succ, g9, j5, p7, h7, W2, p0, decide_false, Bool.false_eq_true, X5]
 | k + 1, l, hk, hl, ho => by
   have hs := c59 hf h7 h6 hN (k := k) hl ho (by omega)
   unfold X5
   cases hc : j8 (m0 (fil ω)) (atV l (a + k + 1)) (atV l (a + k)) with
   | true =>
     rw [hc, if_pos rfl] at hs
     rw [if_pos rfl]
     exact .more hs (ck1 hf h7 h6 hN k _ (by omega) (by rw [a72, hl]) (ao2 ho (by omega) (by omega)))
   | false =>
     rw [hc, if_neg (by simp)] at hs
     rw [if_neg (by simp)]
     exact .out hs
theorem bz7 : ch1 = .ite (.op (.cmp .lss) [.va 2000, .va 8]) (.loop ⟨461, [.va 2000, .va 2001], 3000, [.va 6, .va 2001, .va 7, .va 8, .va 0, .va 1, .va 2, .va 3, .va 4, .va 2000]⟩ c26 [.ret 0 [.op (.ar .add .i64) [.va 2000, .ci 1], .op .lget [.app 461 [.va 2000, .va 2001, .va 6, .va 2001, .va 7, .va 8, .va 0, .va 1, .va 2, .va 3, .va 4, .va 2000], .ci 1, .ci 1]]]) (.ret 1 [.va 2000, .va 2001]) := rfl
theorem c60 {ω : Opq} (hf : ∀ i a, ω.f i a = F i a) {a N b i : Nat} (h7 : (ω.w 7).toI = a) (h8 : (ω.w 8).toI = b) (h6 : (ω.w 6).toI = N) (hN : N ≤ 100) {l : List Val} (hl : l.length = N) (ho : l.all okK = true) (hai : a ≤ i) (hib : i < b) (hb : b ≤ N) :
 g8 ch1 (ω.upd 2000 [.vi i, .vl (v6 (m0 (fil ω)) l a i)]) = some (0, [.vi (i + 1 : Nat), .vl (v6 (m0 (fil ω)) l a (i + 1))]) := by
 have hst := bM7 (sec := m0 (fil ω)) (l := l) hai (by omega)
 have hpl := a40 (m0 (fil ω)) (l := l) hai
 have hpo := a43 ho (a39 (m0 (fil ω)) (l := l) hai)
 generalize v6 (m0 (fil ω)) l a i = M at hst hpl hpo ⊢
 obtain ⟨ω', hω⟩ : ∃ ω', ω' = ω.upd 2000 [.vi i, .vl M] := ⟨_, rfl⟩
 have v0 : ω'.w 2000 = .vi i := by rw [hω]; rfl
 have v1 : ω'.w 2001 = .vl M := by rw [hω]; rfl
 have u6 : (ω'.w 6).toI = N := by rw [hω]; exact h6
 have u7 : (ω'.w 7).toI = a := by rw [hω]; exact h7
 have u8 : (ω'.w 8).toI = b := by rw [hω]; exact h8
 have uf : fil ω' = fil ω := by rw [hω]; rfl
 have hf' : ∀ i a, ω'.f i a = F i a := by rw [hω]; exact hf
 have lp := ck1 hf' u7 u6 hN (i - a) M (by omega) (by omega) hpo
 rw [show a + (i - a) = i by omega, uf] at lp
 have hF : ∀ x y z : Val, F 461 [.vi i, .vl M, x, y, ω'.w 7, z, ω'.w 0, ω'.w 1, ω'.w 2, ω'.w 3, ω'.w 4, .vi i] = v5 (0, [.vi (X5 (m0 (fil ω')) (nt (ω'.w 7)) M (i - nt (ω'.w 7))).1, .vl (X5 (m0 (fil ω')) (nt (ω'.w 7)) M (i - nt (ω'.w 7))).2]) := fun _ _ _ => rfl
 rw [uf, ao4 u7] at hF
 have e1 : ω'.f 461 [ω'.w 2000, ω'.w 2001, ω'.w 6, ω'.w 2001, ω'.w 7, ω'.w 8, ω'.w 0, ω'.w 1, ω'.w 2, ω'.w 3, ω'.w 4, ω'.w 2000] = v5 (0, [.vi (X5 (m0 (fil ω)) a M (i - a)).1, .vl (X5 (m0 (fil ω)) a M (i - a)).2]) := by
  rw [hf', v0, v1, hF]
 rw [← hω, bz7]
 refine E8 (by show decide ((ω'.w 2000).toI < (ω'.w 8).toI) = true; rw [v0, u8, g9]; exact decide_eq_true (by omega)) (k5 (r := (0, [.vi (X5 (m0 (fil ω)) a M (i - a)).1, .vl (X5 (m0 (fil ω)) a M (i - a)).2])) ?_ e1 ?_)
 · show r8 _ [ω'.w 2000, ω'.w 2001] = _
   rw [v0, v1, q9]
   exact lp
 · show some (0, [Val.vi (arI .add .i64 (ω'.w 2000).toI 1), w6 (ω'.f 461 [ω'.w 2000, ω'.w 2001, ω'.w 6, ω'.w 2001, ω'.w 7, ω'.w 8, ω'.w 0, ω'.w 1, ω'.w 2, ω'.w 3, ω'.w 4, ω'.w 2000]).toL 1 1]) = _
   rw [e1, v0, g9, aW4 (by omega), ← hst]; rfl
theorem ck2 {ω : Opq} (hf : ∀ i a, ω.f i a = F i a) (hn : (F 424 [ω.w 5, ω.w 6, ω.w 7, ω.w 8]).toB = true) : g8 b54 ω = some (0, [F 425 [ω.w 0, ω.w 1, ω.w 2, ω.w 3, ω.w 4, ω.w 5, ω.w 7, ω.w 8]]) := by
 obtain ⟨ho, hd⟩ := a9 (show (aN8 (ω.w 5) (ω.w 6) && decide (0 ≤ (ω.w 7).toI ∧ (ω.w 7).toI ≤ (ω.w 8).toI ∧ (ω.w 8).toI ≤ (ω.w 6).toI)) = true from hn)
 obtain ⟨e5, oa, h6, hl⟩ := an8 ho
 obtain ⟨q1, q2, q3⟩ := of_decide_eq_true hd
 have h7 := ao1 q1
 have h8 := ao1 (show 0 ≤ (ω.w 8).toI by omega)
 have hF : F 425 [ω.w 0, ω.w 1, ω.w 2, ω.w 3, ω.w 4, ω.w 5, ω.w 7, ω.w 8] = .vl (v6 (m0 (fil ω)) (ω.w 5).toL (nt (ω.w 7)) (nt (ω.w 8))) := rfl
 have hF2 : ∀ x y z : Val, F 460 [x, ω.w 5, y, z, ω.w 7, ω.w 8, ω.w 0, ω.w 1, ω.w 2, ω.w 3, ω.w 4] = v5 (0, [.vi (max (nt (ω.w 7) + 1) (nt (ω.w 8)) : Nat), .vl (v6 (m0 (fil ω)) (ω.w 5).toL (nt (ω.w 7)) (nt (ω.w 8)))]) := fun _ _ _ => rfl
 rw [hF]
 generalize nt (ω.w 7) = a at h7 hF2 ⊢
 generalize nt (ω.w 8) = b at h8 hF2 ⊢
 have r0 : den ω au4 = .vi (a + 1 : Nat) := by
  show Val.vi (arI .add .i64 (ω.w 7).toI 1) = _
  rw [h7, aW4 (by omega)]
 have e1 : ω.f 460 [den ω au4, ω.w 5, ω.w 6, ω.w 5, ω.w 7, ω.w 8, ω.w 0, ω.w 1, ω.w 2, ω.w 3, ω.w 4] = v5 (0, [.vi (max (a + 1) b : Nat), .vl (v6 (m0 (fil ω)) (ω.w 5).toL a b)]) := by
  rw [hf, hF2]
 unfold b54
 refine k5 (r := (0, [.vi (max (a + 1) b : Nat), .vl (v6 (m0 (fil ω)) (ω.w 5).toL a b)])) ?_ e1 ?_
 · show r8 _ [den ω au4, ω.w 5] = _
   rw [r0]
   have hout : ∀ (i : Nat) (M : Val), b ≤ i → g8 ch1 (ω.upd 2000 [.vi i, M]) = some (1, [.vi i, M]) := fun i M hi => by
    rw [bz7]
    refine x7 ?_ rfl
    show decide ((i : Int) < (ω.w 8).toI) = false
    exact decide_eq_false (by omega)
   by_cases hab : a + 1 < b
   · rw [Nat.max_eq_right (by omega)]
     refine A5 (fun i => [.vi (a + 1 + i : Nat), .vl (v6 (m0 (fil ω)) (ω.w 5).toL a (a + 1 + i))]) (n := b - (a + 1)) ?_ (fun i hi => c60 hf h7 h8 h6 hl rfl oa (by omega) (by omega) (by omega)) ?_
     · show _ = [Val.vi (a + 1 : Nat), Val.vl (v6 (m0 (fil ω)) (ω.w 5).toL a (a + 1))]
       rw [aD1 (by omega) (by omega) (by omega), ← e5]
     · show g8 ch1 (ω.upd 2000 [.vi (a + 1 + (b - (a + 1)) : Nat), .vl (v6 (m0 (fil ω)) (ω.w 5).toL a (a + 1 + (b - (a + 1))))]) = _
       rw [show a + 1 + (b - (a + 1)) = b by omega]
       exact hout b _ (Nat.le_refl _)
   · rw [Nat.max_eq_left (by omega), aD1 (by omega) (by omega) (by omega), ← e5, q9]
     exact .out (hout (a + 1) _ (by omega))
 · show some (0, [w6 (ω.f 460 [den ω au4, ω.w 5, ω.w 6, ω.w 5, ω.w 7, ω.w 8, ω.w 0, ω.w 1, ω.w 2, ω.w 3, ω.w 4]).toL 1 1]) = _
   rw [e1]; rfl
theorem bz8 {i j : Nat} (h : i + j ≤ 1000000) : IntKind.i64.wrap (arI .shr .u64 (IntKind.u64.wrap (arI .add .i64 (i : Int) (j : Int))) 1) = (((i + j) / 2 : Nat) : Int) := by
 rw [c55 h]
 have e1 : IntKind.u64.wrap ((i + j : Nat) : Int) = ((i + j : Nat) : Int) := by
  have : IntKind.u64.wrap ((i + j : Nat) : Int) = ((i + j : Nat) : Int) % 18446744073709551616 := rfl
  rw [this]; omega
 have e2 : arI .shr .u64 ((i + j : Nat) : Int) 1 = (((i + j) / 2 : Nat) : Int) := by
  have : arI .shr .u64 ((i + j : Nat) : Int) 1 = ((i + j : Nat) : Int).fdiv 2 := rfl
  rw [this, Int.fdiv_eq_ediv_of_nonneg _ (by omega)]; omega
 rw [e1, e2]
 exact cp0 (by omega) (by omega)
theorem c61 {ω : Opq} (hf : ∀ i a, ω.f i a = F i a) {a N i j : Nat} (h7 : (ω.w 7).toI = a) (h6 : (ω.w 6).toI = N) (hN : N ≤ 100) (hl : (ω.w 5).toL.length = N) (ho : (ω.w 5).toL.all okK = true) (hij : i < j) (hj : j ≤ N) (ha : a < N) :
 g8 ch2 (ω.upd 2000 [.vi i, .vi j]) = some (0, if j8 (m0 (fil ω)) (atV (ω.w 5).toL ((i + j) / 2)) (atV (ω.w 5).toL a) then [.vi ((i + j) / 2 + 1 : Nat), .vi j] else [.vi i, .vi ((i + j) / 2 : Nat)]) := by
 have e0 := bz8 (i := i) (j := j) (by omega)
 have hlt : (i + j) / 2 < j := by omega
 generalize (i + j) / 2 = h at e0 hlt ⊢
 have e1 := aW4 (x := h) (by omega)
 have p0 : (i : Int) < (j : Int) := by omega
 have p1 : (0 : Int) ≤ (h : Int) := by omega
 have p2 : (h : Int) < N := by omega
 have p3 : (0 : Int) ≤ (a : Int) := by omega
 have p4 : (a : Int) < N := by omega
 have p5 := T7 ho (k := h) (by omega)
 have p6 := T7 ho (k := a) (by omega)
 have hc := b79 ho (i := h) (j := a) (by omega) (by omega) (ω.w 0) (ω.w 1) (ω.w 2) (ω.w 3) (ω.w 4)
 rw [cp4] at hc
 unfold ch2
 simp only [g8, j3, den, dB, z9, o9, Nat.reduceLeDiff, Nat.reduceSub, if_true, if_false, List.getD_cons_zero, List.getD_cons_succ, g9, j5, p7, h7, h6, e0, e1, k9, l7, p0, p1, p2, p3, p4, p5, p6, decide_true, Bool.and_true, hl, A2, A3, A4, am5, hf, hc]
 cases j8 (m0 (fil ω)) (atV (ω.w 5).toL h) (atV (ω.w 5).toL a) <;> rfl
theorem c62 {ω : Opq} (hf : ∀ i a, ω.f i a = F i a) {m N i j : Nat} (h8 : (ω.w 8).toI = m) (h6 : (ω.w 6).toI = N) (hN : N ≤ 100) (hl : (ω.w 5).toL.length = N) (ho : (ω.w 5).toL.all okK = true) (hij : i < j) (hj : j ≤ N) (ha : m < N) :
 g8 ch3 (ω.upd 2000 [.vi i, .vi j]) = some (0, if (!j8 (m0 (fil ω)) (atV (ω.w 5).toL m) (atV (ω.w 5).toL ((i + j) / 2))) = true then [.vi ((i + j) / 2 + 1 : Nat), .vi j] else [.vi i, .vi ((i + j) / 2 : Nat)]) := by
 have e0 := bz8 (i := i) (j := j) (by omega)
 have hlt : (i + j) / 2 < j := by omega
 generalize (i + j) / 2 = h at e0 hlt ⊢
 have e1 := aW4 (x := h) (by omega)
 have p0 : (i : Int) < (j : Int) := by omega
 have p1 : (0 : Int) ≤ (h : Int) := by omega
 have p2 : (h : Int) < N := by omega
 have p3 : (0 : Int) ≤ (m : Int) := by omega
 have p4 : (m : Int) < N := by omega
 have p5 := T7 ho (k := h) (by omega)
 have p6 := T7 ho (k := m) (by omega)
 have hc := b79 ho (i := m) (j := h) (by omega) (by omega) (ω.w 0) (ω.w 1) (ω.w 2) (ω.w 3) (ω.w 4)
 rw [cp4] at hc
 unfold ch3
 simp only [g8, j3, den, dB, z9, o9, Nat.reduceLeDiff, Nat.reduceSub, if_true, if_false, List.getD_cons_zero, List.getD_cons_succ, g9, j5, p7, h8, h6, e0, e1, k9, l7, p0, p1, p2, p3, p4, p5, p6, decide_true, Bool.and_true, hl, A2, A3, A4, am5, hf, hc]
 cases j8 (m0 (fil ω)) (atV (ω.w 5).toL m) (atV (ω.w 5).toL h) <;> rfl
theorem c63 {ω : Opq} (hf : ∀ i a, ω.f i a = F i a) {a m b N i j mid : Nat} (h7 : (ω.w 7).toI = a) (h8 : (ω.w 8).toI = m) (h9 : (ω.w 9).toI = b) (h6 : (ω.w 6).toI = N) (hN : N ≤ 100) (hl : (ω.w 5).toL.length = N) (ho : (ω.w 5).toL.all okK = true) (hmid : mid = (a + b) / 2) (hb : b ≤ N) (ham : a < m) (hmb : m < b)
 (hij : i < j) (hj : j ≤ m) (hj2 : j ≤ mid) (hi : mid + m ≤ b + i) :
 g8 c27 (ω.upd 2000 [.vi i, .vi j]) = some (0, if (!j8 (m0 (fil ω)) (atV (ω.w 5).toL (mid + m - 1 - (i + j) / 2)) (atV (ω.w 5).toL ((i + j) / 2))) = true then [.vi ((i + j) / 2 + 1 : Nat), .vi j] else [.vi i, .vi ((i + j) / 2 : Nat)]) := by
 have e0 := bz8 (i := i) (j := j) (by omega)
 have g0 := bz8 (i := a) (j := b) (by omega)
 rw [← hmid] at g0
 have g1 := c55 (x := mid) (y := m) (by omega)
 have g2 := bz5 (x := mid + m) (by omega) (by omega)
 have hlt : (i + j) / 2 < j := by omega
 have hge : i ≤ (i + j) / 2 := by omega
 generalize (i + j) / 2 = h at e0 hlt hge ⊢
 have g3 := aN9 (x := mid + m - 1) (y := h) (by omega) (by omega)
 have e1 := aW4 (x := h) (by omega)
 have hq : mid + m - 1 - h < N := by omega
 generalize mid + m - 1 - h = q at g3 hq ⊢
 have p0 : (i : Int) < (j : Int) := by omega
 have p1 : (0 : Int) ≤ (h : Int) := by omega
 have p2 : (h : Int) < N := by omega
 have p3 : (0 : Int) ≤ (q : Int) := by omega
 have p4 : (q : Int) < N := by omega
 have p5 := T7 ho (k := h) (by omega)
 have p6 := T7 ho (k := q) (by omega)
 have hc := b79 ho (i := q) (j := h) (by omega) (by omega) (ω.w 0) (ω.w 1) (ω.w 2) (ω.w 3) (ω.w 4)
 rw [cp4] at hc
 unfold c27
 simp only [g8, j3, den, dB, z9, o9, Nat.reduceLeDiff, Nat.reduceSub, if_true, if_false, List.getD_cons_zero, List.getD_cons_succ, g9, j5, p7, h7, h8, h9, h6, e0, e1, g0, g1, g2, g3, k9, l7, p0, p1, p2, p3, p4, p5, p6, decide_true, Bool.and_true, hl, A2, A3, A4, am5, hf, hc]
 cases j8 (m0 (fil ω)) (atV (ω.w 5).toL q) (atV (ω.w 5).toL h) <;> rfl
theorem aW7 {ω : Opq} {x : VT} (i : Nat) : g8 (.ite (.op (.cmp .lss) [.va 2000, .va 2001]) x (.ret 1 [.va 2000, .va 2001])) (ω.upd 2000 [.vi i, .vi i]) = some (1, [.vi i, .vi i]) := by
 refine x7 ?_ rfl
 show decide ((i : Int) < (i : Int)) = false
 exact decide_eq_false (by omega)
theorem c64 {ω : Opq} {N r i : Nat} (h6 : (ω.w 6).toI = N) (hN : N ≤ 100) (hr : w6 (ω.f 462 [ω.w 8, ω.w 9, ω.w 6, ω.w 5, ω.w 7, ω.w 0, ω.w 1, ω.w 2, ω.w 3, ω.w 4]).toL 1 0 = .vi r) {M : List Val} (hM : M.length = N) (ho : M.all okK = true) (hi : i + 1 < r) (hrN : r ≤ N) :
 g8 c90 (ω.upd 3000 [.vi i, .vl M]) = some (0, [.vi (i + 1 : Nat), .vl (swp M i (i + 1))]) := by
 have e0 := bz5 (x := r) (by omega) (by omega)
 have e1 := aW4 (x := i) (by omega)
 have p0 : (i : Int) < ((r - 1 : Nat) : Int) := by omega
 have p1 : (0 : Int) ≤ ((i + 1 : Nat) : Int) := by omega
 have p2 : ((i + 1 : Nat) : Int) < N := by omega
 have p3 : (0 : Int) ≤ (i : Int) := by omega
 have p4 : (i : Int) < N := by omega
 rw [← a44 ho (by omega) (by omega)]
 unfold c90
 simp only [g8, j3, den, dB, z9, o9, Nat.reduceLeDiff, Nat.reduceSub, if_true, if_false, List.getD_cons_zero, List.getD_cons_succ, am5, hr, g9, j5, p7, h6, e0, e1, k9, l7, p0, p1, p2, p3, p4, decide_true, Bool.and_true, hM, List.length_set, A2, A3, A4, G4, G5, G6, G7, M0, T6, Int.toNat_natCast]
theorem c65 {ω : Opq} {N r i : Nat} (h6 : (ω.w 6).toI = N) (hN : N ≤ 100) (hr : w6 (ω.f 464 [ω.w 7, ω.w 8, ω.w 6, ω.w 5, ω.w 8, ω.w 0, ω.w 1, ω.w 2, ω.w 3, ω.w 4]).toL 1 0 = .vi r) {M : List Val} (hM : M.length = N) (ho : M.all okK = true) (hi : r < i) (hiN : i < N) :
 g8 c91 (ω.upd 3000 [.vi i, .vl M]) = some (0, [.vi (i - 1 : Nat), .vl (swp M (i - 1) i)]) := by
 have e1 := bz5 (x := i) (by omega) (by omega)
 have p0 : (r : Int) < (i : Int) := by omega
 have p1 : (0 : Int) ≤ ((i - 1 : Nat) : Int) := by omega
 have p2 : ((i - 1 : Nat) : Int) < N := by omega
 have p3 : (0 : Int) ≤ (i : Int) := by omega
 have p4 : (i : Int) < N := by omega
 rw [aC7 (by omega), ← a44 ho (by omega) (by omega)]
 unfold c91
 simp only [g8, j3, den, dB, z9, o9, Nat.reduceLeDiff, Nat.reduceSub, if_true, if_false, List.getD_cons_zero, List.getD_cons_succ, am5, hr, g9, j5, p7, h6, e1, k9, l7, W2, p0, p1, p2, p3, p4, decide_true, Bool.and_true, hM, List.length_set, A2, A3, A4, G4, G5, G6, G7, M0, T6, Int.toNat_natCast]
theorem bz9 {l : List Val} {a : Nat} (h : l.all okK = true) : ∀ n, a + n < l.length → (mvU l a n).all okK = true
 | 0, _ => h
 | n + 1, h1 => ao2 (bz9 h n (by omega)) (by rw [aC8]; omega) (by rw [aC8]; omega)
theorem bA0 {l : List Val} {m : Nat} (h : l.all okK = true) (hm : m < l.length) : ∀ n, (mvD l m n).all okK = true
 | 0 => h
 | n + 1 => ao2 (bA0 h hm n) (by rw [aC9]; omega) (by rw [aC9]; omega)
def c95 (B : Int) (e mid L : SX) : VT := .ite (.op (.cmp .lss) [mid, e]) (.ite (.op (.cmp .lss) [e, .va 9]) (.need (.app 426 [.va 0, .va 1, .va 2, .va 3, .va 4, L, .va 6, mid, e, .va 9, .ci B]) (.ret 0 [.app 425 [.va 0, .va 1, .va 2, .va 3, .va 4, L, mid, .va 9]])) (.ret 0 [L])) (.ret 0 [L])
def c96 (B : Int) (r e mid L : SX) : VT := .ite (.op (.cmp .lss) [.va 7, r]) (.ite (.op (.cmp .lss) [r, mid]) (.need (.app 426 [.va 0, .va 1, .va 2, .va 3, .va 4, L, .va 6, .va 7, r, mid, .ci B]) (c95 B e mid (.app 425 [.va 0, .va 1, .va 2, .va 3, .va 4, L, .va 7, mid]))) (c95 B e mid L)) (c95 B e mid L)
def ck3 (B : Int) (r e mid : SX) : VT := .ite (.op (.cmp .lss) [r, .va 8]) (.ite (.op (.cmp .lss) [.va 8, e]) (.need (.app 422 [.va 5, .va 6, r, .va 8, e]) (c96 B r e mid (.app 423 [.va 5, r, .va 8, e]))) (c96 B r e mid (.va 5))) (c96 B r e mid (.va 5))
theorem bN2 (B : Int) : aa1 B = .ite (.op (.cmp .eql) [.op (.ar .sub .i64) [.va 8, .va 7], .ci 1]) (.loop ⟨462, [.va 8, .va 9], 2000, [.va 6, .va 5, .va 7, .va 0, .va 1, .va 2, .va 3, .va 4]⟩ ch2 [.loop ⟨463, [.va 7, .va 5], 3000, [.va 6, .va 5, aV1]⟩ c90 [.ret 0 [.op .lget [.app 463 [.va 7, .va 5, .va 6, .va 5, aV1], .ci 1, .ci 1]]]])
 (.ite (.op (.cmp .eql) [.op (.ar .sub .i64) [.va 9, .va 8], .ci 1]) (.loop ⟨464, [.va 7, .va 8], 2000, [.va 6, .va 5, .va 8, .va 0, .va 1, .va 2, .va 3, .va 4]⟩ ch3 [.loop ⟨465, [.va 8, .va 5], 3000, [.va 6, .va 5, aV2]⟩ c91 [.ret 0 [.op .lget [.app 465 [.va 8, .va 5, .va 6, .va 5, aV2], .ci 1, .ci 1]]]])
 (.ite (.op (.cmp .gtr) [.va 8, r7]) (.loop ⟨466, [aV3, r7], 2000, [.va 6, .va 5, .va 7, .va 8, .va 9, .va 0, .va 1, .va 2, .va 3, .va 4, r7, Q3, am2]⟩ c27 [ck3 B am3 am4 r7]) (.loop ⟨466, [.va 7, .va 8], 2000, [.va 6, .va 5, .va 7, .va 8, .va 9, .va 0, .va 1, .va 2, .va 3, .va 4, r7, Q3, am2]⟩ c27 [ck3 B T1 T2 r7]))) := rfl
theorem aW8 {ω : Opq} {M : List Val} {n : Val} {N a m b : Nat} {B : Int} (ho : M.all okK = true) (hM : M.length = N) (hn : n.toI = (N : Int)) (hN : N ≤ 100) (h1 : a < m) (h2 : m < b) (h3 : b ≤ N) (h4 : (b : Int) - a ≤ B)
 (s1 : Sd (m0 (fil ω)) (seg M a m)) (s2 : Sd (m0 (fil ω)) (seg M m b)) : (F 426 [ω.w 0, ω.w 1, ω.w 2, ω.w 3, ω.w 4, .vl M, n, .vi a, .vi m, .vi b, .vi B]).toB = true := by
 show be3 [ω.w 0, ω.w 1, ω.w 2, ω.w 3, ω.w 4, .vl M, n, .vi a, .vi m, .vi b, .vi B] = true
 refine an9.2 ⟨ao3 ho hM hn hN, ?_, ?_, ?_, ?_, h4, rfl, rfl, rfl, s1, s2⟩
 · show (0 : Int) ≤ (a : Int); omega
 · show (a : Int) < (m : Int); omega
 · show (m : Int) < (b : Int); omega
 · show (b : Int) ≤ n.toI; omega
theorem ck4 {ω : Opq} {M : List Val} {va vb : Val} {a b : Nat} (ha : va.toI = (a : Int)) (hb : vb.toI = (b : Int)) : F 425 [ω.w 0, ω.w 1, ω.w 2, ω.w 3, ω.w 4, .vl M, va, vb] = .vl (v6 (m0 (fil ω)) M a b) := by
 show Val.vl (v6 (m0 (fil ω)) M (nt va) (nt vb)) = _
 rw [ao4 ha, ao4 hb]
section
variable {ω : Opq} {N a m b R E MID : Nat} {B : Int} {r e mid : SX}
theorem bA1 (hf : ∀ i a, ω.f i a = F i a) (h6 : (ω.w 6).toI = N) (hN : N ≤ 100) (h9 : ω.w 9 = .vi b) (he : den ω e = .vi E) (hmid : den ω mid = .vi MID) (hb : b ≤ N) (hB : (b : Int) - MID ≤ B) {L : SX} {M Y : List Val} (hL : den ω L = .vl M) (ho : M.all okK = true) (hM : M.length = N)
 (s1 : Sd (m0 (fil ω)) (seg M MID E)) (s2 : Sd (m0 (fil ω)) (seg M E b)) (c1 : MID < E → E < b → v6 (m0 (fil ω)) M MID b = Y) (c2 : ¬ (MID < E ∧ E < b) → M = Y) : g8 (c95 B e mid L) ω = some (0, [.vl Y]) := by
 unfold c95
 have hret : ¬ (MID < E ∧ E < b) → g8 (.ret 0 [L]) ω = some (0, [.vl Y]) := fun h => by
  show some (0, [den ω L]) = _
  rw [hL, c2 h]
 by_cases h1 : MID < E
 · refine E8 (by show decide ((den ω mid).toI < (den ω e).toI) = true; rw [he, hmid]; exact decide_eq_true (by show (MID : Int) < (E : Int); omega)) ?_
   by_cases h2 : E < b
   · refine E8 (by show decide ((den ω e).toI < (ω.w 9).toI) = true; rw [he, h9]; exact decide_eq_true (by show (E : Int) < (b : Int); omega)) (i4 ?_ ?_)
     · show (ω.f 426 [ω.w 0, ω.w 1, ω.w 2, ω.w 3, ω.w 4, den ω L, ω.w 6, den ω mid, den ω e, ω.w 9, .vi B]).toB = true
       rw [hf, hL, hmid, he, h9]
       exact aW8 ho hM h6 hN h1 h2 hb hB s1 s2
     · show some (0, [ω.f 425 [ω.w 0, ω.w 1, ω.w 2, ω.w 3, ω.w 4, den ω L, den ω mid, ω.w 9]]) = _
       rw [hf, hL, hmid, h9, ck4 rfl rfl, c1 h1 h2]
   · exact x7 (by show decide ((den ω e).toI < (ω.w 9).toI) = false; rw [he, h9]; exact decide_eq_false (by show ¬ (E : Int) < (b : Int); omega)) (hret (by omega))
 · exact x7 (by show decide ((den ω mid).toI < (den ω e).toI) = false; rw [he, hmid]; exact decide_eq_false (by show ¬ (MID : Int) < (E : Int); omega)) (hret (by omega))
theorem bA2 (hf : ∀ i a, ω.f i a = F i a) (h6 : (ω.w 6).toI = N) (hN : N ≤ 100) (h7 : ω.w 7 = .vi a) (h9 : ω.w 9 = .vi b) (hr : den ω r = .vi R) (he : den ω e = .vi E) (hmid : den ω mid = .vi MID) (hb : b ≤ N) (hmb : MID < b) (hB : (b : Int) - MID ≤ B) (hB2 : (MID : Int) - a ≤ B) {L : SX} {M M2 Y : List Val} (hL : den ω L = .vl M) (ho : M.all okK = true) (hM : M.length = N) (ho2 : M2.all okK = true) (hM2 : M2.length = N)
 (t1 : Sd (m0 (fil ω)) (seg M a R)) (t2 : Sd (m0 (fil ω)) (seg M R MID)) (d1 : a < R → R < MID → v6 (m0 (fil ω)) M a MID = M2) (d2 : ¬ (a < R ∧ R < MID) → M = M2)
 (s1 : Sd (m0 (fil ω)) (seg M2 MID E)) (s2 : Sd (m0 (fil ω)) (seg M2 E b)) (c1 : MID < E → E < b → v6 (m0 (fil ω)) M2 MID b = Y) (c2 : ¬ (MID < E ∧ E < b) → M2 = Y) : g8 (c96 B r e mid L) ω = some (0, [.vl Y]) := by
 unfold c96
 have hid : ¬ (a < R ∧ R < MID) → g8 (c95 B e mid L) ω = some (0, [.vl Y]) := fun h => by
  have := d2 h
  subst this
  exact bA1 hf h6 hN h9 he hmid hb hB hL ho hM s1 s2 c1 c2
 by_cases h1 : a < R
 · refine E8 (by show decide ((ω.w 7).toI < (den ω r).toI) = true; rw [hr, h7]; exact decide_eq_true (by show (a : Int) < (R : Int); omega)) ?_
   by_cases h2 : R < MID
   · refine E8 (by show decide ((den ω r).toI < (den ω mid).toI) = true; rw [hr, hmid]; exact decide_eq_true (by show (R : Int) < (MID : Int); omega)) (i4 ?_ ?_)
     · show (ω.f 426 [ω.w 0, ω.w 1, ω.w 2, ω.w 3, ω.w 4, den ω L, ω.w 6, ω.w 7, den ω r, den ω mid, .vi B]).toB = true
       rw [hf, hL, hmid, hr, h7]
       exact aW8 ho hM h6 hN h1 h2 (by omega) hB2 t1 t2
     · refine bA1 hf h6 hN h9 he hmid hb hB ?_ ho2 hM2 s1 s2 c1 c2
       show ω.f 425 [ω.w 0, ω.w 1, ω.w 2, ω.w 3, ω.w 4, den ω L, ω.w 7, den ω mid] = _
       rw [hf, hL, hmid, h7, ck4 rfl rfl, d1 h1 h2]
   · exact x7 (by show decide ((den ω r).toI < (den ω mid).toI) = false; rw [hr, hmid]; exact decide_eq_false (by show ¬ (R : Int) < (MID : Int); omega)) (hid (by omega))
 · exact x7 (by show decide ((ω.w 7).toI < (den ω r).toI) = false; rw [hr, h7]; exact decide_eq_false (by show ¬ (a : Int) < (R : Int); omega)) (hid (by omega))
theorem c66 {M : List Val} {n va vm vb : Val} {a m b : Nat} (ho : M.all okK = true) (hM : M.length = N) (hn : n.toI = (N : Int)) (hN : N ≤ 100) (ha : va.toI = (a : Int)) (hm : vm.toI = (m : Int)) (hb : vb.toI = (b : Int)) (h1 : a < m) (h2 : m < b) (h3 : b ≤ N) : (F 422 [.vl M, n, va, vm, vb]).toB = true := by
 show (aN8 (.vl M) n && decide (0 ≤ va.toI ∧ va.toI < vm.toI ∧ vm.toI < vb.toI ∧ vb.toI ≤ n.toI)) = true
 exact T3 (ao3 ho hM hn hN) (decide_eq_true (by omega))
theorem c67 (hf : ∀ i a, ω.f i a = F i a) (h6 : (ω.w 6).toI = N) (hN : N ≤ 100) (h7 : ω.w 7 = .vi a) (h8 : (ω.w 8).toI = m) (h9 : ω.w 9 = .vi b) (hr : den ω r = .vi R) (he : den ω e = .vi E) (hmid : den ω mid = .vi MID) (hb : b ≤ N) (hEb : E ≤ b) (hmb : MID < b) (hB : (b : Int) - MID ≤ B) (hB2 : (MID : Int) - a ≤ B) {l M M2 Y : List Val} (h5 : ω.w 5 = .vl l) (hl : l.length = N) (hlo : l.all okK = true)
 (b1 : R < m → m < E → c42 l R m E = M) (b2 : ¬ (R < m ∧ m < E) → l = M) (p1 : M.Perm l)
 (t1 : Sd (m0 (fil ω)) (seg M a R)) (t2 : Sd (m0 (fil ω)) (seg M R MID)) (d1 : a < R → R < MID → v6 (m0 (fil ω)) M a MID = M2) (d2 : ¬ (a < R ∧ R < MID) → M = M2) (p2 : M2.Perm l)
 (s1 : Sd (m0 (fil ω)) (seg M2 MID E)) (s2 : Sd (m0 (fil ω)) (seg M2 E b)) (c1 : MID < E → E < b → v6 (m0 (fil ω)) M2 MID b = Y) (c2 : ¬ (MID < E ∧ E < b) → M2 = Y) : g8 (ck3 B r e mid) ω = some (0, [.vl Y]) := by
 unfold ck3
 have oM := a43 hlo p1
 have lM : M.length = N := p1.length_eq.trans hl
 have oM2 := a43 hlo p2
 have lM2 : M2.length = N := p2.length_eq.trans hl
 have hid : ¬ (R < m ∧ m < E) → g8 (c96 B r e mid (.va 5)) ω = some (0, [.vl Y]) := fun h =>
  bA2 hf h6 hN h7 h9 hr he hmid hb hmb hB hB2 (L := .va 5) (by show ω.w 5 = _; rw [h5, b2 h]) oM lM oM2 lM2 t1 t2 d1 d2 s1 s2 c1 c2
 by_cases h1 : R < m
 · refine E8 (by show decide ((den ω r).toI < (ω.w 8).toI) = true; rw [hr, h8]; exact decide_eq_true (by show (R : Int) < (m : Int); omega)) ?_
   by_cases h2 : m < E
   · refine E8 (by show decide ((ω.w 8).toI < (den ω e).toI) = true; rw [he, h8]; exact decide_eq_true (by show (m : Int) < (E : Int); omega)) (i4 ?_ ?_)
     · show (ω.f 422 [ω.w 5, ω.w 6, den ω r, ω.w 8, den ω e]).toB = true
       rw [hf, h5, hr, he]
       exact c66 hlo hl h6 hN rfl h8 rfl h1 h2 (by omega)
     · refine bA2 hf h6 hN h7 h9 hr he hmid hb hmb hB hB2 ?_ oM lM oM2 lM2 t1 t2 d1 d2 s1 s2 c1 c2
       show ω.f 423 [ω.w 5, den ω r, ω.w 8, den ω e] = _
       rw [hf, h5, hr, he, ← b1 h1 h2]
       show Val.vl (c42 l R (nt (ω.w 8)) E) = _
       rw [ao4 h8]
   · exact x7 (by show decide ((ω.w 8).toI < (den ω e).toI) = false; rw [he, h8]; exact decide_eq_false (by show ¬ (m : Int) < (E : Int); omega)) (hid (by omega))
 · exact x7 (by show decide ((den ω r).toI < (ω.w 8).toI) = false; rw [hr, h8]; exact decide_eq_false (by show ¬ (R : Int) < (m : Int); omega)) (hid (by omega))
end
theorem aW9 {T : Nat → Bool} {lo hi : Nat} {step : List Val → Option (Nat × List Val)} {va vb : Val} (hle : lo ≤ hi) (h1 : ∀ i j : Nat, lo ≤ i → i < j → j ≤ hi → step [.vi i, .vi j] = some (0, if T ((i + j) / 2) = true then [.vi ((i + j) / 2 + 1 : Nat), .vi j] else [.vi i, .vi ((i + j) / 2 : Nat)])) (h2 : ∀ i : Nat, step [.vi i, .vi i] = some (1, [.vi i, .vi i])) :
 r8 step [.vi lo, .vi hi] = some (0, [.vi (bs T (hi - lo) lo hi), .vi (bs T (hi - lo) lo hi)]) := by
 rw [q9]
 exact aW1 h1 h2 (hi - lo) lo hi (Nat.le_refl _) hle (Nat.le_refl _) (Nat.le_refl _)
theorem bA3 {ω : Opq} {B : Int} (hf : ∀ i a, ω.f i a = F i a) (hn : (F 426 [ω.w 0, ω.w 1, ω.w 2, ω.w 3, ω.w 4, ω.w 5, ω.w 6, ω.w 7, ω.w 8, ω.w 9, .vi (2 * B)]).toB = true) : g8 (aa1 B) ω = some (0, [F 425 [ω.w 0, ω.w 1, ω.w 2, ω.w 3, ω.w 4, ω.w 5, ω.w 7, ω.w 9]]) := by
 have hn' : be3 [ω.w 0, ω.w 1, ω.w 2, ω.w 3, ω.w 4, ω.w 5, ω.w 6, ω.w 7, ω.w 8, ω.w 9, .vi (2 * B)] = true := hn
 obtain ⟨ho, q1, q2, q3, q4, q5, i7, i8, i9, s1, s2⟩ := an9.1 hn'
 have ho : aN8 (ω.w 5) (ω.w 6) = true := ho
 have q1 : 0 ≤ (ω.w 7).toI := q1
 have q2 : (ω.w 7).toI < (ω.w 8).toI := q2
 have q3 : (ω.w 8).toI < (ω.w 9).toI := q3
 have q4 : (ω.w 9).toI ≤ (ω.w 6).toI := q4
 have q5 : (ω.w 9).toI - (ω.w 7).toI ≤ 2 * B := q5
 have s1 : Sd (m0 (fil ω)) (seg (ω.w 5).toL (nt (ω.w 7)) (nt (ω.w 8))) := s1
 have s2 : Sd (m0 (fil ω)) (seg (ω.w 5).toL (nt (ω.w 8)) (nt (ω.w 9))) := s2
 obtain ⟨e5, oa, h6, hl⟩ := an8 ho
 have h7 := ao1 q1
 have h8 := ao1 (show 0 ≤ (ω.w 8).toI by omega)
 have h9 := ao1 (show 0 ≤ (ω.w 9).toI by omega)
 have w7 : ω.w 7 = .vi (nt (ω.w 7)) := (b74 (show isI (ω.w 7) = true from i7)).trans (congrArg Val.vi h7)
 have w8 : ω.w 8 = .vi (nt (ω.w 8)) := (b74 (show isI (ω.w 8) = true from i8)).trans (congrArg Val.vi h8)
 have w9 : ω.w 9 = .vi (nt (ω.w 9)) := (b74 (show isI (ω.w 9) = true from i9)).trans (congrArg Val.vi h9)
 have hF : F 425 [ω.w 0, ω.w 1, ω.w 2, ω.w 3, ω.w 4, ω.w 5, ω.w 7, ω.w 9] = .vl (v6 (m0 (fil ω)) (ω.w 5).toL (nt (ω.w 7)) (nt (ω.w 9))) := rfl
 rw [hF]
 generalize nt (ω.w 7) = a at h7 w7 s1 ⊢
 generalize nt (ω.w 8) = m at h8 w8 s1 s2 ⊢
 generalize nt (ω.w 9) = b at h9 w9 s2 ⊢
 obtain ⟨l, hL⟩ : ∃ l, (ω.w 5).toL = l := ⟨_, rfl⟩
 obtain ⟨N, hNN⟩ : ∃ N, l.length = N := ⟨_, rfl⟩
 have hlN : (ω.w 5).toL.length = N := by rw [hL]; exact hNN
 rw [hlN] at h6 hl
 have ham : a < m := by omega
 have hmb : m < b := by omega
 have hbN : b ≤ N := by omega
 rw [bN2]
 by_cases c1 : m = a + 1
 ·
  refine E8 (by show decide (arI .sub .i64 (ω.w 8).toI (ω.w 7).toI = 1) = true; rw [h8, h7, aN9 (by omega) (by omega)]; exact decide_eq_true (by omega)) ?_
  subst c1
  have so := c44 (sec := m0 (fil ω)) (l := (ω.w 5).toL) (a := a) (b := b) hmb (by omega) s2
  have hlp : r8 (fun vs => g8 ch2 (ω.upd 2000 vs)) [.vi (a + 1 : Nat), .vi b] = _ := aW9 (T := fun h => j8 (m0 (fil ω)) (atV (ω.w 5).toL h) (atV (ω.w 5).toL a)) (va := .vi 0) (vb := .vi 0) (by omega) (fun i j h1 h2 h3 => c61 hf h7 h6 hl hlN oa h2 (by omega) (by omega)) (fun i => aW7 i)
  have hF2 : F 462 [.vi (a + 1 : Nat), .vi b, ω.w 6, ω.w 5, .vi a, ω.w 0, ω.w 1, ω.w 2, ω.w 3, ω.w 4] = v5 (0, [.vi (bs (fun h => j8 (m0 (fil ω)) (atV (ω.w 5).toL h) (atV (ω.w 5).toL a)) (b - (a + 1)) (a + 1) b), .vi (bs (fun h => j8 (m0 (fil ω)) (atV (ω.w 5).toL h) (atV (ω.w 5).toL a)) (b - (a + 1)) (a + 1) b)]) := rfl
  generalize bs (fun h => j8 (m0 (fil ω)) (atV (ω.w 5).toL h) (atV (ω.w 5).toL a)) (b - (a + 1)) (a + 1) b = r at so hlp hF2
  obtain ⟨r1, r2, r3⟩ := so
  have e462 : ω.f 462 [ω.w 8, ω.w 9, ω.w 6, ω.w 5, ω.w 7, ω.w 0, ω.w 1, ω.w 2, ω.w 3, ω.w 4] = v5 (0, [.vi r, .vi r]) := by
   rw [hf, w7, w8, w9, hF2]
  have er : w6 (ω.f 462 [ω.w 8, ω.w 9, ω.w 6, ω.w 5, ω.w 7, ω.w 0, ω.w 1, ω.w 2, ω.w 3, ω.w 4]).toL 1 0 = .vi r := by rw [e462]; rfl
  have hF3 : ∀ x y : Val, F 463 [.vi a, ω.w 5, x, y, .vi r] = v5 (0, [.vi (r - 1 : Nat), .vl (mvU (ω.w 5).toL a (r - 1 - a))]) := fun _ _ => rfl
  have e463 : ω.f 463 [ω.w 7, ω.w 5, ω.w 6, ω.w 5, den ω aV1] = v5 (0, [.vi (r - 1 : Nat), .vl (mvU (ω.w 5).toL a (r - 1 - a))]) := by
   rw [show den ω aV1 = .vi r from er, hf, w7, hF3]
  refine k5 (r := (0, [.vi r, .vi r])) ?_ e462 (k5 (r := (0, [.vi (r - 1 : Nat), .vl (mvU (ω.w 5).toL a (r - 1 - a))])) ?_ e463 ?_)
  · show r8 _ [ω.w 8, ω.w 9] = _
    rw [w8, w9]; exact hlp
  · show r8 _ [ω.w 7, ω.w 5] = _
    rw [w7]
    refine A5 (fun i => [.vi (a + i : Nat), .vl (mvU (ω.w 5).toL a i)]) (n := r - 1 - a) (by rw [show mvU (ω.w 5).toL a 0 = (ω.w 5).toL from rfl, ← e5]; rfl) (fun i hi => ?_) ?_
    · exact c64 h6 hl er (by rw [aC8]; exact hlN) (bz9 oa i (by omega)) (by omega) (by omega)
    · show g8 c90 (ω.upd 3000 [.vi (a + (r - 1 - a) : Nat), .vl (mvU (ω.w 5).toL a (r - 1 - a))]) = _
      rw [show a + (r - 1 - a) = r - 1 by omega]
      unfold c90
      refine x7 ?_ rfl
      show decide (((r - 1 : Nat) : Int) < arI .sub .i64 (w6 (ω.f 462 [ω.w 8, ω.w 9, ω.w 6, ω.w 5, ω.w 7, ω.w 0, ω.w 1, ω.w 2, ω.w 3, ω.w 4]).toL 1 0).toI 1) = false
      rw [er, g9, bz5 (by omega) (by omega)]
      exact decide_eq_false (by omega)
  · show some (0, [w6 (ω.f 463 [ω.w 7, ω.w 5, ω.w 6, ω.w 5, den ω aV1]).toL 1 1]) = _
    rw [e463, ← r3]; rfl
 · refine x7 (by show decide (arI .sub .i64 (ω.w 8).toI (ω.w 7).toI = 1) = false; rw [h8, h7, aN9 (by omega) (by omega)]; exact decide_eq_false (by omega)) ?_
   by_cases c2 : b = m + 1
   ·
    refine E8 (by show decide (arI .sub .i64 (ω.w 9).toI (ω.w 8).toI = 1) = true; rw [h8, h9, aN9 (by omega) (by omega)]; exact decide_eq_true (by omega)) ?_
    subst c2
    have so := c45 (sec := m0 (fil ω)) (l := (ω.w 5).toL) (a := a) (m := m) ham (by omega) s1
    have hlp : r8 (fun vs => g8 ch3 (ω.upd 2000 vs)) [.vi a, .vi m] = _ := aW9 (T := fun h => !j8 (m0 (fil ω)) (atV (ω.w 5).toL m) (atV (ω.w 5).toL h)) (va := .vi 0) (vb := .vi 0) (by omega) (fun i j h1 h2 h3 => c62 hf h8 h6 hl hlN oa h2 (by omega) (by omega)) (fun i => aW7 i)
    have hF2 : F 464 [.vi a, .vi m, ω.w 6, ω.w 5, .vi m, ω.w 0, ω.w 1, ω.w 2, ω.w 3, ω.w 4] = v5 (0, [.vi (bs (fun h => !j8 (m0 (fil ω)) (atV (ω.w 5).toL m) (atV (ω.w 5).toL h)) (m - a) a m), .vi (bs (fun h => !j8 (m0 (fil ω)) (atV (ω.w 5).toL m) (atV (ω.w 5).toL h)) (m - a) a m)]) := rfl
    generalize bs (fun h => !j8 (m0 (fil ω)) (atV (ω.w 5).toL m) (atV (ω.w 5).toL h)) (m - a) a m = r at so hlp hF2
    obtain ⟨r1, r2, r3⟩ := so
    have e464 : ω.f 464 [ω.w 7, ω.w 8, ω.w 6, ω.w 5, ω.w 8, ω.w 0, ω.w 1, ω.w 2, ω.w 3, ω.w 4] = v5 (0, [.vi r, .vi r]) := by
     rw [hf, w7, w8, hF2]
    have er : w6 (ω.f 464 [ω.w 7, ω.w 8, ω.w 6, ω.w 5, ω.w 8, ω.w 0, ω.w 1, ω.w 2, ω.w 3, ω.w 4]).toL 1 0 = .vi r := by rw [e464]; rfl
    have hF3 : ∀ x y : Val, F 465 [.vi m, ω.w 5, x, y, .vi r] = v5 (0, [.vi r, .vl (mvD (ω.w 5).toL m (m - r))]) := fun _ _ => rfl
    have e465 : ω.f 465 [ω.w 8, ω.w 5, ω.w 6, ω.w 5, den ω aV2] = v5 (0, [.vi r, .vl (mvD (ω.w 5).toL m (m - r))]) := by
     rw [show den ω aV2 = .vi r from er, hf, w8, hF3]
    refine k5 (r := (0, [.vi r, .vi r])) ?_ e464 (k5 (r := (0, [.vi r, .vl (mvD (ω.w 5).toL m (m - r))])) ?_ e465 ?_)
    · show r8 _ [ω.w 7, ω.w 8] = _
      rw [w7, w8]; exact hlp
    · show r8 _ [ω.w 8, ω.w 5] = _
      rw [w8]
      refine A5 (fun i => [.vi (m - i : Nat), .vl (mvD (ω.w 5).toL m i)]) (n := m - r) (by rw [show mvD (ω.w 5).toL m 0 = (ω.w 5).toL from rfl, ← e5]; rfl) (fun i hi => ?_) ?_
      · have := c65 (i := m - i) h6 hl er (M := mvD (ω.w 5).toL m i) (by rw [aC9]; exact hlN) (bA0 oa (by omega) i) (by omega) (by omega)
        rw [show m - i - 1 = m - (i + 1) by omega] at this
        refine this.trans ?_
        show _ = some (0, [Val.vi (m - (i + 1) : Nat), Val.vl (swp (mvD (ω.w 5).toL m i) (m - i - 1) (m - i))])
        rw [show m - i - 1 = m - (i + 1) by omega]
      · show g8 c91 (ω.upd 3000 [.vi (m - (m - r) : Nat), .vl (mvD (ω.w 5).toL m (m - r))]) = _
        rw [show m - (m - r) = r by omega]
        unfold c91
        refine x7 ?_ rfl
        show decide ((w6 (ω.f 464 [ω.w 7, ω.w 8, ω.w 6, ω.w 5, ω.w 8, ω.w 0, ω.w 1, ω.w 2, ω.w 3, ω.w 4]).toL 1 0).toI < (r : Int)) = false
        rw [er, g9]
        exact decide_eq_false (by omega)
    · show some (0, [w6 (ω.f 465 [ω.w 8, ω.w 5, ω.w 6, ω.w 5, den ω aV2]).toL 1 1]) = _
      rw [e465, ← r3]; rfl
   · refine x7 (by show decide (arI .sub .i64 (ω.w 9).toI (ω.w 8).toI = 1) = false; rw [h8, h9, aN9 (by omega) (by omega)]; exact decide_eq_false (by omega)) ?_
     obtain ⟨mid, hmid⟩ : ∃ mid, mid = (a + b) / 2 := ⟨_, rfl⟩
     have d2 : den ω r7 = .vi mid := by
      show Val.vi (IntKind.i64.wrap (arI .shr .u64 (IntKind.u64.wrap (arI .add .i64 (ω.w 7).toI (ω.w 9).toI)) 1)) = _
      rw [h7, h9, bz8 (by omega), ← hmid]
     have d3 : den ω Q3 = .vi (mid + m : Nat) := by
      show Val.vi (arI .add .i64 (den ω r7).toI (ω.w 8).toI) = _
      rw [d2, h8, g9, c55 (by omega)]
     have d5 : den ω am2 = .vi (mid + m - 1 : Nat) := by
      show Val.vi (arI .sub .i64 (den ω Q3).toI 1) = _
      rw [d3, g9, bz5 (by omega) (by omega)]
     have key : ∀ (lo hi r : Nat) (va vb : Val) (er ee : SX), (mid < m ∧ lo = mid + m - b ∧ hi = mid ∨ m ≤ mid ∧ lo = a ∧ hi = m) → r = bs (fun c => !j8 (m0 (fil ω)) (atV (ω.w 5).toL (mid + m - 1 - c)) (atV (ω.w 5).toL c)) (hi - lo) lo hi → den ω er = .vi r → (∀ n : Nat, den ω er = .vi n → n ≤ mid + m → den ω ee = .vi (mid + m - n : Nat)) → g8 (ck3 B er ee r7) ω = some (0, [.vl (v6 (m0 (fil ω)) (ω.w 5).toL a b)]) := fun lo hi r va vb er ee hlh hr h1 h2 => by
      obtain ⟨g1, g2, g3, g4, M, M2, b1, b2, p1, t1, t2, k1, k2, p2, u1, u2, x1, x2⟩ := c46 (sec := m0 (fil ω)) (l := (ω.w 5).toL) ham hmb (by omega) s1 s2 hmid hlh hr
      exact c67 hf h6 hl w7 h8 w9 h1 (h2 r h1 (by omega)) d2 hbN g4 (by omega) (by omega) (by omega) e5 hlN oa b1 b2 p1 t1 t2 k1 k2 p2 u1 u2 x1 x2
     have hlp : ∀ lo hi : Nat, (mid < m ∧ lo = mid + m - b ∧ hi = mid ∨ m ≤ mid ∧ lo = a ∧ hi = m) → r8 (fun vs => g8 c27 (ω.upd 2000 vs)) [.vi lo, .vi hi] = some (0, [.vi (bs (fun c => !j8 (m0 (fil ω)) (atV (ω.w 5).toL (mid + m - 1 - c)) (atV (ω.w 5).toL c)) (hi - lo) lo hi), .vi (bs (fun c => !j8 (m0 (fil ω)) (atV (ω.w 5).toL (mid + m - 1 - c)) (atV (ω.w 5).toL c)) (hi - lo) lo hi)]) := fun lo hi hlh => aW9 (T := fun c => !j8 (m0 (fil ω)) (atV (ω.w 5).toL (mid + m - 1 - c)) (atV (ω.w 5).toL c)) (va := .vi 0) (vb := .vi 0) (by omega) (fun i j h1 h2 h3 => c63 hf h7 h8 h9 h6 hl hlN oa hmid hbN ham hmb h2 (by omega) (by omega) (by omega)) (fun i => aW7 i)
     have hF2 : ∀ (lo hi : Nat) (va vb x y : Val), nt va = lo → nt vb = hi → F 466 [va, vb, ω.w 6, ω.w 5, ω.w 7, ω.w 8, ω.w 9, ω.w 0, ω.w 1, ω.w 2, ω.w 3, ω.w 4, x, y, .vi (mid + m - 1 : Nat)] = v5 (0, [.vi (bs (fun c => !j8 (m0 (fil ω)) (atV (ω.w 5).toL (mid + m - 1 - c)) (atV (ω.w 5).toL c)) (hi - lo) lo hi), .vi (bs (fun c => !j8 (m0 (fil ω)) (atV (ω.w 5).toL (mid + m - 1 - c)) (atV (ω.w 5).toL c)) (hi - lo) lo hi)]) := fun lo hi va vb x y h1 h2 => by subst h1; subst h2; rfl
     by_cases c3 : mid < m
     · refine E8 (by show decide ((den ω r7).toI < (ω.w 8).toI) = true; rw [d2, h8, g9]; exact decide_eq_true (by omega)) ?_
       have hlh : mid < m ∧ mid + m - b = mid + m - b ∧ mid = mid ∨ m ≤ mid ∧ mid + m - b = a ∧ mid = m := .inl ⟨c3, rfl, rfl⟩
       have d4 : den ω aV3 = .vi (mid + m - b : Nat) := by
        show Val.vi (arI .sub .i64 (den ω Q3).toI (ω.w 9).toI) = _
        rw [d3, h9, g9, aN9 (by omega) (by omega)]
       have e466 : ω.f 466 [den ω aV3, den ω r7, ω.w 6, ω.w 5, ω.w 7, ω.w 8, ω.w 9, ω.w 0, ω.w 1, ω.w 2, ω.w 3, ω.w 4, den ω r7, den ω Q3, den ω am2] = v5 (0, [.vi (bs (fun c => !j8 (m0 (fil ω)) (atV (ω.w 5).toL (mid + m - 1 - c)) (atV (ω.w 5).toL c)) (mid - (mid + m - b)) (mid + m - b) mid), .vi (bs (fun c => !j8 (m0 (fil ω)) (atV (ω.w 5).toL (mid + m - 1 - c)) (atV (ω.w 5).toL c)) (mid - (mid + m - b)) (mid + m - b) mid)]) := by
        rw [hf, d5]
        exact hF2 (mid + m - b) mid _ _ _ _ (by rw [d4]; rfl) (by rw [d2]; rfl)
       refine k5 (r := (0, _)) ?_ e466 ?_
       · show r8 _ [den ω aV3, den ω r7] = _
         rw [d4, d2]; exact hlp _ _ hlh
       · refine key _ _ _ (.vi 0) (.vi 0) am3 am4 hlh rfl ?_ (fun n h1 h2 => ?_)
         · show w6 (ω.f 466 [den ω aV3, den ω r7, ω.w 6, ω.w 5, ω.w 7, ω.w 8, ω.w 9, ω.w 0, ω.w 1, ω.w 2, ω.w 3, ω.w 4, den ω r7, den ω Q3, den ω am2]).toL 1 0 = _
           rw [e466]; rfl
         · show Val.vi (arI .sub .i64 (den ω Q3).toI (den ω am3).toI) = _
           rw [d3, h1, g9, g9, aN9 h2 (by omega)]
     · refine x7 (by show decide ((den ω r7).toI < (ω.w 8).toI) = false; rw [d2, h8, g9]; exact decide_eq_false (by omega)) ?_
       have hlh : mid < m ∧ a = mid + m - b ∧ m = mid ∨ m ≤ mid ∧ a = a ∧ m = m := .inr ⟨by omega, rfl, rfl⟩
       have e466 : ω.f 466 [ω.w 7, ω.w 8, ω.w 6, ω.w 5, ω.w 7, ω.w 8, ω.w 9, ω.w 0, ω.w 1, ω.w 2, ω.w 3, ω.w 4, den ω r7, den ω Q3, den ω am2] = v5 (0, [.vi (bs (fun c => !j8 (m0 (fil ω)) (atV (ω.w 5).toL (mid + m - 1 - c)) (atV (ω.w 5).toL c)) (m - a) a m), .vi (bs (fun c => !j8 (m0 (fil ω)) (atV (ω.w 5).toL (mid + m - 1 - c)) (atV (ω.w 5).toL c)) (m - a) a m)]) := by
        rw [hf, d5]
        exact hF2 a m _ _ _ _ (ao4 h7) (ao4 h8)
       refine k5 (r := (0, _)) ?_ e466 ?_
       · show r8 _ [ω.w 7, ω.w 8] = _
         rw [w7, w8]; exact hlp _ _ hlh
       · refine key _ _ _ (.vi 0) (.vi 0) T1 T2 hlh rfl ?_ (fun n h1 h2 => ?_)
         · show w6 (ω.f 466 [ω.w 7, ω.w 8, ω.w 6, ω.w 5, ω.w 7, ω.w 8, ω.w 9, ω.w 0, ω.w 1, ω.w 2, ω.w 3, ω.w 4, den ω r7, den ω Q3, den ω am2]).toL 1 0 = _
           rw [e466]; rfl
         · show Val.vi (arI .sub .i64 (den ω Q3).toI (den ω T1).toI) = _
           rw [d3, h1, g9, g9, aN9 h2 (by omega)]
theorem c68 {a b c d e f g h i j : Val} (hn : (F 426 [a, b, c, d, e, f, g, h, i, j, .vi 1]).toB = true) : False := by
 obtain ⟨_, _, q2, q3, _, q5, _⟩ := an9.1 (show be3 [a, b, c, d, e, f, g, h, i, j, .vi 1] = true from hn)
 have q2 : h.toI < i.toI := q2
 have q3 : i.toI < j.toI := q3
 have q5 : j.toI - h.toI ≤ 1 := q5
 omega
theorem bA4 {M : List Val} {n va vb : Val} {N a b : Nat} (ho : M.all okK = true) (hM : M.length = N) (hn : n.toI = (N : Int)) (hN : N ≤ 100) (ha : va.toI = (a : Int)) (hb : vb.toI = (b : Int)) (h1 : a ≤ b) (h2 : b ≤ N) : (F 424 [.vl M, n, va, vb]).toB = true := by
 show (aN8 (.vl M) n && decide (0 ≤ va.toI ∧ va.toI ≤ vb.toI ∧ vb.toI ≤ n.toI)) = true
 exact T3 (ao3 ho hM hn hN) (decide_eq_true (by rw [hn, ha, hb]; omega))
theorem bA5 {sec : Bool} {l : List Val} {n : Nat} (h : 20 ≤ n) (hn : l.length = n) : Sd sec (seg (v6 sec (v6 sec l 0 20) 20 n) 0 20) ∧ Sd sec (seg (v6 sec (v6 sec l 0 20) 20 n) 20 n) ∧ v6 sec (v6 sec (v6 sec l 0 20) 20 n) 0 n = v6 sec l 0 n := by
 have l1 := a40 sec (l := l) (a := 0) (b := 20) (by omega)
 have l2 := a40 sec (l := v6 sec l 0 20) (a := 20) (b := n) h
 refine ⟨?_, ?_, ?_⟩
 · rw [c47 h (by omega) (Nat.le_refl 20), bz0 (by omega) (by omega)]
   exact J8 sec _
 · rw [bz0 h (by omega)]
   exact J8 sec _
 · have e1 : v6 sec l 0 n = srt sec l := by rw [← hn]; exact aD2 sec l
   have e2 : v6 sec (v6 sec (v6 sec l 0 20) 20 n) 0 n = srt sec (v6 sec (v6 sec l 0 20) 20 n) := by
    have := aD2 sec (v6 sec (v6 sec l 0 20) 20 n)
    rwa [l2, l1, hn] at this
   rw [e1, e2]
   exact cj0 ((by9 sec h).trans (by9 sec (by omega)))
def ck5 : SX := .app 469 [.ci 0, .op (.ar .mul .i64) [.ci 2, .va 3000], .va 3001, .va 6, .va 3001, .va 7, .va 0, .va 1, .va 2, .va 3, .va 4, .va 3000]
def ao5 : SX := .op .lget [ck5, .ci 1, .ci 0]
def be4 : SX := .op .lget [ck5, .ci 1, .ci 2]
theorem bA6 : co4 = .ite (.op (.cmp .lss) [.va 3000, .va 7]) (.loop ⟨469, [.ci 0, .op (.ar .mul .i64) [.ci 2, .va 3000], .va 3001], 4000, [.va 6, .va 3001, .va 7, .va 0, .va 1, .va 2, .va 3, .va 4, .va 3000]⟩ co3 [.ite (.op (.cmp .lss) [.op (.ar .add .i64) [ao5, .va 3000], .va 7]) (.need (.app 426 [.va 0, .va 1, .va 2, .va 3, .va 4, be4, .va 6, ao5, .op (.ar .add .i64) [ao5, .va 3000], .va 7, .ci 32]) (.ret 0 [.op (.ar .mul .i64) [.va 3000, .ci 2], .app 425 [.va 0, .va 1, .va 2, .va 3, .va 4, be4, ao5, .va 7]])) (.ret 0 [.op (.ar .mul .i64) [.va 3000, .ci 2], be4])]) (.ret 1 [.va 3000, .va 3001]) := rfl
theorem bA7 : ch4 = .ite (.op (.cmp .leq) [.va 2001, .va 7]) (.need (.app 424 [.va 2002, .va 6, .va 2000, .va 2001]) (.ret 0 [.va 2001, .op (.ar .add .i64) [.va 2001, .ci 20], .app 425 [.va 0, .va 1, .va 2, .va 3, .va 4, .va 2002, .va 2000, .va 2001]])) (.ret 1 [.va 2000, .va 2001, .va 2002]) := rfl
theorem c69 : ∃ x, co3 = .ite (.op (.cmp .leq) [.va 4001, .va 7]) x (.ret 1 [.va 4000, .va 4001, .va 4002]) := ⟨_, rfl⟩
theorem bT3 {ω : Opq} {n a b : Nat} {M : Val} (h7 : (ω.w 7).toI = n) (h : n < b) : g8 ch4 (ω.upd 2000 [.vi a, .vi b, M]) = some (1, [.vi a, .vi b, M]) := by
 rw [bA7]
 refine x7 ?_ rfl
 show decide ((b : Int) ≤ (ω.w 7).toI) = false
 rw [h7]; exact decide_eq_false (by omega)
theorem bT4 {ω : Opq} {n a : Nat} {M : Val} (h7 : (ω.w 7).toI = n) (h : n ≤ a) : g8 co4 (ω.upd 3000 [.vi a, M]) = some (1, [.vi a, M]) := by
 rw [bA6]
 refine x7 ?_ rfl
 show decide ((a : Int) < (ω.w 7).toI) = false
 rw [h7]; exact decide_eq_false (by omega)
theorem c70 {ω : Opq} (hf : ∀ i a, ω.f i a = F i a) {n : Nat} (h7 : ω.w 7 = .vi n) (h6 : (ω.w 6).toI = n) (h20 : 20 < n) (h30 : n ≤ 30) {M : List Val} (hM : M.length = n) (ho : M.all okK = true) (s1 : Sd (m0 (fil ω)) (seg M 0 20)) (s2 : Sd (m0 (fil ω)) (seg M 20 n)) :
 g8 co4 (ω.upd 3000 [.vi (20 : Nat), .vl M]) = some (0, [.vi (40 : Nat), .vl (v6 (m0 (fil ω)) M 0 n)]) := by
 obtain ⟨ω', hω⟩ : ∃ ω', ω' = ω.upd 3000 [.vi (20 : Nat), .vl M] := ⟨_, rfl⟩
 have v0 : ω'.w 3000 = .vi (20 : Nat) := by rw [hω]; rfl
 have v1 : ω'.w 3001 = .vl M := by rw [hω]; rfl
 have u6 : (ω'.w 6).toI = n := by rw [hω]; exact h6
 have u7 : ω'.w 7 = .vi n := by rw [hω]; exact h7
 have uf : fil ω' = fil ω := by rw [hω]; rfl
 have hf' : ∀ i a, ω'.f i a = F i a := by rw [hω]; exact hf
 have m40 : Val.vi (arI .mul .i64 2 (ω'.w 3000).toI) = .vi (40 : Nat) := by rw [v0]; rfl
 have m40' : Val.vi (arI .mul .i64 (ω'.w 3000).toI 2) = .vi (40 : Nat) := by rw [v0]; rfl
 have e469 : den ω' ck5 = v5 (0, [.vi 0, .vi (40 : Nat), .vl M]) := by
  show ω'.f 469 [.vi 0, .vi (arI .mul .i64 2 (ω'.w 3000).toI), ω'.w 3001, ω'.w 6, ω'.w 3001, ω'.w 7, ω'.w 0, ω'.w 1, ω'.w 2, ω'.w 3, ω'.w 4, ω'.w 3000] = _
  rw [hf', m40, v1]; rfl
 have ea : den ω' ao5 = .vi (0 : Nat) := by show w6 (den ω' ck5).toL 1 0 = _; rw [e469]; rfl
 have el : den ω' be4 = .vl M := by show w6 (den ω' ck5).toL 1 2 = _; rw [e469]; rfl
 have eb : den ω' (.op (.ar .add .i64) [ao5, .va 3000]) = .vi (20 : Nat) := by
  show Val.vi (arI .add .i64 (den ω' ao5).toI (ω'.w 3000).toI) = _
  rw [ea, v0, g9, g9, c55 (by omega)]
 rw [← hω, bA6]
 refine E8 (by show decide ((ω'.w 3000).toI < (ω'.w 7).toI) = true; rw [v0, u7]; exact decide_eq_true (by show ((20 : Nat) : Int) < (n : Int); omega)) (k5 (r := (0, [.vi 0, .vi (40 : Nat), .vl M])) ?_ e469 ?_)
 · show r8 _ [.vi 0, .vi (arI .mul .i64 2 (ω'.w 3000).toI), ω'.w 3001] = _
   rw [m40, v1, q9]
   refine .out ?_
   obtain ⟨x, hx⟩ := c69
   show g8 co3 (ω'.upd 4000 [.vi 0, .vi (40 : Nat), .vl M]) = _
   rw [hx]
   refine x7 ?_ rfl
   show decide (((40 : Nat) : Int) ≤ (ω'.w 7).toI) = false
   rw [u7]; exact decide_eq_false (by show ¬ ((40 : Nat) : Int) ≤ (n : Int); omega)
 · refine E8 (by show decide ((den ω' (.op (.ar .add .i64) [ao5, .va 3000])).toI < (ω'.w 7).toI) = true; rw [eb, u7]; exact decide_eq_true (by show ((20 : Nat) : Int) < (n : Int); omega)) (i4 ?_ ?_)
   · show (ω'.f 426 [ω'.w 0, ω'.w 1, ω'.w 2, ω'.w 3, ω'.w 4, den ω' be4, ω'.w 6, den ω' ao5, den ω' (.op (.ar .add .i64) [ao5, .va 3000]), ω'.w 7, .vi 32]).toB = true
     rw [hf', el, ea, eb, u7]
     exact aW8 ho hM u6 (by omega) (by omega) h20 (Nat.le_refl _) (by omega) (by rw [uf]; exact s1) (by rw [uf]; exact s2)
   · show some (0, [Val.vi (arI .mul .i64 (ω'.w 3000).toI 2), ω'.f 425 [ω'.w 0, ω'.w 1, ω'.w 2, ω'.w 3, ω'.w 4, den ω' be4, den ω' ao5, ω'.w 7]]) = _
     rw [m40', hf', el, ea, u7, ck4 rfl rfl, uf]
theorem ck6 {ω : Opq} (hf : ∀ i a, ω.f i a = F i a) (hn : (F 428 [ω.w 5, ω.w 6, ω.w 7]).toB = true) : g8 b60 ω = some (0, [F 425 [ω.w 0, ω.w 1, ω.w 2, ω.w 3, ω.w 4, ω.w 5, .vi 0, ω.w 7]]) := by
 obtain ⟨ho, hd⟩ := a9 (show (aN8 (ω.w 5) (ω.w 6) && (isI (ω.w 7) && decide ((ω.w 7).toI = (ω.w 6).toI ∧ (ω.w 7).toI ≤ 30))) = true from hn)
 obtain ⟨i7, hd⟩ := a9 hd
 obtain ⟨e5, oa, h6, hl⟩ := an8 ho
 obtain ⟨q1, q2⟩ := of_decide_eq_true hd
 obtain ⟨n, hnn⟩ : ∃ n, (ω.w 5).toL.length = n := ⟨_, rfl⟩
 rw [hnn] at h6 hl
 have h7 : (ω.w 7).toI = n := by omega
 have w7 : ω.w 7 = .vi n := (b74 i7).trans (congrArg Val.vi h7)
 have hF : F 425 [ω.w 0, ω.w 1, ω.w 2, ω.w 3, ω.w 4, ω.w 5, .vi 0, ω.w 7] = .vl (v6 (m0 (fil ω)) (ω.w 5).toL 0 n) := by
  show Val.vl (v6 (m0 (fil ω)) (ω.w 5).toL 0 (nt (ω.w 7))) = _
  rw [ao4 h7]
 rw [hF]
 have hF467 : ∀ x y : Val, F 467 [.vi 0, .vi 20, ω.w 5, x, y, ω.w 7, ω.w 0, ω.w 1, ω.w 2, ω.w 3, ω.w 4] = v5 (0, bif decide (20 ≤ (ω.w 7).toI) then [.vi 20, .vi 40, .vl (v6 (m0 (fil ω)) (ω.w 5).toL 0 20)] else [.vi 0, .vi 20, ω.w 5]) := fun _ _ => rfl
 have hF468 : ∀ x y : Val, ∀ M : List Val, F 468 [.vi 20, .vl M, x, y, ω.w 7, ω.w 0, ω.w 1, ω.w 2, ω.w 3, ω.w 4] = v5 (0, bif decide (20 < (ω.w 7).toI) then [.vi 40, .vl (v6 (m0 (fil ω)) M 0 (nt (ω.w 7)))] else [.vi 20, .vl M]) := fun _ _ _ => rfl
 rw [h7, ao4 h7] at hF468
 rw [h7] at hF467
 obtain ⟨A, L1, hA, hAn, hL1, oL1, hlp, hst⟩ : ∃ (A : Nat) (L1 : List Val), A ≤ n ∧ (A = 0 ∧ n < 20 ∧ L1 = (ω.w 5).toL ∨ A = 20 ∧ 20 ≤ n ∧ L1 = v6 (m0 (fil ω)) (ω.w 5).toL 0 20) ∧ L1.length = n ∧ L1.all okK = true ∧ r8 (fun vs => g8 ch4 (ω.upd 2000 vs)) [.vi 0, .vi 20, ω.w 5] = some (0, [.vi A, .vi (A + 20 : Nat), .vl L1]) ∧ den ω aL9 = v5 (0, [.vi A, .vi (A + 20 : Nat), .vl L1]) := by
  by_cases h : 20 ≤ n
  · refine ⟨20, v6 (m0 (fil ω)) (ω.w 5).toL 0 20, h, .inr ⟨rfl, h, rfl⟩, by rw [a40 _ (by omega)]; exact hnn, a43 oa (a39 _ (by omega)), ?_, ?_⟩
    · rw [q9]
      refine .more (vs' := [.vi (20 : Nat), .vi (40 : Nat), .vl (v6 (m0 (fil ω)) (ω.w 5).toL 0 20)]) ?_ (.out (bT3 h7 (by omega)))
      show g8 ch4 (ω.upd 2000 [.vi (0 : Nat), .vi (20 : Nat), ω.w 5]) = _
      obtain ⟨ω', hω⟩ : ∃ ω', ω' = ω.upd 2000 [.vi (0 : Nat), .vi (20 : Nat), ω.w 5] := ⟨_, rfl⟩
      have v0 : ω'.w 2000 = .vi (0 : Nat) := by rw [hω]; rfl
      have v1 : ω'.w 2001 = .vi (20 : Nat) := by rw [hω]; rfl
      have v2 : ω'.w 2002 = .vl (ω.w 5).toL := by rw [hω, ← e5]; rfl
      have u6 : (ω'.w 6).toI = n := by rw [hω]; exact h6
      have u7 : (ω'.w 7).toI = n := by rw [hω]; exact h7
      have uf : fil ω' = fil ω := by rw [hω]; rfl
      have hf' : ∀ i a, ω'.f i a = F i a := by rw [hω]; exact hf
      rw [← hω, bA7]
      refine E8 (by show decide ((ω'.w 2001).toI ≤ (ω'.w 7).toI) = true; rw [v1, u7]; exact decide_eq_true (by show ((20 : Nat) : Int) ≤ (n : Int); omega)) (i4 ?_ ?_)
      · show (ω'.f 424 [ω'.w 2002, ω'.w 6, ω'.w 2000, ω'.w 2001]).toB = true
        rw [hf', v0, v1, v2]
        exact bA4 oa hnn u6 hl rfl rfl (by omega) (by omega)
      · show some (0, [ω'.w 2001, Val.vi (arI .add .i64 (ω'.w 2001).toI 20), ω'.f 425 [ω'.w 0, ω'.w 1, ω'.w 2, ω'.w 3, ω'.w 4, ω'.w 2002, ω'.w 2000, ω'.w 2001]]) = _
        rw [hf', v0, v1, v2, ck4 rfl rfl, uf]; rfl
    · show ω.f 467 [.vi 0, .vi 20, ω.w 5, ω.w 6, ω.w 5, ω.w 7, ω.w 0, ω.w 1, ω.w 2, ω.w 3, ω.w 4] = _
      rw [hf, hF467, decide_eq_true (by omega)]; rfl
  · refine ⟨0, (ω.w 5).toL, by omega, .inl ⟨rfl, by omega, rfl⟩, hnn, oa, ?_, ?_⟩
    · rw [q9]
      refine .out ?_
      rw [← e5]
      exact bT3 (a := 0) (b := 20) h7 (by omega)
    · show ω.f 467 [.vi 0, .vi 20, ω.w 5, ω.w 6, ω.w 5, ω.w 7, ω.w 0, ω.w 1, ω.w 2, ω.w 3, ω.w 4] = _
      rw [hf, hF467, decide_eq_false (by omega), ← e5]; rfl
 have d1 : den ω aM0 = .vl L1 := by show w6 (den ω aL9).toL 1 2 = _; rw [hst]; rfl
 have d2 : den ω aM1 = .vi A := by show w6 (den ω aL9).toL 1 0 = _; rw [hst]; rfl
 have d3 : den ω K9 = .vl (v6 (m0 (fil ω)) L1 A n) := by
  show ω.f 425 [ω.w 0, ω.w 1, ω.w 2, ω.w 3, ω.w 4, den ω aM0, den ω aM1, ω.w 7] = _
  rw [hf, d1, d2, ck4 rfl h7]
 have l2 := a40 (m0 (fil ω)) (l := L1) hA
 have o2 := a43 oL1 (a39 (m0 (fil ω)) (l := L1) hA)
 unfold b60
 refine k5 hlp hst (i4 ?_ ?_)
 · show (ω.f 424 [den ω aM0, ω.w 6, den ω aM1, ω.w 7]).toB = true
   rw [hf, d1, d2]
   exact bA4 oL1 hL1 h6 hl rfl h7 hA (by omega)
 · by_cases h : 20 < n
   · obtain ⟨rfl, -, rfl⟩ : A = 20 ∧ 20 ≤ n ∧ L1 = v6 (m0 (fil ω)) (ω.w 5).toL 0 20 := by
      rcases hAn with ⟨_, h2, _⟩ | h2
      · omega
      · exact h2
     obtain ⟨s1, s2, s3⟩ := bA5 (sec := m0 (fil ω)) (l := (ω.w 5).toL) (n := n) (by omega) hnn
     have e468 : ω.f 468 [.vi 20, den ω K9, ω.w 6, den ω K9, ω.w 7, ω.w 0, ω.w 1, ω.w 2, ω.w 3, ω.w 4] = v5 (0, [.vi 40, .vl (v6 (m0 (fil ω)) (ω.w 5).toL 0 n)]) := by
      rw [hf, d3, hF468, decide_eq_true (by omega), s3]; rfl
     refine k5 (r := (0, [.vi 40, .vl (v6 (m0 (fil ω)) (ω.w 5).toL 0 n)])) ?_ e468 ?_
     · show r8 _ [.vi 20, den ω K9] = _
       rw [d3, q9]
       refine .more (c70 hf w7 h6 h (by omega) (by rw [l2, hL1]) o2 s1 s2) ?_
       rw [s3]
       exact .out (bT4 (a := 40) h7 (by omega))
     · show some (0, [w6 (ω.f 468 [.vi 20, den ω K9, ω.w 6, den ω K9, ω.w 7, ω.w 0, ω.w 1, ω.w 2, ω.w 3, ω.w 4]).toL 1 1]) = _
       rw [e468]; rfl
   · have s3 : v6 (m0 (fil ω)) L1 A n = v6 (m0 (fil ω)) (ω.w 5).toL 0 n := by
      rcases hAn with ⟨rfl, _, rfl⟩ | ⟨rfl, h2, rfl⟩
      · rfl
      · have : n = 20 := by omega
        subst this
        exact aD1 (Nat.le_refl _) (by omega) (by omega)
     have e468 : ω.f 468 [.vi 20, den ω K9, ω.w 6, den ω K9, ω.w 7, ω.w 0, ω.w 1, ω.w 2, ω.w 3, ω.w 4] = v5 (0, [.vi 20, .vl (v6 (m0 (fil ω)) (ω.w 5).toL 0 n)]) := by
      rw [hf, d3, hF468, decide_eq_false (by omega), s3]; rfl
     refine k5 (r := (0, [.vi 20, .vl (v6 (m0 (fil ω)) (ω.w 5).toL 0 n)])) ?_ e468 ?_
     · show r8 _ [.vi 20, den ω K9] = _
       rw [d3, q9, s3]
       exact .out (bT4 (a := 20) h7 (by omega))
     · show some (0, [w6 (ω.f 468 [.vi 20, den ω K9, ω.w 6, den ω K9, ω.w 7, ω.w 0, ω.w 1, ω.w 2, ω.w 3, ω.w 4]).toL 1 1]) = _
       rw [e468]; rfl
theorem aD7 (f : List Val) : ∀ (n p j : Nat) (M : List Val), (aD3 f p j M n).2.length = M.length
 | 0, _, _, _ => rfl
 | n + 1, p, j, M => by
   unfold aD3
   split
   · rw [aD7 f n]; simp
   · exact aD7 f n p (j + 1) M
theorem aX0 (f : List Val) : ∀ (n p j : Nat) (M : List Val), (aD3 f p j M n).1 ≤ p + n
 | 0, p, _, _ => Nat.le_refl _
 | n + 1, p, j, M => by
   unfold aD3
   split
   · have := aX0 f n (p + 1) (j + 1) (M.set p (J3 (atV M j))); omega
   · have := aX0 f n p (j + 1) M; omega
theorem ao6 (f : List Val) : ∀ (n p j : Nat) (M : List Val), M.length = j + n → p ≤ j → (∀ v ∈ M.drop j, J3 v = v) → (aD3 f p j M n).2.take (aD3 f p j M n).1 = M.take p ++ (M.drop j).filter (W4 f)
 | 0, p, j, M, h, hp, _ => by
   rw [List.drop_eq_nil_of_le (by omega)]
   simp [aD3]
 | n + 1, p, j, M, h, hp, hn => by
   have hd := aV7 h
   have hv : J3 (atV M j) = atV M j := hn _ (by rw [hd]; exact List.mem_cons_self ..)
   unfold aD3
   rw [hd, List.filter_cons]
   split
   · rw [hv, ao6 f n (p + 1) (j + 1) _ (by rw [List.length_set]; omega) (by omega) (by
       rw [List.drop_set_of_lt (by omega)]
       exact fun v hvm => hn v (by rw [hd]; exact List.mem_cons_of_mem _ hvm)), List.drop_set_of_lt (by omega), bM1 _ _ _ (by omega), List.append_assoc]
     rfl
   · exact ao6 f n p (j + 1) M (by omega) (by omega) (fun v hvm => hn v (by rw [hd]; exact List.mem_cons_of_mem _ hvm))
theorem aN5 {f : Val → Bool} {L : List Val} {i : Nat} (hi : i < L.length) (h1 : ∀ k, k < i → f (atV L k) = true) (h2 : f (atV L i) = false) : L.filter f = L.take i ++ (L.drop (i + 1)).filter f := by
 have hd : L.drop i = atV L i :: L.drop (i + 1) := aV7 (n := L.length - (i + 1)) (by omega)
 have ht : (L.take i).filter f = L.take i := by
  rw [List.filter_eq_self]
  intro v hv
  obtain ⟨k, hk, rfl⟩ := List.getElem_of_mem hv
  have hk' : k < i := by rw [List.length_take] at hk; omega
  have := h1 k hk'
  unfold atV at this
  rw [List.getD_eq_getElem?_getD, List.getElem?_eq_getElem (by omega)] at this
  rw [List.getElem_take]; exact this
 conv => lhs; rw [← List.take_append_drop i L, List.filter_append, ht, hd, List.filter_cons, if_neg (by rw [h2]; simp)]
theorem be5 {f : Val → Bool} {L : List Val} (h : ∀ k, k < L.length → f (atV L k) = true) : L.filter f = L := by
 rw [List.filter_eq_self]
 intro v hv
 obtain ⟨k, hk, rfl⟩ := List.getElem_of_mem hv
 have := h k hk
 unfold atV at this
 rw [List.getD_eq_getElem?_getD, List.getElem?_eq_getElem hk] at this
 exact this
theorem c71 {f : Val → Bool} {L M : List Val} (h : L.all f = true) (hs : ∀ v ∈ M, v ∈ L) : M.all f = true := List.all_eq_true.2 fun v hv => List.all_eq_true.1 h v (hs v hv)
theorem cu4 {ω : Opq} (hf : ∀ i a, ω.f i a = F i a) (hn : (ω.w 5).toL.length ≤ 100) : r8 (fun vs => g8 bS2 (ω.upd 2000 vs)) [.vi 0, .vi 0] = some (Z3 (.vi 0) (fun i => [.vi i, .vi i]) (fun i => !W4 (fil ω) (atV (ω.w 5).toL i)) (ω.w 5).toL.length) := by
 have key : ∀ i : Nat, i < (ω.w 5).toL.length → g8 bS2 (ω.upd 2000 [.vi 0, .vi i]) = some (if W4 (fil ω) (atV (ω.w 5).toL i) then (0, [.vi 0, .vi (i + 1 : Nat)]) else (2, [.vi i, .vi i])) := fun i hi => by
  have p1 : (i : Int) < ((ω.w 5).toL.length : Int) := by omega
  have p2 : (0 : Int) ≤ (i : Int) := by omega
  unfold bS2
  simp only [g8, j3, den, dB, z9, o9, c51, c52, w0, w1, w2, w3, w4, w5, if_true, if_false, show 2000 - 2000 = 0 from rfl, show 2001 - 2000 = 1 from rfl, List.getD_cons_zero, List.getD_cons_succ, g9, p7, k9, l7, p1, p2, decide_true, A2, A3, A4, am5, hf, c49, b76, b75 (show i ≤ 1000000 by omega)]
  cases W4 (fil ω) (atV (ω.w 5).toL i) <;> rfl
 refine a34 (fun i hi hb => ?_) (fun i hi hb => ?_) ?_
 · show g8 bS2 (ω.upd 2000 [.vi 0, .vi i]) = _
   rw [key i hi, if_pos (by simpa using hb)]
 · show g8 bS2 (ω.upd 2000 [.vi 0, .vi i]) = _
   rw [key i hi, if_neg (by simpa using hb)]
 · show g8 bS2 (ω.upd 2000 [.vi 0, .vi _]) = _
   unfold bS2
   simp [g8, j3, den, dB, z9, o9]
theorem c72 {ω : Opq} (hf : ∀ i a, ω.f i a = F i a) {N : Nat} (hN : (ω.w 5).toL.length = N) (hn : N ≤ 100) : ∀ (n p j : Nat) (M : List Val), M.length = N → j + n = N → p < j →
 Iter (fun vs => g8 c92 (ω.upd 2000 vs)) [.vi p, .vi j, .vl M] 0 [.vi (aD3 (fil ω) p j M n).1, .vi N, .vl (aD3 (fil ω) p j M n).2]
 | 0, p, j, M, hM, hj, hp => by
   refine .out ?_
   show g8 c92 (ω.upd 2000 [.vi p, .vi j, .vl M]) = _
   have p1 : ¬ (j : Int) < (N : Int) := by omega
   obtain rfl : j = N := by omega
   unfold c92
   simp only [g8, j3, den, dB, z9, o9, c51, c52, cj8, w5, if_true, if_false, show 2000 - 2000 = 0 from rfl, show 2001 - 2000 = 1 from rfl, show 2002 - 2000 = 2 from rfl, List.getD_cons_zero, List.getD_cons_succ, g9, j5, p7, k9, hN, p1, decide_false, Bool.false_eq_true, aD3]
 | n + 1, p, j, M, hM, hj, hp => by
   have p1 : (j : Int) < (N : Int) := by omega
   have p2 : (0 : Int) ≤ (j : Int) := by omega
   have p3 : (p : Int) < (N : Int) := by omega
   have p4 : (0 : Int) ≤ (p : Int) := by omega
   have key : g8 c92 (ω.upd 2000 [.vi p, .vi j, .vl M]) = some (0, if W4 (fil ω) (atV M j) then [.vi (p + 1 : Nat), .vi (j + 1 : Nat), .vl (M.set p (J3 (atV M j)))] else [.vi p, .vi (j + 1 : Nat), .vl M]) := by
    unfold c92
    simp only [g8, j3, den, dB, z9, o9, c51, c52, cj8, w0, w1, w2, w3, w4, w5, if_true, if_false, show 2000 - 2000 = 0 from rfl, show 2001 - 2000 = 1 from rfl, show 2002 - 2000 = 2 from rfl, List.getD_cons_zero, List.getD_cons_succ, g9, j5, p7, k9, l7, hN, hM, p1, p2, p3, p4, decide_true, Bool.and_self, A2, A3, A4, G4, G5, G6, G7, M0, am5, hf, c49, b76, T6, Int.toNat_natCast, b75 (show j ≤ 1000000 by omega), b75 (show p ≤ 1000000 by omega)]
    cases W4 (fil ω) (atV M j) <;> rfl
   unfold aD3
   split
   · rename_i hb
     rw [hb, if_pos rfl] at key
     exact .more key (c72 hf hN hn n (p + 1) (j + 1) _ (by rw [List.length_set, hM]) (by omega) (by omega))
   · rename_i hb
     rw [if_neg hb] at key
     exact .more key (c72 hf hN hn n p (j + 1) M hM (by omega) (by omega))
theorem c73 {M : List Val} {n : Nat} (ho : M.all okK = true) (hM : M.length = n) (hn : n ≤ 30) : (F 428 [.vl M, .vi n, .vi n]).toB = true := by
 show (aN8 (.vl M) (.vi n) && (isI (.vi n) && decide ((n : Int) = (n : Int) ∧ (n : Int) ≤ 30))) = true
 exact T3 (ao3 ho hM rfl (by omega)) (T3 rfl (decide_eq_true ⟨rfl, by omega⟩))
theorem cz6 {ω : Opq} (hf : ∀ i a, ω.f i a = F i a) (hn : (ω.w 5).toL.length ≤ 30) (ho : (isL (ω.w 5) && (ω.w 5).toL.all okK) = true) : g8 co6 ω = some (0, [F 430 [ω.w 0, ω.w 1, ω.w 2, ω.w 3, ω.w 4, ω.w 5]]) := by
 obtain ⟨hl, ha⟩ := a9 ho
 have e5 : ω.w 5 = .vl (ω.w 5).toL := aN4 hl
 have hF : F 430 [ω.w 0, ω.w 1, ω.w 2, ω.w 3, ω.w 4, ω.w 5] = .vl (srt (m0 (fil ω)) ((ω.w 5).toL.filter (W4 (fil ω)))) := rfl
 have h425 : ∀ M : List Val, F 425 [ω.w 0, ω.w 1, ω.w 2, ω.w 3, ω.w 4, .vl M, .vi 0, .vi M.length] = .vl (srt (m0 (fil ω)) M) := fun M => by
  rw [← aD2]; rfl
 have hlp := cu4 hf (show (ω.w 5).toL.length ≤ 100 by omega)
 have h470 : F 470 [.vi 0, .vi 0, .vi (ω.w 5).toL.length, ω.w 5, ω.w 0, ω.w 1, ω.w 2, ω.w 3, ω.w 4, .vi (ω.w 5).toL.length] = v5 (Z3 (.vi 0) (fun i => [.vi i, .vi i]) (fun i => !W4 (fil ω) (atV (ω.w 5).toL i)) (ω.w 5).toL.length) := rfl
 rw [hF]
 unfold co6
 refine i4 (T3 (decide_eq_true (show ((ω.w 5).toL.length : Int) ≤ 100 by omega)) (by show (ω.f 431 [ω.w 5]).toB = true; rw [hf]; exact ho)) ?_
 have n0 : dB ω ch5 = true := by
  show decide (((ω.w 5).toL.length : Int) ≤ 30) = true
  exact decide_eq_true (by omega)
 have d1 : den ω bS3 = .vl (srt (m0 (fil ω)) (ω.w 5).toL) := by
  show ω.f 425 [ω.w 0, ω.w 1, ω.w 2, ω.w 3, ω.w 4, ω.w 5, .vi 0, .vi (ω.w 5).toL.length] = _
  have := h425 (ω.w 5).toL
  rw [← e5] at this
  rw [hf]; exact this
 have n2 : dB ω ch6 = true := by
  show decide (((ω.w 5).toL.length : Int) = ((den ω bS3).toL.length : Int)) = true
  rw [d1, j5, Z4]; exact decide_eq_true rfl
 cases hfd : (List.range (ω.w 5).toL.length).find? (fun i => !W4 (fil ω) (atV (ω.w 5).toL i)) with
 | none =>
   have hs : Z3 (.vi 0) (fun i => [.vi i, .vi i]) (fun i => !W4 (fil ω) (atV (ω.w 5).toL i)) (ω.w 5).toL.length = (0, [.vi 0, .vi (ω.w 5).toL.length]) := by unfold Z3; rw [hfd]
   rw [hs] at hlp h470
   have hall : (ω.w 5).toL.filter (W4 (fil ω)) = (ω.w 5).toL := be5 fun k hk => by
    rw [List.find?_range_eq_none] at hfd
    simpa using hfd k hk
   rw [hall]
   refine k5 (r := (0, [.vi 0, .vi (ω.w 5).toL.length])) hlp ?_ ?_
   · show ω.f 470 [.vi 0, .vi 0, .vi (ω.w 5).toL.length, ω.w 5, ω.w 0, ω.w 1, ω.w 2, ω.w 3, ω.w 4, .vi (ω.w 5).toL.length] = _
     rw [hf, h470]
   · show g8 (.need ch5 (.need ch6 (.ret 0 [bS3]))) ω = _
     refine i4 n0 (i4 n2 ?_)
     show some (0, [den ω bS3]) = _
     rw [d1]
 | some i =>
   obtain ⟨hi, hb, hlt⟩ := a69 hfd
   have hs : Z3 (.vi 0) (fun i => [.vi i, .vi i]) (fun i => !W4 (fil ω) (atV (ω.w 5).toL i)) (ω.w 5).toL.length = (1, [.vi i, .vi i]) := by unfold Z3; rw [hfd]
   rw [hs] at hlp h470
   have hsplit := aN5 (f := W4 (fil ω)) hi (fun k hk => by simpa using hlt k hk) (by simpa using hb)
   have hnorm : ∀ v ∈ (ω.w 5).toL, J3 v = v := fun v hv => (av0 (an7 (List.all_eq_true.1 ha v hv)).1).1
   have hdt := ao6 (fil ω) ((ω.w 5).toL.length - (i + 1)) i (i + 1) (ω.w 5).toL (by omega) (by omega) (fun v hv => hnorm v (List.mem_of_mem_drop hv))
   have hdl := aD7 (fil ω) ((ω.w 5).toL.length - (i + 1)) i (i + 1) (ω.w 5).toL
   have hde := aX0 (fil ω) ((ω.w 5).toL.length - (i + 1)) i (i + 1) (ω.w 5).toL
   rw [← hsplit] at hdt
   have hit := c72 hf (N := (ω.w 5).toL.length) rfl (by omega) ((ω.w 5).toL.length - (i + 1)) i (i + 1) (ω.w 5).toL rfl (by omega) (by omega)
   have h471 : F 471 [.vi i, .vi (i + 1 : Nat), ω.w 5, .vi (ω.w 5).toL.length, ω.w 5, ω.w 0, ω.w 1, ω.w 2, ω.w 3, ω.w 4] = v5 (0, [.vi (aD3 (fil ω) i (i + 1) (ω.w 5).toL ((ω.w 5).toL.length - (i + 1))).1, .vi (ω.w 5).toL.length, .vl (aD3 (fil ω) i (i + 1) (ω.w 5).toL ((ω.w 5).toL.length - (i + 1))).2]) := rfl
   generalize hdv : aD3 (fil ω) i (i + 1) (ω.w 5).toL ((ω.w 5).toL.length - (i + 1)) = D at hdt hdl hde hit h471
   obtain ⟨p, M⟩ := D
   simp only at hdt hdl hde hit h471
   have d3 : den ω bB9 = .vi i := by
    show w6 (ω.f 470 [.vi 0, .vi 0, .vi (ω.w 5).toL.length, ω.w 5, ω.w 0, ω.w 1, ω.w 2, ω.w 3, ω.w 4, .vi (ω.w 5).toL.length]).toL 1 0 = _
    rw [hf, h470]; rfl
   have d4 : den ω ch7 = .vi (i + 1 : Nat) := by
    show Val.vi (arI .add .i64 (den ω bB9).toI 1) = _
    rw [d3, g9, b75 (by omega)]
   have d5 : den ω ch8 = v5 (0, [.vi p, .vi (ω.w 5).toL.length, .vl M]) := by
    show ω.f 471 [den ω bB9, den ω ch7, ω.w 5, .vi (ω.w 5).toL.length, ω.w 5, ω.w 0, ω.w 1, ω.w 2, ω.w 3, ω.w 4] = _
    rw [d3, d4, hf, h471]
   have d6 : den ω a91 = .vi p := by show w6 (den ω ch8).toL 1 0 = _; rw [d5]; rfl
   have d9 : den ω bd8 = .vl M := by show w6 (den ω ch8).toL 1 2 = _; rw [d5]; rfl
   have d8 : dI ω aV4 = ((ω.w 5).toL.length : Int) - p := by show ((ω.w 5).toL.length : Int) - dI ω a91 = _; rw [show dI ω a91 = (den ω a91).toI from rfl, d6]; rfl
   have i6 : dI ω a91 = p := by show (den ω a91).toI = _; rw [d6]; rfl
   have l9 : dL ω bd8 = M := by show (den ω bd8).toL = _; rw [d9]; rfl
   have hpM : p ≤ M.length := by omega
   have htl : (M.take p).length = p := by rw [List.length_take]; omega
   have hfl : ((ω.w 5).toL.filter (W4 (fil ω))).length = p := by rw [← hdt, htl]
   have i10 : dI ω (.op .iadd [a91, aV4]) = (M.length : Int) := by show dI ω a91 + dI ω aV4 = _; rw [i6, d8]; omega
   obtain ⟨Z, hZ⟩ : ∃ Z, dL ω bd9 = M.take p ++ Z := by
    have hcat : dL ω bd9 = ((dL ω bd8).drop (0 : Int).toNat).take (dI ω a91 - 0).toNat ++ dL ω (.op .lcat [.op .lrep [aV4, .op .row [.cs [], .ci 0, .ci 0, .cb false, .ci 0, .ci 0, .ci 0, .ci 0]], .op .lsub [bd8, .op .iadd [a91, aV4], .op .llen [bd8]]]) := rfl
    refine ⟨dL ω (.op .lcat [.op .lrep [aV4, .op .row [.cs [], .ci 0, .ci 0, .cb false, .ci 0, .ci 0, .ci 0, .ci 0]], .op .lsub [bd8, .op .iadd [a91, aV4], .op .llen [bd8]]]), hcat.trans ?_⟩
    rw [l9, i6, show (0 : Int).toNat = 0 from rfl, List.drop_zero, show ((p : Int) - 0).toNat = p by omega]
   have l11 : den ω aB9 = .vl ((ω.w 5).toL.filter (W4 (fil ω))) := by
    show Val.vl (((dL ω bd9).drop (0 : Int).toNat).take (dI ω a91 - 0).toNat) = _
    rw [hZ, i6, show (0 : Int).toNat = 0 from rfl, List.drop_zero, show ((p : Int) - 0).toNat = p by omega]
    have : (M.take p ++ Z).take p = M.take p := by
     rw [List.take_append_of_le_length (by omega), List.take_take, Nat.min_self]
    rw [this, hdt]
   have d12 : den ω bx1 = .vl (srt (m0 (fil ω)) ((ω.w 5).toL.filter (W4 (fil ω)))) := by
    show ω.f 425 [ω.w 0, ω.w 1, ω.w 2, ω.w 3, ω.w 4, den ω aB9, .vi 0, .vi (den ω aB9).toL.length] = _
    rw [l11, hf]; exact h425 _
   have g7 : dB ω co5 = true := by show decide (0 ≤ dI ω a91) = true; rw [i6]; exact decide_eq_true (by omega)
   refine k5 (r := (1, [.vi i, .vi i])) hlp ?_ ?_
   · show ω.f 470 [.vi 0, .vi 0, .vi (ω.w 5).toL.length, ω.w 5, ω.w 0, ω.w 1, ω.w 2, ω.w 3, ω.w 4, .vi (ω.w 5).toL.length] = _
     rw [hf, h470]
   · refine (x7 (x := .need ch5 (.need ch6 (.ret 0 [bS3]))) (e := .op (.cmp .eql) [bB9, .ci (-1)]) ?_ ?_)
     · show decide ((den ω bB9).toI = -1) = false
       rw [d3, g9]; exact decide_eq_false (by omega)
     · refine k5 (r := (0, [.vi p, .vi (ω.w 5).toL.length, .vl M])) ?_ d5 ?_
       · show r8 _ [den ω bB9, den ω ch7, ω.w 5] = _
         rw [d3, d4, e5, q9]
         rw [j5]
         exact hit
       · refine i4 (T3 g7 ?_) (i4 (T3 (T3 g7 ?_) (T3 ?_ ?_)) (i4 (T3 (T3 g7 ?_) (T3 ?_ ?_)) (i4 ?_ ?_)))
         · show decide (dI ω a91 ≤ ((ω.w 5).toL.length : Int)) = true
           rw [i6]; exact decide_eq_true (by omega)
         · show decide (0 ≤ dI ω aV4) = true
           rw [d8]; exact decide_eq_true (by omega)
         · show decide (dI ω aV4 ≤ 1000000) = true
           rw [d8]; exact decide_eq_true (by omega)
         · show decide (dI ω (.op .iadd [a91, aV4]) ≤ ((dL ω bd8).length : Int)) = true
           rw [i10, l9]; exact decide_eq_true (Int.le_refl _)
         · show decide (dI ω a91 ≤ ((dL ω bd9).length : Int)) = true
           rw [i6, hZ, List.length_append, htl]; exact decide_eq_true (by omega)
         · show decide (((den ω aB9).toL.length : Int) ≤ 30) = true
           rw [l11, j5, hfl]; exact decide_eq_true (by omega)
         · show (ω.f 431 [den ω aB9]).toB = true
           rw [hf, l11]
           exact T3 rfl (c71 ha fun v hv => (List.mem_filter.1 hv).1)
         · show decide (dI ω a91 = ((den ω bx1).toL.length : Int)) = true
           rw [i6, d12, j5, Z4, hfl]; exact decide_eq_true rfl
         · show some (0, [den ω bx1]) = _
           rw [d12]
theorem c74 {ω : Opq} (hf : ∀ i a, ω.f i a = F i a) (hn : (ω.w 5).toL.length ≤ 30) (ho : (isL (ω.w 5) && (ω.w 5).toL.all okK) = true) : g8 aB8 ω = some (0, [F 425 [ω.w 0, ω.w 1, ω.w 2, ω.w 3, ω.w 4, ω.w 5, .vi 0, .vi (ω.w 5).toL.length]]) := by
 obtain ⟨hl, ha⟩ := a9 ho
 have e5 : ω.w 5 = .vl (ω.w 5).toL := aN4 hl
 unfold aB8
 refine i4 ?_ ?_
 · show (ω.f 428 [ω.w 5, .vi (ω.w 5).toL.length, .vi (ω.w 5).toL.length]).toB = true
   have := c73 ha rfl hn
   rw [← e5] at this
   rw [hf]; exact this
 · show some (0, [ω.f 425 [ω.w 0, ω.w 1, ω.w 2, ω.w 3, ω.w 4, ω.w 5, .vi 0, .vi (ω.w 5).toL.length]]) = _
   rw [hf]
theorem cu5 : (3000 ≤ 3000) = True := by simp
theorem cu6 : (3000 ≤ 3001) = True := by simp
theorem cu7 : (3000 ≤ 2001) = False := by simp
theorem cu8 : (3000 ≤ 2002) = False := by simp
theorem y0 : (3000 ≤ 0) = False := by simp
theorem y5 : (3000 ≤ 5) = False := by simp
theorem c75 {ω : Opq} (hf : ∀ i a, ω.f i a = F i a) {i k : Nat} (hKi : k + 1 ≤ i) (hi : i ≤ 1000000) (hacc : (ω.w 2002).toL.length = i) {l : List Val} (hl : l.length = i + 1) (ho : l.all okK = true) :
 g8 c30 (ω.upd 3000 [.vi (k + 1 : Nat), .vl l]) = some (if j8 (m0 (fil ω)) (atV l (k + 1)) (atV l k) then (0, [.vi k, .vl (swp l (k + 1) k)]) else (1, [.vi (k + 1 : Nat), .vl l])) := by
 obtain ⟨K, hK⟩ : ∃ K, K = k + 1 := ⟨_, rfl⟩
 rw [← hK]
 have e1 := cu2 hK (by omega)
 have p0 : (0 : Int) < K := by omega
 have p1 : (0 : Int) ≤ K := by omega
 have p2 : (K : Int) < ((i + 1 : Nat) : Int) := by omega
 have p3 : (0 : Int) ≤ k := by omega
 have p4 : (k : Int) < ((i + 1 : Nat) : Int) := by omega
 have hs : decide ((ω.w 0).toI = 3) = m0 (fil ω) := rfl
 rw [aC7 (by omega), ← a44 ho (by omega) (by omega)]
 unfold c30
 simp only [g8, j3, den, dB, z9, o9, cu5, cu6, cu7, cu8, y0, y5, if_true, if_false, show 3000 - 3000 = 0 from rfl, show 3001 - 3000 = 1 from rfl, List.getD_cons_zero, List.getD_cons_succ, g9, j5, p7, e1, A2, A3, A4, G4, G5, G6, G7, M0, am5, hf, r5, cj7, T6, W2, l7, k9, List.length_append, List.length_cons, List.length_nil, hacc, hl, List.length_set, p0, p1, p2, p3, p4, decide_true, Bool.and_true, Int.toNat_natCast, hs]
 cases j8 (m0 (fil ω)) (atV l K) (atV l k) <;> rfl
theorem ck7 {ω : Opq} (hf : ∀ i a, ω.f i a = F i a) {i : Nat} (hi : i ≤ 1000000) (hacc : (ω.w 2002).toL.length = i) : ∀ (k : Nat), k ≤ i → ∀ l : List Val, l.length = i + 1 → l.all okK = true →
 Iter (fun vs => g8 c30 (ω.upd 3000 vs)) [.vi k, .vl l] 0 [.vi (X5 (m0 (fil ω)) 0 l k).1, .vl (X5 (m0 (fil ω)) 0 l k).2]
 | 0, _, l, hl, ho => by
   refine .out ?_
   show g8 c30 (ω.upd 3000 [.vi 0, .vl l]) = _
   simp [c30, g8, j3, den, dB, z9, o9, X5]
 | k + 1, hk, l, hl, ho => by
   have hs := c75 hf (k := k) hk hi hacc hl ho
   unfold X5
   rw [Nat.zero_add]
   cases hc : j8 (m0 (fil ω)) (atV l (k + 1)) (atV l k) with
   | true =>
     rw [hc, if_pos rfl] at hs
     rw [if_pos rfl]
     exact .more hs (ck7 hf hi hacc k (by omega) _ (by rw [a72, hl]) (ao2 ho (by omega) (by omega)))
   | false =>
     rw [hc, if_neg (by simp)] at hs
     rw [if_neg (by simp)]
     exact .out hs
def bA8 : SX := .op .row [.op .lget [.va 5, .va 2001, .ci 0], .op .lget [.va 5, .va 2001, .ci 1], .op .lget [.va 5, .va 2001, .ci 2], .op .lget [.va 5, .va 2001, .ci 3], .op .lget [.va 5, .va 2001, .ci 4], .op .lget [.va 5, .va 2001, .ci 5], .op .lget [.va 5, .va 2001, .ci 6], .op .lget [.va 5, .va 2001, .ci 7]]
def G8 : SX := .op .lcat [.va 2002, .op .row [bA8]]
def c76 : SX := .op (.ar .sub .i64) [.op .llen [G8], .ci 1]
def bN3 : List SX := [.ci 0, .op .llen [.va 5], .va 5, .va 0, .va 1, .va 2, .va 3, .va 4, .op .llen [G8], G8, .va 2001]
def ao7 : SX := .op .lget [.app 473 (c76 :: G8 :: bN3), .ci 1, .ci 1]
def b80 : SX := .app 304 [.va 0, .va 1, .va 2, .va 3, .va 4, .op .lget [.va 5, .va 2001, .ci 0], .op .lget [.va 5, .va 2001, .ci 1], .op .lget [.va 5, .va 2001, .ci 2]]
theorem bA9 : co7 = .ite (.op (.cmp .lss) [.va 2001, .op .llen [.va 5]]) (.need (.op (.cmp .leq) [.ci 0, .va 2001]) (.ite (.op .not [b80]) (.ret 0 [.va 2000, .op (.ar .add .i64) [.va 2001, .ci 1], .va 2002]) (.need (.op .and [.op (.cmp .eql) [.va 2000, .op .llen [.va 2002]], .op (.cmp .leq) [.op .llen [G8], .ci 1000000]]) (.loop ⟨473, [c76, G8], 3000, bN3⟩ c30 [.need (.op (.cmp .eql) [.op .llen [G8], .op .llen [ao7]]) (.ret 0 [.op .llen [ao7], .op (.ar .add .i64) [.va 2001, .ci 1], ao7])])))) (.ret 1 [.va 2000, .va 2001, .va 2002]) := rfl
noncomputable def C8 (ω : Opq) (i : Nat) : List Val := srt (m0 (fil ω)) (((ω.w 5).toL.take i).filter (W4 (fil ω)))
theorem aX1 {L : List Val} {i : Nat} (hi : i < L.length) : L.take (i + 1) = L.take i ++ [atV L i] := by
 rw [List.take_add_one]
 unfold atV
 rw [List.getD_eq_getElem?_getD, List.getElem?_eq_getElem hi]; rfl
theorem c77 {ω : Opq} (hf : ∀ i a, ω.f i a = F i a) {i : Nat} (hi : i < (ω.w 5).toL.length) (hn : (ω.w 5).toL.length ≤ 100) (ho : (ω.w 5).toL.all okK = true) :
 g8 co7 (ω.upd 2000 [.vi (C8 ω i).length, .vi i, .vl (C8 ω i)]) = some (0, [.vi (C8 ω (i + 1)).length, .vi (i + 1 : Nat), .vl (C8 ω (i + 1))]) := by
 obtain ⟨A, hA⟩ : ∃ A, C8 ω i = A := ⟨_, rfl⟩
 have hal : A.length ≤ 100 := by
  rw [← hA, C8, Z4]
  have h1 := List.length_filter_le (W4 (fil ω)) ((ω.w 5).toL.take i)
  have h2 := List.length_take_le i (ω.w 5).toL
  omega
 have hmem : atV (ω.w 5).toL i ∈ (ω.w 5).toL := by
  unfold atV
  rw [List.getD_eq_getElem?_getD, List.getElem?_eq_getElem hi]
  exact List.getElem_mem hi
 have hx := (av0 (an7 (List.all_eq_true.1 ho _ hmem)).1).1
 obtain ⟨x, hxd⟩ : ∃ x, atV (ω.w 5).toL i = x := ⟨_, rfl⟩
 rw [hxd] at hx
 have hall : (A ++ [x]).all okK = true := by
  rw [List.all_append, ← hA, ← hxd]
  refine T3 (List.all_eq_true.2 fun v hv => ?_) (by rw [List.all_cons, List.all_nil, Bool.and_true]; exact List.all_eq_true.1 ho _ hmem)
  have := (List.mem_filter.1 (aC6.1 hv)).1
  exact List.all_eq_true.1 ho v (List.mem_of_mem_take this)
 have hstep : C8 ω (i + 1) = if W4 (fil ω) x then (X5 (m0 (fil ω)) 0 (A ++ [x]) A.length).2 else A := by
  rw [← hA]
  unfold C8
  rw [aX1 hi, hxd, List.filter_append]
  by_cases hh : W4 (fil ω) x = true
  · have hb := aD0 (m0 (fil ω)) x (P := []) (a := 0) rfl (dsc (m0 (fil ω)) (((ω.w 5).toL.take i).filter (W4 (fil ω)))) []
    rw [if_pos hh, List.filter_cons, if_pos hh, List.filter_nil]
    unfold srt
    rw [by1, List.length_reverse]
    simpa using hb.symm
  · rw [if_neg hh, List.filter_cons, if_neg hh, List.filter_nil, List.append_nil]
 rw [hA]
 obtain ⟨ω', hω⟩ : ∃ ω', ω' = ω.upd 2000 [.vi A.length, .vi i, .vl A] := ⟨_, rfl⟩
 have v0 : ω'.w 2000 = .vi A.length := by rw [hω]; rfl
 have v1 : ω'.w 2001 = .vi i := by rw [hω]; rfl
 have v2 : ω'.w 2002 = .vl A := by rw [hω]; rfl
 have u5 : ω'.w 5 = ω.w 5 := by rw [hω]; rfl
 have uf : fil ω' = fil ω := by rw [hω]; rfl
 have hf' : ∀ i a, ω'.f i a = F i a := by rw [hω]; exact hf
 rw [← hω, bA9]
 have r0 : den ω' bA8 = .vl [l5 x 0, l5 x 1, l5 x 2, l5 x 3, l5 x 4, l5 x 5, l5 x 6, l5 x 7] := by
  show Val.vl [w6 (ω'.w 5).toL (ω'.w 2001).toI 0, w6 (ω'.w 5).toL (ω'.w 2001).toI 1, w6 (ω'.w 5).toL (ω'.w 2001).toI 2, w6 (ω'.w 5).toL (ω'.w 2001).toI 3, w6 (ω'.w 5).toL (ω'.w 2001).toI 4, w6 (ω'.w 5).toL (ω'.w 2001).toI 5, w6 (ω'.w 5).toL (ω'.w 2001).toI 6, w6 (ω'.w 5).toL (ω'.w 2001).toI 7] = _
  rw [u5, v1, g9, A2, A3, A4, G4, G5, G6, G7, M0, hxd]
 have r1 : den ω' G8 = .vl (A ++ [x]) := by
  show Val.vl ((ω'.w 2002).toL ++ [den ω' bA8]) = _
  rw [v2, r0, T6, hx]; rfl
 have hl1 : (A ++ [x]).length = A.length + 1 := by simp
 have r2 : den ω' c76 = .vi A.length := by
  show Val.vi (arI .sub .i64 ((den ω' G8).toL.length : Int) 1) = _
  rw [r1, j5, hl1, cu2 (k := A.length) rfl (by omega)]
 have r3 : dB ω' b80 = W4 (fil ω) x := by
  show (ω'.f 304 [ω'.w 0, ω'.w 1, ω'.w 2, ω'.w 3, ω'.w 4, w6 (ω'.w 5).toL (ω'.w 2001).toI 0, w6 (ω'.w 5).toL (ω'.w 2001).toI 1, w6 (ω'.w 5).toL (ω'.w 2001).toI 2]).toB = _
  rw [hf', u5, v1, g9, A2, A3, A4, hxd, c49, ← uf]; rfl
 have hadd : arI .add .i64 (ω'.w 2001).toI 1 = ((i + 1 : Nat) : Int) := by rw [v1, g9, b75 (by omega)]
 refine E8 (by show decide ((ω'.w 2001).toI < ((ω'.w 5).toL.length : Int)) = true; rw [v1, u5, g9]; exact decide_eq_true (by omega)) (i4 (by show decide ((0 : Int) ≤ (ω'.w 2001).toI) = true; rw [v1, g9]; exact decide_eq_true (by omega)) ?_)
 by_cases hh : W4 (fil ω) x = true
 · rw [if_pos hh] at hstep
   rw [hstep]
   have hbl := aN3 (m0 (fil ω)) 0 A.length (A ++ [x])
   have h473 : ∀ a b c d e f g h : Val, F 473 [.vi A.length, .vl (A ++ [x]), a, b, c, ω'.w 0, d, e, f, g, h, .vl (A ++ [x]), .vi i] = v5 (0, [.vi (X5 (m0 (fil ω')) 0 (A ++ [x]) A.length).1, .vl (X5 (m0 (fil ω')) 0 (A ++ [x]) A.length).2]) := fun _ _ _ _ _ _ _ _ => rfl
   have e473 : ω'.f 473 (j3 ω' (c76 :: G8 :: bN3)) = v5 (0, [.vi (X5 (m0 (fil ω)) 0 (A ++ [x]) A.length).1, .vl (X5 (m0 (fil ω)) 0 (A ++ [x]) A.length).2]) := by
    show ω'.f 473 [den ω' c76, den ω' G8, .vi 0, .vi (ω'.w 5).toL.length, ω'.w 5, ω'.w 0, ω'.w 1, ω'.w 2, ω'.w 3, ω'.w 4, .vi (den ω' G8).toL.length, den ω' G8, ω'.w 2001] = _
    rw [hf', r2, r1, v1, h473, uf]
   have r4 : den ω' ao7 = .vl (X5 (m0 (fil ω)) 0 (A ++ [x]) A.length).2 := by
    show w6 (ω'.f 473 (j3 ω' (c76 :: G8 :: bN3))).toL 1 1 = _
    rw [e473]; rfl
   refine x7 (by show (!dB ω' b80) = false; rw [r3, hh]; rfl) (i4 (T3 ?_ ?_) (k5 (r := (0, [.vi (X5 (m0 (fil ω)) 0 (A ++ [x]) A.length).1, .vl (X5 (m0 (fil ω)) 0 (A ++ [x]) A.length).2])) ?_ e473 ?_))
   · show decide ((ω'.w 2000).toI = ((ω'.w 2002).toL.length : Int)) = true
     rw [v0, v2]; exact decide_eq_true rfl
   · show decide (((den ω' G8).toL.length : Int) ≤ 1000000) = true
     rw [r1, j5, hl1]; exact decide_eq_true (by omega)
   · show r8 _ [den ω' c76, den ω' G8] = _
     rw [r2, r1, q9]
     have := ck7 hf' (i := A.length) (by omega) (by rw [v2]; rfl) A.length (Nat.le_refl _) (A ++ [x]) hl1 hall
     rw [uf] at this
     exact this
   · refine i4 ?_ ?_
     · show decide (((den ω' G8).toL.length : Int) = ((den ω' ao7).toL.length : Int)) = true
       rw [r1, r4, j5, j5, hbl]; exact decide_eq_true rfl
     · show some (0, [Val.vi ((den ω' ao7).toL.length : Int), Val.vi (arI .add .i64 (ω'.w 2001).toI 1), den ω' ao7]) = _
       rw [r4, hadd, j5]
 · rw [if_neg hh] at hstep
   rw [hstep]
   refine E8 (by show (!dB ω' b80) = true; rw [r3]; simpa using hh) ?_
   show some (0, [ω'.w 2000, Val.vi (arI .add .i64 (ω'.w 2001).toI 1), ω'.w 2002]) = _
   rw [v0, v2, hadd]
theorem cu9 {ω : Opq} (hf : ∀ i a, ω.f i a = F i a) (hn : (ω.w 5).toL.length ≤ 30) (ho : (isL (ω.w 5) && (ω.w 5).toL.all okK) = true) : g8 bL7 ω = some (0, [F 430 [ω.w 0, ω.w 1, ω.w 2, ω.w 3, ω.w 4, ω.w 5]]) := by
 obtain ⟨hl, ha⟩ := a9 ho
 have hF : F 430 [ω.w 0, ω.w 1, ω.w 2, ω.w 3, ω.w 4, ω.w 5] = .vl (C8 ω (ω.w 5).toL.length) := by unfold C8; rw [List.take_length]; rfl
 have h472 : F 472 [.vi 0, .vi 0, .vl [], .vi 0, .vi (ω.w 5).toL.length, ω.w 5, ω.w 0, ω.w 1, ω.w 2, ω.w 3, ω.w 4] = v5 (0, [.vi (C8 ω (ω.w 5).toL.length).length, .vi (ω.w 5).toL.length, .vl (C8 ω (ω.w 5).toL.length)]) := by unfold C8; rw [List.take_length]; rfl
 have d0 : den ω bx2 = v5 (0, [.vi (C8 ω (ω.w 5).toL.length).length, .vi (ω.w 5).toL.length, .vl (C8 ω (ω.w 5).toL.length)]) := by
  show ω.f 472 [.vi 0, .vi 0, .vl [], .vi 0, .vi (ω.w 5).toL.length, ω.w 5, ω.w 0, ω.w 1, ω.w 2, ω.w 3, ω.w 4] = _
  rw [hf, h472]
 have d1 : den ω bx3 = .vl (C8 ω (ω.w 5).toL.length) := by show w6 (den ω bx2).toL 1 2 = _; rw [d0]; rfl
 rw [hF]
 unfold bL7
 refine k5 (r := (0, [.vi (C8 ω (ω.w 5).toL.length).length, .vi (ω.w 5).toL.length, .vl (C8 ω (ω.w 5).toL.length)])) ?_ d0 ?_
 · refine A5 (fun i => [.vi (C8 ω i).length, .vi i, .vl (C8 ω i)]) (n := (ω.w 5).toL.length) rfl (fun i hi => c77 hf hi (by omega) ha) ?_
   show g8 co7 (ω.upd 2000 [_, .vi (ω.w 5).toL.length, _]) = _
   rw [bA9]
   refine x7 ?_ rfl
   show decide ((((ω.w 5).toL.length : Nat) : Int) < ((ω.w 5).toL.length : Int)) = false
   exact decide_eq_false (by omega)
 · refine i4 ?_ ?_
   · show decide ((w6 (den ω bx2).toL 1 0).toI = ((den ω bx3).toL.length : Int)) = true
     rw [d0, d1]; exact decide_eq_true rfl
   · show some (0, [den ω bx3]) = _
     rw [d1]
theorem ck8 (r : Val) : Val.vl [l5 r 0, l5 r 1, l5 r 2, l5 r 4, l5 r 5, l5 r 6, l5 r 7] = ap0 r := rfl
theorem ck9 {ω : Opq} {i : Nat} {r g : List Val} (hi : i < (ω.w 0).toL.length) (hn : (ω.w 0).toL.length ≤ 100) (hr : r.length ≤ 100) (hg : g.length ≤ 100) :
 g8 co0 (ω.upd 2000 [.vi r.length, .vi g.length, .vi i, .vl r, .vl g]) = some (0, if v4 (atV (ω.w 0).toL i) then [.vi r.length, .vi (g ++ [J2 (atV (ω.w 0).toL i)]).length, .vi (i + 1 : Nat), .vl r, .vl (g ++ [J2 (atV (ω.w 0).toL i)])] else [.vi (r ++ [ap0 (atV (ω.w 0).toL i)]).length, .vi g.length, .vi (i + 1 : Nat), .vl (r ++ [ap0 (atV (ω.w 0).toL i)]), .vl g]) := by
 have p1 : (i : Int) < ((ω.w 0).toL.length : Int) := by omega
 have p2 : (0 : Int) ≤ (i : Int) := by omega
 have p3 : ((r.length + 1 : Nat) : Int) ≤ 1000000 := by omega
 have p4 : ((g.length + 1 : Nat) : Int) ≤ 1000000 := by omega
 have hd : (l5 (atV (ω.w 0).toL i) 3).toB = v4 (atV (ω.w 0).toL i) := rfl
 unfold co0
 simp only [g8, j3, den, dB, z9, o9, Nat.reduceLeDiff, Nat.reduceSub, if_true, if_false, List.getD_cons_zero, List.getD_cons_succ, g9, j5, p7, k9, l7, r5, p1, p2, p3, p4, decide_true, Bool.and_true, A2, A3, A4, G4, G5, G6, G7, M0, c50, ck8, List.length_append, List.length_cons, List.length_nil, Nat.zero_add, b75 (show i ≤ 1000000 by omega), hd]
 cases v4 (atV (ω.w 0).toL i) <;> rfl
theorem c78 {ω : Opq} (hf : ∀ i a, ω.f i a = F i a) (hn : (ω.w 0).toL.length ≤ 100) : g8 aB6 ω = some (0, [F 440 [ω.w 0], F 441 [ω.w 0]]) := by
 have hF1 : F 440 [ω.w 0] = .vl (((ω.w 0).toL.filter (fun r => !v4 r)).map ap0) := rfl
 have hF2 : F 441 [ω.w 0] = .vl (((ω.w 0).toL.filter v4).map J2) := rfl
 have hF3 : ∀ a b c d e f g h : Val, F 453 [a, b, c, d, e, f, g, ω.w 0, h] = v5 (0, [.vi (((ω.w 0).toL.filter (fun r => !v4 r)).map ap0).length, .vi (((ω.w 0).toL.filter v4).map J2).length, .vi (ω.w 0).toL.length, .vl (((ω.w 0).toL.filter (fun r => !v4 r)).map ap0), .vl (((ω.w 0).toL.filter v4).map J2)]) := fun _ _ _ _ _ _ _ _ => rfl
 rw [hF1, hF2]
 have d0 : den ω K7 = v5 (0, [.vi (((ω.w 0).toL.filter (fun r => !v4 r)).map ap0).length, .vi (((ω.w 0).toL.filter v4).map J2).length, .vi (ω.w 0).toL.length, .vl (((ω.w 0).toL.filter (fun r => !v4 r)).map ap0), .vl (((ω.w 0).toL.filter v4).map J2)]) := by
  show ω.f 453 [.vi 0, .vi 0, .vi 0, .vl [], .vl [], .vi 0, .vi (ω.w 0).toL.length, ω.w 0, .vi (ω.w 0).toL.length] = _
  rw [hf, hF3]
 have hlen : ∀ (q : Val → Bool) (f : Val → Val) (i : Nat), i ≤ (ω.w 0).toL.length → ((((ω.w 0).toL.take i).filter q).map f).length ≤ 100 := fun q f i hi => by
  rw [List.length_map]
  have h1 := List.length_filter_le q ((ω.w 0).toL.take i)
  have h2 := List.length_take_le i (ω.w 0).toL
  omega
 unfold aB6
 refine k5 ?_ d0 (i4 (T3 ?_ ?_) ?_)
 · refine A5 (fun i => [.vi ((((ω.w 0).toL.take i).filter (fun r => !v4 r)).map ap0).length, .vi ((((ω.w 0).toL.take i).filter v4).map J2).length, .vi i, .vl ((((ω.w 0).toL.take i).filter (fun r => !v4 r)).map ap0), .vl ((((ω.w 0).toL.take i).filter v4).map J2)]) (n := (ω.w 0).toL.length) rfl (fun i hi => ?_) ?_
   · refine (ck9 hi hn (hlen _ _ i (by omega)) (hlen _ _ i (by omega))).trans ?_
     simp only [aX1 hi, List.filter_append, List.map_append, List.filter_cons, List.filter_nil]
     cases v4 (atV (ω.w 0).toL i) <;> simp
   · simp only [List.take_length]
     unfold co0
     refine x7 ?_ rfl
     show decide ((((ω.w 0).toL.length : Nat) : Int) < ((ω.w 0).toL.length : Int)) = false
     exact decide_eq_false (by omega)
 · show decide ((w6 (den ω K7).toL 1 0).toI = ((w6 (den ω K7).toL 1 3).toL.length : Int)) = true
   rw [d0]; exact decide_eq_true rfl
 · show decide ((w6 (den ω K7).toL 1 1).toI = ((w6 (den ω K7).toL 1 4).toL.length : Int)) = true
   rw [d0]; exact decide_eq_true rfl
 · show some (0, [w6 (den ω K7).toL 1 3, w6 (den ω K7).toL 1 4]) = _
   rw [d0]; rfl
theorem cv0 (r : Val) : Val.vl [l5 r 0, l5 r 1, l5 r 2, .vb false, l5 r 3, l5 r 4, l5 r 5, l5 r 6] = chR r := rfl
theorem cv1 (r : Val) : Val.vl [l5 r 0, l5 r 1, l5 r 2, .vb true, .vi 0, .vi 0, .vi 0, .vi 0] = chP r := rfl
theorem c79 {ω : Opq} {i : Nat} {A : List Val} (hi : i < (ω.w 0).toL.length) (hn : (ω.w 0).toL.length ≤ 100) (hA : A.length ≤ 100) :
 g8 co1 (ω.upd 2000 [.vi A.length, .vi i, .vl A]) = some (0, [.vi (A ++ [chR (atV (ω.w 0).toL i)]).length, .vi (i + 1 : Nat), .vl (A ++ [chR (atV (ω.w 0).toL i)])]) := by
 have p1 : (i : Int) < ((ω.w 0).toL.length : Int) := by omega
 have p2 : (0 : Int) ≤ (i : Int) := by omega
 have p3 : ((A.length + 1 : Nat) : Int) ≤ 1000000 := by omega
 unfold co1
 simp only [g8, j3, den, dB, z9, o9, Nat.reduceLeDiff, Nat.reduceSub, if_true, if_false, List.getD_cons_zero, List.getD_cons_succ, g9, j5, p7, k9, l7, r5, p1, p2, p3, decide_true, Bool.and_true, A2, A3, A4, G4, G5, G6, G7, cv0, List.length_append, List.length_cons, List.length_nil, Nat.zero_add, b75 (show i ≤ 1000000 by omega)]
theorem c80 {ω : Opq} {i : Nat} {A : List Val} (hi : i < (ω.w 1).toL.length) (hn : (ω.w 1).toL.length ≤ 100) (hA : A.length ≤ 1000) :
 g8 co2 (ω.upd 3000 [.vi A.length, .vi i, .vl A]) = some (0, [.vi (A ++ [chP (atV (ω.w 1).toL i)]).length, .vi (i + 1 : Nat), .vl (A ++ [chP (atV (ω.w 1).toL i)])]) := by
 have p1 : (i : Int) < ((ω.w 1).toL.length : Int) := by omega
 have p2 : (0 : Int) ≤ (i : Int) := by omega
 have p3 : ((A.length + 1 : Nat) : Int) ≤ 1000000 := by omega
 unfold co2
 simp only [g8, j3, den, dB, z9, o9, Nat.reduceLeDiff, Nat.reduceSub, if_true, if_false, List.getD_cons_zero, List.getD_cons_succ, g9, j5, p7, k9, l7, r5, p1, p2, p3, decide_true, Bool.and_true, A2, A3, A4, G4, G5, G6, G7, cv1, List.length_append, List.length_cons, List.length_nil, Nat.zero_add, b75 (show i ≤ 1000000 by omega)]
theorem c81 {ω : Opq} (hf : ∀ i a, ω.f i a = F i a) (hn : (ω.w 0).toL.length ≤ 100) (hm : (ω.w 1).toL.length ≤ 100) : g8 aB7 ω = some (0, [F 442 [ω.w 0, ω.w 1]]) := by
 have hF : F 442 [ω.w 0, ω.w 1] = .vl ((ω.w 0).toL.map chR ++ (ω.w 1).toL.map chP) := rfl
 rw [hF]
 have hF1 : ∀ a b c d e f g h i : Val, F 454 [a, b, c, d, e, f, g, h, ω.w 0, i] = v5 (0, [.vi (ω.w 0).toL.length, .vi (ω.w 0).toL.length, .vl ((ω.w 0).toL.map chR)]) := fun _ _ _ _ _ _ _ _ _ => rfl
 have hF2 : ∀ (a b d e f : Val) (c : List Val), F 455 [a, b, .vl c, d, e, ω.w 1, f] = v5 (0, [.vi (c ++ (ω.w 1).toL.map chP).length, .vi (ω.w 1).toL.length, .vl (c ++ (ω.w 1).toL.map chP)]) := fun _ _ _ _ _ _ => rfl
 have d0 : den ω al8 = v5 (0, [.vi (ω.w 0).toL.length, .vi (ω.w 0).toL.length, .vl ((ω.w 0).toL.map chR)]) := by
  show ω.f 454 [.vi 0, .vi 0, .vl [], .vi 0, .vi (ω.w 1).toL.length, ω.w 1, .vi 0, .vi (ω.w 0).toL.length, ω.w 0, .vi (ω.w 0).toL.length] = _
  rw [hf, hF1]
 have d1 : den ω K8 = .vl ((ω.w 0).toL.map chR) := by show w6 (den ω al8).toL 1 2 = _; rw [d0]; rfl
 have d2 : den ω al9 = v5 (0, [.vi ((ω.w 0).toL.map chR ++ (ω.w 1).toL.map chP).length, .vi (ω.w 1).toL.length, .vl ((ω.w 0).toL.map chR ++ (ω.w 1).toL.map chP)]) := by
  show ω.f 455 [.vi (den ω K8).toL.length, .vi 0, den ω K8, .vi 0, .vi (ω.w 1).toL.length, ω.w 1, .vi (ω.w 1).toL.length] = _
  rw [hf, d1, hF2]
 have d3 : den ω am0 = .vl ((ω.w 0).toL.map chR ++ (ω.w 1).toL.map chP) := by show w6 (den ω al9).toL 1 2 = _; rw [d2]; rfl
 have g0 := aD4 chR (ω.w 0).toL
 have g1 := aD4 chP (ω.w 1).toL
 unfold aB7
 refine k5 (r := (0, [.vi (ω.w 0).toL.length, .vi (ω.w 0).toL.length, .vl ((ω.w 0).toL.map chR)])) ?_ d0 (i4 ?_ (k5 (r := (0, [.vi ((ω.w 0).toL.map chR ++ (ω.w 1).toL.map chP).length, .vi (ω.w 1).toL.length, .vl ((ω.w 0).toL.map chR ++ (ω.w 1).toL.map chP)])) ?_ d2 (i4 ?_ ?_)))
 · refine ao0 (fun i acc => [.vi acc.length, .vi i, .vl acc]) (a0 := []) (g := fun i => [chR (atV (ω.w 0).toL i)]) (n := (ω.w 0).toL.length) rfl (fun i hi => ?_) ?_
   · have := aW3 (g := fun i => [chR (atV (ω.w 0).toL i)]) (fun _ => by simp) i
     exact c79 hi hn (by rw [List.nil_append]; omega)
   · simp only [List.nil_append, g0]
     unfold co1
     refine x7 ?_ (by show some (1, [Val.vi ((ω.w 0).toL.map chR).length, Val.vi (ω.w 0).toL.length, Val.vl ((ω.w 0).toL.map chR)]) = _; rw [List.length_map])
     show decide ((((ω.w 0).toL.length : Nat) : Int) < ((ω.w 0).toL.length : Int)) = false
     exact decide_eq_false (by omega)
 · show decide ((w6 (den ω al8).toL 1 0).toI = ((den ω K8).toL.length : Int)) = true
   rw [d0, d1, j5, List.length_map]; exact decide_eq_true rfl
 · show r8 _ [.vi (den ω K8).toL.length, .vi 0, den ω K8] = _
   rw [d1, j5]
   refine ao0 (fun i acc => [.vi acc.length, .vi i, .vl acc]) (a0 := (ω.w 0).toL.map chR) (g := fun i => [chP (atV (ω.w 1).toL i)]) (n := (ω.w 1).toL.length) rfl (fun i hi => ?_) ?_
   · have := aW3 (g := fun i => [chP (atV (ω.w 1).toL i)]) (fun _ => by simp) i
     exact c80 hi hm (by rw [List.length_append, List.length_map]; omega)
   · rw [g1]
     unfold co2
     refine x7 ?_ rfl
     show decide ((((ω.w 1).toL.length : Nat) : Int) < ((ω.w 1).toL.length : Int)) = false
     exact decide_eq_false (by omega)
 · show decide ((w6 (den ω al9).toL 1 0).toI = ((den ω am0).toL.length : Int)) = true
   rw [d2, d3]; exact decide_eq_true rfl
 · show some (0, [den ω am0]) = _
   rw [d3]
theorem bB0 {q : Val → Bool} {f : Val → Val} {l : List Val} {i : Nat} (hi : i < l.length) (h : q (atV l i) = true) : ((l.take i).filter q).length < ((l.filter q).map f).length ∧ atV ((l.filter q).map f) ((l.take i).filter q).length = f (atV l i) := by
 have hd : l.drop i = atV l i :: l.drop (i + 1) := aV7 (n := l.length - (i + 1)) (by omega)
 have e : (l.filter q).map f = ((l.take i).filter q).map f ++ f (atV l i) :: ((l.drop (i + 1)).filter q).map f := by
  conv => lhs; rw [← List.take_append_drop i l, hd, List.filter_append, List.filter_cons, if_pos h, List.map_append, List.map_cons]
 rw [e]
 refine ⟨by rw [List.length_append, List.length_cons, List.length_map]; omega, an3 (by rw [List.length_map])⟩
theorem bN4 {a b : List Val} {k : Nat} (h : k < a.length) : atV (a ++ b) k = atV a k := by
 unfold atV
 rw [List.getD_eq_getElem?_getD, List.getD_eq_getElem?_getD, List.getElem?_append_left h]
theorem bN5 {a b : List Val} {k : Nat} (h : a.length ≤ k) : atV (a ++ b) k = atV b (k - a.length) := by
 unfold atV
 rw [List.getD_eq_getElem?_getD, List.getD_eq_getElem?_getD, List.getElem?_append_right h]
theorem bB1 {f : Val → Val} {a : List Val} {k : Nat} (h : k < a.length) : atV (a.map f) k = f (atV a k) := by
 unfold atV
 rw [List.getD_eq_getElem?_getD, List.getD_eq_getElem?_getD, List.getElem?_map, List.getElem?_eq_getElem h]; rfl
theorem b81 (q : Val → Bool) : ∀ l : List Val, (l.filter (fun r => !q r)).length + (l.filter q).length = l.length
 | [] => rfl
 | a :: l => by
   have := b81 q l
   rw [List.filter_cons, List.filter_cons, List.length_cons]
   cases q a <;> simp <;> omega
theorem c82 {ω : Opq} {R G : List Val} {i m n : Nat} (hR : ω.f 440 [ω.w 5] = .vl R) (hG : ω.f 441 [ω.w 5] = .vl G) (hi : i < (ω.w 5).toL.length) (hl : (ω.w 5).toL.length ≤ 100)
 (h1 : v4 (atV (ω.w 5).toL i) = true → n < G.length ∧ atV G n = J2 (atV (ω.w 5).toL i)) (h2 : v4 (atV (ω.w 5).toL i) = false → m < R.length ∧ atV R m = ap0 (atV (ω.w 5).toL i)) (hm : m ≤ 1000) (hn : n ≤ 1000) :
 g8 ch9 (ω.upd 2000 [.vb false, .vi m, .vi n, .vi i]) = some (0, if v4 (atV (ω.w 5).toL i) then [.vb false, .vi m, .vi (n + 1 : Nat), .vi (i + 1 : Nat)] else [.vb false, .vi (m + 1 : Nat), .vi n, .vi (i + 1 : Nat)]) := by
 have p1 : (i : Int) < ((ω.w 5).toL.length : Int) := by omega
 have p2 : (0 : Int) ≤ (i : Int) := by omega
 have p3 : (0 : Int) ≤ (n : Int) := by omega
 have p4 : (0 : Int) ≤ (m : Int) := by omega
 have hd : (l5 (atV (ω.w 5).toL i) 3).toB = v4 (atV (ω.w 5).toL i) := rfl
 unfold ch9
 simp only [g8, j3, den, dB, z9, o9, am5, hR, hG, Nat.reduceLeDiff, Nat.reduceSub, if_true, if_false, List.getD_cons_zero, List.getD_cons_succ, g9, j5, p7, k9, l7, aC1, p1, p2, p3, p4, decide_true, Bool.and_true, A2, A3, A4, G4, G5, G6, G7, M0, hd]
 cases h : v4 (atV (ω.w 5).toL i) with
 | true =>
   obtain ⟨a1, a2⟩ := h1 h
   have q1 : ¬ (G.length : Int) ≤ (n : Int) := by omega
   have c0 : ∀ x : Val, l5 (J2 x) 0 = l5 x 0 := fun _ => rfl
   have c1 : ∀ x : Val, l5 (J2 x) 1 = l5 x 1 := fun _ => rfl
   have c2 : ∀ x : Val, l5 (J2 x) 2 = l5 x 2 := fun _ => rfl
   simp [q1, a2, c0, c1, c2, b75 (show n ≤ 1000000 by omega), b75 (show i ≤ 1000000 by omega)]
 | false =>
   obtain ⟨a1, a2⟩ := h2 h
   have q1 : ¬ (R.length : Int) ≤ (m : Int) := by omega
   have c0 : ∀ x : Val, l5 (ap0 x) 0 = l5 x 0 := fun _ => rfl
   have c1 : ∀ x : Val, l5 (ap0 x) 1 = l5 x 1 := fun _ => rfl
   have c2 : ∀ x : Val, l5 (ap0 x) 2 = l5 x 2 := fun _ => rfl
   have c3 : ∀ x : Val, l5 (ap0 x) 3 = l5 x 4 := fun _ => rfl
   have c4 : ∀ x : Val, l5 (ap0 x) 4 = l5 x 5 := fun _ => rfl
   have c5 : ∀ x : Val, l5 (ap0 x) 5 = l5 x 6 := fun _ => rfl
   have c6 : ∀ x : Val, l5 (ap0 x) 6 = l5 x 7 := fun _ => rfl
   simp [q1, a2, c0, c1, c2, c3, c4, c5, c6, b75 (show m ≤ 1000000 by omega), b75 (show i ≤ 1000000 by omega)]
theorem c83 {ω : Opq} {R G : List Val} {i : Nat} {y : Val} (hR : ω.f 440 [ω.w 5] = .vl R) (hG : ω.f 441 [ω.w 5] = .vl G) (hM : ω.f 442 [.vl R, .vl G] = .vl (R.map chR ++ G.map chP)) (h4 : w6 (ω.f 474 [.vb false, .vi 0, .vi 0, .vi 0, .vi 0, .vi (ω.w 5).toL.length, ω.w 5, .vi (ω.f 200 [ω.w 5]).toL.length, ω.f 200 [ω.w 5], .vi R.length, .vl R, .vi G.length, .vl G]).toL 1 1 = .vi R.length)
 (hi : i < R.length + G.length) (hl : R.length + G.length ≤ 1000) : g8 ci0 (ω.upd 3000 [y, .vi i]) = some (0, [y, .vi (i + 1 : Nat)]) := by
 have p1 : (i : Int) < ((R.length + G.length : Nat) : Int) := by omega
 have p2 : (0 : Int) ≤ (i : Int) := by omega
 unfold ci0
 simp only [g8, j3, den, dB, z9, o9, am5, hR, hG, hM, h4, Nat.reduceLeDiff, Nat.reduceSub, if_true, if_false, List.getD_cons_zero, List.getD_cons_succ, g9, j5, p7, k9, l7, aC1, p1, p2, decide_true, Bool.and_true, List.length_append, List.length_map, A2, A3, A4, G4, G5, G6, G7, M0]
 by_cases h : i < R.length
 · have q1 : (i : Int) < (R.length : Int) := by omega
   have a1 : atV (R.map chR ++ G.map chP) i = chR (atV R i) := by rw [bN4 (by rw [List.length_map]; exact h), bB1 h]
   have c0 : ∀ x : Val, l5 (chR x) 0 = l5 x 0 := fun _ => rfl
   have c1 : ∀ x : Val, l5 (chR x) 1 = l5 x 1 := fun _ => rfl
   have c2 : ∀ x : Val, l5 (chR x) 2 = l5 x 2 := fun _ => rfl
   have c3 : ∀ x : Val, l5 (chR x) 3 = .vb false := fun _ => rfl
   have c4 : ∀ x : Val, l5 (chR x) 4 = l5 x 3 := fun _ => rfl
   have c5 : ∀ x : Val, l5 (chR x) 5 = l5 x 4 := fun _ => rfl
   have c6 : ∀ x : Val, l5 (chR x) 6 = l5 x 5 := fun _ => rfl
   have c7 : ∀ x : Val, l5 (chR x) 7 = l5 x 6 := fun _ => rfl
   simp [q1, a1, c0, c1, c2, c3, c4, c5, c6, c7, b75 (show i ≤ 1000000 by omega)]
 · have q1 : ¬ (i : Int) < (R.length : Int) := by omega
   have e1 := aN9 (x := i) (y := R.length) (by omega) (by omega)
   have q2 : (0 : Int) ≤ ((i - R.length : Nat) : Int) := by omega
   have q3 : ((i - R.length : Nat) : Int) < (G.length : Int) := by omega
   have a1 : atV (R.map chR ++ G.map chP) i = chP (atV G (i - R.length)) := by
    rw [bN5 (by rw [List.length_map]; omega), List.length_map, bB1 (by omega)]
   have c0 : ∀ x : Val, l5 (chP x) 0 = l5 x 0 := fun _ => rfl
   have c1 : ∀ x : Val, l5 (chP x) 1 = l5 x 1 := fun _ => rfl
   have c2 : ∀ x : Val, l5 (chP x) 2 = l5 x 2 := fun _ => rfl
   have c3 : ∀ x : Val, l5 (chP x) 3 = .vb true := fun _ => rfl
   have c4 : ∀ x : Val, l5 (chP x) 4 = .vi 0 := fun _ => rfl
   have c5 : ∀ x : Val, l5 (chP x) 5 = .vi 0 := fun _ => rfl
   have c6 : ∀ x : Val, l5 (chP x) 6 = .vi 0 := fun _ => rfl
   have c7 : ∀ x : Val, l5 (chP x) 7 = .vi 0 := fun _ => rfl
   simp only [e1, A2, A3, A4]
   simp [q1, q2, q3, a1, c0, c1, c2, c3, c4, c5, c6, c7, b75 (show i ≤ 1000000 by omega)]
   try omega
theorem cl0 {v : Val} (h : (isL v && v.toL.all okC && decide (v.toL.length ≤ 9223372036854775807)) = true) : v = .vl v.toL ∧ v.toL.all okC = true ∧ v.toL.length ≤ 9223372036854775807 := by
 obtain ⟨h1, h2⟩ := a9 h
 obtain ⟨h3, h4⟩ := a9 h1
 exact ⟨aN4 h3, h4, of_decide_eq_true h2⟩
theorem cv2 {l : List Val} (h : l.all okC = true) : l.map J3 = l := by
 rw [List.map_congr_left (fun v hv => (av0 (List.all_eq_true.1 h v hv)).1)]; simp
theorem a74 (l : List Val) : an6 l l = true := by unfold an6; simp
theorem aN6 {ω : Opq} (hf : ∀ i a, ω.f i a = F i a) (ho5 : (isL (ω.w 5) && (ω.w 5).toL.all okC && decide ((ω.w 5).toL.length ≤ 9223372036854775807)) = true) (ho6 : (isL (ω.w 6) && (ω.w 6).toL.all okC && decide ((ω.w 6).toL.length ≤ 9223372036854775807)) = true) : g8 N5 ω = some (0, [.vb true]) := by
 obtain ⟨e5, a5, n5⟩ := cl0 ho5
 obtain ⟨e6, a6, n6⟩ := cl0 ho6
 have f1 : ∀ v : Val, F 1 [v] = .vb (!v.toL.any bf0 && decide (v.toL.length ≤ 30)) := fun _ => rfl
 unfold N5
 by_cases k1 : ((ω.w 1).toS.length : Int) ≤ 60
 case neg => exact x7 (by show decide (((ω.w 1).toS.length : Int) ≤ 60) = false; exact decide_eq_false k1) rfl
 refine E8 (by show decide (((ω.w 1).toS.length : Int) ≤ 60) = true; exact decide_eq_true k1) ?_
 by_cases k2 : ((ω.w 2).toS.length : Int) ≤ 60
 case neg => exact E8 (by show (!decide (((ω.w 2).toS.length : Int) ≤ 60)) = true; rw [decide_eq_false k2]; rfl) rfl
 refine x7 (by show (!decide (((ω.w 2).toS.length : Int) ≤ 60)) = false; rw [decide_eq_true k2]; rfl) (i4 (by show decide (((ω.w 5).toL.length : Int) ≤ 9223372036854775807) = true; exact decide_eq_true (by omega)) ?_)
 cases g5 : (!(ω.w 5).toL.any bf0 && decide ((ω.w 5).toL.length ≤ 30)) with
 | false => exact E8 (by show (!(ω.f 1 [ω.w 5]).toB) = true; rw [hf, f1, g5]; rfl) rfl
 | true =>
 refine x7 (by show (!(ω.f 1 [ω.w 5]).toB) = false; rw [hf, f1, g5]; rfl) (i4 (by show decide (((ω.w 6).toL.length : Int) ≤ 9223372036854775807) = true; exact decide_eq_true (by omega)) ?_)
 cases g6 : (!(ω.w 6).toL.any bf0 && decide ((ω.w 6).toL.length ≤ 30)) with
 | false => exact E8 (by show (!(ω.f 1 [ω.w 6]).toB) = true; rw [hf, f1, g6]; rfl) rfl
 | true =>
 refine x7 (by show (!(ω.f 1 [ω.w 6]).toB) = false; rw [hf, f1, g6]; rfl) ?_
 obtain ⟨b5, c5⟩ := a9 g5
 have c5 := of_decide_eq_true c5
 have kk : (ω.w 5).toL.all okK = true := List.all_eq_true.2 fun v hv => by
  refine T3 (List.all_eq_true.1 a5 v hv) (decide_eq_true ?_)
  have := b5
  simp only [Bool.not_eq_true', List.any_eq_false] at this
  have := this v hv
  unfold bf0 at this
  have := of_decide_eq_false (by simpa using this : decide (60 < (pk v).length) = false)
  omega
 obtain ⟨l, hl⟩ : ∃ l, (ω.w 5).toL = l := ⟨_, rfl⟩
 obtain ⟨S, hS⟩ : ∃ S, srt (m0 (fil ω)) (l.filter (W4 (fil ω))) = S := ⟨_, rfl⟩
 obtain ⟨R, hR⟩ : ∃ R, (l.filter (fun r => !v4 r)).map ap0 = R := ⟨_, rfl⟩
 obtain ⟨G, hG⟩ : ∃ G, (l.filter v4).map J2 = G := ⟨_, rfl⟩
 have m5 := cv2 a5
 have m6 := cv2 a6
 rw [hl] at e5 c5 kk m5
 have hSl : S.length ≤ 30 := by
  rw [← hS, Z4]
  have := List.length_filter_le (W4 (fil ω)) l
  omega
 have hSo : S.map J3 = S := by
  refine cv2 (List.all_eq_true.2 fun v hv => ?_)
  rw [← hS] at hv
  have := (List.mem_filter.1 (aC6.1 hv)).1
  exact (an7 (List.all_eq_true.1 kk v this)).1
 have hRG : R.length + G.length = l.length := by
  rw [← hR, ← hG, List.length_map, List.length_map]
  exact b81 v4 l
 have E200 : ω.f 200 [ω.w 5] = .vl l := by
  rw [hf, e5]
  show Val.vl (l.map J3) = _
  rw [m5]
 have E430 : ω.f 430 [ω.w 0, ω.w 1, ω.w 2, ω.w 3, ω.w 4, ω.w 5] = .vl S := by rw [hf, ← hS, ← hl]; rfl
 have E430' : ω.f 430 [ω.w 0, ω.w 1, ω.w 2, ω.w 3, ω.w 4, ω.f 200 [ω.w 5]] = .vl S := by rw [E200, ← e5, E430]
 have E200S : ω.f 200 [.vl S] = .vl S := by
  rw [hf]
  show Val.vl (S.map J3) = _
  rw [hSo]
 have E440 : ω.f 440 [ω.w 5] = .vl R := by rw [hf, ← hR, ← hl]; rfl
 have E441 : ω.f 441 [ω.w 5] = .vl G := by rw [hf, ← hG, ← hl]; rfl
 have E442 : ω.f 442 [.vl R, .vl G] = .vl (R.map chR ++ G.map chP) := by rw [hf]; rfl
 have E474 : ω.f 474 [.vb false, .vi 0, .vi 0, .vi 0, .vi 0, .vi (ω.w 5).toL.length, ω.w 5, .vi (ω.f 200 [ω.w 5]).toL.length, ω.f 200 [ω.w 5], .vi R.length, .vl R, .vi G.length, .vl G] = v5 (0, [.vb false, .vi R.length, .vi G.length, .vi l.length]) := by rw [hf, ← hl]; rfl
 have d0 : den ω o7 = .vi l.length := by show Val.vi ((ω.f 200 [ω.w 5]).toL.length : Int) = _; rw [E200]; rfl
 have d1 : den ω o8 = .vl S := E430
 have d2 : den ω k7 = .vi R.length := by show Val.vi ((ω.f 440 [ω.w 5]).toL.length : Int) = _; rw [E440]; rfl
 have d3 : den ω k8 = .vi G.length := by show Val.vi ((ω.f 441 [ω.w 5]).toL.length : Int) = _; rw [E441]; rfl
 have d4 : den ω A1 = v5 (0, [.vb false, .vi R.length, .vi G.length, .vi l.length]) := by
  show ω.f 474 [.vb false, .vi 0, .vi 0, .vi 0, .vi 0, .vi (ω.w 5).toL.length, ω.w 5, den ω o7, ω.f 200 [ω.w 5], den ω k7, ω.f 440 [ω.w 5], den ω k8, ω.f 441 [ω.w 5]] = _
  have := E474
  rw [show Val.vi ((ω.f 200 [ω.w 5]).toL.length : Int) = .vi l.length by rw [E200]; rfl] at this
  rw [d0, d2, d3, E440, E441, this]
 have d5 : den ω x6 = .vi R.length := by show w6 (den ω A1).toL 1 1 = _; rw [d4]; rfl
 have d7 : den ω C7 = .vb false := by show w6 (den ω A1).toL 1 0 = _; rw [d4]; rfl
 have d6 : den ω t7 = .vl (R.map chR ++ G.map chP) := by show ω.f 442 [ω.f 440 [ω.w 5], ω.f 441 [ω.w 5]] = _; rw [E440, E441, E442]
 have d8 : den ω G1 = .vb true := by
  show ω.f 201 [ω.f 200 [ω.w 5], ω.f 200 [ω.w 5]] = _
  rw [E200, hf]
  show Val.vb (an6 l l) = _
  rw [a74]
 have E475 : ω.f 475 [den ω C7, .vi 0, .vi 0, .vi (ω.w 5).toL.length, ω.w 5, den ω o7, ω.f 200 [ω.w 5], den ω k7, ω.f 440 [ω.w 5], den ω k8, ω.f 441 [ω.w 5], den ω x6, .vi (den ω t7).toL.length, den ω t7] = v5 (0, [.vb false, .vi l.length]) := by
  rw [hf, d7, ← hl]; rfl
 have i0 : dI ω o7 = l.length := by show (den ω o7).toI = _; rw [d0]; rfl
 have i2 : dI ω k7 = R.length := by show (den ω k7).toI = _; rw [d2]; rfl
 have i3 : dI ω k8 = G.length := by show (den ω k8).toI = _; rw [d3]; rfl
 have i5 : dI ω x6 = R.length := by show (den ω x6).toI = _; rw [d5]; rfl
 have h431 : ∀ v : Val, (ω.f 431 [v]).toB = (isL v && v.toL.all okK) := fun v => by rw [hf]; rfl
 have h201 : ∀ u v : Val, (ω.f 201 [u, v]).toB = an6 u.toL v.toL := fun u v => by rw [hf]; rfl
 refine i4 ?_ (i4 (T3 ?_ ?_) (i4 (T3 ?_ ?_) (i4 ?_ (i4 ?_ (x7 ?_ (i4 ?_ (i4 ?_ (i4 ?_ (x7 ?_ (x7 ?_ (i4 (T3 ?_ ?_) (i4 ?_ (k5 (r := (0, [.vb false, .vi R.length, .vi G.length, .vi l.length])) ?_ d4 (i4 (T3 ?_ ?_) (x7 ?_ (x7 ?_ (x7 ?_ (k5 (r := (0, [.vb false, .vi l.length])) ?_ E475 (i4 (T3 ?_ ?_) (i4 (T3 ?_ ?_) (E8 ?_ ?_)))))))))))))))))))))
 · show decide (((ω.w 5).toL.length : Int) ≤ 1000) = true
   rw [hl]; exact decide_eq_true (by omega)
 · show decide (((ω.w 5).toL.length : Int) ≤ 30) = true
   rw [hl]; exact decide_eq_true (by omega)
 · show (ω.f 431 [ω.w 5]).toB = true
   rw [h431, e5]; exact T3 rfl kk
 · show decide (dI ω o7 ≤ 30) = true
   rw [i0]; exact decide_eq_true (by omega)
 · show (ω.f 431 [ω.f 200 [ω.w 5]]).toB = true
   rw [E200, h431]; exact T3 rfl kk
 · show decide (((den ω o8).toL.length : Int) ≤ 1000) = true
   rw [d1, j5]; exact decide_eq_true (by omega)
 · show decide (((ω.f 200 [den ω o8]).toL.length : Int) ≤ 1000000) = true
   rw [d1, E200S, j5]; exact decide_eq_true (by omega)
 · show (!(ω.f 201 [ω.f 200 [den ω o8], ω.f 430 [ω.w 0, ω.w 1, ω.w 2, ω.w 3, ω.w 4, ω.f 200 [ω.w 5]]]).toB) = false
   rw [d1, E200S, E430', h201, a74]; rfl
 · show decide (((ω.w 5).toL.length : Int) ≤ 1000000) = true
   rw [hl]; exact decide_eq_true (by omega)
 · show decide (((ω.w 6).toL.length : Int) ≤ 1000) = true
   have := of_decide_eq_true (a9 g6).2
   exact decide_eq_true (by omega)
 · show decide (dI ω o7 ≤ 1000000) = true
   rw [i0]; exact decide_eq_true (by omega)
 · show (!((ω.f 201 [ω.w 5, ω.w 6]).toB == (ω.f 201 [ω.f 200 [ω.w 5], ω.f 200 [ω.w 6]]).toB)) = false
   have E6 : ω.f 200 [ω.w 6] = ω.w 6 := by
    conv => rhs; rw [e6, ← m6]
    rw [hf]; rfl
   rw [E200, E6, ← e5]; simp
 · show (!(ω.f 201 [ω.w 5, ω.w 5]).toB) = false
   rw [h201, a74]; rfl
 · show decide (((den ω o8).toL.length : Int) = ((den ω o8).toL.length : Int)) = true
   exact decide_eq_true rfl
 · show decide (((den ω o8).toL.length : Int) ≤ 1000000) = true
   rw [d1, j5]; exact decide_eq_true (by omega)
 · show decide (((ω.w 5).toL.length : Int) ≤ 100) = true
   rw [hl]; exact decide_eq_true (by omega)
 · show r8 _ [.vb false, .vi 0, .vi 0, .vi 0] = _
   have hlen : ∀ (q : Val → Bool) (i : Nat), ((l.take i).filter q).length ≤ 1000 := fun q i => by
    have h1 := List.length_filter_le q (l.take i)
    have h2 := List.length_take_le' i l
    omega
   refine A5 (fun i => [.vb false, .vi ((l.take i).filter (fun r => !v4 r)).length, .vi ((l.take i).filter v4).length, .vi i]) (n := l.length) rfl (fun i hi => ?_) ?_
   · have := c82 (ω := ω) (R := R) (G := G) (i := i) (m := ((l.take i).filter (fun r => !v4 r)).length) (n := ((l.take i).filter v4).length) E440 E441 (by rw [hl]; exact hi) (by rw [hl]; omega) (by
       rw [hl, ← hG]; exact fun h => bB0 hi h) (by
       rw [hl, ← hR]; exact fun h => bB0 (q := fun r => !v4 r) hi (by rw [h]; rfl)) (hlen _ i) (hlen _ i)
     refine this.trans ?_
     rw [hl, aX1 hi, List.filter_append, List.filter_append, List.filter_cons, List.filter_cons, List.filter_nil, List.filter_nil]
     cases v4 (atV l i) <;> simp
   · show g8 ch9 (ω.upd 2000 [.vb false, .vi ((l.take l.length).filter (fun r => !v4 r)).length, .vi ((l.take l.length).filter v4).length, .vi l.length]) = _
     rw [List.take_length]
     unfold ch9
     refine x7 ?_ ?_
     · show decide (((l.length : Nat) : Int) < ((ω.w 5).toL.length : Int)) = false
       rw [hl]; exact decide_eq_false (by omega)
     · show some (1, [Val.vb false, Val.vi (l.filter (fun r => !v4 r)).length, Val.vi (l.filter v4).length, Val.vi l.length]) = _
       rw [← hR, ← hG, List.length_map, List.length_map]
 · show decide (dI ω k7 ≤ 100) = true
   rw [i2]; exact decide_eq_true (by omega)
 · show decide (dI ω k8 ≤ 100) = true
   rw [i3]; exact decide_eq_true (by omega)
 · show (!decide (dI ω x6 = dI ω k7)) = false
   rw [i5, i2, decide_eq_true rfl]; rfl
 · show (!decide ((w6 (den ω A1).toL 1 2).toI = dI ω k8)) = false
   rw [d4, i3]
   show (!decide ((G.length : Int) = (G.length : Int))) = false
   rw [decide_eq_true rfl]; rfl
 · show (!decide (((den ω t7).toL.length : Int) = ((ω.w 5).toL.length : Int))) = false
   rw [d6, hl, j5, List.length_append, List.length_map, List.length_map, decide_eq_true (by omega)]; rfl
 · show r8 _ [den ω C7, .vi 0] = _
   rw [d7]
   have g4 : w6 (ω.f 474 [.vb false, .vi 0, .vi 0, .vi 0, .vi 0, .vi (ω.w 5).toL.length, ω.w 5, .vi (ω.f 200 [ω.w 5]).toL.length, ω.f 200 [ω.w 5], .vi R.length, .vl R, .vi G.length, .vl G]).toL 1 1 = .vi R.length := by rw [E474]; rfl
   refine A5 (fun i => [.vb false, .vi i]) (n := l.length) rfl (fun i hi => c83 E440 E441 E442 g4 (by omega) (by omega)) ?_
   show g8 ci0 (ω.upd 3000 [.vb false, .vi l.length]) = _
   unfold ci0
   refine x7 ?_ rfl
   show decide (((l.length : Nat) : Int) < ((ω.f 442 [ω.f 440 [ω.w 5], ω.f 441 [ω.w 5]]).toL.length : Int)) = false
   rw [E440, E441, E442, j5, List.length_append, List.length_map, List.length_map]; exact decide_eq_false (by omega)
 · show decide (dI ω k7 = dI ω k7) = true
   exact decide_eq_true rfl
 · show decide (dI ω k7 ≤ 1000000) = true
   rw [i2]; exact decide_eq_true (by omega)
 · show decide (dI ω k8 = dI ω k8) = true
   exact decide_eq_true rfl
 · show decide (dI ω k8 ≤ 1000000) = true
   rw [i3]; exact decide_eq_true (by omega)
 · show (den ω G1).toB = true
   rw [d8]; rfl
 · show some (0, [den ω G1]) = _
   rw [d8]
end Go.Ev
