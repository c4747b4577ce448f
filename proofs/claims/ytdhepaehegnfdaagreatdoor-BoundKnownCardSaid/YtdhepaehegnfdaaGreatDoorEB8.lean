import Derived.Test.YtdhepaehegnfdaaGreatDoorEB1
import Derived.Test.YtdhepaehegnfdaaGreatDoorET15
set_option linter.unusedSimpArgs false
set_option linter.unusedVariables false
namespace Go.Ev
open Go
theorem cG4 {a b c d : Bool} (h1 : a = true) (h2 : b = true) (h3 : c = true) (h4 : d = true) : ((a && b) && (c && d)) = true := by rw [h1, h2, h3, h4]; rfl
def ad7 : SX := .op .ssub [.va 0, .va 2002, .op .slen [.va 0]]
def ax0 : SX := .op .ssub [ad7, .ci 0, .ci 2]
def ax1 (e : SX) : SX := .op .lcat [.va 2007, .op .row [.op .row [e]]]
def ch2 (i : SX) (e : SX) : VT := .ret 0 [.va 2000, .va 2001, i, .va 2003, .va 2004, .va 2005, .op .llen [ax1 e], ax1 e]
def cy6 : VT := .ret 1 [.va 2000, .va 2001, .va 2002, .va 2003, .va 2004, .va 2005, .va 2006, .va 2007]
def bN4 (e : SX) : SX := .op .and [.op (.cmp .eql) [.va 2006, .op .llen [.va 2007]], .op (.cmp .leq) [.op .llen [ax1 e], .ci 1000000]]
def br0 : SX := .op .sat [.va 0, .va 2002]
def ag0 : SX := .op (.ar .add .i64) [.va 2002, .ci 2]
def aY1 : SX := .op .lsub [.va 2007, .ci 0, .va 2006]
theorem ch3 : ck2 = .ite (.op (.cmp .lss) [.va 2002, .op .slen [.va 0]]) (.need (.op (.cmp .leq) [.ci 0, .va 2002]) (.ite (.op (.cmp .neq) [br0, .ci 0]) (.need (bN4 br0) (ch2 (.op (.ar .add .i64) [.va 2002, .ci 1]) br0))
 (.need (.op (.cmp .leq) [.va 2002, .op .slen [.va 0]]) (.ite (.op (.cmp .geq) [.op .slen [ad7], .ci 2]) (.need (.op (.cmp .leq) [.ci 0, .ci 2]) (.ite (.op (.scmp .eql) [ax0, .cs [0, 0]])
  (.need (.op .and [.op (.cmp .leq) [.ci 0, ag0], .op (.cmp .leq) [ag0, .op .slen [.va 0]]]) (.need (.op (.cmp .leq) [.ci 0, .va 2006]) (.need (.op (.cmp .lss) [.ci 0, .va 2006]) (.need (.op .and [.op .and [.op (.cmp .lss) [.ci 0, .va 2006], .op (.cmp .leq) [.va 2006, .ci 1000000]], .op .and [.op (.cmp .leq) [.va 2006, .op .llen [.va 2007]], .op .bok [aY1]]])
   (.ret 2 [.op .ssub [.va 0, ag0, .op .slen [.va 0]], .cb true, .va 2002, .ci 2, .ci 0, .op .bstr [aY1], .va 2006])))))
  (.ite (.op (.scmp .eql) [ax0, .cs [0, 255]]) (.need (bN4 (.ci 0)) (ch2 (.op (.ar .add .i64) [.op (.ar .add .i64) [.va 2002, .ci 1], .ci 1]) (.ci 0))) cy6))) cy6)))) cy6 := rfl
def bP0 (i : Nat) (o : List UInt8) : List Val := [.vs [], .vb false, .vi i, .vi 0, .vi 0, .vs [], .vi o.length, .vl (sbV o)]
theorem aa3 {l : List UInt8} {i : Nat} : (l.drop i).take ((l.length : Int) - (i : Int)).toNat = l.drop i := by
 rw [List.take_of_length_le (by rw [List.length_drop]; omega)]
theorem aa4 (b : UInt8) : decide ((b.toNat : Int) = 0) = decide (b = 0) := by
 by_cases h : b = 0
 · subst h; rfl
 · have := bM0 h
   rw [decide_eq_false h, decide_eq_false (by omega)]
theorem bN5 {ω : Opq} {s : List UInt8} (hs : (ω.w 0).toS = s) (hn : s.length ≤ 1000) {i : Nat} {o : List UInt8} (hi : i ≤ 1000) (ho : 0 < o.length) (ho2 : o.length ≤ 1000) :
 j3 ck2 (ω.upd 2000 (bP0 i o)) = some (bif decide (i < s.length) then (bif !decide (s.getD i 0 = 0) then (0, bP0 (i + 1) (o ++ [s.getD i 0]))
  else bif decide ((s.drop i).take 2 = [0, 0]) then (2, [.vs (s.drop (i + 2)), .vb true, .vi i, .vi 2, .vi 0, .vs o, .vi o.length]) else bif decide ((s.drop i).take 2 = [0, 255]) then (0, bP0 (i + 2) (o ++ [0])) else (1, bP0 i o)) else (1, bP0 i o)) := by
 obtain ⟨ω', hω⟩ : ∃ ω', ω' = ω.upd 2000 (bP0 i o) := ⟨_, rfl⟩
 have w0 : (ω'.w 0).toS = s := by rw [hω]; exact hs
 have u2 : ω'.w 2002 = .vi i := by rw [hω]; rfl
 have u6 : ω'.w 2006 = .vi o.length := by rw [hω]; rfl
 have u7 : ω'.w 2007 = .vl (sbV o) := by rw [hω]; rfl
 have hst : [ω'.w 2000, ω'.w 2001, ω'.w 2002, ω'.w 2003, ω'.w 2004, ω'.w 2005, ω'.w 2006, ω'.w 2007] = bP0 i o := by rw [hω]; rfl
 have hou : j3 cy6 ω' = some (1, bP0 i o) := by
  show some (1, [ω'.w 2000, ω'.w 2001, ω'.w 2002, ω'.w 2003, ω'.w 2004, ω'.w 2005, ω'.w 2006, ω'.w 2007]) = _
  rw [hst]
 have happ : ∀ {e : SX} {b : UInt8}, den ω' e = .vi (b.toNat : Int) → den ω' (ax1 e) = .vl (sbV (o ++ [b])) := fun {e b} he => by
  show Val.vl ((ω'.w 2007).toL ++ [Val.vl [den ω' e]]) = _
  rw [u7, he, U7]; rfl
 have hfit : ∀ {e : SX} {b : UInt8}, den ω' e = .vi (b.toNat : Int) → dB ω' (bN4 e) = true := fun {e b} he => by
  refine a10 ?_ ?_
  · show decide ((ω'.w 2006).toI = ((ω'.w 2007).toL.length : Int)) = true
    rw [u6, u7, j4, r6]; exact decide_eq_true rfl
  · show decide (((den ω' (ax1 e)).toL.length : Int) ≤ 1000000) = true
    rw [happ he, j4, r6, List.length_append]; exact decide_eq_true (by show ((o.length + 1 : Nat) : Int) ≤ 1000000; omega)
 have hret : ∀ {j e : SX} {k : Nat} {b : UInt8}, den ω' e = .vi (b.toNat : Int) → den ω' j = .vi k → j3 (ch2 j e) ω' = some (0, bP0 k (o ++ [b])) := fun {j e k b} he hj => by
  show some (0, [ω'.w 2000, ω'.w 2001, den ω' j, ω'.w 2003, ω'.w 2004, ω'.w 2005, Val.vi ((den ω' (ax1 e)).toL.length : Int), den ω' (ax1 e)]) = _
  rw [hj, happ he, j4, r6, hω]; rfl
 have hat : den ω' br0 = .vi ((s.getD i 0).toNat : Int) := by
  show Val.vi (((ω'.w 0).toS.getD (ω'.w 2002).toI.toNat 0).toNat : Int) = _
  rw [w0, u2, j1, Int.toNat_natCast]
 have hrest : dS ω' ad7 = s.drop i := by
  show ((ω'.w 0).toS.drop (ω'.w 2002).toI.toNat).take (((ω'.w 0).toS.length : Int) - (ω'.w 2002).toI).toNat = _
  rw [w0, u2, j1, Int.toNat_natCast, aa3]
 have htwo : dS ω' ax0 = (s.drop i).take 2 := by
  show ((dS ω' ad7).drop (0 : Int).toNat).take ((2 : Int) - 0).toNat = _
  rw [hrest]; rfl
 rw [← hω, ch3]
 by_cases h1 : i < s.length
 · rw [decide_eq_true h1, cond_true]
   refine m7 (by show decide ((ω'.w 2002).toI < ((ω'.w 0).toS.length : Int)) = true; rw [u2, w0, j1]; exact decide_eq_true (by omega)) (i5 (by show decide ((0 : Int) ≤ (ω'.w 2002).toI) = true; rw [u2, j1]; exact decide_eq_true (by omega)) ?_)
   by_cases h2 : s.getD i 0 = 0
   · rw [decide_eq_true h2, Bool.not_true, cond_false]
     refine m8 (by show (!decide ((den ω' br0).toI = 0)) = false; rw [hat, j1, aa4, decide_eq_true h2]; rfl) (i5 (by show decide ((ω'.w 2002).toI ≤ ((ω'.w 0).toS.length : Int)) = true; rw [u2, w0, j1]; exact decide_eq_true (by omega)) ?_)
     by_cases h3 : 2 ≤ (s.drop i).length
     · refine m7 (by show decide ((2 : Int) ≤ ((dS ω' ad7).length : Int)) = true; rw [hrest]; exact decide_eq_true (by omega)) (i5 rfl ?_)
       by_cases h4 : (s.drop i).take 2 = [0, 0]
       · rw [decide_eq_true h4, cond_true]
         obtain ⟨h5, _⟩ := bq1 h4
         have hend : (den ω' ag0).toI = ((i + 2 : Nat) : Int) := by
          show arI .add .i64 (ω'.w 2002).toI 2 = _
          rw [u2, j1, az1 (by omega) (by omega)]; omega
         have hbuf : dL ω' aY1 = sbV o := by
          show ((ω'.w 2007).toL.drop (0 : Int).toNat).take ((ω'.w 2006).toI - 0).toNat = _
          rw [u6, u7, j1, j4, show (0 : Int).toNat = 0 from rfl, List.drop_zero, Int.sub_zero, Int.toNat_natCast, List.take_of_length_le (by rw [r6]; exact Nat.le_refl _)]
         refine m7 (by show decide (dS ω' ax0 = [0, 0]) = true; rw [htwo]; exact decide_eq_true h4) (i5 (a10 ?_ ?_) (i5 ?_ (i5 ?_ (i5 (cG4 ?_ ?_ ?_ ?_) ?_))))
         · show decide ((0 : Int) ≤ (den ω' ag0).toI) = true
           rw [hend]; exact decide_eq_true (by omega)
         · show decide ((den ω' ag0).toI ≤ ((ω'.w 0).toS.length : Int)) = true
           rw [hend, w0]; exact decide_eq_true (by omega)
         · show decide ((0 : Int) ≤ (ω'.w 2006).toI) = true
           rw [u6, j1]; exact decide_eq_true (by omega)
         · show decide ((0 : Int) < (ω'.w 2006).toI) = true
           rw [u6, j1]; exact decide_eq_true (by omega)
         · show decide ((0 : Int) < (ω'.w 2006).toI) = true
           rw [u6, j1]; exact decide_eq_true (by omega)
         · show decide ((ω'.w 2006).toI ≤ 1000000) = true
           rw [u6, j1]; exact decide_eq_true (by omega)
         · show decide ((ω'.w 2006).toI ≤ ((ω'.w 2007).toL.length : Int)) = true
           rw [u6, u7, j1, j4, r6]; exact decide_eq_true (Int.le_refl _)
         · show aO7 (dL ω' aY1) = true
           rw [hbuf]; exact a94 _
         · show some (2, [Val.vs (((ω'.w 0).toS.drop (den ω' ag0).toI.toNat).take (((ω'.w 0).toS.length : Int) - (den ω' ag0).toI).toNat), Val.vb true, ω'.w 2002, Val.vi 2, Val.vi 0, Val.vs (unV (dL ω' aY1)), ω'.w 2006]) = _
           rw [w0, hend, hbuf, az2, u2, u6, Int.toNat_natCast, aa3]
       · rw [decide_eq_false h4, cond_false]
         refine m8 (by show decide (dS ω' ax0 = [0, 0]) = false; rw [htwo]; exact decide_eq_false h4) ?_
         by_cases h5 : (s.drop i).take 2 = [0, 255]
         · rw [decide_eq_true h5, cond_true]
           have he : den ω' (.ci 0) = .vi (((0 : UInt8).toNat : Nat) : Int) := rfl
           refine m7 (by show decide (dS ω' ax0 = [0, 255]) = true; rw [htwo]; exact decide_eq_true h5) (i5 (hfit he) (hret he ?_))
           show Val.vi (arI .add .i64 (arI .add .i64 (ω'.w 2002).toI 1) 1) = _
           rw [u2, j1, aX8 (by omega), aX8 (by omega)]
         · rw [decide_eq_false h5, cond_false]
           exact m8 (by show decide (dS ω' ax0 = [0, 255]) = false; rw [htwo]; exact decide_eq_false h5) hou
     · have h4 : ∀ a b : UInt8, ¬ (s.drop i).take 2 = [a, b] := fun a b h => by
        have := congrArg List.length h
        rw [List.length_take] at this
        simp at this
        rw [List.length_drop] at h3
        omega
       rw [decide_eq_false (h4 0 0), cond_false, decide_eq_false (h4 0 255), cond_false]
       exact m8 (by show decide ((2 : Int) ≤ ((dS ω' ad7).length : Int)) = false; rw [hrest]; exact decide_eq_false (by omega)) hou
   · rw [decide_eq_false h2, Bool.not_false, cond_true]
     refine m7 (by show (!decide ((den ω' br0).toI = 0)) = true; rw [hat, j1, aa4, decide_eq_false h2]; rfl) (i5 (hfit hat) (hret hat ?_))
     show Val.vi (arI .add .i64 (ω'.w 2002).toI 1) = _
     rw [u2, j1, aX8 (by omega)]
 · rw [decide_eq_false h1, cond_false]
   exact m8 (by show decide ((ω'.w 2002).toI < ((ω'.w 0).toS.length : Int)) = false; rw [u2, w0, j1]; exact decide_eq_false (by omega)) hou
theorem ch4 {ω : Opq} {s : List UInt8} (hs : (ω.w 0).toS = s) (hn : s.length ≤ 1000) : ∀ (f i : Nat) (o : List UInt8), s.length ≤ i + f → i ≤ 1000 → 0 < o.length → o.length ≤ i →
 Iter (fun vs => j3 ck2 (ω.upd 2000 vs)) (bP0 i o) (a11 s (az3 s f i o)).1 (a11 s (az3 s f i o)).2
 | 0, i, o, hf, hi, h0, ho => by
   have hs' := bN5 hs hn (i := i) hi h0 (by omega)
   rw [decide_eq_false (show ¬ i < s.length by omega), cond_false] at hs'
   exact .out hs'
 | f + 1, i, o, hf, hi, h0, ho => by
   have hs' := bN5 hs hn (i := i) hi h0 (by omega)
   unfold az3
   by_cases h1 : i < s.length
   · rw [decide_eq_true h1, cond_true] at hs' ⊢
     by_cases h2 : s.getD i 0 = 0
     · rw [decide_eq_true h2, Bool.not_true, cond_false] at hs' ⊢
       by_cases h3 : (s.drop i).take 2 = [0, 0]
       · rw [decide_eq_true h3, cond_true] at hs' ⊢
         exact .out hs'
       · rw [decide_eq_false h3, cond_false] at hs' ⊢
         by_cases h4 : (s.drop i).take 2 = [0, 255]
         · rw [decide_eq_true h4, cond_true] at hs' ⊢
           have := (bq1 h4).1
           exact .more hs' (ch4 hs hn f (i + 2) (o ++ [0]) (by omega) (by omega) (by simp) (by simp; omega))
         · rw [decide_eq_false h4, cond_false] at hs' ⊢
           exact .out hs'
     · rw [decide_eq_false h2, Bool.not_false, cond_true] at hs' ⊢
       exact .more hs' (ch4 hs hn f (i + 1) (o ++ [s.getD i 0]) (by omega) (by omega) (by simp) (by simp; omega))
   · rw [decide_eq_false h1, cond_false] at hs' ⊢
     exact .out hs'
def RV (x : Option (List UInt8 × List UInt8)) (v : Val) : List Val := [.vi (bif x.isSome then 2 else 0), .vi 0, .vs (x.getD ([], [])).1, bif x.isSome then .vs (x.getD ([], [])).2 else v, .vb x.isSome]
def got (s : List UInt8) (r : Nat × Nat × List UInt8) : Option (List UInt8 × List UInt8) := bif Nat.beq r.1 1 then some (r.2.2, s.drop (r.2.1 + 2)) else none
theorem bZ7 (s : List UInt8) : aw2 s = got s (az3 s (s.length + 1) 0 []) := by
 unfold aw2 got
 split
 · rename_i h; rw [h]; rfl
 · rename_i h
   generalize hD : az3 s (s.length + 1) 0 [] = D at h
   obtain ⟨c, i, o⟩ := D
   cases hc : Nat.beq c 1 with
   | false => simp only [hc, cond_false]
   | true =>
     have : c = 1 := by simpa using hc
     subst this
     exact (h i o rfl).elim
def ax2 : VT := .ret 0 [.ci 0, .ci 0, .cs [], .va 0, .cb false]
theorem aO4 {ω : Opq} : j3 ax2 ω = some (0, RV none (ω.w 0)) := rfl
def O6 (i0 : Int) (row : SX) : SX := .app 362 [.cs [], .cb false, .ci i0, .ci 0, .ci 0, .cs [], .op .llen [row], row, .va 0, .op .llen [row], .op .llen [row], row]
def b88 (i0 : Int) (row : SX) : VT := .loop ⟨362, [.cs [], .cb false, .ci i0, .ci 0, .ci 0, .cs [], .op .llen [row], row], 2000, [.va 0, .op .llen [row], .op .llen [row], row]⟩ ck2 [ax2, .ret 0 [.op .lget [O6 i0 row, .ci 1, .ci 3], .op .lget [O6 i0 row, .ci 1, .ci 4], .op .lget [O6 i0 row, .ci 1, .ci 5], .op .lget [O6 i0 row, .ci 1, .ci 0], .op .lget [O6 i0 row, .ci 1, .ci 1]]]
theorem br1 : aL3 = .ite (.op (.cmp .lss) [.ci 0, .op .slen [.va 0]]) (.need (.op (.cmp .leq) [.ci 0, .ci 0]) (.ite (.op (.cmp .neq) [.op .sat [.va 0, .ci 0], .ci 0]) (b88 1 N9) (.ite (.op (.cmp .geq) [.op .slen [a33], .ci 2]) (.need (.op (.cmp .leq) [.ci 0, .ci 2]) (.ite (.op (.scmp .eql) [T3, .cs [0, 0]]) (.need (.op (.cmp .leq) [.ci 2, .op .slen [.va 0]]) (.ret 0 [.ci 2, .ci 0, .cs [], .op .ssub [.va 0, .ci 2, .op .slen [.va 0]], .cb true])) (.ite (.op (.scmp .eql) [T3, .cs [0, 255]]) (b88 2 O0) ax2))) ax2))) ax2 := rfl
theorem aE5 {ω : Opq} (hf : ∀ i a, ω.f i a = F i a) {s : List UInt8} (hs : (ω.w 0).toS = s) (hn : s.length ≤ 1000) {i0 : Nat} {row : SX} {b : UInt8} (hrow : den ω row = .vl (sbV [b])) (h1 : 1 ≤ i0) (h2 : i0 ≤ 1000) :
 j3 (b88 i0 row) ω = some (0, RV (got s (az3 s s.length i0 [b])) (ω.w 0)) := by
 have hit := ch4 (ω := ω) (s := s) hs hn s.length i0 [b] (by omega) h2 (Nat.zero_lt_one) h1
 have hF : den ω (O6 i0 row) = Q7 (a11 s (az3 s s.length i0 [b])) := by
  show ω.f 362 [.vs [], .vb false, .vi (i0 : Int), .vi 0, .vi 0, .vs [], .vi (den ω row).toL.length, den ω row, ω.w 0, .vi (den ω row).toL.length, .vi (den ω row).toL.length, den ω row] = _
  rw [hf, hrow]
  show Q7 (a11 (ω.w 0).toS (az3 (ω.w 0).toS (ω.w 0).toS.length ((i0 : Int)).toNat (unV (sbV [b])))) = _
  rw [Int.toNat_natCast, az2, hs]
 generalize az3 s s.length i0 [b] = D at hit hF
 obtain ⟨c, i, o⟩ := D
 refine p6 (r := a11 s (c, i, o)) ?_ hF ?_
 · show A0 _ [.vs [], .vb false, .vi (i0 : Int), .vi 0, .vi 0, .vs [], .vi (den ω row).toL.length, den ω row] = _
   rw [hrow, x9]
   exact hit
 · unfold got
   cases hc : Nat.beq c 1 with
   | false =>
     have e : a11 s (c, i, o) = (0, [.vs [], .vb false, .vi i, .vi 0, .vi 0, .vs [], .vi o.length, .vl (sbV o)]) := by unfold a11; simp only [hc, cond_false]
     rw [e]
     exact aO4
   | true =>
     have e : a11 s (c, i, o) = (1, [.vs (s.drop (i + 2)), .vb true, .vi i, .vi 2, .vi 0, .vs o, .vi o.length]) := by unfold a11; simp only [hc, cond_true]
     rw [e] at hF ⊢
     show some (0, [A5 (den ω (O6 i0 row)).toL 1 3, A5 (den ω (O6 i0 row)).toL 1 4, A5 (den ω (O6 i0 row)).toL 1 5, A5 (den ω (O6 i0 row)).toL 1 0, A5 (den ω (O6 i0 row)).toL 1 1]) = _
     rw [hF]; rfl
theorem ch5 {ω : Opq} (hf : ∀ i a, ω.f i a = F i a) (hn : (ω.w 0).toS.length ≤ 1000) : j3 aL3 ω = some (0, [F 354 [ω.w 0], .vi 0, F 355 [ω.w 0], F 356 [ω.w 0], F 357 [ω.w 0]]) := by
 obtain ⟨s, hs⟩ : ∃ s, (ω.w 0).toS = s := ⟨_, rfl⟩
 have hR : [F 354 [ω.w 0], .vi 0, F 355 [ω.w 0], F 356 [ω.w 0], F 357 [ω.w 0]] = RV (aw2 s) (ω.w 0) := by rw [← hs]; rfl
 rw [hs] at hn
 rw [hR, br1]
 have hsat : den ω (.op .sat [.va 0, .ci 0]) = .vi ((s.getD 0 0).toNat : Int) := by
  show Val.vi (((ω.w 0).toS.getD (0 : Int).toNat 0).toNat : Int) = _
  rw [hs]; rfl
 by_cases h0 : 0 < s.length
 · refine m7 (by show decide ((0 : Int) < ((ω.w 0).toS.length : Int)) = true; rw [hs]; exact decide_eq_true (by omega)) (i5 rfl ?_)
   have hp : aw2 s = got s (bif !decide (s.getD 0 0 = 0) then az3 s s.length 1 [s.getD 0 0] else bif decide (s.take 2 = [0, 0]) then (1, 0, []) else bif decide (s.take 2 = [0, 255]) then az3 s s.length 2 [0] else (0, 0, [])) := by
    rw [bZ7]
    congr 1
    conv => lhs; unfold az3
    rw [decide_eq_true h0, cond_true]
    rfl
   rw [hp]
   by_cases h1 : s.getD 0 0 = 0
   · rw [decide_eq_true h1, Bool.not_true, cond_false]
     refine m8 (by show (!decide ((den ω (.op .sat [.va 0, .ci 0])).toI = 0)) = false; rw [hsat, j1, aa4, decide_eq_true h1]; rfl) ?_
     have h2 : dS ω a33 = s := by
      show ((ω.w 0).toS.drop (0 : Int).toNat).take (((ω.w 0).toS.length : Int) - 0).toNat = _
      rw [hs, show (0 : Int).toNat = 0 from rfl, List.drop_zero, Int.sub_zero, Int.toNat_natCast, List.take_length]
     have h3 : dS ω T3 = s.take 2 := by
      show ((dS ω a33).drop (0 : Int).toNat).take ((2 : Int) - 0).toNat = _
      rw [h2]; rfl
     by_cases h4 : 2 ≤ s.length
     · refine m7 (by show decide ((2 : Int) ≤ ((dS ω a33).length : Int)) = true; rw [h2]; exact decide_eq_true (by omega)) (i5 rfl ?_)
       by_cases h5 : s.take 2 = [0, 0]
       · rw [decide_eq_true h5, cond_true]
         refine m7 (by show decide (dS ω T3 = [0, 0]) = true; rw [h3]; exact decide_eq_true h5) (i5 (by show decide ((2 : Int) ≤ ((ω.w 0).toS.length : Int)) = true; rw [hs]; exact decide_eq_true (by omega)) ?_)
         show some (0, [Val.vi 2, Val.vi 0, Val.vs [], Val.vs (((ω.w 0).toS.drop (2 : Int).toNat).take (((ω.w 0).toS.length : Int) - 2).toNat), Val.vb true]) = _
         rw [hs]
         have := aa3 (l := s) (i := 2)
         rw [show (2 : Int).toNat = 2 from rfl, show ((s.length : Int) - 2) = ((s.length : Int) - ((2 : Nat) : Int)) from rfl, this]
         rfl
       · rw [decide_eq_false h5, cond_false]
         refine m8 (by show decide (dS ω T3 = [0, 0]) = false; rw [h3]; exact decide_eq_false h5) ?_
         by_cases h6 : s.take 2 = [0, 255]
         · rw [decide_eq_true h6, cond_true]
           refine m7 (by show decide (dS ω T3 = [0, 255]) = true; rw [h3]; exact decide_eq_true h6) ?_
           exact aE5 hf hs hn (i0 := 2) rfl (by omega) (by omega)
         · rw [decide_eq_false h6, cond_false]
           exact m8 (by show decide (dS ω T3 = [0, 255]) = false; rw [h3]; exact decide_eq_false h6) aO4
     · have h5 : ∀ a b : UInt8, ¬ s.take 2 = [a, b] := fun a b h => by
        have := congrArg List.length h
        rw [List.length_take] at this
        simp at this
        omega
       rw [decide_eq_false (h5 0 0), cond_false, decide_eq_false (h5 0 255), cond_false]
       exact m8 (by show decide ((2 : Int) ≤ ((dS ω a33).length : Int)) = false; rw [h2]; exact decide_eq_false (by omega)) aO4
   · rw [decide_eq_false h1, Bool.not_false, cond_true]
     refine m7 (by show (!decide ((den ω (.op .sat [.va 0, .ci 0])).toI = 0)) = true; rw [hsat, j1, aa4, decide_eq_false h1]; rfl) ?_
     refine aE5 hf hs hn (i0 := 1) ?_ (Nat.le_refl _) (by omega)
     show Val.vl [Val.vl [den ω (.op .sat [.va 0, .ci 0])]] = _
     rw [hsat]; rfl
 · have : s = [] := List.length_eq_zero_iff.1 (by omega)
   subst this
   exact m8 (by show decide ((0 : Int) < ((ω.w 0).toS.length : Int)) = false; rw [hs]; rfl) aO4
theorem aa5 (m : Nat) (h : m < 2 ^ 64) : (BitVec.ofInt 64 (m : Int)).toNat = m := by
 rw [BitVec.toNat_ofInt]; omega
theorem aY2 {n b : Int} (h0 : 0 ≤ n) (h1 : n < 72057594037927936) (h2 : 0 ≤ b) (h3 : b < 256) : arI .or .u64 (arI .shl .u64 n 8) b = n * 256 + b := by
 have e1 : arI .shl .u64 n 8 = n * 256 := by
  show IntKind.u64.wrap (n * 2 ^ (min (8 : Int).toNat IntKind.u64.bits)) = _
  rw [b81, show (2 : Int) ^ (min (8 : Int).toNat IntKind.u64.bits) = 256 from rfl]; omega
 rw [e1]
 obtain ⟨m, rfl⟩ : ∃ m : Nat, n = (m : Int) := ⟨n.toNat, by omega⟩
 obtain ⟨c, rfl⟩ : ∃ c : Nat, b = (c : Int) := ⟨b.toNat, by omega⟩
 show IntKind.u64.wrap ((BitVec.ofInt 64 ((m : Int) * 256) ||| BitVec.ofInt 64 (c : Int)).toNat : Int) = _
 have e2 : ((m : Int) * 256) = ((m * 256 : Nat) : Int) := by omega
 rw [e2, BitVec.toNat_or, aa5 _ (by omega), aa5 _ (by omega), b81]
 have e3 : m * 256 ||| c = m * 256 + c := by
  have := Nat.shiftLeft_add_eq_or_of_lt (show c < 2 ^ 8 by omega) m
  rw [Nat.shiftLeft_eq] at this
  exact this.symm
 rw [e3]; omega
theorem or0 {b : Int} (h2 : 0 ≤ b) (h3 : b < 256) : arI .or .u64 0 b = b := by
 have := aY2 (n := 0) (b := b) (by omega) (by omega) h2 h3
 rw [show arI .shl .u64 0 8 = 0 from rfl] at this
 rw [this]; omega
theorem ax3 {n b : Int} (h0 : 0 ≤ n) (h1 : n < 72057594037927936) (h2 : 0 ≤ b) (h3 : b < 256) : arI .add .u64 (arI .mul .u64 n 256) b = n * 256 + b := by
 show IntKind.u64.wrap (IntKind.u64.wrap (n * 256) + b) = _
 rw [b81, b81]; omega
theorem aZ2 {b : Int} (h2 : 0 ≤ b) (h3 : b < 256) : IntKind.u64.wrap b = b := by rw [b81]; omega
theorem ct7 {x : Int} : IntKind.i64.wrap x = (x + 9223372036854775808) % 18446744073709551616 - 9223372036854775808 := by
 simp only [IntKind.wrap, IntKind.bits, IntKind.signed]
 simp
 split <;> omega
theorem ch6 {n : Int} (h0 : 0 ≤ n) (h1 : n < 18446744073709551616) : IntKind.i64.wrap (arI .xor .u64 n 9223372036854775808) = n - 9223372036854775808 := by
 obtain ⟨m, rfl⟩ : ∃ m : Nat, n = (m : Int) := ⟨n.toNat, by omega⟩
 show IntKind.i64.wrap (IntKind.u64.wrap ((BitVec.ofInt 64 (m : Int) ^^^ BitVec.ofInt 64 9223372036854775808).toNat : Int)) = _
 have e1 : (BitVec.ofInt 64 (m : Int) ^^^ BitVec.ofInt 64 9223372036854775808).toNat = m ^^^ 2 ^ 63 := by
  rw [BitVec.toNat_xor, aa5 m (by omega)]; rfl
 rw [e1, b83 (by omega), b81, ct7]
 split <;> omega
theorem ch7 {n : Int} (h0 : 0 ≤ n) (h1 : n < 18446744073709551616) : IntKind.i64.wrap (arI .sub .u64 n 9223372036854775808) = n - 9223372036854775808 := by
 show IntKind.i64.wrap (IntKind.u64.wrap (n - 9223372036854775808)) = _
 rw [b81, ct7]; omega
theorem ct8 {ω : Opq} (hn : (ω.w 0).toS.length ≤ 1000) : j3 bh9 ω = some (0, [F 350 [ω.w 0], F 351 [ω.w 0], .vs [], F 352 [ω.w 0], F 353 [ω.w 0]]) := by
 obtain ⟨s, hs⟩ : ∃ s, (ω.w 0).toS = s := ⟨_, rfl⟩
 have hR : [F 350 [ω.w 0], F 351 [ω.w 0], .vs [], F 352 [ω.w 0], F 353 [ω.w 0]] = [.vi (bif decide (8 ≤ s.length) then 1 else 0), .vi (bif decide (8 ≤ s.length) then Q1 s else 0), .vs [], bif decide (8 ≤ s.length) then .vs (s.drop 8) else ω.w 0, .vb (decide (8 ≤ s.length))] := by rw [← hs]; rfl
 rw [hR]
 rw [hs] at hn
 have nd : ∀ k : Int, 0 ≤ k → k < 8 → 8 ≤ s.length → dB ω (.op .and [.op (.cmp .leq) [.ci 0, .ci k], .op (.cmp .lss) [.ci k, .op .slen [.va 0]]]) = true := fun k h1 h2 h3 => by
  refine a10 (decide_eq_true h1) ?_
  show decide (k < ((ω.w 0).toS.length : Int)) = true
  rw [hs]; exact decide_eq_true (by omega)
 unfold bh9
 by_cases h : 8 ≤ s.length
 · rw [decide_eq_true h]
   refine m8 (by show decide (((ω.w 0).toS.length : Int) < 8) = false; rw [hs]; exact decide_eq_false (by omega)) (i5 (nd 0 (by decide) (by decide) h) (i5 (nd 1 (by decide) (by decide) h) (i5 (nd 2 (by decide) (by decide) h) (i5 (nd 3 (by decide) (by decide) h) (i5 (nd 4 (by decide) (by decide) h) (i5 (nd 5 (by decide) (by decide) h) (i5 (nd 6 (by decide) (by decide) h) (i5 (nd 7 (by decide) (by decide) h) (i5 rfl ?_)))))))))
   have hd := aa3 (l := s) (i := 8)
   have hdrop : den ω (.op .ssub [.va 0, .ci 8, .op .slen [.va 0]]) = .vs (s.drop 8) := by
    show Val.vs (((ω.w 0).toS.drop (8 : Int).toNat).take (((ω.w 0).toS.length : Int) - 8).toNat) = _
    rw [hs]; exact congrArg Val.vs hd
   obtain ⟨a, b, c, d, e, f, g, i, r, rfl⟩ := bZ1 h
   have la := M3 a; have lb := M3 b; have lc := M3 c; have ld := M3 d; have le := M3 e; have lf := M3 f; have lg := M3 g; have li := M3 i
   have hsat : ∀ k : Nat, den ω (.op .sat [.va 0, .ci k]) = .vi (((a :: b :: c :: d :: e :: f :: g :: i :: r).getD k 0).toNat : Int) := fun k => by
    show Val.vi (((ω.w 0).toS.getD ((k : Int)).toNat 0).toNat : Int) = _
    rw [hs, Int.toNat_natCast]
   have hnum : Q1 (a :: b :: c :: d :: e :: f :: g :: i :: r) = ((((((((a.toNat : Int) * 256 + b.toNat) * 256 + c.toNat) * 256 + d.toNat) * 256 + e.toNat) * 256 + f.toNat) * 256 + g.toNat) * 256 + i.toNat) - 9223372036854775808 := by unfold Q1; rw [b84]
   show some (0, [Val.vi 1, Val.vi (IntKind.i64.wrap (arI .xor .u64 (arI .or .u64 (arI .shl .u64 (arI .or .u64 (arI .shl .u64 (arI .or .u64 (arI .shl .u64 (arI .or .u64 (arI .shl .u64 (arI .or .u64 (arI .shl .u64 (arI .or .u64 (arI .shl .u64 (arI .or .u64 (arI .shl .u64 (arI .or .u64 0 (IntKind.u64.wrap (den ω (.op .sat [.va 0, .ci ((0 : Nat) : Int)])).toI)) 8) (IntKind.u64.wrap (den ω (.op .sat [.va 0, .ci ((1 : Nat) : Int)])).toI)) 8) (IntKind.u64.wrap (den ω (.op .sat [.va 0, .ci ((2 : Nat) : Int)])).toI)) 8) (IntKind.u64.wrap (den ω (.op .sat [.va 0, .ci ((3 : Nat) : Int)])).toI)) 8) (IntKind.u64.wrap (den ω (.op .sat [.va 0, .ci ((4 : Nat) : Int)])).toI)) 8) (IntKind.u64.wrap (den ω (.op .sat [.va 0, .ci ((5 : Nat) : Int)])).toI)) 8) (IntKind.u64.wrap (den ω (.op .sat [.va 0, .ci ((6 : Nat) : Int)])).toI)) 8) (IntKind.u64.wrap (den ω (.op .sat [.va 0, .ci ((7 : Nat) : Int)])).toI)) 9223372036854775808)), Val.vs [], den ω (.op .ssub [.va 0, .ci 8, .op .slen [.va 0]]), Val.vb true]) = _
   rw [hdrop, hsat, hsat, hsat, hsat, hsat, hsat, hsat, hsat]
   simp only [List.getD_cons_zero, List.getD_cons_succ, j1]
   rw [aZ2 la.1 la.2, aZ2 lb.1 lb.2, aZ2 lc.1 lc.2, aZ2 ld.1 ld.2, aZ2 le.1 le.2, aZ2 lf.1 lf.2, aZ2 lg.1 lg.2, aZ2 li.1 li.2]
   rw [or0 la.1 la.2, aY2 (by omega) (by omega) lb.1 lb.2, aY2 (by omega) (by omega) lc.1 lc.2, aY2 (by omega) (by omega) ld.1 ld.2, aY2 (by omega) (by omega) le.1 le.2, aY2 (by omega) (by omega) lf.1 lf.2, aY2 (by omega) (by omega) lg.1 lg.2, aY2 (by omega) (by omega) li.1 li.2, ch6 (by omega) (by omega), ← hnum]
   rfl
 · rw [decide_eq_false h]
   exact m7 (by show decide (((ω.w 0).toS.length : Int) < 8) = true; rw [hs]; exact decide_eq_true (by omega)) rfl
theorem bZ8 {ω : Opq} (hn : (ω.w 0).toS.length ≤ 1000) : j3 ai9 ω = some (0, [F 350 [ω.w 0], F 351 [ω.w 0], .vs [], F 358 [ω.w 0]]) := by
 obtain ⟨s, hs⟩ : ∃ s, (ω.w 0).toS = s := ⟨_, rfl⟩
 have hR : [F 350 [ω.w 0], F 351 [ω.w 0], .vs [], F 358 [ω.w 0]] = [.vi (bif decide (8 ≤ s.length) then 1 else 0), .vi (bif decide (8 ≤ s.length) then Q1 s else 0), .vs [], .vi (bif decide (8 ≤ s.length) then 8 else 0)] := by rw [← hs]; rfl
 rw [hR]
 rw [hs] at hn
 have nd : ∀ k : Int, 0 ≤ k → k < 8 → 8 ≤ s.length → dB ω (.op .and [.op (.cmp .leq) [.ci 0, .ci k], .op (.cmp .lss) [.ci k, .op .slen [.va 0]]]) = true := fun k h1 h2 h3 => by
  refine a10 (decide_eq_true h1) ?_
  show decide (k < ((ω.w 0).toS.length : Int)) = true
  rw [hs]; exact decide_eq_true (by omega)
 unfold ai9
 by_cases h : 8 ≤ s.length
 · rw [decide_eq_true h]
   refine m8 (by show decide (((ω.w 0).toS.length : Int) < 8) = false; rw [hs]; exact decide_eq_false (by omega)) (i5 (nd 0 (by decide) (by decide) h) (i5 (nd 1 (by decide) (by decide) h) (i5 (nd 2 (by decide) (by decide) h) (i5 (nd 3 (by decide) (by decide) h) (i5 (nd 4 (by decide) (by decide) h) (i5 (nd 5 (by decide) (by decide) h) (i5 (nd 6 (by decide) (by decide) h) (i5 (nd 7 (by decide) (by decide) h) ?_))))))))
   obtain ⟨a, b, c, d, e, f, g, i, r, rfl⟩ := bZ1 h
   have la := M3 a; have lb := M3 b; have lc := M3 c; have ld := M3 d; have le := M3 e; have lf := M3 f; have lg := M3 g; have li := M3 i
   have hsat : ∀ k : Nat, den ω (.op .sat [.va 0, .ci k]) = .vi (((a :: b :: c :: d :: e :: f :: g :: i :: r).getD k 0).toNat : Int) := fun k => by
    show Val.vi (((ω.w 0).toS.getD ((k : Int)).toNat 0).toNat : Int) = _
    rw [hs, Int.toNat_natCast]
   have hnum : Q1 (a :: b :: c :: d :: e :: f :: g :: i :: r) = ((((((((a.toNat : Int) * 256 + b.toNat) * 256 + c.toNat) * 256 + d.toNat) * 256 + e.toNat) * 256 + f.toNat) * 256 + g.toNat) * 256 + i.toNat) - 9223372036854775808 := by unfold Q1; rw [b84]
   show some (0, [Val.vi 1, Val.vi (IntKind.i64.wrap (arI .sub .u64 (arI .add .u64 (arI .mul .u64 (arI .add .u64 (arI .mul .u64 (arI .add .u64 (arI .mul .u64 (arI .add .u64 (arI .mul .u64 (arI .add .u64 (arI .mul .u64 (arI .add .u64 (arI .mul .u64 (arI .add .u64 (arI .mul .u64 (arI .add .u64 0 (IntKind.u64.wrap (den ω (.op .sat [.va 0, .ci ((0 : Nat) : Int)])).toI)) 256) (IntKind.u64.wrap (den ω (.op .sat [.va 0, .ci ((1 : Nat) : Int)])).toI)) 256) (IntKind.u64.wrap (den ω (.op .sat [.va 0, .ci ((2 : Nat) : Int)])).toI)) 256) (IntKind.u64.wrap (den ω (.op .sat [.va 0, .ci ((3 : Nat) : Int)])).toI)) 256) (IntKind.u64.wrap (den ω (.op .sat [.va 0, .ci ((4 : Nat) : Int)])).toI)) 256) (IntKind.u64.wrap (den ω (.op .sat [.va 0, .ci ((5 : Nat) : Int)])).toI)) 256) (IntKind.u64.wrap (den ω (.op .sat [.va 0, .ci ((6 : Nat) : Int)])).toI)) 256) (IntKind.u64.wrap (den ω (.op .sat [.va 0, .ci ((7 : Nat) : Int)])).toI)) 9223372036854775808)), Val.vs [], Val.vi 8]) = _
   rw [hsat, hsat, hsat, hsat, hsat, hsat, hsat, hsat]
   simp only [List.getD_cons_zero, List.getD_cons_succ, j1]
   rw [aZ2 la.1 la.2, aZ2 lb.1 lb.2, aZ2 lc.1 lc.2, aZ2 ld.1 ld.2, aZ2 le.1 le.2, aZ2 lf.1 lf.2, aZ2 lg.1 lg.2, aZ2 li.1 li.2]
   have h0 : arI .add .u64 0 (a.toNat : Int) = a.toNat := by show IntKind.u64.wrap (0 + (a.toNat : Int)) = _; rw [b81]; omega
   rw [h0, ax3 (by omega) (by omega) lb.1 lb.2, ax3 (by omega) (by omega) lc.1 lc.2, ax3 (by omega) (by omega) ld.1 ld.2, ax3 (by omega) (by omega) le.1 le.2, ax3 (by omega) (by omega) lf.1 lf.2, ax3 (by omega) (by omega) lg.1 lg.2, ax3 (by omega) (by omega) li.1 li.2, ch7 (by omega) (by omega), ← hnum]
   rfl
 · rw [decide_eq_false h]
   exact m7 (by show decide (((ω.w 0).toS.length : Int) < 8) = true; rw [hs]; exact decide_eq_true (by omega)) rfl
def aO5 (i : SX) : SX := .op .sat [.va 0, i]
def ah2 : SX := .op (.ar .add .i64) [.va 2002, .ci 1]
def ax4 : SX := .op .lcat [.va 2006, .op .row [.op .row [aO5 (.va 2002)]]]
def bN6 : SX := .op .and [.op (.cmp .eql) [.va 2001, .op .llen [.va 2006]], .op (.cmp .leq) [.op .llen [ax4], .ci 1000000]]
def aY3 : SX := .op .lsub [.va 2006, .ci 0, .op .iadd [.ci 0, .va 2001]]
def ch8 (j : SX) : VT := .ret 0 [.va 2000, .op .llen [ax4], j, .va 2003, .va 2004, .va 2005, ax4]
theorem ch9 : cx9 = .ite (.op (.cmp .lss) [ah2, .op .slen [.va 0]]) (.need (.op .and [.op (.cmp .leq) [.ci 0, .va 2002], .op (.cmp .lss) [.va 2002, .op .slen [.va 0]]]) (.ite (.op (.cmp .eql) [aO5 (.va 2002), .ci 0])
 (.need (.op (.cmp .leq) [.ci 0, ah2]) (.ite (.op (.cmp .eql) [aO5 ah2, .ci 0]) (.need (.op .and [.op .and [.op (.cmp .leq) [.ci 0, .ci 0], .op (.cmp .leq) [.ci 0, .va 2001]], .op .and [.op (.cmp .leq) [.op .iadd [.ci 0, .va 2001], .op .llen [.va 2006]], .op .bok [aY3]]])
  (.ret 2 [.op (.ar .add .i64) [.va 2002, .ci 2], .va 2001, .va 2002, .ci 2, .ci 0, .op .bstr [aY3], .va 2006])) (.need bN6 (ch8 (.op (.ar .add .i64) [ah2, .ci 1]))))) (.need bN6 (ch8 ah2)))) (.ret 1 [.va 2000, .va 2001, .va 2002, .va 2003, .va 2004, .va 2005, .va 2006]) := rfl
def ci0 (i : Nat) (o : List UInt8) : List Val := [.vi 0, .vi o.length, .vi i, .vi 0, .vi 0, .vs [], .vl (sbV o)]
theorem bN7 {ω : Opq} {s : List UInt8} (hs : (ω.w 0).toS = s) (hn : s.length ≤ 1000) {i : Nat} {o : List UInt8} (hi : i ≤ 1001) (ho2 : o.length ≤ 1001) :
 j3 cx9 (ω.upd 2000 (ci0 i o)) = some (bif decide (i + 1 < s.length) then (bif decide (s.getD i 0 = 0) then (bif decide (s.getD (i + 1) 0 = 0) then (2, [.vi (i + 2 : Nat), .vi o.length, .vi i, .vi 2, .vi 0, .vs o, .vl (sbV o)]) else (0, ci0 (i + 2) (o ++ [s.getD i 0]))) else (0, ci0 (i + 1) (o ++ [s.getD i 0]))) else (1, ci0 i o)) := by
 obtain ⟨ω', hω⟩ : ∃ ω', ω' = ω.upd 2000 (ci0 i o) := ⟨_, rfl⟩
 have w0 : (ω'.w 0).toS = s := by rw [hω]; exact hs
 have u1 : ω'.w 2001 = .vi o.length := by rw [hω]; rfl
 have u2 : ω'.w 2002 = .vi i := by rw [hω]; rfl
 have u6 : ω'.w 2006 = .vl (sbV o) := by rw [hω]; rfl
 have hat : ∀ {e : SX} {k : Nat}, den ω' e = .vi k → den ω' (aO5 e) = .vi ((s.getD k 0).toNat : Int) := fun {e k} he => by
  show Val.vi (((ω'.w 0).toS.getD (den ω' e).toI.toNat 0).toNat : Int) = _
  rw [w0, he, j1, Int.toNat_natCast]
 have hnx : den ω' ah2 = .vi (i + 1 : Nat) := by
  show Val.vi (arI .add .i64 (ω'.w 2002).toI 1) = _
  rw [u2, j1, aX8 (by omega)]
 have ha := hat (e := .va 2002) u2
 have ha1 := hat hnx
 have happ : den ω' ax4 = .vl (sbV (o ++ [s.getD i 0])) := by
  show Val.vl ((ω'.w 2006).toL ++ [Val.vl [den ω' (aO5 (.va 2002))]]) = _
  rw [u6, ha, U7]; rfl
 have hfit : dB ω' bN6 = true := by
  refine a10 ?_ ?_
  · show decide ((ω'.w 2001).toI = ((ω'.w 2006).toL.length : Int)) = true
    rw [u1, u6, j4, r6]; exact decide_eq_true rfl
  · show decide (((den ω' ax4).toL.length : Int) ≤ 1000000) = true
    rw [happ, j4, r6, List.length_append]; exact decide_eq_true (by show ((o.length + 1 : Nat) : Int) ≤ 1000000; omega)
 have hret : ∀ {j : SX} {k : Nat}, den ω' j = .vi k → j3 (ch8 j) ω' = some (0, ci0 k (o ++ [s.getD i 0])) := fun {j k} hj => by
  show some (0, [ω'.w 2000, Val.vi ((den ω' ax4).toL.length : Int), den ω' j, ω'.w 2003, ω'.w 2004, ω'.w 2005, den ω' ax4]) = _
  rw [hj, happ, j4, r6, hω]; rfl
 rw [← hω, ch9]
 by_cases h1 : i + 1 < s.length
 · rw [decide_eq_true h1, cond_true]
   refine m7 (by show decide ((den ω' ah2).toI < ((ω'.w 0).toS.length : Int)) = true; rw [hnx, w0, j1]; exact decide_eq_true (by omega)) (i5 (a10 (by show decide ((0 : Int) ≤ (ω'.w 2002).toI) = true; rw [u2, j1]; exact decide_eq_true (by omega)) (by show decide ((ω'.w 2002).toI < ((ω'.w 0).toS.length : Int)) = true; rw [u2, w0, j1]; exact decide_eq_true (by omega))) ?_)
   by_cases h2 : s.getD i 0 = 0
   · rw [decide_eq_true h2, cond_true]
     refine m7 (by show decide ((den ω' (aO5 (.va 2002))).toI = 0) = true; rw [ha, j1, aa4]; exact decide_eq_true h2) (i5 (by show decide ((0 : Int) ≤ (den ω' ah2).toI) = true; rw [hnx, j1]; exact decide_eq_true (by omega)) ?_)
     by_cases h3 : s.getD (i + 1) 0 = 0
     · rw [decide_eq_true h3, cond_true]
       have hbuf : dL ω' aY3 = sbV o := by
        show ((ω'.w 2006).toL.drop (0 : Int).toNat).take ((0 + (ω'.w 2001).toI) - 0).toNat = _
        rw [u6, u1, j1, j4, show (0 : Int).toNat = 0 from rfl, List.drop_zero, Int.sub_zero, Int.zero_add, Int.toNat_natCast, List.take_of_length_le (by rw [r6]; exact Nat.le_refl _)]
       refine m7 (by show decide ((den ω' (aO5 ah2)).toI = 0) = true; rw [ha1, j1, aa4]; exact decide_eq_true h3) (i5 (cG4 rfl ?_ ?_ ?_) ?_)
       · show decide ((0 : Int) ≤ (ω'.w 2001).toI) = true
         rw [u1, j1]; exact decide_eq_true (by omega)
       · show decide (0 + (ω'.w 2001).toI ≤ ((ω'.w 2006).toL.length : Int)) = true
         rw [u1, u6, j1, j4, r6]; exact decide_eq_true (by omega)
       · show aO7 (dL ω' aY3) = true
         rw [hbuf]; exact a94 _
       · show some (2, [Val.vi (arI .add .i64 (ω'.w 2002).toI 2), ω'.w 2001, ω'.w 2002, Val.vi 2, Val.vi 0, Val.vs (unV (dL ω' aY3)), ω'.w 2006]) = _
         rw [hbuf, az2, u1, u2, u6, j1, az1 (by omega) (by omega)]
         rfl
     · rw [decide_eq_false h3, cond_false]
       refine m8 (by show decide ((den ω' (aO5 ah2)).toI = 0) = false; rw [ha1, j1, aa4]; exact decide_eq_false h3) (i5 hfit (hret ?_))
       show Val.vi (arI .add .i64 (den ω' ah2).toI 1) = _
       rw [hnx, j1, aX8 (by omega)]
   · rw [decide_eq_false h2, cond_false]
     exact m8 (by show decide ((den ω' (aO5 (.va 2002))).toI = 0) = false; rw [ha, j1, aa4]; exact decide_eq_false h2) (i5 hfit (hret hnx))
 · rw [decide_eq_false h1, cond_false]
   refine m8 (by show decide ((den ω' ah2).toI < ((ω'.w 0).toS.length : Int)) = false; rw [hnx, w0, j1]; exact decide_eq_false (by omega)) ?_
   rw [hω]; rfl
theorem ci1 {ω : Opq} {s : List UInt8} (hs : (ω.w 0).toS = s) (hn : s.length ≤ 1000) : ∀ (f i : Nat) (o : List UInt8), s.length ≤ i + f → i ≤ s.length → o.length ≤ i →
 Iter (fun vs => j3 cx9 (ω.upd 2000 vs)) (ci0 i o) (aa2 (bq0 s f i o)).1 (aa2 (bq0 s f i o)).2
 | 0, i, o, hf, hi, ho => by
   have hs' := bN7 hs hn (i := i) (o := o) (by omega) (by omega)
   rw [decide_eq_false (show ¬ i + 1 < s.length by omega), cond_false] at hs'
   exact .out hs'
 | f + 1, i, o, hf, hi, ho => by
   have hs' := bN7 hs hn (i := i) (o := o) (by omega) (by omega)
   unfold bq0
   by_cases h1 : i + 1 < s.length
   · rw [decide_eq_true h1, cond_true] at hs' ⊢
     by_cases h2 : s.getD i 0 = 0
     · rw [decide_eq_true h2, cond_true] at hs' ⊢
       by_cases h3 : s.getD (i + 1) 0 = 0
       · rw [decide_eq_true h3, cond_true] at hs' ⊢
         exact .out hs'
       · rw [decide_eq_false h3, cond_false] at hs' ⊢
         exact .more hs' (ci1 hs hn f (i + 2) _ (by omega) (by omega) (by simp; omega))
     · rw [decide_eq_false h2, cond_false] at hs' ⊢
       exact .more hs' (ci1 hs hn f (i + 1) _ (by omega) (by omega) (by simp; omega))
   · rw [decide_eq_false h1, cond_false] at hs' ⊢
     exact .out hs'
theorem bZ9 {ω : Opq} (hf : ∀ i a, ω.f i a = F i a) (hn : (ω.w 0).toS.length ≤ 1000) : j3 aj0 ω = some (0, [F 359 [ω.w 0], .vi 0, F 360 [ω.w 0], F 361 [ω.w 0]]) := by
 have hR : [F 359 [ω.w 0], .vi 0, F 360 [ω.w 0], F 361 [ω.w 0]] = [.vi (bif Nat.beq (ah1 (ω.w 0).toS).1 1 then 2 else 0), .vi 0, .vs (bif Nat.beq (ah1 (ω.w 0).toS).1 1 then (ah1 (ω.w 0).toS).2.2 else []), .vi (bif Nat.beq (ah1 (ω.w 0).toS).1 1 then ((ah1 (ω.w 0).toS).2.1 + 2 : Nat) else 0)] := rfl
 have d0 : den ω K9 = Q7 (aa2 (ah1 (ω.w 0).toS)) := by
  show ω.f 364 [.vi 0, .vi 0, .vi 0, .vi 0, .vi 0, .vs [], .vl [], ω.w 0] = _
  rw [hf]; rfl
 have hit := ci1 (ω := ω) rfl hn ((ω.w 0).toS.length + 1) 0 [] (by omega) (Nat.zero_le _) (Nat.le_refl _)
 rw [hR]
 generalize hD : ah1 (ω.w 0).toS = D at d0
 rw [show bq0 (ω.w 0).toS ((ω.w 0).toS.length + 1) 0 [] = D from hD] at hit
 obtain ⟨c, i, o⟩ := D
 unfold aj0
 refine p6 (r := aa2 (c, i, o)) ?_ d0 ?_
 · show A0 _ [.vi 0, .vi 0, .vi 0, .vi 0, .vi 0, .vs [], .vl []] = _
   rw [x9]; exact hit
 · cases hc : Nat.beq c 1 with
   | false =>
     have e : aa2 (c, i, o) = (0, [.vi 0, .vi o.length, .vi i, .vi 0, .vi 0, .vs [], .vl (sbV o)]) := by unfold aa2; simp only [hc, cond_false]
     rw [e]; rfl
   | true =>
     have e : aa2 (c, i, o) = (1, [.vi (i + 2 : Nat), .vi o.length, .vi i, .vi 2, .vi 0, .vs o, .vl (sbV o)]) := by unfold aa2; simp only [hc, cond_true]
     rw [e] at d0 ⊢
     show some (0, [A5 (den ω K9).toL 1 3, A5 (den ω K9).toL 1 4, A5 (den ω K9).toL 1 5, A5 (den ω K9).toL 1 0]) = _
     rw [d0]; rfl
theorem bj8 {ω : Opq} {e : SX} {l : List UInt8} (h : den ω e = .vl (sbV l)) : dB ω (.op .bok [e]) = true := by
 show aO7 (den ω e).toL = true
 rw [h, j4, a94]
theorem c00 {ω : Opq} (hf : ∀ i a, ω.f i a = F i a) (hn : (ω.w 0).toS.length ≤ 1000) : j3 aj2 ω = some (0, [F 331 [ω.w 0], F 332 [ω.w 0]]) := by
 obtain ⟨s, hs⟩ : ∃ s, (ω.w 0).toS = s := ⟨_, rfl⟩
 have hR : [F 331 [ω.w 0], F 332 [ω.w 0]] = [.vs (F1 s).1, .vb (F1 s).2] := by rw [← hs]; rfl
 rw [hR]
 rw [hs] at hn
 have d365 : ω.f 365 [.vi s.length, ω.w 0] = Q7 (0, [.vi (F0 s s.length)]) := by rw [hf, ← hs]; rfl
 have key : ∀ k : Nat, k < s.length → j3 cs1 (ω.upd 2000 [.vi (k + 1 : Nat)]) = some (bif decide (s.getD k 0 = 255) then (0, [.vi k]) else (1, [.vi (k + 1 : Nat)])) := fun k hk => by
  have p0 : (0 : Int) < ((k + 1 : Nat) : Int) := by omega
  have p1 : (0 : Int) ≤ (k : Int) := by omega
  have p2 : (k : Int) < (s.length : Int) := by omega
  unfold cs1
  simp only [j3, k5, den, dB, A1, U6, bq8, w0, if_true, if_false, show 2000 - 2000 = 0 from rfl, List.getD_cons_zero, j1, p9, P9, l9, l4, p5, hs, cy5 (K := k + 1) (k := k) rfl (by omega), p0, p1, p2, decide_true, Bool.and_self, Int.toNat_natCast, aD9]
  cases decide (s.getD k 0 = 255) <;> rfl
 have hit : ∀ n, n ≤ s.length → Iter (fun vs => j3 cs1 (ω.upd 2000 vs)) [.vi n] 0 [.vi (F0 s n)] := by
  intro n
  induction n with
  | zero =>
    intro _
    refine .out ?_
    show j3 cs1 (ω.upd 2000 [.vi ((0 : Nat) : Int)]) = _
    refine m8 ?_ rfl
    show decide ((0 : Int) < ((0 : Nat) : Int)) = false
    rfl
  | succ k ih =>
    intro hk
    have hs' := key k (by omega)
    unfold F0
    cases hb : decide (s.getD k 0 = 255) with
    | true => rw [hb, cond_true] at hs'; rw [cond_true]; exact .more hs' (ih (by omega))
    | false => rw [hb, cond_false] at hs'; rw [cond_false]; exact .out hs'
 have hm := aN3 s s.length
 have hit := hit s.length (Nat.le_refl _)
 have d0 : den ω Z8 = .vi (F0 s s.length) := by
  show A5 (ω.f 365 [.vi ((ω.w 0).toS.length : Int), ω.w 0]).toL 1 0 = _
  rw [hs, d365]; rfl
 have ha : F1 s = match F0 s s.length with
  | 0 => ([], false)
  | m + 1 => (upB s m, true) := rfl
 rw [ha]
 generalize F0 s s.length = m at d365 hm hit d0
 unfold aj2
 refine p6 (r := (0, [.vi m])) ?_ ?_ ?_
 · show A0 _ [.vi ((ω.w 0).toS.length : Int)] = _
   rw [hs, x9]; exact hit
 · show ω.f 365 [.vi ((ω.w 0).toS.length : Int), ω.w 0] = _
   rw [hs, d365]
 · cases m with
   | zero =>
     refine m7 (by show decide ((den ω Z8).toI = 0) = true; rw [d0]; rfl) rfl
   | succ k =>
     have d1 : den ω B5 = .vi k := by
      show Val.vi (arI .sub .i64 (den ω Z8).toI 1) = _
      rw [d0, j1, cy5 (K := k + 1) (k := k) rfl (by omega)]
     have i1 : dI ω B5 = k := by show (den ω B5).toI = _; rw [d1]; rfl
     have d2 : den ω T4 = .vl [.vl [.vi (((s.getD k 0).toNat + 1 : Int) % 256)]] := by
      show Val.vl [Val.vl [Val.vi (IntKind.u8.wrap ((((ω.w 0).toS.getD (den ω B5).toI.toNat 0).toNat : Int) + 1))]] = _
      rw [d1, hs, j1, Int.toNat_natCast, wu8]
     have d3 : dS ω aj1 = s.take k := by
      show ((ω.w 0).toS.drop (0 : Int).toNat).take (dI ω B5 - 0).toNat = _
      rw [hs, i1, show (0 : Int).toNat = 0 from rfl, List.drop_zero, Int.sub_zero, Int.toNat_natCast]
     have hb2 : den ω (.op .bstr [T4]) = .vs [s.getD k 0 + 1] := by
      show Val.vs (unV (den ω T4).toL) = _
      rw [d2, ← b82]; rfl
     refine m8 (by show decide ((den ω Z8).toI = 0) = false; rw [d0]; exact decide_eq_false (by show ¬ ((k + 1 : Nat) : Int) = 0; omega)) (i5 (a10 ?_ ?_) (i5 ?_ (i5 ?_ (i5 ?_ ?_))))
     · show decide ((0 : Int) ≤ dI ω B5) = true
       rw [i1]; exact decide_eq_true (by omega)
     · show decide (dI ω B5 ≤ ((ω.w 0).toS.length : Int)) = true
       rw [i1, hs]; exact decide_eq_true (by omega)
     · show decide (dI ω B5 < ((ω.w 0).toS.length : Int)) = true
       rw [i1, hs]; exact decide_eq_true (by omega)
     · refine bj8 (l := [s.getD k 0 + 1]) ?_
       rw [d2]
       have e : (((s.getD k 0 + 1).toNat : Nat) : Int) = ((s.getD k 0).toNat + 1 : Int) % 256 := by
        rw [← b82, UInt8.toNat_ofNat']
        have := (s.getD k 0).toNat_lt
        show (((((s.getD k 0).toNat + 1 : Int) % 256).toNat % 256 : Nat) : Int) = _
        omega
       show _ = Val.vl [Val.vl [Val.vi (((s.getD k 0 + 1).toNat : Nat) : Int)]]
       rw [e]
     · exact bj1 (n := 4294967296) (x := s.take k) (y := [s.getD k 0 + 1]) d3 (by rw [hb2]; rfl) (by rw [List.length_take, List.length_cons, List.length_nil]; omega)
     · show some (0, [Val.vs (dS ω aj1 ++ (den ω (.op .bstr [T4])).toS), Val.vb true]) = _
       rw [d3, hb2]; rfl
theorem c01 {ω : Opq} (hf : ∀ i a, ω.f i a = F i a) : j3 aj3 ω = some (0, [F 330 [ω.w 0, ω.w 1, ω.w 2, ω.w 3, ω.w 4]]) := by
 have hF : F 330 [ω.w 0, ω.w 1, ω.w 2, ω.w 3, ω.w 4] = .vb (B9 (ω.w 0).toI (ω.w 1).toS (ω.w 2).toS (ω.w 3).toI (ω.w 4).toI) := rfl
 rw [hF]
 unfold aj3 aL5 aL6 aL7 B9
 simp only [j3, k5, den, dB, A1, j1, w9, p9, P9, bi6, l9, p5, aN1, bi7, decide_eq_true_eq]
 have hnil : ∀ l : List UInt8, (1 : Int) ≤ (l.length : Int) ↔ ¬ l = [] := fun l => by
  cases l <;> simp <;> omega
 by_cases k1 : (ω.w 0).toI = 1
 · by_cases a : (ω.w 2).toS = [] <;> by_cases b : (ω.w 4).toI = 0 <;> by_cases c : (ω.w 1).toS = [] <;> by_cases d : (32 : Int) < ((ω.w 1).toS.length : Int) <;> by_cases e : (32 : Int) < ((ω.w 2).toS.length : Int) <;> simp [hnil, k1, a, b, c, d, e, show ((ω.w 1).toS.length : Int) ≤ 32 ↔ ¬ (32 : Int) < ((ω.w 1).toS.length : Int) from by omega] <;> simp_all
 · by_cases k2 : (ω.w 0).toI = 2
   · by_cases a : (ω.w 3).toI = 0 <;> by_cases b : (ω.w 4).toI = 0 <;> by_cases d : (32 : Int) < ((ω.w 1).toS.length : Int) <;> by_cases e : (32 : Int) < ((ω.w 2).toS.length : Int) <;> simp [k2, a, b, d, e, show ((ω.w 1).toS.length : Int) ≤ 32 ↔ ¬ (32 : Int) < ((ω.w 1).toS.length : Int) from by omega, show ((ω.w 2).toS.length : Int) ≤ 32 ↔ ¬ (32 : Int) < ((ω.w 2).toS.length : Int) from by omega] <;> (try omega)
   · by_cases k3 : (ω.w 0).toI = 3
     · by_cases a : (ω.w 1).toS = [] <;> by_cases b : (ω.w 2).toS = [] <;> simp [k3, a, b]
     · simp [k1, k2, k3]
theorem ax5 {x : Int} (h : 0 ≤ x) (h2 : x < 18446744073709551616) : arI .quo .u64 x 256 = x / 256 := by
 show IntKind.u64.wrap (x.tdiv 256) = _
 rw [Int.tdiv_eq_ediv_of_nonneg h, b81]; omega
theorem ag1 {x : Int} (h : 0 ≤ x) : arI .rem .u64 x 256 = x % 256 := by
 show x.tmod 256 = _
 rw [Int.tmod_eq_emod_of_nonneg h]
theorem c56 {a : Int} (h : 0 ≤ a) (h2 : a < 18446744073709551616) : ∀ k, 0 ≤ dv a k ∧ dv a k < 18446744073709551616
 | 0 => ⟨h, h2⟩
 | k + 1 => by
   have := c56 h h2 k
   show 0 ≤ dv a k / 256 ∧ dv a k / 256 < _
   omega
theorem ci2 (n : Int) : a34 n = if n % 18446744073709551616 < 9223372036854775808 then n % 18446744073709551616 + 9223372036854775808 else n % 18446744073709551616 - 9223372036854775808 := by
 show IntKind.u64.wrap ((BitVec.ofInt 64 (IntKind.u64.wrap n) ^^^ BitVec.ofInt 64 9223372036854775808).toNat : Int) = _
 rw [b81, b81]
 obtain ⟨m, hm⟩ : ∃ m : Nat, n % 18446744073709551616 = (m : Int) := ⟨(n % 18446744073709551616).toNat, by omega⟩
 have hm2 : m < 2 ^ 64 := by omega
 rw [hm]
 have e1 : (BitVec.ofInt 64 (m : Int) ^^^ BitVec.ofInt 64 9223372036854775808).toNat = m ^^^ 2 ^ 63 := by
  rw [BitVec.toNat_xor, aa5 m hm2]; rfl
 rw [e1, b83 hm2]
 split <;> split <;> omega
theorem bN8 {u t : Int} {σ : Int} (h : t = u + σ * 9223372036854775808) : dv t 1 = dv u 1 + σ * 36028797018963968 ∧ dv t 2 = dv u 2 + σ * 140737488355328 ∧ dv t 3 = dv u 3 + σ * 549755813888 ∧ dv t 4 = dv u 4 + σ * 2147483648 ∧ dv t 5 = dv u 5 + σ * 8388608 ∧ dv t 6 = dv u 6 + σ * 32768 ∧ dv t 7 = dv u 7 + σ * 128 := by
 have h1 : dv t 1 = dv u 1 + σ * 36028797018963968 := by show t / 256 = u / 256 + _; omega
 have h2 : dv t 2 = dv u 2 + σ * 140737488355328 := by show dv t 1 / 256 = dv u 1 / 256 + _; omega
 have h3 : dv t 3 = dv u 3 + σ * 549755813888 := by show dv t 2 / 256 = dv u 2 / 256 + _; omega
 have h4 : dv t 4 = dv u 4 + σ * 2147483648 := by show dv t 3 / 256 = dv u 3 / 256 + _; omega
 have h5 : dv t 5 = dv u 5 + σ * 8388608 := by show dv t 4 / 256 = dv u 4 / 256 + _; omega
 have h6 : dv t 6 = dv u 6 + σ * 32768 := by show dv t 5 / 256 = dv u 5 / 256 + _; omega
 have h7 : dv t 7 = dv u 7 + σ * 128 := by show dv t 6 / 256 = dv u 6 / 256 + _; omega
 exact ⟨h1, h2, h3, h4, h5, h6, h7⟩
def R8 (x7 x6 x5 x4 x3 x2 x1 x0 : Int) : List Val := [.vl [.vi x7], .vl [.vi (x6 % 256)], .vl [.vi (x5 % 256)], .vl [.vi (x4 % 256)], .vl [.vi (x3 % 256)], .vl [.vi (x2 % 256)], .vl [.vi (x1 % 256)], .vl [.vi (x0 % 256)]]
theorem ct9 {t x7 x6 x5 x4 x3 x2 x1 x0 : Int} (ht : 0 ≤ t) (h7 : x7 % 256 = dv t 7 % 256) (h7b : 0 ≤ x7 ∧ x7 < 256) (h6 : x6 % 256 = dv t 6 % 256) (h5 : x5 % 256 = dv t 5 % 256) (h4 : x4 % 256 = dv t 4 % 256) (h3 : x3 % 256 = dv t 3 % 256) (h2 : x2 % 256 = dv t 2 % 256) (h1 : x1 % 256 = dv t 1 % 256) (h0 : x0 % 256 = dv t 0 % 256) :
 R8 x7 x6 x5 x4 x3 x2 x1 x0 = sbV (aW6 t) := by
 have e : ∀ k, ((byV t k).toNat : Int) = dv t k % 256 := fun k => a99 t k ht
 show _ = [Val.vl [.vi ((byV t 7).toNat : Int)], Val.vl [.vi ((byV t 6).toNat : Int)], Val.vl [.vi ((byV t 5).toNat : Int)], Val.vl [.vi ((byV t 4).toNat : Int)], Val.vl [.vi ((byV t 3).toNat : Int)], Val.vl [.vi ((byV t 2).toNat : Int)], Val.vl [.vi ((byV t 1).toNat : Int)], Val.vl [.vi ((byV t 0).toNat : Int)]]
 rw [e, e, e, e, e, e, e, e, ← h7, ← h6, ← h5, ← h4, ← h3, ← h2, ← h1, ← h0, show x7 % 256 = x7 by omega]
 rfl
theorem b89 {ω : Opq} {e : SX} {l : List UInt8} (h : den ω e = .vl (sbV l)) : den ω (.op .bstr [e]) = .vs l := by
 show Val.vs (unV (den ω e).toL) = _
 rw [h, j4, az2]
theorem ci3 {ω : Opq} {s : List UInt8} (hs : (ω.w 2).toS = s) (hn : s.length ≤ 1000) {i : Nat} (hi : i < s.length) :
 j3 cx8 (ω.upd 2000 [.vi (s8 (s.take i)).length, .vi i, .vl (sbV (s8 (s.take i)))]) = some (0, [.vi (s8 (s.take (i + 1))).length, .vi (i + 1 : Nat), .vl (sbV (s8 (s.take (i + 1))))]) := by
 obtain ⟨A, hA⟩ : ∃ A, s8 (s.take i) = A := ⟨_, rfl⟩
 have hAl : A.length ≤ 2000 := by
  have := Q0 (s.take i)
  rw [hA, List.length_take] at this; omega
 have ae0 : s8 (s.take (i + 1)) = A ++ (if s.getD i 0 = 0 then [0, 255] else [s.getD i 0]) := by rw [bj3 hi, aw3, hA]
 rw [ae0, hA]
 have p1 : (i : Int) < (s.length : Int) := by omega
 have p2 : (0 : Int) ≤ (i : Int) := by omega
 have hc : decide (((s.getD i 0).toNat : Int) = 0) = decide (s.getD i 0 = 0) := aa4 _
 have l1 : ((sbV A).length : Int) = (A.length : Int) := by rw [r6]
 have q1 : ((A.length + (0 + 1) : Nat) : Int) ≤ 1000000 := by omega
 have q2 : ((A.length + (0 + 1) + (0 + 1) : Nat) : Int) ≤ 1000000 := by omega
 unfold cx8
 simp only [j3, k5, den, dB, A1, U6, bq8, bM6, bZ4, w2, if_true, if_false, show 2000 - 2000 = 0 from rfl, show 2001 - 2000 = 1 from rfl, show 2002 - 2000 = 2 from rfl, List.getD_cons_zero, List.getD_cons_succ, j1, j4, p9, l4, l9, p5, hs, p1, p2, decide_true, Int.toNat_natCast, List.length_append, List.length_cons, List.length_nil, r6, q1, q2, Bool.and_self, hc, aX8 (show i ≤ 1000000 by omega)]
 by_cases h : s.getD i 0 = 0
 · rw [decide_eq_true h, if_pos rfl, if_pos h, h]
   rw [U7]
   show some (0, [Val.vi ((A.length + (0 + 1) + (0 + 1) : Nat) : Int), Val.vi ((i + 1 : Nat) : Int), Val.vl (sbV A ++ [Val.vl [Val.vi ((0 : UInt8).toNat : Int)]] ++ [Val.vl [Val.vi 255]])]) = _
   rw [List.append_assoc]; rfl
 · rw [decide_eq_false h, if_neg (by simp), if_neg h, U7]
   rfl
theorem ci4 {ω : Opq} (hf : ∀ i a, ω.f i a = F i a) (hn : (ω.w 2).toS.length ≤ 1000) : j3 aL4 ω = some (0, [F 366 [ω.w 0, ω.w 1, ω.w 2]]) := by
 have hF : F 366 [ω.w 0, ω.w 1, ω.w 2] = .vs (bif decide ((ω.w 0).toI = 1) then m9 (ω.w 1).toI else n5 (ω.w 2).toS) := rfl
 rw [hF]
 unfold aL4
 by_cases h1 : (ω.w 0).toI = 1
 · rw [decide_eq_true h1, cond_true]
   refine m7 (by show decide ((ω.w 0).toI = 1) = true; exact decide_eq_true h1) (i5 rfl ?_)
   obtain ⟨u, hu⟩ : ∃ u, (ω.w 1).toI % 18446744073709551616 = u := ⟨_, rfl⟩
   have u0 : 0 ≤ u := by omega
   have u1 : u < 18446744073709551616 := by omega
   have cv : IntKind.u64.wrap (ω.w 1).toI = u := by rw [b81, hu]
   have lim := c56 u0 u1
   have q0 : dI ω au5 = dv u 1 := by show arI .quo .u64 (IntKind.u64.wrap (ω.w 1).toI) 256 = _; rw [cv, ax5 u0 u1]; rfl
   have q1 : dI ω au6 = dv u 2 := by show arI .quo .u64 (dI ω au5) 256 = _; rw [q0, ax5 (lim 1).1 (lim 1).2]; rfl
   have q2 : dI ω au7 = dv u 3 := by show arI .quo .u64 (dI ω au6) 256 = _; rw [q1, ax5 (lim 2).1 (lim 2).2]; rfl
   have q3 : dI ω au8 = dv u 4 := by show arI .quo .u64 (dI ω au7) 256 = _; rw [q2, ax5 (lim 3).1 (lim 3).2]; rfl
   have q4 : dI ω au9 = dv u 5 := by show arI .quo .u64 (dI ω au8) 256 = _; rw [q3, ax5 (lim 4).1 (lim 4).2]; rfl
   have q5 : dI ω av0 = dv u 6 := by show arI .quo .u64 (dI ω au9) 256 = _; rw [q4, ax5 (lim 5).1 (lim 5).2]; rfl
   have w8 : ∀ x : Int, IntKind.u8.wrap (x % 256) = x % 256 := fun x => by rw [wu8]; omega
   have q6 : dI ω J9 = dv u 7 % 256 := by
    show IntKind.u8.wrap (arI .rem .u64 (arI .quo .u64 (dI ω av0) 256) 256) = _
    rw [q5, ax5 (lim 6).1 (lim 6).2, ag1 (by show 0 ≤ dv u 7; exact (lim 7).1), w8]; rfl
   have r7 : den ω av1 = .vl [.vi (dv u 6 % 256)] := by show Val.vl [Val.vi (IntKind.u8.wrap (arI .rem .u64 (dI ω av0) 256))] = _; rw [q5, ag1 (lim 6).1, w8]
   have r8 : den ω av2 = .vl [.vi (dv u 5 % 256)] := by show Val.vl [Val.vi (IntKind.u8.wrap (arI .rem .u64 (dI ω au9) 256))] = _; rw [q4, ag1 (lim 5).1, w8]
   have r9 : den ω av3 = .vl [.vi (dv u 4 % 256)] := by show Val.vl [Val.vi (IntKind.u8.wrap (arI .rem .u64 (dI ω au8) 256))] = _; rw [q3, ag1 (lim 4).1, w8]
   have r10 : den ω a75 = .vl [.vi (dv u 3 % 256)] := by show Val.vl [Val.vi (IntKind.u8.wrap (arI .rem .u64 (dI ω au7) 256))] = _; rw [q2, ag1 (lim 3).1, w8]
   have r11 : den ω a78 = .vl [.vi (dv u 2 % 256)] := by show Val.vl [Val.vi (IntKind.u8.wrap (arI .rem .u64 (dI ω au6) 256))] = _; rw [q1, ag1 (lim 2).1, w8]
   have r12 : den ω a79 = .vl [.vi (dv u 1 % 256)] := by show Val.vl [Val.vi (IntKind.u8.wrap (arI .rem .u64 (dI ω au5) 256))] = _; rw [q0, ag1 (lim 1).1, w8]
   have r13 : den ω a80 = .vl [.vi (u % 256)] := by show Val.vl [Val.vi (IntKind.u8.wrap (arI .rem .u64 (IntKind.u64.wrap (ω.w 1).toI) 256))] = _; rw [cv, ag1 u0, w8]
   have hlim := a98 (ω.w 1).toI
   have htu := ci2 (ω.w 1).toI
   rw [hu] at htu
   have hd7 : dv u 7 = u / 72057594037927936 := by simp only [dv]; omega
   by_cases h128 : 128 ≤ dv u 7 % 256
   · have ht : a34 (ω.w 1).toI = u + (-1) * 9223372036854775808 := by rw [htu, if_neg (by omega)]; omega
     obtain ⟨e1, e2, e3, e4, e5, e6, e7⟩ := bN8 ht
     have r14 : den ω ai7 = .vl (sbV (m9 (ω.w 1).toI)) := by
      show Val.vl [Val.vl [Val.vi (arI .sub .u8 (dI ω J9) 128)], den ω av1, den ω av2, den ω av3, den ω a75, den ω a78, den ω a79, den ω a80] = _
      have e : arI .sub .u8 (dI ω J9) 128 = dv u 7 % 256 - 128 := by show IntKind.u8.wrap (dI ω J9 - 128) = _; rw [q6, wu8]; omega
      rw [e, r7, r8, r9, r10, r11, r12, r13]
      exact congrArg Val.vl (ct9 (t := a34 (ω.w 1).toI) (x7 := dv u 7 % 256 - 128) (x6 := dv u 6) (x5 := dv u 5) (x4 := dv u 4) (x3 := dv u 3) (x2 := dv u 2) (x1 := dv u 1) (x0 := u) hlim.1 (by omega) (by omega) (by omega) (by omega) (by omega) (by omega) (by omega) (by omega) (by show u % 256 = a34 (ω.w 1).toI % 256; omega))
     refine m7 (by show decide ((128 : Int) ≤ dI ω J9) = true; rw [q6]; exact decide_eq_true h128) (i5 (bj8 r14) ?_)
     show some (0, [den ω (.op .bstr [ai7])]) = _
     rw [b89 r14]
   · have ht : a34 (ω.w 1).toI = u + 1 * 9223372036854775808 := by rw [htu, if_pos (by omega)]; omega
     obtain ⟨e1, e2, e3, e4, e5, e6, e7⟩ := bN8 ht
     have r15 : den ω ai8 = .vl (sbV (m9 (ω.w 1).toI)) := by
      show Val.vl [Val.vl [Val.vi (arI .add .u8 (dI ω J9) 128)], den ω av1, den ω av2, den ω av3, den ω a75, den ω a78, den ω a79, den ω a80] = _
      have e : arI .add .u8 (dI ω J9) 128 = dv u 7 % 256 + 128 := by show IntKind.u8.wrap (dI ω J9 + 128) = _; rw [q6, wu8]; omega
      rw [e, r7, r8, r9, r10, r11, r12, r13]
      exact congrArg Val.vl (ct9 (t := a34 (ω.w 1).toI) (x7 := dv u 7 % 256 + 128) (x6 := dv u 6) (x5 := dv u 5) (x4 := dv u 4) (x3 := dv u 3) (x2 := dv u 2) (x1 := dv u 1) (x0 := u) hlim.1 (by omega) (by omega) (by omega) (by omega) (by omega) (by omega) (by omega) (by omega) (by show u % 256 = a34 (ω.w 1).toI % 256; omega))
     refine m8 (by show decide ((128 : Int) ≤ dI ω J9) = false; rw [q6]; exact decide_eq_false h128) (i5 (bj8 r15) ?_)
     show some (0, [den ω (.op .bstr [ai8])]) = _
     rw [b89 r15]
 · rw [decide_eq_false h1, cond_false]
   obtain ⟨s, hs⟩ : ∃ s, (ω.w 2).toS = s := ⟨_, rfl⟩
   rw [hs] at hn ⊢
   have d16 : den ω a81 = Q7 (0, [.vi (s8 s).length, .vi s.length, .vl (sbV (s8 s))]) := by
    show ω.f 363 [.vi 0, .vi 0, .vl [], ω.w 0, ω.w 1, ω.w 2] = _
    rw [hf, ← hs]; rfl
   have d17 : den ω a82 = .vl (sbV (s8 s)) := by show A5 (den ω a81).toL 1 2 = _; rw [d16]; rfl
   have d18 : den ω E9 = .vl (sbV (n5 s)) := by
    show Val.vl ((den ω a82).toL ++ [Val.vl [Val.vi 0], Val.vl [Val.vi 0]]) = _
    rw [d17]
    unfold n5
    rw [U7]; rfl
   have hl := Q0 s
   have hl2 : (n5 s).length = (s8 s).length + 2 := by unfold n5; simp
   have i19 : dI ω a83 = (n5 s).length := by show 0 + ((den ω E9).toL.length : Int) = _; rw [d18, j4, r6]; omega
   have d20 : den ω a84 = .vl (sbV (n5 s)) := by
    show Val.vl (((den ω E9).toL.drop (0 : Int).toNat).take (dI ω a83 - 0).toNat) = _
    rw [d18, i19, j4, show (0 : Int).toNat = 0 from rfl, List.drop_zero, Int.sub_zero, Int.toNat_natCast, List.take_of_length_le (by rw [r6]; exact Nat.le_refl _)]
   refine m8 (by show decide ((ω.w 0).toI = 1) = false; exact decide_eq_false h1) (p6 (r := (0, [.vi (s8 s).length, .vi s.length, .vl (sbV (s8 s))])) ?_ d16 ?_)
   · refine O5 (fun i => [.vi (s8 (s.take i)).length, .vi i, .vl (sbV (s8 (s.take i)))]) (n := s.length) rfl (fun i hi => ci3 hs hn hi) ?_
     show j3 cx8 (ω.upd 2000 [.vi (s8 (s.take s.length)).length, .vi s.length, .vl (sbV (s8 (s.take s.length)))]) = _
     rw [List.take_length]
     refine m8 ?_ rfl
     show decide (((s.length : Nat) : Int) < ((ω.w 2).toS.length : Int)) = false
     rw [hs]; exact decide_eq_false (by omega)
   · refine i5 (a10 ?_ ?_) (i5 ?_ ?_)
     · show decide ((A5 (den ω a81).toL 1 0).toI = ((den ω a82).toL.length : Int)) = true
       rw [d16, d17, j4, r6]; exact decide_eq_true rfl
     · show decide (((den ω E9).toL.length : Int) ≤ 1000000) = true
       rw [d18, j4, r6]; exact decide_eq_true (by omega)
     · have hb := bj8 d20
       show ((decide ((0 : Int) ≤ 0) && decide ((0 : Int) ≤ ((den ω E9).toL.length : Int))) && (decide (dI ω a83 ≤ ((den ω E9).toL.length : Int)) && dB ω (.op .bok [a84]))) = true
       rw [hb, i19, d18, j4, r6, decide_eq_true (Int.le_refl (0 : Int)), decide_eq_true (show (0 : Int) ≤ ((n5 s).length : Int) by omega), decide_eq_true (Int.le_refl ((n5 s).length : Int))]; rfl
     · show some (0, [den ω (.op .bstr [a84])]) = _
       rw [b89 d20]
section
variable {ω : Opq} (hf : ∀ i a, ω.f i a = F i a)
include hf
theorem c02 (e : SX) : den ω (.app 366 [.ci 2, .ci 0, e]) = .vs (n5 (dS ω e)) := by
 show ω.f 366 [.vi 2, .vi 0, den ω e] = _
 rw [hf]; rfl
theorem br2 (e : SX) : den ω (.app 366 [.ci 1, e, .cs []]) = .vs (m9 (dI ω e)) := by
 show ω.f 366 [.vi 1, den ω e, .vs []] = _
 rw [hf]; rfl
end
theorem aY4 {ω : Opq} {a b : SX} {x y : List UInt8} (ha : den ω a = .vs x) (hb : den ω b = .vs y) : den ω (.op .cat [a, b]) = .vs (x ++ y) := by
 show Val.vs ((den ω a).toS ++ (den ω b).toS) = _
 rw [ha, hb]; rfl
theorem aY5 {ω : Opq} {a b : SX} {x y : List UInt8} (ha : den ω a = .vs x) (hb : den ω b = .vs y) (h : (x.length : Int) + (y.length : Int) < 4294967296) : dB ω (.op (.cmp .lss) [.op .iadd [.op .slen [a], .op .slen [b]], .ci 4294967296]) = true :=
 bj1 (n := 4294967296) (by rw [ha]; rfl) (by rw [hb]; rfl) h
theorem bj9 {ω : Opq} {a : SX} {x : List UInt8} (ha : den ω a = .vs x) (h : x.length ≤ 1000) : dB ω (.op (.cmp .leq) [.op .slen [a], .ci 1000]) = true := by
 show decide (((den ω a).toS.length : Int) ≤ 1000) = true
 rw [ha, w9]; exact decide_eq_true (by omega)
theorem az4 {ω : Opq} : den ω (.cs []) = .vs [] := rfl
theorem ci5 {ω : Opq} (hf : ∀ i a, ω.f i a = F i a) (hn : (ω.w 0).toS.length ≤ 1000) : j3 aM8 ω = some (0, [F 306 [ω.w 0, ω.w 1, ω.w 2]]) := by
 have d0 := c02 hf (.va 0)
 have d2 := br2 hf (.va 2)
 have d4 : den ω aM7 = .vs (m9 (ω.w 1).toI) := br2 hf (.va 1)
 have d1 : den ω b73 = .vs ([] ++ n5 (ω.w 0).toS) := aY4 az4 d0
 have d3 : den ω aM6 = .vs ([] ++ n5 (ω.w 0).toS ++ m9 (ω.w 2).toI) := aY4 d1 d2
 have l0 := M7 hn
 have l1 := n7 (ω.w 2).toI
 have l2 := n7 (ω.w 1).toI
 unfold aM8
 refine i5 (decide_eq_true (show ((ω.w 0).toS.length : Int) ≤ 1000 by omega)) (i5 (aY5 az4 d0 ?_) (i5 (bj9 az4 (by simp)) (i5 (aY5 d1 d2 ?_) (i5 (aY5 d3 d4 ?_) ?_))))
 · show (([] : List UInt8).length : Int) + ((n5 (ω.w 0).toS).length : Int) < _
   simp only [List.length_nil]; omega
 · show (([] ++ n5 (ω.w 0).toS : List UInt8).length : Int) + ((m9 (ω.w 2).toI).length : Int) < _
   rw [l1, List.nil_append]; omega
 · show (([] ++ n5 (ω.w 0).toS ++ m9 (ω.w 2).toI : List UInt8).length : Int) + ((m9 (ω.w 1).toI).length : Int) < _
   rw [l2, List.nil_append, List.length_append, l1]; omega
 · show some (0, [den ω (.op .cat [aM6, aM7])]) = _
   rw [aY4 d3 d4]; rfl
theorem cu0 {ω : Opq} (hf : ∀ i a, ω.f i a = F i a) (hn : (ω.w 0).toS.length ≤ 1000) : j3 bi2 ω = some (0, [F 307 [ω.w 0, ω.w 1, ω.w 2]]) := by
 have d0 := br2 hf (.va 2)
 have d2 := c02 hf (.va 0)
 have d4 : den ω bi1 = .vs (m9 (ω.w 1).toI) := br2 hf (.va 1)
 have d1 : den ω bJ9 = .vs ([] ++ m9 (ω.w 2).toI) := aY4 az4 d0
 have d3 : den ω bi0 = .vs ([] ++ m9 (ω.w 2).toI ++ n5 (ω.w 0).toS) := aY4 d1 d2
 have l0 := M7 hn
 have l1 := n7 (ω.w 2).toI
 have l2 := n7 (ω.w 1).toI
 unfold bi2
 refine i5 (bj9 az4 (by simp)) (i5 (aY5 az4 d0 ?_) (i5 (decide_eq_true (show ((ω.w 0).toS.length : Int) ≤ 1000 by omega)) (i5 (aY5 d1 d2 ?_) (i5 (aY5 d3 d4 ?_) ?_))))
 · show (([] : List UInt8).length : Int) + ((m9 (ω.w 2).toI).length : Int) < _
   rw [l1]; simp only [List.length_nil]; omega
 · show (([] ++ m9 (ω.w 2).toI : List UInt8).length : Int) + ((n5 (ω.w 0).toS).length : Int) < _
   rw [List.nil_append, l1]; omega
 · show (([] ++ m9 (ω.w 2).toI ++ n5 (ω.w 0).toS : List UInt8).length : Int) + ((m9 (ω.w 1).toI).length : Int) < _
   rw [l2, List.nil_append, List.length_append, l1]; omega
 · show some (0, [den ω (.op .cat [bi0, bi1])]) = _
   rw [aY4 d3 d4]; rfl
theorem bN9 {ω : Opq} (hf : ∀ i a, ω.f i a = F i a) : j3 a93 ω = some (0, [F 333 [ω.w 0, ω.w 1, ω.w 2, ω.w 3, ω.w 4], F 334 [ω.w 0, ω.w 1, ω.w 2, ω.w 3, ω.w 4]]) := by
 have hR : [F 333 [ω.w 0, ω.w 1, ω.w 2, ω.w 3, ω.w 4], F 334 [ω.w 0, ω.w 1, ω.w 2, ω.w 3, ω.w 4]] = [.vs (p8 (ω.w 0).toI (ω.w 1).toS (ω.w 2).toS (ω.w 3).toI (ω.w 4).toI).1, .vs (p8 (ω.w 0).toI (ω.w 1).toS (ω.w 2).toS (ω.w 3).toI (ω.w 4).toI).2] := rfl
 rw [hR]
 have e2 : dB ω (.op .not [.app 330 [.va 0, .va 1, .va 2, .va 3, .va 4]]) = !B9 (ω.w 0).toI (ω.w 1).toS (ω.w 2).toS (ω.w 3).toI (ω.w 4).toI := by
  show (!(ω.f 330 [ω.w 0, ω.w 1, ω.w 2, ω.w 3, ω.w 4]).toB) = _
  rw [hf]; rfl
 unfold a93 p8
 cases hr : B9 (ω.w 0).toI (ω.w 1).toS (ω.w 2).toS (ω.w 3).toI (ω.w 4).toI with
 | false => exact m7 (by rw [e2, hr]; rfl) rfl
 | true =>
   obtain ⟨l1, l2⟩ := aw0 hr
   obtain ⟨p1, p2⟩ := I4 (ω.w 1).toS
   obtain ⟨p3, p4⟩ := I4 (ω.w 2).toS
   have q3 := n7 (ω.w 3).toI
   have q4 := n7 (ω.w 4).toI
   have d0 := c02 hf (.va 1)
   have d2 := br2 hf (.va 3)
   have d7 : den ω a91 = .vs (n5 (ω.w 2).toS) := c02 hf (.va 2)
   have d8 : den ω a92 = .vs (m9 (ω.w 4).toI) := br2 hf (.va 4)
   have d4 : den ω O1 = .vs ([] ++ n5 (ω.w 1).toS) := aY4 az4 d0
   have d5 : den ω X4 = .vs ([] ++ m9 (ω.w 3).toI) := aY4 az4 d2
   have d6 : den ω R4 = .vs (n5 (ω.w 1).toS ++ m9 (ω.w 3).toI) := aY4 d4 d5
   have n1 : dB ω av4 = true := bj9 az4 (by simp)
   have n3 : dB ω av5 = true := aY5 az4 d2 (by
    show (([] : List UInt8).length : Int) + ((m9 (ω.w 3).toI).length : Int) < _
    rw [q3]; simp only [List.length_nil]; omega)
   refine m8 (by rw [e2, hr]; rfl) (i5 (decide_eq_true (show ((ω.w 1).toS.length : Int) ≤ 1000 by omega)) (i5 (aY5 az4 d0 ?_) ?_))
   · show (([] : List UInt8).length : Int) + ((n5 (ω.w 1).toS).length : Int) < _
     simp only [List.length_nil]; omega
   · by_cases k1 : (ω.w 0).toI = 1
     · rw [decide_eq_true k1]
       refine m7 (by show decide ((ω.w 0).toI = 1) = true; exact decide_eq_true k1) (i5 n1 (i5 n3 (i5 (aY5 d4 d5 ?_) (i5 (bj9 d6 ?_) ?_))))
       · rw [List.nil_append, List.nil_append, q3]; omega
       · rw [List.length_append, q3]; omega
       · show some (0, [den ω R4, ω.f 331 [den ω R4]]) = _
         rw [d6, hf]; rfl
     · rw [decide_eq_false k1]
       refine m8 (by show decide ((ω.w 0).toI = 1) = false; exact decide_eq_false k1) ?_
       by_cases k2 : (ω.w 0).toI = 2
       · rw [decide_eq_true k2]
         refine m7 (by show decide ((ω.w 0).toI = 2) = true; exact decide_eq_true k2) ?_
         by_cases h2 : (ω.w 2).toS = []
         · refine m7 (by show decide ((ω.w 2).toS = []) = true; exact decide_eq_true h2) ?_
           show some (0, [den ω O1, Val.vs []]) = _
           rw [d4, decide_eq_true h2]; rfl
         · refine m8 (by show decide ((ω.w 2).toS = []) = false; exact decide_eq_false h2) (i5 (decide_eq_true (show ((ω.w 2).toS.length : Int) ≤ 1000 by omega)) (i5 (aY5 az4 d7 ?_) ?_))
           · show (([] : List UInt8).length : Int) + ((n5 (ω.w 2).toS).length : Int) < _
             simp only [List.length_nil]; omega
           · show some (0, [den ω O1, den ω (.op .cat [.cs [], a91])]) = _
             rw [d4, aY4 az4 d7, decide_eq_false h2]; rfl
       · rw [decide_eq_false k2]
         refine m8 (by show decide ((ω.w 0).toI = 2) = false; exact decide_eq_false k2) (i5 n1 (i5 n3 (i5 (aY5 az4 d8 ?_) ?_)))
         · show (([] : List UInt8).length : Int) + ((m9 (ω.w 4).toI).length : Int) < _
           rw [q4]; simp only [List.length_nil]; omega
         · show some (0, [den ω X4, den ω (.op .cat [.cs [], a92])]) = _
           rw [d5, aY4 az4 d8]; rfl
def RP (x : Option (List UInt8 × Int × Int)) : List Val := [.vs (x.getD ([], 0, 0)).1, .vi (x.getD ([], 0, 0)).2.1, .vi (x.getD ([], 0, 0)).2.2, .vb x.isSome]
section
variable {ω : Opq} (hf : ∀ i a, ω.f i a = F i a)
include hf
theorem cy7 {e : SX} {s : List UInt8} (h : dS ω e = s) : dB ω (.op .not [.app 357 [e]]) = !(aw2 s).isSome := by
 show (!(ω.f 357 [den ω e]).toB) = _
 rw [hf, ← h]; rfl
theorem c57 {e : SX} {s : List UInt8} (h : dS ω e = s) : dB ω (.op .not [.app 353 [e]]) = !decide (8 ≤ s.length) := by
 show (!(ω.f 353 [den ω e]).toB) = _
 rw [hf, ← h]; rfl
theorem cG5 {e : SX} {s t r : List UInt8} (h : dS ω e = s) (hT : aw2 s = some (t, r)) : den ω (.app 356 [e]) = .vs r := by
 show ω.f 356 [den ω e] = _
 rw [hf]
 show (bif (aw2 (dS ω e)).isSome then Val.vs ((aw2 (dS ω e)).getD ([], [])).2 else den ω e) = _
 rw [h, hT]; rfl
theorem cG6 {e : SX} {s t r : List UInt8} (h : dS ω e = s) (hT : aw2 s = some (t, r)) : den ω (.app 355 [e]) = .vs t := by
 show ω.f 355 [den ω e] = _
 rw [hf]
 show Val.vs ((aw2 (dS ω e)).getD ([], [])).1 = _
 rw [h, hT]; rfl
theorem cy8 {e : SX} {s : List UInt8} (h : dS ω e = s) (h8 : 8 ≤ s.length) : den ω (.app 352 [e]) = .vs (s.drop 8) := by
 show ω.f 352 [den ω e] = _
 rw [hf]
 show (bif decide (8 ≤ (dS ω e).length) then Val.vs ((dS ω e).drop 8) else den ω e) = _
 rw [h, decide_eq_true h8]; rfl
theorem c03 {e : SX} {s : List UInt8} (h : dS ω e = s) (h8 : 8 ≤ s.length) : den ω (.app 351 [e]) = .vi (Q1 s) := by
 show ω.f 351 [den ω e] = _
 rw [hf]
 show Val.vi (bif decide (8 ≤ (dS ω e).length) then Q1 (dS ω e) else 0) = _
 rw [h, decide_eq_true h8]; rfl
end
theorem S0 {s : List UInt8} (h : ¬ 8 ≤ s.length) : ag9 s = none := by unfold ag9; rw [decide_eq_false h]; rfl
theorem G9 {s : List UInt8} (h : 8 ≤ s.length) : ag9 s = some (Q1 s, s.drop 8) := by unfold ag9; rw [decide_eq_true h]; rfl
theorem F2 {ω : Opq} {e : SX} {x : List UInt8} (h : den ω e = .vs x) : dS ω e = x := by show (den ω e).toS = x; rw [h]; rfl
theorem ci6 {ω : Opq} (hf : ∀ i a, ω.f i a = F i a) (hn : (ω.w 0).toS.length ≤ 1000) : j3 aL8 ω = some (0, [F 370 [ω.w 0], F 371 [ω.w 0], F 372 [ω.w 0], F 373 [ω.w 0]]) := by
 have hR : [F 370 [ω.w 0], F 371 [ω.w 0], F 372 [ω.w 0], F 373 [ω.w 0]] = RP (C1 (ω.w 0).toS) := rfl
 rw [hR]
 obtain ⟨s, hs⟩ : ∃ s, (ω.w 0).toS = s := ⟨_, rfl⟩
 have hs0 : dS ω (.va 0) = s := hs
 rw [hs] at hn ⊢
 unfold aL8
 refine i5 (by show decide (((ω.w 0).toS.length : Int) ≤ 1000) = true; rw [hs]; exact decide_eq_true (by omega)) ?_
 cases hT : aw2 s with
 | none =>
   have : C1 s = none := by unfold C1; rw [hT]
   rw [this]
   exact m7 (by rw [cy7 hf hs0, hT]; rfl) rfl
 | some p =>
   obtain ⟨t, r⟩ := p
   have h6 := cG5 hf hs0 hT
   have hs6 := F2 h6
   have hrl : r.length ≤ s.length := by rw [Z9 hT, List.length_append]; omega
   refine m8 (by rw [cy7 hf hs0, hT]; rfl) (i5 (bj9 h6 (by omega)) ?_)
   by_cases h8 : 8 ≤ r.length
   · have h2 : den ω X2 = .vs (r.drop 8) := cy8 hf hs6 h8
     have hs2 := F2 h2
     refine m8 (by rw [c57 hf hs6, decide_eq_true h8]; rfl) (i5 (bj9 h2 (by rw [List.length_drop]; omega)) ?_)
     by_cases h9 : 8 ≤ (r.drop 8).length
     · have h3 := cy8 hf hs2 h9
       refine m8 (by rw [c57 hf hs2, decide_eq_true h9]; rfl) ?_
       have hrd : C1 s = bif decide ((r.drop 8).drop 8 = []) then some (t, Q1 (r.drop 8), Q1 r) else none := by unfold C1; rw [hT]; simp only; rw [G9 h8]; simp only; rw [G9 h9]
       by_cases he : (r.drop 8).drop 8 = []
       · rw [hrd, decide_eq_true he]
         refine m8 (by show (!decide (dS ω (.app 352 [X2]) = [])) = false; rw [F2 h3, decide_eq_true he]; rfl) ?_
         show some (0, [den ω (.app 355 [.va 0]), den ω (.app 351 [X2]), den ω (.app 351 [.app 356 [.va 0]]), Val.vb true]) = _
         rw [cG6 hf hs0 hT, c03 hf hs2 h9, c03 hf hs6 h8]; rfl
       · rw [hrd, decide_eq_false he]
         exact m7 (by show (!decide (dS ω (.app 352 [X2]) = [])) = true; rw [F2 h3, decide_eq_false he]; rfl) rfl
     · have : C1 s = none := by unfold C1; rw [hT]; simp only; rw [G9 h8]; simp only; rw [S0 h9]
       rw [this]
       exact m7 (by rw [c57 hf hs2, decide_eq_false h9]; rfl) rfl
   · have : C1 s = none := by unfold C1; rw [hT]; simp only; rw [S0 h8]
     rw [this]
     exact m7 (by rw [c57 hf hs6, decide_eq_false h8]; rfl) rfl
theorem ci7 {ω : Opq} (hf : ∀ i a, ω.f i a = F i a) (hn : (ω.w 0).toS.length ≤ 1000) : j3 aL9 ω = some (0, [F 374 [ω.w 0], F 375 [ω.w 0], F 376 [ω.w 0], F 377 [ω.w 0]]) := by
 have hR : [F 374 [ω.w 0], F 375 [ω.w 0], F 376 [ω.w 0], F 377 [ω.w 0]] = RP (C3 (ω.w 0).toS) := rfl
 rw [hR]
 obtain ⟨s, hs⟩ : ∃ s, (ω.w 0).toS = s := ⟨_, rfl⟩
 have hs0 : dS ω (.va 0) = s := hs
 rw [hs] at hn ⊢
 unfold aL9
 refine i5 (by show decide (((ω.w 0).toS.length : Int) ≤ 1000) = true; rw [hs]; exact decide_eq_true (by omega)) ?_
 by_cases h8 : 8 ≤ s.length
 · have h2 := cy8 hf hs0 h8
   have hs2 := F2 h2
   refine m8 (by rw [c57 hf hs0, decide_eq_true h8]; rfl) (i5 (bj9 h2 (by rw [List.length_drop]; omega)) ?_)
   cases hT : aw2 (s.drop 8) with
   | none =>
     have : C3 s = none := by unfold C3; rw [G9 h8]; simp only; rw [hT]
     rw [this]
     exact m7 (by rw [cy7 hf hs2, hT]; rfl) rfl
   | some p =>
     obtain ⟨t, r⟩ := p
     have h6 : den ω X3 = .vs r := cG5 hf hs2 hT
     have hs6 := F2 h6
     have hrl : r.length ≤ (s.drop 8).length := by
      conv => rhs; rw [Z9 hT, List.length_append]
      omega
     rw [List.length_drop] at hrl
     refine m8 (by rw [cy7 hf hs2, hT]; rfl) (i5 (bj9 h6 (by omega)) ?_)
     by_cases h9 : 8 ≤ r.length
     · have h3 := cy8 hf hs6 h9
       refine m8 (by rw [c57 hf hs6, decide_eq_true h9]; rfl) ?_
       have hrd : C3 s = bif decide (r.drop 8 = []) then some (t, Q1 r, Q1 s) else none := by unfold C3; rw [G9 h8]; simp only; rw [hT]; simp only; rw [G9 h9]
       by_cases he : r.drop 8 = []
       · rw [hrd, decide_eq_true he]
         refine m8 (by show (!decide (dS ω (.app 352 [X3]) = [])) = false; rw [F2 h3, decide_eq_true he]; rfl) ?_
         show some (0, [den ω (.app 355 [.app 352 [.va 0]]), den ω (.app 351 [X3]), den ω (.app 351 [.va 0]), Val.vb true]) = _
         rw [cG6 hf hs2 hT, c03 hf hs6 h9, c03 hf hs0 h8]; rfl
       · rw [hrd, decide_eq_false he]
         exact m7 (by show (!decide (dS ω (.app 352 [X3]) = [])) = true; rw [F2 h3, decide_eq_false he]; rfl) rfl
     · have : C3 s = none := by unfold C3; rw [G9 h8]; simp only; rw [hT]; simp only; rw [S0 h9]
       rw [this]
       exact m7 (by rw [c57 hf hs6, decide_eq_false h9]; rfl) rfl
 · have : C3 s = none := by unfold C3; rw [S0 h8]
   rw [this]
   exact m7 (by rw [c57 hf hs0, decide_eq_false h8]; rfl) rfl
theorem ad8 (s : List UInt8) : ∀ (f i : Nat) (o : List UInt8), o.length ≤ i → ∀ {c j : Nat} {p : List UInt8}, bq0 s f i o = (c, j, p) → Nat.beq c 1 = true → j + 1 < s.length ∧ p.length ≤ j
 | 0, i, o, ho, c, j, p, h, hc => by
   unfold bq0 at h
   simp only [Prod.mk.injEq] at h
   rw [← h.1] at hc; cases hc
 | f + 1, i, o, ho, c, j, p, h, hc => by
   unfold bq0 at h
   by_cases h1 : i + 1 < s.length
   · rw [decide_eq_true h1, cond_true] at h
     by_cases h2 : s.getD i 0 = 0
     · rw [decide_eq_true h2, cond_true] at h
       by_cases h3 : s.getD (i + 1) 0 = 0
       · rw [decide_eq_true h3, cond_true] at h
         simp only [Prod.mk.injEq] at h
         obtain ⟨_, rfl, rfl⟩ := h
         exact ⟨h1, ho⟩
       · rw [decide_eq_false h3, cond_false] at h
         exact ad8 s f (i + 2) _ (by simp; omega) h hc
     · rw [decide_eq_false h2, cond_false] at h
       exact ad8 s f (i + 1) _ (by simp; omega) h hc
   · rw [decide_eq_false h1, cond_false] at h
     simp only [Prod.mk.injEq] at h
     rw [← h.1] at hc; cases hc
def rn (s : List UInt8) : Nat := bif Nat.beq (ah1 s).1 1 then (ah1 s).2.1 + 2 else 0
def rt (s : List UInt8) : List UInt8 := bif Nat.beq (ah1 s).1 1 then (ah1 s).2.2 else []
theorem cu1 (s : List UInt8) : rn s ≤ s.length ∧ (rt s).length ≤ s.length := by
 unfold rn rt
 generalize h : ah1 s = D
 obtain ⟨c, j, p⟩ := D
 cases hc : Nat.beq c 1 with
 | false => simp [hc]
 | true =>
   have := ad8 s (s.length + 1) 0 [] (Nat.le_refl _) h hc
   simp only [hc, cond_true]; omega
theorem c58 (t r : List UInt8) : rn (n5 t ++ r) = (n5 t).length ∧ rt (n5 t ++ r) = t := by
 have hl : t.length < (n5 t ++ r).length + 1 := by
  have := av8 t
  unfold n5
  simp only [List.length_append]; omega
 have h : ah1 (n5 t ++ r) = (1, 0 + (s8 t).length, [] ++ t) := aN8 t _ r _ 0 [] rfl hl
 unfold rn rt
 rw [h]
 refine ⟨?_, rfl⟩
 show 0 + (s8 t).length + 2 = (n5 t).length
 unfold n5; simp
theorem ci8 {s : List UInt8} (h : rn s ≠ 0) : Nat.beq (ah1 s).1 1 = true := by
 unfold rn at h
 cases hc : Nat.beq (ah1 s).1 1 with
 | true => rfl
 | false => rw [hc] at h; exact absurd rfl h
section
variable {ω : Opq} (hf : ∀ i a, ω.f i a = F i a)
include hf
theorem cG7 {e : SX} {s : List UInt8} (h : dS ω e = s) : den ω (.app 361 [e]) = .vi (rn s) := by
 show ω.f 361 [den ω e] = _
 rw [hf]
 show Val.vi (bif Nat.beq (ah1 (dS ω e)).1 1 then ((ah1 (dS ω e)).2.1 + 2 : Nat) else 0) = _
 rw [h]
 unfold rn
 cases Nat.beq (ah1 s).1 1 <;> rfl
theorem cu2 {e : SX} {s : List UInt8} (h : dS ω e = s) : den ω (.app 360 [e]) = .vs (rt s) := by
 show ω.f 360 [den ω e] = _
 rw [hf, ← h]; rfl
theorem cI6 {e : SX} {s : List UInt8} (h : dS ω e = s) : den ω (.app 358 [e]) = .vi (bif decide (8 ≤ s.length) then 8 else 0) := by
 show ω.f 358 [den ω e] = _
 rw [hf, ← h]; rfl
theorem cu3 {e : SX} {s : List UInt8} (h : dS ω e = s) (hk : rn s ≠ 0) : den ω (.app 366 [.app 359 [e], .ci 0, .app 360 [e]]) = .vs (n5 (rt s)) := by
 show ω.f 366 [ω.f 359 [den ω e], .vi 0, den ω (.app 360 [e])] = _
 rw [cu2 hf h, hf, hf]
 show Val.vs (bif decide ((bif Nat.beq (ah1 (dS ω e)).1 1 then (2 : Int) else 0) = 1) then m9 0 else n5 (rt s)) = _
 rw [h, ci8 hk]; rfl
theorem c04 {e : SX} {s : List UInt8} (h : dS ω e = s) (h8 : 8 ≤ s.length) : den ω (.app 366 [.app 350 [e], .app 351 [e], .cs []]) = .vs (m9 (Q1 s)) := by
 show ω.f 366 [ω.f 350 [den ω e], den ω (.app 351 [e]), .vs []] = _
 rw [c03 hf h h8, hf, hf]
 show Val.vs (bif decide ((bif decide (8 ≤ (dS ω e).length) then (1 : Int) else 0) = 1) then m9 (Q1 s) else n5 []) = _
 rw [h, decide_eq_true h8]; rfl
end
theorem ad9 {ω : Opq} {i : SX} {s : List UInt8} {k : Nat} (hs : (ω.w 0).toS = s) (hi : den ω i = .vi k) : dS ω (.op .ssub [.va 0, i, .op .slen [.va 0]]) = s.drop k := by
 show ((ω.w 0).toS.drop (den ω i).toI.toNat).take (((ω.w 0).toS.length : Int) - (den ω i).toI).toNat = _
 rw [hs, hi, j1, Int.toNat_natCast, aa3]
theorem bk0 {ω : Opq} {i j : SX} {a b : Nat} (hi : den ω i = .vi a) (hj : den ω j = .vi b) (h : a + b ≤ 1000000) : den ω (.op (.ar .add .i64) [i, j]) = .vi (a + b : Nat) := by
 show Val.vi (arI .add .i64 (den ω i).toI (den ω j).toI) = _
 rw [hi, hj, j1, j1, az1 (by omega) (by omega)]
 congr 1
theorem c05 {ω : Opq} {i : SX} {s : List UInt8} {k : Nat} (hs : (ω.w 0).toS = s) (hi : den ω i = .vi k) (h : k ≤ s.length) : dB ω (.op .and [.op (.cmp .leq) [.ci 0, i], .op (.cmp .leq) [i, .op .slen [.va 0]]]) = true := by
 show (decide ((0 : Int) ≤ (den ω i).toI) && decide ((den ω i).toI ≤ ((ω.w 0).toS.length : Int))) = true
 rw [hi, hs, j1, decide_eq_true (show (0 : Int) ≤ (k : Int) by omega), decide_eq_true (show (k : Int) ≤ (s.length : Int) by omega)]; rfl
theorem aE6 {ω : Opq} {e : SX} {s : List UInt8} (h : dS ω e = s) (hl : s.length ≤ 1000) : dB ω (.op (.cmp .leq) [.op .slen [e], .ci 1000]) = true := by
 show decide (((dS ω e).length : Int) ≤ 1000) = true
 rw [h]; exact decide_eq_true (by omega)
theorem eqz {ω : Opq} {e : SX} {k : Nat} (h : den ω e = .vi k) : dB ω (.op (.cmp .eql) [e, .ci 0]) = decide (k = 0) := by
 show decide ((den ω e).toI = 0) = _
 rw [h, j1]
 by_cases hk : k = 0
 · rw [decide_eq_true hk, decide_eq_true (by omega)]
 · rw [decide_eq_false hk, decide_eq_false (by omega)]
theorem g8 {ω : Opq} {e : SX} {s : List UInt8} (hf : ∀ i a, ω.f i a = F i a) (h : dS ω e = s) : den ω (.app 358 [e]) = .vi ((bif decide (8 ≤ s.length) then 8 else 0 : Nat) : Int) := by
 rw [cI6 hf h]
 cases decide (8 ≤ s.length) <;> rfl
theorem c06 {ω : Opq} (hf : ∀ i a, ω.f i a = F i a) (hn : (ω.w 0).toS.length ≤ 1000) : j3 aj5 ω = some (0, [F 370 [ω.w 0], F 371 [ω.w 0], F 372 [ω.w 0], F 373 [ω.w 0]]) := by
 have hR : [F 370 [ω.w 0], F 371 [ω.w 0], F 372 [ω.w 0], F 373 [ω.w 0]] = RP (C1 (ω.w 0).toS) := rfl
 rw [hR]
 obtain ⟨s, hs⟩ : ∃ s, (ω.w 0).toS = s := ⟨_, rfl⟩
 rw [hs] at hn ⊢
 have h0 : dS ω L9 = s := ad9 (k := 0) hs rfl
 obtain ⟨b1, b2⟩ := cu1 s
 have z361 := cG7 hf h0
 have key : ∀ {t : List UInt8} {b e : Int}, C1 s = some (t, b, e) → s = n5 t ++ m9 e ++ m9 b ∧ rn s = (n5 t).length ∧ rt s = t := fun {t b e} h => by
  obtain ⟨h1, _, _⟩ := aw4 h
  rw [List.append_assoc] at h1
  have h2 := c58 t (m9 e ++ m9 b)
  rw [← h1] at h2
  exact ⟨by rw [List.append_assoc]; exact h1, h2.1, h2.2⟩
 unfold aj5
 refine i5 (aE6 h0 hn) ?_
 by_cases hk : rn s = 0
 · have : C1 s = none := by
    cases hr : C1 s with
    | none => rfl
    | some p =>
      obtain ⟨t, b, e⟩ := p
      have := key hr
      have hp := (I4 t).1
      omega
   rw [this]
   exact m7 (by rw [eqz z361, decide_eq_true hk]) rfl
 · have h1 : den ω a85 = .vi (0 + rn s : Nat) := bk0 (a := 0) rfl z361 (by omega)
   rw [Nat.zero_add] at h1
   have h2 : dS ω P6 = s.drop (rn s) := ad9 hs h1
   have z2 := g8 hf h2
   refine m8 (by rw [eqz z361, decide_eq_false hk]) (i5 (c05 hs h1 b1) (i5 (aE6 h2 (by rw [List.length_drop]; omega)) ?_))
   by_cases h8 : 8 ≤ (s.drop (rn s)).length
   · rw [decide_eq_true h8, cond_true] at z2
     have l8 : rn s + 8 ≤ s.length := by rw [List.length_drop] at h8; omega
     have h3 : den ω aj4 = .vi (rn s + 8 : Nat) := bk0 h1 z2 (by omega)
     have h4 : dS ω T5 = s.drop (rn s + 8) := ad9 hs h3
     have z4 := g8 hf h4
     refine m8 (by rw [eqz z2]; rfl) (i5 (c05 hs h3 l8) (i5 (aE6 h4 (by rw [List.length_drop]; omega)) ?_))
     by_cases h9 : 8 ≤ (s.drop (rn s + 8)).length
     · rw [decide_eq_true h9, cond_true] at z4
       have d5 : den ω aM0 = .vs (n5 (rt s)) := cu3 hf h0 hk
       have d6 : den ω aM1 = .vs ([] ++ n5 (rt s)) := aY4 az4 d5
       have d7 : den ω aM2 = .vs (m9 (Q1 (s.drop (rn s)))) := c04 hf h2 h8
       have d8 : den ω a86 = .vs ([] ++ n5 (rt s) ++ m9 (Q1 (s.drop (rn s)))) := aY4 d6 d7
       have d9 : den ω a87 = .vs (m9 (Q1 (s.drop (rn s + 8)))) := c04 hf h4 h9
       have dc := aY4 d8 d9
       have hl5 := M7 (show (rt s).length ≤ 1000 by omega)
       have q7 := n7 (Q1 (s.drop (rn s)))
       have q9 := n7 (Q1 (s.drop (rn s + 8)))
       have hi7 := a35 h8
       have hi9 := a35 h9
       refine m8 (by rw [eqz z4]; rfl) (i5 (bj9 (cu2 hf h0) (by omega)) (i5 (aY5 az4 d5 ?_) (i5 (bj9 az4 (by simp)) (i5 (aY5 d6 d7 ?_) (i5 (aY5 d8 d9 ?_) ?_)))))
       · simp only [List.length_nil]; omega
       · rw [List.nil_append, q7]; omega
       · rw [List.nil_append, List.length_append, q7, q9]; omega
       · by_cases he : n5 (rt s) ++ m9 (Q1 (s.drop (rn s))) ++ m9 (Q1 (s.drop (rn s + 8))) = s
         · have hr : C1 s = some (rt s, Q1 (s.drop (rn s + 8)), Q1 (s.drop (rn s))) := by
            conv => lhs; rw [← he]
            exact aX0 _ hi9 hi7
           rw [hr]
           refine m8 ?_ ?_
           · show (!decide (dS ω (.op .cat [a86, a87]) = (ω.w 0).toS)) = false
             rw [F2 dc, hs, List.nil_append, decide_eq_true he]; rfl
           · show some (0, [den ω (.app 360 [L9]), den ω (.app 351 [T5]), den ω (.app 351 [P6]), Val.vb true]) = _
             rw [cu2 hf h0, c03 hf h4 h9, c03 hf h2 h8]; rfl
         · have hr : C1 s = none := by
            cases hr : C1 s with
            | none => rfl
            | some p =>
              obtain ⟨t, b, e⟩ := p
              obtain ⟨k1, k2, k3⟩ := key hr
              obtain ⟨_, ib, ie⟩ := aw4 hr
              exfalso
              refine he ?_
              have e2 : s.drop (rn s) = m9 e ++ m9 b := by
               conv => lhs; rw [k2, k1, List.append_assoc, List.drop_left]
              have e4 : s.drop (rn s + 8) = m9 b ++ [] := by
               rw [← List.drop_drop, e2, show (8 : Nat) = (m9 e).length from rfl, List.drop_left, List.append_nil]
              rw [k3, e2, e4, T9 ie, T9 ib]
              exact k1.symm
           rw [hr]
           refine m7 ?_ rfl
           show (!decide (dS ω (.op .cat [a86, a87]) = (ω.w 0).toS)) = true
           rw [F2 dc, hs, List.nil_append, decide_eq_false he]; rfl
     · rw [decide_eq_false h9, cond_false] at z4
       have hr : C1 s = none := by
        cases hr : C1 s with
        | none => rfl
        | some p =>
          obtain ⟨t, b, e⟩ := p
          obtain ⟨k1, k2, k3⟩ := key hr
          have hl := congrArg List.length k1
          rw [List.length_append, List.length_append, n7, n7] at hl
          rw [List.length_drop] at h9
          omega
       rw [hr]
       exact m7 (by rw [eqz z4]; rfl) rfl
   · rw [decide_eq_false h8, cond_false] at z2
     have hr : C1 s = none := by
      cases hr : C1 s with
      | none => rfl
      | some p =>
        obtain ⟨t, b, e⟩ := p
        obtain ⟨k1, k2, k3⟩ := key hr
        have hl := congrArg List.length k1
        rw [List.length_append, List.length_append, n7, n7] at hl
        rw [List.length_drop] at h8
        omega
     rw [hr]
     exact m7 (by rw [eqz z2]; rfl) rfl
theorem c07 {ω : Opq} (hf : ∀ i a, ω.f i a = F i a) (hn : (ω.w 0).toS.length ≤ 1000) : j3 aj7 ω = some (0, [F 374 [ω.w 0], F 375 [ω.w 0], F 376 [ω.w 0], F 377 [ω.w 0]]) := by
 have hR : [F 374 [ω.w 0], F 375 [ω.w 0], F 376 [ω.w 0], F 377 [ω.w 0]] = RP (C3 (ω.w 0).toS) := rfl
 rw [hR]
 obtain ⟨s, hs⟩ : ∃ s, (ω.w 0).toS = s := ⟨_, rfl⟩
 rw [hs] at hn ⊢
 have h0 : dS ω P7 = s := ad9 (k := 0) hs rfl
 have z0 := g8 hf h0
 have key : ∀ {t : List UInt8} {b e : Int}, C3 s = some (t, b, e) → s = m9 e ++ (n5 t ++ m9 b) ∧ s.drop 8 = n5 t ++ m9 b ∧ rn (s.drop 8) = (n5 t).length ∧ rt (s.drop 8) = t := fun {t b e} h => by
  obtain ⟨h1, _, _⟩ := aw5 h
  rw [List.append_assoc] at h1
  have hd : s.drop 8 = n5 t ++ m9 b := by
   conv => lhs; rw [h1, show (8 : Nat) = (m9 e).length from rfl, List.drop_left]
  have h2 := c58 t (m9 b)
  rw [← hd] at h2
  exact ⟨h1, hd, h2.1, h2.2⟩
 unfold aj7
 refine i5 (aE6 h0 hn) ?_
 by_cases h8 : 8 ≤ s.length
 · rw [decide_eq_true h8, cond_true] at z0
   have h1 : den ω a88 = .vi (0 + 8 : Nat) := bk0 (a := 0) rfl z0 (by omega)
   rw [Nat.zero_add] at h1
   have h2 : dS ω M0 = s.drop 8 := ad9 hs h1
   obtain ⟨b1, b2⟩ := cu1 (s.drop 8)
   have z2 := cG7 hf h2
   rw [List.length_drop] at b1 b2
   refine m8 (by rw [eqz z0]; rfl) (i5 (c05 hs h1 h8) (i5 (aE6 h2 (by rw [List.length_drop]; omega)) ?_))
   by_cases hk : rn (s.drop 8) = 0
   · have : C3 s = none := by
      cases hr : C3 s with
      | none => rfl
      | some p =>
        obtain ⟨t, b, e⟩ := p
        have := (key hr).2.2.1
        have hp := (I4 t).1
        omega
     rw [this]
     exact m7 (by rw [eqz z2, decide_eq_true hk]) rfl
   · have h3 : den ω aj6 = .vi (8 + rn (s.drop 8) : Nat) := bk0 h1 z2 (by omega)
     have h4 : dS ω T6 = s.drop (8 + rn (s.drop 8)) := ad9 hs h3
     have z4 := g8 hf h4
     refine m8 (by rw [eqz z2, decide_eq_false hk]) (i5 (c05 hs h3 (by omega)) (i5 (aE6 h4 (by rw [List.length_drop]; omega)) ?_))
     by_cases h9 : 8 ≤ (s.drop (8 + rn (s.drop 8))).length
     · rw [decide_eq_true h9, cond_true] at z4
       have d5 : den ω aM3 = .vs (m9 (Q1 s)) := c04 hf h0 h8
       have d6 : den ω aM4 = .vs ([] ++ m9 (Q1 s)) := aY4 az4 d5
       have d7 : den ω aM5 = .vs (n5 (rt (s.drop 8))) := cu3 hf h2 hk
       have d8 : den ω a89 = .vs ([] ++ m9 (Q1 s) ++ n5 (rt (s.drop 8))) := aY4 d6 d7
       have d9 : den ω a90 = .vs (m9 (Q1 (s.drop (8 + rn (s.drop 8))))) := c04 hf h4 h9
       have dc := aY4 d8 d9
       have hl5 := M7 (show (rt (s.drop 8)).length ≤ 1000 by omega)
       have q7 := n7 (Q1 s)
       have q9 := n7 (Q1 (s.drop (8 + rn (s.drop 8))))
       have hi7 := a35 h8
       have hi9 := a35 h9
       refine m8 (by rw [eqz z4]; rfl) (i5 (bj9 az4 (by simp)) (i5 (aY5 az4 d5 ?_) (i5 (bj9 (cu2 hf h2) (by omega)) (i5 (aY5 d6 d7 ?_) (i5 (aY5 d8 d9 ?_) ?_)))))
       · rw [q7]; simp only [List.length_nil]; omega
       · rw [List.nil_append, q7]; omega
       · rw [List.nil_append, List.length_append, q7, q9]; omega
       · by_cases he : m9 (Q1 s) ++ n5 (rt (s.drop 8)) ++ m9 (Q1 (s.drop (8 + rn (s.drop 8)))) = s
         · have hr : C3 s = some (rt (s.drop 8), Q1 (s.drop (8 + rn (s.drop 8))), Q1 s) := by
            conv => lhs; rw [← he]
            exact aX1 _ hi9 hi7
           rw [hr]
           refine m8 ?_ ?_
           · show (!decide (dS ω (.op .cat [a89, a90]) = (ω.w 0).toS)) = false
             rw [F2 dc, hs, List.nil_append, decide_eq_true he]; rfl
           · show some (0, [den ω (.app 360 [M0]), den ω (.app 351 [T6]), den ω (.app 351 [P7]), Val.vb true]) = _
             rw [cu2 hf h2, c03 hf h4 h9, c03 hf h0 h8]; rfl
         · have hr : C3 s = none := by
            cases hr : C3 s with
            | none => rfl
            | some p =>
              obtain ⟨t, b, e⟩ := p
              obtain ⟨k1, k0, k2, k3⟩ := key hr
              obtain ⟨_, ib, ie⟩ := aw5 hr
              exfalso
              refine he ?_
              have e4 : s.drop (8 + rn (s.drop 8)) = m9 b ++ [] := by
               rw [← List.drop_drop, k0]
               rw [k0] at k2
               rw [k2, List.drop_left, List.append_nil]
              have e1 : Q1 s = e := by
               conv => lhs; rw [k1]
               exact T9 ie _
              rw [k3, e4, T9 ib, e1, List.append_assoc]
              exact k1.symm
           rw [hr]
           refine m7 ?_ rfl
           show (!decide (dS ω (.op .cat [a89, a90]) = (ω.w 0).toS)) = true
           rw [F2 dc, hs, List.nil_append, decide_eq_false he]; rfl
     · rw [decide_eq_false h9, cond_false] at z4
       have hr : C3 s = none := by
        cases hr : C3 s with
        | none => rfl
        | some p =>
          obtain ⟨t, b, e⟩ := p
          obtain ⟨k1, k0, k2, k3⟩ := key hr
          have hl := congrArg List.length k1
          rw [List.length_append, List.length_append, n7, n7] at hl
          rw [List.length_drop] at h9
          omega
       rw [hr]
       exact m7 (by rw [eqz z4]; rfl) rfl
 · rw [decide_eq_false h8, cond_false] at z0
   have hr : C3 s = none := by unfold C3; rw [S0 h8]
   rw [hr]
   exact m7 (by rw [eqz z0]; rfl) rfl
theorem bO0 : ∀ (m : Nat) (x : List UInt8), ltB x (List.replicate m 255) = false ↔ ∃ r, x = List.replicate m 255 ++ r
 | 0, x => by
   constructor
   · intro _; exact ⟨x, rfl⟩
   · intro _; cases x <;> rfl
 | m + 1, [] => by
   constructor
   · intro h; cases h
   · rintro ⟨r, h⟩; cases h
 | m + 1, b :: y => by
   rw [List.replicate_succ, ← Bool.not_eq_true, r5]
   have ih := bO0 m y
   rw [← Bool.not_eq_true] at ih
   have hb := b.toNat_lt
   have e255 : (255 : UInt8).toNat = 255 := rfl
   constructor
   · intro h
     have h1 : b = 255 := UInt8.toNat_inj.1 (by rw [e255]; omega)
     obtain ⟨r, hr⟩ := ih.1 (fun h2 => h (.inr ⟨h1, h2⟩))
     exact ⟨r, by rw [h1, hr]; rfl⟩
   · rintro ⟨r, h⟩
     have h1 := (List.cons.inj h).1
     have h2 := ih.2 ⟨r, (List.cons.inj h).2⟩
     rintro (h3 | h3)
     · rw [h1, e255] at h3; omega
     · exact h2 h3.2
theorem aY6 {c : UInt8} (hc : ¬ c = 255) (m : Nat) : ∀ (A x : List UInt8), (ltB x (A ++ c :: List.replicate m 255) = false ∧ ltB x (A ++ [c + 1]) = true) ↔ ∃ r, x = A ++ c :: List.replicate m 255 ++ r
 | [], [] => by
   constructor
   · rintro ⟨h, _⟩; cases h
   · rintro ⟨r, h⟩; cases h
 | [], b :: y => by
   have hc1 : (c + 1).toNat = c.toNat + 1 := by
    rw [UInt8.toNat_add]
    have := c.toNat_lt
    have h255 : c.toNat ≠ 255 := fun h => hc (UInt8.toNat_inj.1 h)
    show (c.toNat + 1) % 256 = _
    omega
   simp only [List.nil_append]
   rw [← Bool.not_eq_true, r5, r5]
   have ih := bO0 m y
   rw [← Bool.not_eq_true] at ih
   have hnil : ¬ ltB y [] = true := fun h => by cases y <;> cases h
   constructor
   · rintro ⟨h1, h2⟩
     have hb : b = c := by
      refine UInt8.toNat_inj.1 ?_
      rcases h2 with h2 | h2
      · rw [hc1] at h2
        have : ¬ b.toNat < c.toNat := fun h => h1 (.inl h)
        omega
      · exact absurd h2.2 hnil
     obtain ⟨r, hr⟩ := ih.1 (fun h => h1 (.inr ⟨hb, h⟩))
     exact ⟨r, by rw [hb, hr]; rfl⟩
   · rintro ⟨r, h⟩
     have hb : b = c := (List.cons.inj h).1
     have h2 := ih.2 ⟨r, (List.cons.inj h).2⟩
     refine ⟨?_, .inl (by rw [hb, hc1]; omega)⟩
     rintro (h3 | h3)
     · rw [hb] at h3; omega
     · exact h2 h3.2
 | a :: A, [] => by
   constructor
   · rintro ⟨h, _⟩; cases h
   · rintro ⟨r, h⟩; cases h
 | a :: A, b :: y => by
   have ih := aY6 hc m A y
   simp only [List.cons_append]
   rw [← Bool.not_eq_true, r5, r5]
   rw [← Bool.not_eq_true] at ih
   constructor
   · rintro ⟨h1, h2⟩
     rcases h2 with h2 | ⟨h2, h3⟩
     · exact absurd (.inl h2) h1
     · obtain ⟨r, hr⟩ := ih.1 ⟨fun h => h1 (.inr ⟨h2, h⟩), h3⟩
       exact ⟨r, by rw [h2, hr]⟩
   · rintro ⟨r, h⟩
     have hb := (List.cons.inj h).1
     obtain ⟨h1, h2⟩ := ih.2 ⟨r, (List.cons.inj h).2⟩
     refine ⟨?_, .inr ⟨hb, h2⟩⟩
     rintro (h3 | h3)
     · rw [hb] at h3; omega
     · exact h1 h3.2
theorem aY7 (l : List UInt8) : ∀ (n : Nat) {m : Nat}, F0 l n = m + 1 → m < n ∧ ¬ l.getD m 0 = 255 ∧ ∀ j, m < j → j < n → l.getD j 0 = 255
 | 0, m, h => by cases h
 | n + 1, m, h => by
   unfold F0 at h
   by_cases hb : l.getD n 0 = 255
   · rw [decide_eq_true hb, cond_true] at h
     obtain ⟨h1, h2, h3⟩ := aY7 l n h
     refine ⟨by omega, h2, fun j hj hj2 => ?_⟩
     by_cases hjn : j = n
     · rw [hjn]; exact hb
     · exact h3 j hj (by omega)
   · rw [decide_eq_false hb, cond_false] at h
     obtain rfl : n = m := by omega
     exact ⟨by omega, hb, fun j hj hj2 => absurd hj2 (by omega)⟩
theorem aY8 (l : List UInt8) : ∀ (n : Nat), F0 l n = 0 → ∀ j, j < n → l.getD j 0 = 255
 | 0, _, j, hj => absurd hj (Nat.not_lt_zero _)
 | n + 1, h, j, hj => by
   unfold F0 at h
   by_cases hb : l.getD n 0 = 255
   · rw [decide_eq_true hb, cond_true] at h
     by_cases hjn : j = n
     · rw [hjn]; exact hb
     · exact aY8 l n h j (by omega)
   · rw [decide_eq_false hb, cond_false] at h; cases h
theorem br3 {P : List UInt8} (h0 : (0 : UInt8) ∈ P) (x : List UInt8) : (ltB x P = false ∧ ((F1 P).1 = [] ∨ ltB x (F1 P).1 = true)) ↔ ∃ r, x = P ++ r := by
 obtain ⟨i, hi, he⟩ := List.getElem_of_mem h0
 have hne : F0 P P.length ≠ 0 := fun h => by
  have := aY8 P P.length h i hi
  rw [List.getD_eq_getElem?_getD, List.getElem?_eq_getElem hi, Option.getD_some, he] at this
  cases this
 obtain ⟨m, hm⟩ : ∃ m, F0 P P.length = m + 1 := ⟨F0 P P.length - 1, by omega⟩
 obtain ⟨h1, h2, h3⟩ := aY7 P P.length hm
 have ha : F1 P = (upB P m, true) := by unfold F1; rw [hm]
 have hP : P = P.take m ++ P.getD m 0 :: List.replicate (P.length - (m + 1)) 255 := by
  conv => lhs; rw [← List.take_append_drop m P, O4 h1]
  congr 2
  refine List.ext_getElem (by simp) fun j k1 k2 => ?_
  rw [List.getElem_replicate, List.getElem_drop]
  have := h3 (m + 1 + j) (by omega) (by rw [List.length_drop] at k1; omega)
  rw [List.getD_eq_getElem?_getD, List.getElem?_eq_getElem (by rw [List.length_drop] at k1; omega)] at this
  exact this
 have hup : upB P m ≠ [] := by unfold upB; simp
 rw [ha]
 simp only [hup, false_or]
 have := aY6 h2 (P.length - (m + 1)) (P.take m) x
 rw [← hP] at this
 exact this
theorem c08 {a b : Int} (ha : inI a) (hb : inI b) {x y : List UInt8} (h : m9 a ++ x = m9 b ++ y) : a = b ∧ x = y := by
 have e : a = b := by
  rw [← T9 ha x, h, T9 hb y]
 subst e
 exact ⟨rfl, List.append_cancel_left h⟩
theorem c09 {a b x y : List UInt8} (h : n5 a ++ x = n5 b ++ y) : a = b ∧ x = y := by
 have h1 := aj9 a x
 rw [h, aj9] at h1
 simp only [Option.some.injEq, Prod.mk.injEq] at h1
 exact ⟨h1.1.symm, h1.2.symm⟩
def inB (row from_ to : List UInt8) : Prop := ltB row from_ = false ∧ (to = [] ∨ ltB row to = true)
theorem bk1 {k : Int} {key to pkey : List UInt8} {least most s e : Int} (hr : B9 k key to least most = true) (i3 : inI least) (i4 : inI most) (i6 : inI s) (i7 : inI e) :
 c55 k key to least most pkey e = true ↔ inB (a36 (decide (k = 3)) pkey s e) (p8 k key to least most).1 (p8 k key to least most).2 := by
 have hnil : ∀ x : List UInt8, ltB x [] = false := fun x => by cases x <;> rfl
 unfold inB p8
 rw [hr]
 rcases aE0 hr with rfl | rfl | rfl
 · show (bif decide (pkey = key) then decide (e = least) else false) = true ↔ (ltB (n5 pkey ++ m9 e ++ m9 s) (n5 key ++ m9 least) = false ∧ ((F1 (n5 key ++ m9 least)).1 = [] ∨ ltB (n5 pkey ++ m9 e ++ m9 s) (F1 (n5 key ++ m9 least)).1 = true))
   rw [br3 (by unfold n5; simp)]
   constructor
   · intro h
     by_cases h1 : pkey = key
     · rw [decide_eq_true h1, cond_true, decide_eq_true_eq] at h
       exact ⟨m9 s, by rw [h1, h]⟩
     · rw [decide_eq_false h1] at h; cases h
   · rintro ⟨r, h⟩
     rw [List.append_assoc, List.append_assoc] at h
     obtain ⟨h1, h2⟩ := c09 h
     obtain ⟨h3, _⟩ := c08 i7 i3 h2
     rw [decide_eq_true h1, cond_true, decide_eq_true_eq]; exact h3
 · show (bif !ltB pkey key then (bif decide (to = []) then !ltB pkey key else ltB pkey to) else false) = true ↔ (ltB (n5 pkey ++ m9 e ++ m9 s) (n5 key) = false ∧ ((bif decide (to = []) then [] else n5 to) = [] ∨ ltB (n5 pkey ++ m9 e ++ m9 s) (bif decide (to = []) then [] else n5 to) = true))
   have hlt : ∀ b : List UInt8, ltB (n5 pkey ++ m9 e ++ m9 s) (n5 b) = ltB pkey b := fun b => by
    have := aN5 pkey b (m9 e ++ m9 s) []
    rw [List.append_nil, hnil] at this
    rw [Bool.eq_iff_iff, List.append_assoc, this]; simp
   rw [hlt]
   by_cases h2 : to = []
   · rw [decide_eq_true h2]; cases ltB pkey key <;> simp
   · rw [decide_eq_false h2]
     simp only [cond_false]
     rw [hlt]
     have hne : ¬ n5 to = [] := fun h => by have := (I4 to).1; rw [h] at this; cases this
     cases ltB pkey key <;> simp [hne]
 · show (bif decide (least ≤ e) then decide (e < most) else false) = true ↔ (ltB (m9 e ++ n5 pkey ++ m9 s) (m9 least) = false ∧ (m9 most = [] ∨ ltB (m9 e ++ n5 pkey ++ m9 s) (m9 most) = true))
   have hlt : ∀ n : Int, inI n → (ltB (m9 e ++ n5 pkey ++ m9 s) (m9 n) = true ↔ e < n) := fun n hn => by
    have := ad5 i7 hn (n5 pkey ++ m9 s) []
    rw [List.append_nil, hnil] at this
    rw [List.append_assoc, this]; simp
   have hne : ¬ m9 most = [] := fun h => by have := n7 most; rw [h] at this; cases this
   rw [hlt most i4, ← Bool.not_eq_true, hlt least i3]
   by_cases h1 : least ≤ e
   · rw [decide_eq_true h1]; simp [hne]; omega
   · rw [decide_eq_false h1]; simp; omega
theorem U8 {ω : Opq} {i : Nat} : dB ω (.op (.cmp .leq) [.op .slen [.va i], .ci 100]) = decide ((ω.w i).toS.length ≤ 100) := by
 show decide (((ω.w i).toS.length : Int) ≤ 100) = _
 by_cases h : (ω.w i).toS.length ≤ 100
 · rw [decide_eq_true h, decide_eq_true (by omega)]
 · rw [decide_eq_false h, decide_eq_false (by omega)]
theorem aa6 {ω : Opq} {e : SX} : dB ω (.op .beq [e, e]) = true := by
 show ((den ω e).toB == (den ω e).toB) = true
 simp
theorem X7 {ω : Opq} {i : Nat} (h : (ω.w i).toS.length ≤ 1000) : dB ω (.op (.cmp .leq) [.op .slen [.va i], .ci 1000]) = true := by
 show decide (((ω.w i).toS.length : Int) ≤ 1000) = true
 exact decide_eq_true (by omega)
theorem ci9 {ω : Opq} : j3 aM9 ω = some (0, [.vb true]) := by
 unfold aM9
 by_cases h1 : (ω.w 1).toS.length ≤ 100
 · refine m7 (by rw [U8]; exact decide_eq_true h1) ?_
   by_cases h2 : (ω.w 2).toS.length ≤ 100
   · refine m7 (by rw [U8]; exact decide_eq_true h2) ?_
     by_cases h5 : (ω.w 5).toS.length ≤ 100
     · refine m8 (by show (!dB ω (.op (.cmp .leq) [.op .slen [.va 5], .ci 100])) = false; rw [U8, decide_eq_true h5]; rfl) ?_
       by_cases h8 : (200 : Int) < ((ω.w 8).toS.length : Int)
       · exact m7 (by show decide ((200 : Int) < ((ω.w 8).toS.length : Int)) = true; exact decide_eq_true h8) rfl
       · refine m8 (by show decide ((200 : Int) < ((ω.w 8).toS.length : Int)) = false; exact decide_eq_false h8) (i5 (a10 (X7 (by omega)) (X7 (by omega))) ?_)
         have fin : ∀ e : SX, dB ω (.op .beq [e, e]) = true → j3 (.need b75 (.ite b76 (.ite b77 (.ite b78 (.need b79 (.ite (.op .beq [e, e]) (.ret 0 [.op .beq [e, e]]) (.ret 0 [.cb false]))) (.ret 0 [.cb false])) (.ret 0 [.cb false])) (.ret 0 [.cb false]))) ω = some (0, [.vb true]) := fun e he => by
          refine i5 (X7 (by omega)) (m7 aa6 (m7 aa6 (m7 aa6 (i5 (X7 (by omega)) (m7 he ?_)))))
          show some (0, [Val.vb (dB ω (.op .beq [e, e]))]) = _
          rw [he]
         by_cases h0 : (ω.w 0).toI = 3
         · exact m7 (by show decide ((ω.w 0).toI = 3) = true; exact decide_eq_true h0) (fin (.app 377 [.va 8]) aa6)
         · exact m8 (by show decide ((ω.w 0).toI = 3) = false; exact decide_eq_false h0) (fin (.app 373 [.va 8]) aa6)
     · exact m7 (by show (!dB ω (.op (.cmp .leq) [.op .slen [.va 5], .ci 100])) = true; rw [U8, decide_eq_false h5]; rfl) rfl
   · exact m8 (by rw [U8]; exact decide_eq_false h2) rfl
 · exact m8 (by rw [U8]; exact decide_eq_false h1) rfl
def fF : VT := .ret 0 [.cb false]
def g8S (row : SX) : SX := .op (.scmp .geq) [row, av6]
def cu4 (row : SX) : SX := .op .beq [O2, g8S row]
def cu5 (row : SX) : SX := .op .beq [O2, .op .ite [g8S row, .op .ite [a09, .cb true, .op (.scmp .lss) [row, U5]], .cb false]]
def cj0 (row : SX) : VT := .need bK5 (.ite bi3 (.ite bi4 (.ite af8 (.ret 0 [af8]) fF) fF) (.ite (g8S row) (.ite a09 (.ite (cu4 row) (.ret 0 [cu4 row]) fF) (.ite (cu5 row) (.ret 0 [cu5 row]) fF)) (.ite T7 (.ret 0 [T7]) fF)))
def cu6 (row : SX) (a b c d : Nat) : VT := .need bK4 (.need (.op (.cmp .leq) [.op .slen [row], .ci 1000]) (.ite (.op .not [.app d [row]]) fF (.ite (.op .not [.op .and [.op (.scmp .eql) [.app a [row], .va 5], .op .and [.op (.cmp .eql) [.app b [row], .va 6], .op (.cmp .eql) [.app c [row], .va 7]]]]) fF (cj0 row))))
theorem bO1 : bi5 = .ite (.op (.cmp .leq) [.op .slen [.va 1], .ci 100]) (.ite (.op (.cmp .leq) [.op .slen [.va 2], .ci 100]) (.ite (.op .not [.op (.cmp .leq) [.op .slen [.va 5], .ci 100]]) (.ret 0 [.cb true]) (.ite (.op (.cmp .eql) [.va 0, .ci 3]) (cu6 R5 374 375 376 377) (cu6 G8 370 371 372 373))) (.ret 0 [.cb true])) (.ret 0 [.cb true]) := rfl
theorem bO2 {ω : Opq} (hf : ∀ i a, ω.f i a = F i a) {row : SX} {R : List UInt8} (hR : dS ω row = R) (h1 : (ω.w 1).toS.length ≤ 100) (h2 : (ω.w 2).toS.length ≤ 100)
 (hH : B9 (ω.w 0).toI (ω.w 1).toS (ω.w 2).toS (ω.w 3).toI (ω.w 4).toI = true → (c55 (ω.w 0).toI (ω.w 1).toS (ω.w 2).toS (ω.w 3).toI (ω.w 4).toI (ω.w 5).toS (ω.w 7).toI = true ↔ inB R (p8 (ω.w 0).toI (ω.w 1).toS (ω.w 2).toS (ω.w 3).toI (ω.w 4).toI).1 (p8 (ω.w 0).toI (ω.w 1).toS (ω.w 2).toS (ω.w 3).toI (ω.w 4).toI).2)) :
 j3 (cj0 row) ω = some (0, [.vb true]) := by
 have d3 : dB ω bi3 = !B9 (ω.w 0).toI (ω.w 1).toS (ω.w 2).toS (ω.w 3).toI (ω.w 4).toI := by
  show (!(ω.f 330 [ω.w 0, ω.w 1, ω.w 2, ω.w 3, ω.w 4]).toB) = _
  rw [hf]; rfl
 have d4 : den ω av6 = .vs (p8 (ω.w 0).toI (ω.w 1).toS (ω.w 2).toS (ω.w 3).toI (ω.w 4).toI).1 := by
  show ω.f 333 [ω.w 0, ω.w 1, ω.w 2, ω.w 3, ω.w 4] = _
  rw [hf]; rfl
 have d6 : den ω U5 = .vs (p8 (ω.w 0).toI (ω.w 1).toS (ω.w 2).toS (ω.w 3).toI (ω.w 4).toI).2 := by
  show ω.f 334 [ω.w 0, ω.w 1, ω.w 2, ω.w 3, ω.w 4] = _
  rw [hf]; rfl
 have d10 : dB ω O2 = c55 (ω.w 0).toI (ω.w 1).toS (ω.w 2).toS (ω.w 3).toI (ω.w 4).toI (ω.w 5).toS (ω.w 7).toI := by
  show (ω.f 304 [ω.w 0, ω.w 1, ω.w 2, ω.w 3, ω.w 4, ω.w 5, ω.w 6, ω.w 7]).toB = _
  rw [hf]; rfl
 unfold cj0
 refine i5 (a10 (X7 (by omega)) (X7 (by omega))) ?_
 cases hr : B9 (ω.w 0).toI (ω.w 1).toS (ω.w 2).toS (ω.w 3).toI (ω.w 4).toI with
 | false =>
   have hb : p8 (ω.w 0).toI (ω.w 1).toS (ω.w 2).toS (ω.w 3).toI (ω.w 4).toI = ([0], [0]) := by unfold p8; rw [hr]; rfl
   rw [hb] at d4 d6
   have e5 : dB ω bi4 = true := by show decide (dS ω av6 = [0]) = true; rw [F2 d4]; rfl
   have e7 : dB ω af8 = true := by show decide (dS ω U5 = [0]) = true; rw [F2 d6]; rfl
   refine m7 (by rw [d3, hr]; rfl) (m7 e5 (m7 e7 ?_))
   show some (0, [Val.vb (dB ω af8)]) = _
   rw [e7]
 | true =>
   have hH := hH hr
   generalize c55 (ω.w 0).toI (ω.w 1).toS (ω.w 2).toS (ω.w 3).toI (ω.w 4).toI (ω.w 5).toS (ω.w 7).toI = H at hH d10
   generalize p8 (ω.w 0).toI (ω.w 1).toS (ω.w 2).toS (ω.w 3).toI (ω.w 4).toI = B at hH d4 d6
   obtain ⟨A, B⟩ := B
   simp only at hH d4 d6
   unfold inB at hH
   have e8 : dB ω (g8S row) = !ltB R A := by show (!ltB (dS ω row) (dS ω av6)) = _; rw [hR, F2 d4]
   have e9 : dB ω a09 = decide (B = []) := by show decide (dS ω U5 = []) = _; rw [F2 d6]
   have el : dB ω (.op (.scmp .lss) [row, U5]) = ltB R B := by show ltB (dS ω row) (dS ω U5) = _; rw [hR, F2 d6]
   have e11 : dB ω (cu4 row) = (H == !ltB R A) := by show (dB ω O2 == dB ω (g8S row)) = _; rw [d10, e8]
   have e12 : dB ω (cu5 row) = (H == (bif dB ω (g8S row) then (bif dB ω a09 then true else dB ω (.op (.scmp .lss) [row, U5])) else false)) := by
    show (dB ω O2 == (bif dB ω (g8S row) then (bif dB ω a09 then Val.vb true else Val.vb (dB ω (.op (.scmp .lss) [row, U5]))) else Val.vb false).toB) = _
    rw [d10]
    congr 1
    cases dB ω (g8S row) <;> cases dB ω a09 <;> rfl
   have e13 : dB ω T7 = (H == false) := by show (dB ω O2 == false) = _; rw [d10]
   rw [e8, e9, el] at e12
   refine m8 (by rw [d3, hr]; rfl) ?_
   cases ha : ltB R A with
   | true =>
     have hHf : H = false := by
      cases H with
      | false => rfl
      | true => have := (hH.1 rfl).1; rw [ha] at this; cases this
     have e13' : dB ω T7 = true := by rw [e13, hHf]; rfl
     refine m8 (by rw [e8, ha]; rfl) (m7 e13' ?_)
     show some (0, [Val.vb (dB ω T7)]) = _
     rw [e13']
   | false =>
     refine m7 (by rw [e8, ha]; rfl) ?_
     by_cases hB : B = []
     · have hHt : H = true := hH.2 ⟨ha, .inl hB⟩
       have e11' : dB ω (cu4 row) = true := by rw [e11, hHt, ha]; rfl
       refine m7 (by rw [e9]; exact decide_eq_true hB) (m7 e11' ?_)
       show some (0, [Val.vb (dB ω (cu4 row))]) = _
       rw [e11']
     · have e12' : dB ω (cu5 row) = true := by
        rw [e12, ha, decide_eq_false hB]
        cases hl : ltB R B with
        | true => rw [hH.2 ⟨ha, .inr hl⟩]; rfl
        | false =>
          have : H = false := by
           cases H with
           | false => rfl
           | true =>
             rcases (hH.1 rfl).2 with h | h
             · exact absurd h hB
             · rw [hl] at h; cases h
          rw [this]; rfl
       refine m8 (by rw [e9]; exact decide_eq_false hB) (m7 e12' ?_)
       show some (0, [Val.vb (dB ω (cu5 row))]) = _
       rw [e12']
theorem cu7 {ω : Opq} (hf : ∀ i a, ω.f i a = F i a) (i3 : inI (ω.w 3).toI) (i4 : inI (ω.w 4).toI) (i6 : inI (ω.w 6).toI) (i7 : inI (ω.w 7).toI) : j3 bi5 ω = some (0, [.vb true]) := by
 rw [bO1]
 by_cases h1 : (ω.w 1).toS.length ≤ 100
 · refine m7 (by rw [U8]; exact decide_eq_true h1) ?_
   by_cases h2 : (ω.w 2).toS.length ≤ 100
   · refine m7 (by rw [U8]; exact decide_eq_true h2) ?_
     by_cases h5 : (ω.w 5).toS.length ≤ 100
     · refine m8 (by show (!dB ω (.op (.cmp .leq) [.op .slen [.va 5], .ci 100])) = false; rw [U8, decide_eq_true h5]; rfl) ?_
       have hl : (n5 (ω.w 5).toS).length ≤ 202 := by have := (I4 (ω.w 5).toS).2; omega
       have q6 := n7 (ω.w 6).toI
       have q7 := n7 (ω.w 7).toI
       by_cases h0 : (ω.w 0).toI = 3
       · refine m7 (by show decide ((ω.w 0).toI = 3) = true; exact decide_eq_true h0) ?_
         have hrow : den ω R5 = .vs (a36 true (ω.w 5).toS (ω.w 6).toI (ω.w 7).toI) := by
          show ω.f 307 [ω.w 5, ω.w 6, ω.w 7] = _
          rw [hf]; rfl
         have hrd : C3 (a36 true (ω.w 5).toS (ω.w 6).toI (ω.w 7).toI) = some ((ω.w 5).toS, (ω.w 6).toI, (ω.w 7).toI) := aX1 _ i6 i7
         refine i5 (X7 (by omega)) (i5 (bj9 hrow ?_) (m8 ?_ (m8 ?_ ?_)))
         · show (m9 (ω.w 7).toI ++ n5 (ω.w 5).toS ++ m9 (ω.w 6).toI).length ≤ 1000
           rw [List.length_append, List.length_append, q6, q7]; omega
         · show (!(ω.f 377 [den ω R5]).toB) = false
           rw [hf, hrow]
           show (!(C3 (a36 true (ω.w 5).toS (ω.w 6).toI (ω.w 7).toI)).isSome) = false
           rw [hrd]; rfl
         · show (!(decide ((ω.f 374 [den ω R5]).toS = (ω.w 5).toS) && (decide ((ω.f 375 [den ω R5]).toI = (ω.w 6).toI) && decide ((ω.f 376 [den ω R5]).toI = (ω.w 7).toI)))) = false
           rw [hf, hf, hf, hrow]
           show (!(decide (((C3 (a36 true (ω.w 5).toS (ω.w 6).toI (ω.w 7).toI)).getD ([], 0, 0)).1 = (ω.w 5).toS) && (decide (((C3 (a36 true (ω.w 5).toS (ω.w 6).toI (ω.w 7).toI)).getD ([], 0, 0)).2.1 = (ω.w 6).toI) && decide (((C3 (a36 true (ω.w 5).toS (ω.w 6).toI (ω.w 7).toI)).getD ([], 0, 0)).2.2 = (ω.w 7).toI)))) = false
           rw [hrd]; simp
         · refine bO2 hf (F2 hrow) h1 h2 fun hr => ?_
           have := bk1 (pkey := (ω.w 5).toS) hr i3 i4 i6 i7
           rw [decide_eq_true h0] at this
           exact this
       · refine m8 (by show decide ((ω.w 0).toI = 3) = false; exact decide_eq_false h0) ?_
         have hrow : den ω G8 = .vs (a36 false (ω.w 5).toS (ω.w 6).toI (ω.w 7).toI) := by
          show ω.f 306 [ω.w 5, ω.w 6, ω.w 7] = _
          rw [hf]; rfl
         have hrd : C1 (a36 false (ω.w 5).toS (ω.w 6).toI (ω.w 7).toI) = some ((ω.w 5).toS, (ω.w 6).toI, (ω.w 7).toI) := aX0 _ i6 i7
         refine i5 (X7 (by omega)) (i5 (bj9 hrow ?_) (m8 ?_ (m8 ?_ ?_)))
         · show (n5 (ω.w 5).toS ++ m9 (ω.w 7).toI ++ m9 (ω.w 6).toI).length ≤ 1000
           rw [List.length_append, List.length_append, q6, q7]; omega
         · show (!(ω.f 373 [den ω G8]).toB) = false
           rw [hf, hrow]
           show (!(C1 (a36 false (ω.w 5).toS (ω.w 6).toI (ω.w 7).toI)).isSome) = false
           rw [hrd]; rfl
         · show (!(decide ((ω.f 370 [den ω G8]).toS = (ω.w 5).toS) && (decide ((ω.f 371 [den ω G8]).toI = (ω.w 6).toI) && decide ((ω.f 372 [den ω G8]).toI = (ω.w 7).toI)))) = false
           rw [hf, hf, hf, hrow]
           show (!(decide (((C1 (a36 false (ω.w 5).toS (ω.w 6).toI (ω.w 7).toI)).getD ([], 0, 0)).1 = (ω.w 5).toS) && (decide (((C1 (a36 false (ω.w 5).toS (ω.w 6).toI (ω.w 7).toI)).getD ([], 0, 0)).2.1 = (ω.w 6).toI) && decide (((C1 (a36 false (ω.w 5).toS (ω.w 6).toI (ω.w 7).toI)).getD ([], 0, 0)).2.2 = (ω.w 7).toI)))) = false
           rw [hrd]; simp
         · refine bO2 hf (F2 hrow) h1 h2 fun hr => ?_
           have := bk1 (pkey := (ω.w 5).toS) hr i3 i4 i6 i7
           rw [decide_eq_false h0] at this
           exact this
     · exact m7 (by show (!dB ω (.op (.cmp .leq) [.op .slen [.va 5], .ci 100])) = true; rw [U8, decide_eq_false h5]; rfl) rfl
   · exact m8 (by rw [U8]; exact decide_eq_false h2) rfl
 · exact m8 (by rw [U8]; exact decide_eq_false h1) rfl
def TXl : List Val := [.vl [.vs []], .vl [.vs [97]], .vl [.vs [97, 98]], .vl [.vs [98]], .vl [.vs [97, 0]], .vl [.vs [255]], .vl [.vs [0]], .vl [.vs [99]]]
def NBl : List Val := [.vl [.vi 0], .vl [.vi 5], .vl [.vi 6], .vl [.vi 7], .vl [.vi (-1)], .vl [.vi 9223372036854775807], .vl [.vi (-9223372036854775808)]]
theorem cu8 (j : Nat) (h : j < 8) : ∃ t, A5 TXl (j : Int) 0 = .vs t ∧ t.length ≤ 2 := by
 have : j = 0 ∨ j = 1 ∨ j = 2 ∨ j = 3 ∨ j = 4 ∨ j = 5 ∨ j = 6 ∨ j = 7 := by omega
 rcases this with rfl | rfl | rfl | rfl | rfl | rfl | rfl | rfl <;> exact ⟨_, rfl, by decide⟩
theorem bO3 (j : Nat) (h : j < 7) : ∃ x, A5 NBl (j : Int) 0 = .vi x ∧ inI x := by
 have : j = 0 ∨ j = 1 ∨ j = 2 ∨ j = 3 ∨ j = 4 ∨ j = 5 ∨ j = 6 := by omega
 rcases this with rfl | rfl | rfl | rfl | rfl | rfl | rfl <;> exact ⟨_, rfl, by unfold inI; omega⟩
theorem ax6 {n m : Nat} (h : 0 < m) : arI .rem .i64 (n : Int) (m : Int) = ((n % m : Nat) : Int) := by
 show (n : Int).tmod (m : Int) = _
 rw [Int.tmod_eq_emod_of_nonneg (by omega)]; rfl
theorem b90 {n m : Nat} (h : n + m ≤ 1000) : arI .add .i64 (n : Int) (m : Int) = ((n + m : Nat) : Int) := by
 rw [az1 (by omega) (by omega)]; rfl
theorem cj1 {ω : Opq} (hf : ∀ i a, ω.f i a = F i a) {i k n : Nat} {v : Val} (hi : i < 8) (hk : k < 8) (hn : n < 7) (w1 : ω.w 2001 = .vi i) (w2 : ω.w 2002 = .vl TXl) (w3 : ω.w 2003 = .vl NBl) (w4 : ω.w 3001 = .vi k) (w5 : ω.w 4000 = v) (w6 : ω.w 4001 = .vi n) :
 j3 cy0 ω = some (0, [v, .vi (n + 1 : Nat)]) := by
 obtain ⟨tk, ek, lk⟩ := cu8 k hk
 obtain ⟨ti, ei, li⟩ := cu8 i hi
 obtain ⟨x1, f1, g1⟩ := bO3 ((n + k) % 7) (Nat.mod_lt _ (by decide))
 obtain ⟨x2, f2, g2⟩ := bO3 n hn
 obtain ⟨x3, f3, g3⟩ := bO3 ((n + i) % 7) (Nat.mod_lt _ (by decide))
 obtain ⟨x4, f4, g4⟩ := bO3 (i % 7) (Nat.mod_lt _ (by decide))
 obtain ⟨x5, f5, g5⟩ := bO3 (k % 7) (Nat.mod_lt _ (by decide))
 have m1 : (n + k) % 7 < 7 := Nat.mod_lt _ (by decide)
 have m3 : (n + i) % 7 < 7 := Nat.mod_lt _ (by decide)
 have m4 : i % 7 < 7 := Nat.mod_lt _ (by decide)
 have m5 : k % 7 < 7 := Nat.mod_lt _ (by decide)
 have m6 : (k + n) % 8 < 8 := Nat.mod_lt _ (by decide)
 unfold inI at g1 g2 g3 g4 g5
 have a1 : arI .rem .i64 (arI .add .i64 (n : Int) (k : Int)) 7 = (((n + k) % 7 : Nat) : Int) := by rw [b90 (by omega)]; exact ax6 (m := 7) (by decide)
 have a3 : arI .rem .i64 (arI .add .i64 (n : Int) (i : Int)) 7 = (((n + i) % 7 : Nat) : Int) := by rw [b90 (by omega)]; exact ax6 (m := 7) (by decide)
 have a4 : arI .rem .i64 (i : Int) 7 = ((i % 7 : Nat) : Int) := ax6 (m := 7) (by decide)
 have a5 : arI .rem .i64 (k : Int) 7 = ((k % 7 : Nat) : Int) := ax6 (m := 7) (by decide)
 have a6 : arI .rem .i64 (arI .add .i64 (k : Int) (n : Int)) 8 = (((k + n) % 8 : Nat) : Int) := by rw [b90 (by omega)]; exact ax6 (m := 8) (by decide)
 have a7 : arI .add .i64 (n : Int) 1 = ((n + 1 : Nat) : Int) := aX8 (by omega)
 have lT : TXl.length = 8 := rfl
 have lN : NBl.length = 7 := rfl
 have h309 : ∀ l : List Val, (F 309 [.vl l]).toB = l.all okR := fun _ => rfl
 have ok1 : ∀ (t : List UInt8) (a b : Int), okR (.vl [.vs t, .vi a, .vi b]) = (c54 a && c54 b) := fun _ _ _ => rfl
 have bi : ∀ {x : Int}, -9223372036854775808 ≤ x ∧ x < 9223372036854775808 → c54 x = true := fun {x} h => by unfold c54; rw [decide_eq_true h.1, decide_eq_true h.2]; rfl
 unfold cy0
 refine m7 ?_ ?_
 · simp only [dB, den, k5, A1, w6, j1, j4, p9, l4, List.length_cons, List.length_nil, decide_eq_true_eq]; omega
 repeat' refine i5 ?_ ?_
 any_goals rfl
 any_goals (simp only [dB, den, k5, A1, w1, w2, w3, w4, w6, j1, j4, w9, p9, l4, l9, a1, a3, a4, a5, a6, ek, ei, f1, f2, f3, f4, f5, List.length_cons, List.length_nil, lT, lN, Bool.and_eq_true, decide_eq_true_eq]; omega)
 have fin : ∀ e : VT, e = .ret 0 [.va 4000, .op (.ar .add .i64) [.va 4001, .ci 1]] → j3 e ω = some (0, [v, .vi (n + 1 : Nat)]) := fun e he => by
  rw [he]
  show some (0, [ω.w 4000, Val.vi (arI .add .i64 (ω.w 4001).toI 1)]) = _
  rw [w5, w6, j1, a7]
 by_cases h0 : n = 0
 · refine m7 (by show decide ((ω.w 4001).toI = 0) = true; rw [w6, j1]; exact decide_eq_true (by omega)) ?_
   refine i5 ?_ (i5 ?_ (fin _ rfl))
   · have e : ∀ l : List SX, dB ω (.app 309 [.op .row l]) = (k5 ω l).all okR := fun l => by
      show (ω.f 309 [.vl (k5 ω l)]).toB = _
      rw [hf]; rfl
     rw [e]
     simp only [den, k5, A1, w1, w2, w3, w4, w6, j1, j4, a1, ek, ei, f1, f2, List.all_cons, List.all_nil, ok1, bi g1, bi g2, Bool.and_true, Bool.true_and]
     rfl
   · simp only [dB, den, k5, A1, w1, w2, w3, w4, w6, j1, j4, w9, p9, l4, l9, a1, a3, a4, a5, a6, ek, ei, f1, f2, f3, f4, f5, List.length_cons, List.length_nil, lT, lN, Bool.and_eq_true, decide_eq_true_eq]; omega
 · refine m8 (by show decide ((ω.w 4001).toI = 0) = false; rw [w6, j1]; exact decide_eq_false (by omega)) ?_
   refine i5 ?_ (fin _ rfl)
   simp only [dB, den, k5, A1, w1, w2, w3, w4, w6, j1, j4, w9, p9, l4, l9, a1, a3, a4, a5, a6, ek, ei, f1, f2, f3, f4, f5, List.length_cons, List.length_nil, lT, lN, Bool.and_eq_true, decide_eq_true_eq]; omega
theorem cj2 {ω : Opq} (hf : ∀ i a, ω.f i a = F i a) {i k : Nat} {v : Val} (hi : i < 8) (hk : k < 8) (w1 : ω.w 2001 = .vi i) (w2 : ω.w 2002 = .vl TXl) (w3 : ω.w 2003 = .vl NBl) (w4 : ω.w 3001 = .vi k) (w5 : ω.w 3000 = v) :
 j3 cy1 ω = some (0, [v, .vi (k + 1 : Nat)]) := by
 have a7 : arI .add .i64 (k : Int) 1 = ((k + 1 : Nat) : Int) := aX8 (by omega)
 have h383 : ω.f 383 [v, .vi 0, .vi 8, .vl TXl, .vi 7, .vl NBl, .vi i, .vi k] = Q7 (0, [v, .vi 7]) := by rw [hf]; rfl
 unfold cy1
 refine m7 ?_ (p6 (r := (0, [v, .vi 7])) ?_ ?_ ?_)
 · simp only [dB, den, k5, A1, w4, j1, j4, p9, l4, List.length_cons, List.length_nil, decide_eq_true_eq]; omega
 · refine O5 (fun n => [v, .vi n]) (n := 7) (by show [ω.w 3000, Val.vi 0] = _; rw [w5]; rfl) (fun n hn => ?_) ?_
   · exact cj1 (ω := ω.upd 4000 [v, .vi n]) hf (i := i) (k := k) hi hk hn w1 w2 w3 w4 rfl rfl
   · show j3 cy0 (ω.upd 4000 [v, .vi ((7 : Nat) : Int)]) = _
     refine m8 ?_ rfl
     rfl
 · show ω.f 383 [ω.w 3000, .vi 0, .vi 8, ω.w 2002, .vi 7, ω.w 2003, ω.w 2001, ω.w 3001] = _
   rw [w1, w2, w3, w4, w5, h383]
 · show some (0, [A5 (ω.f 383 [ω.w 3000, .vi 0, .vi 8, ω.w 2002, .vi 7, ω.w 2003, ω.w 2001, ω.w 3001]).toL 1 0, Val.vi (arI .add .i64 (ω.w 3001).toI 1)]) = _
   rw [w1, w2, w3, w4, w5, h383, j1, a7]; rfl
theorem cj3 {ω : Opq} (hf : ∀ i a, ω.f i a = F i a) {i : Nat} {v : Val} (hi : i < 8) (w1 : ω.w 2001 = .vi i) (w2 : ω.w 2002 = .vl TXl) (w3 : ω.w 2003 = .vl NBl) (w5 : ω.w 2000 = v) :
 j3 cy2 ω = some (0, [v, .vi (i + 1 : Nat), .vl TXl, .vl NBl]) := by
 have a7 : arI .add .i64 (i : Int) 1 = ((i + 1 : Nat) : Int) := aX8 (by omega)
 have h382 : ω.f 382 [v, .vi 0, .vi 8, .vl TXl, .vi 7, .vl NBl, .vi i] = Q7 (0, [v, .vi 8]) := by rw [hf]; rfl
 unfold cy2
 refine m7 ?_ (p6 (r := (0, [v, .vi 8])) ?_ ?_ ?_)
 · simp only [dB, den, k5, A1, w1, j1, j4, p9, l4, List.length_cons, List.length_nil, decide_eq_true_eq]; omega
 · refine O5 (fun n => [v, .vi n]) (n := 8) (by show [ω.w 2000, Val.vi 0] = _; rw [w5]; rfl) (fun n hn => ?_) ?_
   · exact cj2 (ω := ω.upd 3000 [v, .vi n]) hf (i := i) (k := n) hi hn w1 w2 w3 rfl rfl
   · show j3 cy1 (ω.upd 3000 [v, .vi ((8 : Nat) : Int)]) = _
     refine m8 ?_ rfl
     rfl
 · show ω.f 382 [ω.w 2000, .vi 0, .vi 8, ω.w 2002, .vi 7, ω.w 2003, ω.w 2001] = _
   rw [w1, w2, w3, w5, h382]
 · show some (0, [A5 (ω.f 382 [ω.w 2000, .vi 0, .vi 8, ω.w 2002, .vi 7, ω.w 2003, ω.w 2001]).toL 1 0, Val.vi (arI .add .i64 (ω.w 2001).toI 1), ω.w 2002, ω.w 2003]) = _
   rw [w1, w2, w3, w5, h382, j1, a7]; rfl
theorem aY9 {ω : Opq} (hf : ∀ i a, ω.f i a = F i a) : j3 P8 ω = some (0, [.vb true]) := by
 unfold P8
 refine p6 (r := (0, [.vb false, .vi 8, .vl TXl, .vl NBl])) ?_ ?_ ?_
 · refine O5 (fun n => [.vb false, .vi n, .vl TXl, .vl NBl]) (n := 8) rfl (fun n hn => ?_) ?_
   · exact cj3 (ω := ω.upd 2000 [.vb false, .vi n, .vl TXl, .vl NBl]) hf (i := n) hn rfl rfl rfl rfl
   · show j3 cy2 (ω.upd 2000 [.vb false, .vi ((8 : Nat) : Int), .vl TXl, .vl NBl]) = _
     refine m8 ?_ rfl
     rfl
 · show ω.f 381 [.vb false, .vi 0, .vl TXl, .vl NBl, .vi 8, .vl TXl, .vi 7, .vl NBl] = _
   rw [hf]; rfl
 · refine i5 ?_ rfl
   show (ω.f 309 [.vl []]).toB = true
   rw [hf]; rfl
end Go.Ev
