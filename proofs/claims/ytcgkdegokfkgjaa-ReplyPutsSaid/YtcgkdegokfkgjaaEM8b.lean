/- Chapter 8, second part: whether a reply is right. -/
import Derived.Test.YtcgkdegokfkgjaaEM8
set_option linter.unusedSimpArgs false
set_option linter.unusedVariables false
namespace Go.Ev
open Go

theorem few_lens {a : List Val} (h : fewM a = true) : (arg a 10).toL.length ≤ 80 ∧ (arg a 11).toL.length ≤ 80 ∧ (arg a 10).toL.any fewB = false ∧ (arg a 11).toL.any fewB = false := by
  simp only [fewM, Bool.and_eq_true, decide_eq_true_eq, Bool.not_eq_true'] at h
  exact ⟨h.1.1.1, h.1.1.2, h.1.2, h.2⟩
theorem rows_any (v : Val) : (rowsM v).any rowB = v.toL.any rowBV := by
  rw [rowsM, List.any_map]; rfl
theorem panes_any (v : Val) : (panesM v).any (fun p => !namedM p.key) = v.toL.any paneBV := by
  rw [panesM, List.any_map]; rfl
theorem rows_nil (v : Val) : rowsM v = [] ↔ v.toL.length = 0 := by simp [rowsM]
theorem panes_nil (v : Val) : panesM v = [] ↔ v.toL.length = 0 := by simp [panesM]
def checksM (a : List Val) : Bool := decide ((arg a 10).toL.length + (arg a 11).toL.length ≤ 64) && !(arg a 10).toL.any rowBV && !(arg a 11).toL.any paneBV && restM (repM a)
theorem rightM_eq (a : List Val) : rightM (repM a) = (decide (1 ≤ (arg a 0).toI) && decide ((arg a 0).toI ≤ 7) && !((arg a 0).toI == 7 && (arg a 2).toI == 0) && checksM a) := by
  unfold rightM checksM
  rw [← rows_any, ← panes_any]
  simp only [repM, rowsM, panesM, List.length_map, Bool.and_assoc]
  rfl
theorem getR0 (j : Nat) (x : Val) (p : List Val) : getV (encR (j, x :: p)).toL 1 0 = x := rfl
theorem add_lens {a b : Nat} (h1 : a ≤ 80) (h2 : b ≤ 80) : arI .add .i64 (a : Int) (b : Int) = ((a + b : Nat) : Int) := by
  simp only [arI]; rw [wrap_i64] <;> omega
theorem t_right1 {ω : Opq} (hf : ∀ i a, ω.f i a = F i a) (hk : (ω.w 0).toI = 1) (hw : fewM [ω.w 0, ω.w 1, ω.w 2, ω.w 3, ω.w 4, ω.w 5, ω.w 6, ω.w 7, ω.w 8, ω.w 9, ω.w 10, ω.w 11] = true) : evalT T_right1 ω = some (0, [F 4 [ω.w 0, ω.w 1, ω.w 2, ω.w 3, ω.w 4, ω.w 5, ω.w 6, ω.w 7, ω.w 8, ω.w 9, ω.w 10, ω.w 11]]) := by
  obtain ⟨q1, q2, _, _⟩ := few_lens hw
  simp only [arg_0, arg_s] at q1 q2
  have e1 : ((ω.w 10).toL.length : Int) ≤ 1000 := by omega
  have e2 : ((ω.w 11).toL.length : Int) ≤ 1000 := by omega
  have e3 : ((ω.w 10).toL.length : Int) ≤ 1000000 := by omega
  have e4 : ((ω.w 11).toL.length : Int) ≤ 1000000 := by omega
  have z1 : ((0 : Nat) : Int) ≤ 1000000 := by omega
  have hs := add_lens q1 q2
  have hR : F 4 [ω.w 0, ω.w 1, ω.w 2, ω.w 3, ω.w 4, ω.w 5, ω.w 6, ω.w 7, ω.w 8, ω.w 9, ω.w 10, ω.w 11] = .vb (checksM [ω.w 0, ω.w 1, ω.w 2, ω.w 3, ω.w 4, ω.w 5, ω.w 6, ω.w 7, ω.w 8, ω.w 9, ω.w 10, ω.w 11]) := by
    simp only [F, rightM_eq, arg_0, arg_s, hk]
    simp
  rw [hR]
  simp only [checksM, arg_0, arg_s]
  by_cases c1 : (ω.w 10).toL.length + (ω.w 11).toL.length ≤ 64
  case neg =>
    have c1' : 64 < (((ω.w 10).toL.length + (ω.w 11).toL.length : Nat) : Int) := by omega
    simp [T_right1, evalT, dens, den, dB, prim, hs, c1', c1, -Int.natCast_add]
  have c1' : ¬ 64 < (((ω.w 10).toL.length + (ω.w 11).toL.length : Nat) : Int) := by omega
  cases c2 : (ω.w 10).toL.any rowBV
  case true => simp [T_right1, evalT, dens, den, dB, prim, hs, c1', c1, c2, e1, e2, hf, F, arg_0, arg_s, -Int.natCast_add]
  cases c3 : (ω.w 11).toL.any paneBV
  case true => simp [T_right1, evalT, dens, den, dB, prim, hs, c1', c1, c2, c3, e1, e2, hf, F, arg_0, arg_s, -Int.natCast_add]
  simp only [T_right1, evalT, dens, den, dB, prim, hs, c1', c1, c2, c3, e1, e2, e3, e4, z1, hf, F, arg_0, arg_s, toI_vi, toB_vb, toL_vl, cmpI_gtr, cmpI_leq, cmpI_eql, decide_true, decide_false, Bool.not_false, Bool.true_and, Bool.false_eq_true, if_false, if_true, List.take_succ_cons, List.take_zero, List.drop_succ_cons, List.drop_zero, List.length_nil, Bool.and_true]
  refine congrArg (fun b => some (0, [Val.vb b])) ?_
  rw [Bool.eq_iff_iff]
  simp [repM, restM, hk, arg_0, arg_s, rows_nil, panes_nil, rowsM, panesM, and_assoc]
theorem t_right2 {ω : Opq} (hf : ∀ i a, ω.f i a = F i a) (hk : (ω.w 0).toI = 2) (hw : fewM [ω.w 0, ω.w 1, ω.w 2, ω.w 3, ω.w 4, ω.w 5, ω.w 6, ω.w 7, ω.w 8, ω.w 9, ω.w 10, ω.w 11] = true) : evalT T_right2 ω = some (0, [F 4 [ω.w 0, ω.w 1, ω.w 2, ω.w 3, ω.w 4, ω.w 5, ω.w 6, ω.w 7, ω.w 8, ω.w 9, ω.w 10, ω.w 11]]) := by
  obtain ⟨q1, q2, _, _⟩ := few_lens hw
  simp only [arg_0, arg_s] at q1 q2
  have e1 : ((ω.w 10).toL.length : Int) ≤ 1000 := by omega
  have e2 : ((ω.w 11).toL.length : Int) ≤ 1000 := by omega
  have e3 : ((ω.w 10).toL.length : Int) ≤ 1000000 := by omega
  have e4 : ((ω.w 11).toL.length : Int) ≤ 1000000 := by omega
  have z1 : ((0 : Nat) : Int) ≤ 1000000 := by omega
  have hs := add_lens q1 q2
  have hR : F 4 [ω.w 0, ω.w 1, ω.w 2, ω.w 3, ω.w 4, ω.w 5, ω.w 6, ω.w 7, ω.w 8, ω.w 9, ω.w 10, ω.w 11] = .vb (checksM [ω.w 0, ω.w 1, ω.w 2, ω.w 3, ω.w 4, ω.w 5, ω.w 6, ω.w 7, ω.w 8, ω.w 9, ω.w 10, ω.w 11]) := by
    simp only [F, rightM_eq, arg_0, arg_s, hk]
    simp
  rw [hR]
  simp only [checksM, arg_0, arg_s]
  by_cases c1 : (ω.w 10).toL.length + (ω.w 11).toL.length ≤ 64
  case neg =>
    have c1' : 64 < (((ω.w 10).toL.length + (ω.w 11).toL.length : Nat) : Int) := by omega
    simp [T_right2, evalT, dens, den, dB, prim, hs, c1', c1, -Int.natCast_add]
  have c1' : ¬ 64 < (((ω.w 10).toL.length + (ω.w 11).toL.length : Nat) : Int) := by omega
  cases c2 : (ω.w 10).toL.any rowBV
  case true => simp [T_right2, evalT, dens, den, dB, prim, hs, c1', c1, c2, e1, e2, hf, F, arg_0, arg_s, -Int.natCast_add]
  cases c3 : (ω.w 11).toL.any paneBV
  case true => simp [T_right2, evalT, dens, den, dB, prim, hs, c1', c1, c2, c3, e1, e2, hf, F, arg_0, arg_s, -Int.natCast_add]
  simp only [T_right2, evalT, dens, den, dB, prim, hs, c1', c1, c2, c3, e1, e2, e3, e4, z1, hf, F, arg_0, arg_s, toI_vi, toB_vb, toL_vl, cmpI_gtr, cmpI_leq, cmpI_eql, decide_true, decide_false, Bool.not_false, Bool.true_and, Bool.false_eq_true, if_false, if_true, List.take_succ_cons, List.take_zero, List.drop_succ_cons, List.drop_zero, List.length_nil, Bool.and_true]
  refine congrArg (fun b => some (0, [Val.vb b])) ?_
  rw [Bool.eq_iff_iff]
  simp [repM, restM, hk, arg_0, arg_s, rows_nil, panes_nil, rowsM, panesM, and_assoc]
theorem t_right3 {ω : Opq} (hf : ∀ i a, ω.f i a = F i a) (hk : (ω.w 0).toI = 3) (hw : fewM [ω.w 0, ω.w 1, ω.w 2, ω.w 3, ω.w 4, ω.w 5, ω.w 6, ω.w 7, ω.w 8, ω.w 9, ω.w 10, ω.w 11] = true) : evalT T_right3 ω = some (0, [F 4 [ω.w 0, ω.w 1, ω.w 2, ω.w 3, ω.w 4, ω.w 5, ω.w 6, ω.w 7, ω.w 8, ω.w 9, ω.w 10, ω.w 11]]) := by
  obtain ⟨q1, q2, _, _⟩ := few_lens hw
  simp only [arg_0, arg_s] at q1 q2
  have e1 : ((ω.w 10).toL.length : Int) ≤ 1000 := by omega
  have e2 : ((ω.w 11).toL.length : Int) ≤ 1000 := by omega
  have e3 : ((ω.w 10).toL.length : Int) ≤ 1000000 := by omega
  have e4 : ((ω.w 11).toL.length : Int) ≤ 1000000 := by omega
  have z1 : ((0 : Nat) : Int) ≤ 1000000 := by omega
  have hs := add_lens q1 q2
  have hR : F 4 [ω.w 0, ω.w 1, ω.w 2, ω.w 3, ω.w 4, ω.w 5, ω.w 6, ω.w 7, ω.w 8, ω.w 9, ω.w 10, ω.w 11] = .vb (checksM [ω.w 0, ω.w 1, ω.w 2, ω.w 3, ω.w 4, ω.w 5, ω.w 6, ω.w 7, ω.w 8, ω.w 9, ω.w 10, ω.w 11]) := by
    simp only [F, rightM_eq, arg_0, arg_s, hk]
    simp
  rw [hR]
  simp only [checksM, arg_0, arg_s]
  by_cases c1 : (ω.w 10).toL.length + (ω.w 11).toL.length ≤ 64
  case neg =>
    have c1' : 64 < (((ω.w 10).toL.length + (ω.w 11).toL.length : Nat) : Int) := by omega
    simp [T_right3, evalT, dens, den, dB, prim, hs, c1', c1, -Int.natCast_add]
  have c1' : ¬ 64 < (((ω.w 10).toL.length + (ω.w 11).toL.length : Nat) : Int) := by omega
  cases c2 : (ω.w 10).toL.any rowBV
  case true => simp [T_right3, evalT, dens, den, dB, prim, hs, c1', c1, c2, e1, e2, hf, F, arg_0, arg_s, -Int.natCast_add]
  cases c3 : (ω.w 11).toL.any paneBV
  case true => simp [T_right3, evalT, dens, den, dB, prim, hs, c1', c1, c2, c3, e1, e2, hf, F, arg_0, arg_s, -Int.natCast_add]
  simp only [T_right3, evalT, dens, den, dB, prim, hs, c1', c1, c2, c3, e1, e2, e3, e4, z1, hf, F, arg_0, arg_s, toI_vi, toB_vb, toL_vl, cmpI_gtr, cmpI_leq, cmpI_eql, decide_true, decide_false, Bool.not_false, Bool.true_and, Bool.false_eq_true, if_false, if_true, List.take_succ_cons, List.take_zero, List.drop_succ_cons, List.drop_zero, List.length_nil, Bool.and_true]
  refine congrArg (fun b => some (0, [Val.vb b])) ?_
  rw [Bool.eq_iff_iff]
  simp [repM, restM, hk, arg_0, arg_s, rows_nil, panes_nil, rowsM, panesM, and_assoc]
theorem t_right4 {ω : Opq} (hf : ∀ i a, ω.f i a = F i a) (hk : (ω.w 0).toI = 4) (hw : fewM [ω.w 0, ω.w 1, ω.w 2, ω.w 3, ω.w 4, ω.w 5, ω.w 6, ω.w 7, ω.w 8, ω.w 9, ω.w 10, ω.w 11] = true) : evalT T_right4 ω = some (0, [F 4 [ω.w 0, ω.w 1, ω.w 2, ω.w 3, ω.w 4, ω.w 5, ω.w 6, ω.w 7, ω.w 8, ω.w 9, ω.w 10, ω.w 11]]) := by
  obtain ⟨q1, q2, _, _⟩ := few_lens hw
  simp only [arg_0, arg_s] at q1 q2
  have e1 : ((ω.w 10).toL.length : Int) ≤ 1000 := by omega
  have e2 : ((ω.w 11).toL.length : Int) ≤ 1000 := by omega
  have e3 : ((ω.w 10).toL.length : Int) ≤ 1000000 := by omega
  have e4 : ((ω.w 11).toL.length : Int) ≤ 1000000 := by omega
  have z1 : ((0 : Nat) : Int) ≤ 1000000 := by omega
  have hs := add_lens q1 q2
  have hR : F 4 [ω.w 0, ω.w 1, ω.w 2, ω.w 3, ω.w 4, ω.w 5, ω.w 6, ω.w 7, ω.w 8, ω.w 9, ω.w 10, ω.w 11] = .vb (checksM [ω.w 0, ω.w 1, ω.w 2, ω.w 3, ω.w 4, ω.w 5, ω.w 6, ω.w 7, ω.w 8, ω.w 9, ω.w 10, ω.w 11]) := by
    simp only [F, rightM_eq, arg_0, arg_s, hk]
    simp
  rw [hR]
  simp only [checksM, arg_0, arg_s]
  by_cases c1 : (ω.w 10).toL.length + (ω.w 11).toL.length ≤ 64
  case neg =>
    have c1' : 64 < (((ω.w 10).toL.length + (ω.w 11).toL.length : Nat) : Int) := by omega
    simp [T_right4, evalT, dens, den, dB, prim, hs, c1', c1, -Int.natCast_add]
  have c1' : ¬ 64 < (((ω.w 10).toL.length + (ω.w 11).toL.length : Nat) : Int) := by omega
  cases c2 : (ω.w 10).toL.any rowBV
  case true => simp [T_right4, evalT, dens, den, dB, prim, hs, c1', c1, c2, e1, e2, hf, F, arg_0, arg_s, -Int.natCast_add]
  cases c3 : (ω.w 11).toL.any paneBV
  case true => simp [T_right4, evalT, dens, den, dB, prim, hs, c1', c1, c2, c3, e1, e2, hf, F, arg_0, arg_s, -Int.natCast_add]
  simp only [T_right4, evalT, dens, den, dB, prim, hs, c1', c1, c2, c3, e1, e2, e3, e4, z1, hf, F, arg_0, arg_s, toI_vi, toB_vb, toL_vl, cmpI_gtr, cmpI_leq, cmpI_eql, decide_true, decide_false, Bool.not_false, Bool.true_and, Bool.false_eq_true, if_false, if_true, List.take_succ_cons, List.take_zero, List.drop_succ_cons, List.drop_zero, List.length_nil, Bool.and_true]
  refine congrArg (fun b => some (0, [Val.vb b])) ?_
  rw [Bool.eq_iff_iff]
  simp [repM, restM, hk, arg_0, arg_s, rows_nil, panes_nil, rowsM, panesM, and_assoc]
theorem t_right5 {ω : Opq} (hf : ∀ i a, ω.f i a = F i a) (hk : (ω.w 0).toI = 5) (hw : fewM [ω.w 0, ω.w 1, ω.w 2, ω.w 3, ω.w 4, ω.w 5, ω.w 6, ω.w 7, ω.w 8, ω.w 9, ω.w 10, ω.w 11] = true) : evalT T_right5 ω = some (0, [F 4 [ω.w 0, ω.w 1, ω.w 2, ω.w 3, ω.w 4, ω.w 5, ω.w 6, ω.w 7, ω.w 8, ω.w 9, ω.w 10, ω.w 11]]) := by
  obtain ⟨q1, q2, _, _⟩ := few_lens hw
  simp only [arg_0, arg_s] at q1 q2
  have e1 : ((ω.w 10).toL.length : Int) ≤ 1000 := by omega
  have e2 : ((ω.w 11).toL.length : Int) ≤ 1000 := by omega
  have e3 : ((ω.w 10).toL.length : Int) ≤ 1000000 := by omega
  have e4 : ((ω.w 11).toL.length : Int) ≤ 1000000 := by omega
  have z1 : ((0 : Nat) : Int) ≤ 1000000 := by omega
  have hs := add_lens q1 q2
  have hR : F 4 [ω.w 0, ω.w 1, ω.w 2, ω.w 3, ω.w 4, ω.w 5, ω.w 6, ω.w 7, ω.w 8, ω.w 9, ω.w 10, ω.w 11] = .vb (checksM [ω.w 0, ω.w 1, ω.w 2, ω.w 3, ω.w 4, ω.w 5, ω.w 6, ω.w 7, ω.w 8, ω.w 9, ω.w 10, ω.w 11]) := by
    simp only [F, rightM_eq, arg_0, arg_s, hk]
    simp
  rw [hR]
  simp only [checksM, arg_0, arg_s]
  by_cases c1 : (ω.w 10).toL.length + (ω.w 11).toL.length ≤ 64
  case neg =>
    have c1' : 64 < (((ω.w 10).toL.length + (ω.w 11).toL.length : Nat) : Int) := by omega
    simp [T_right5, evalT, dens, den, dB, prim, hs, c1', c1, -Int.natCast_add]
  have c1' : ¬ 64 < (((ω.w 10).toL.length + (ω.w 11).toL.length : Nat) : Int) := by omega
  cases c2 : (ω.w 10).toL.any rowBV
  case true => simp [T_right5, evalT, dens, den, dB, prim, hs, c1', c1, c2, e1, e2, hf, F, arg_0, arg_s, -Int.natCast_add]
  cases c3 : (ω.w 11).toL.any paneBV
  case true => simp [T_right5, evalT, dens, den, dB, prim, hs, c1', c1, c2, c3, e1, e2, hf, F, arg_0, arg_s, -Int.natCast_add]
  simp only [T_right5, evalT, dens, den, dB, prim, hs, c1', c1, c2, c3, e1, e2, e3, e4, z1, hf, F, arg_0, arg_s, toI_vi, toB_vb, toL_vl, cmpI_gtr, cmpI_leq, cmpI_eql, decide_true, decide_false, Bool.not_false, Bool.true_and, Bool.false_eq_true, if_false, if_true, List.take_succ_cons, List.take_zero, List.drop_succ_cons, List.drop_zero, List.length_nil, Bool.and_true]
  refine congrArg (fun b => some (0, [Val.vb b])) ?_
  rw [Bool.eq_iff_iff]
  simp [repM, restM, hk, arg_0, arg_s, rows_nil, panes_nil, rowsM, panesM, and_assoc]
theorem t_right6 {ω : Opq} (hf : ∀ i a, ω.f i a = F i a) (hk : (ω.w 0).toI = 6) (hw : fewM [ω.w 0, ω.w 1, ω.w 2, ω.w 3, ω.w 4, ω.w 5, ω.w 6, ω.w 7, ω.w 8, ω.w 9, ω.w 10, ω.w 11] = true) : evalT T_right6 ω = some (0, [F 4 [ω.w 0, ω.w 1, ω.w 2, ω.w 3, ω.w 4, ω.w 5, ω.w 6, ω.w 7, ω.w 8, ω.w 9, ω.w 10, ω.w 11]]) := by
  obtain ⟨q1, q2, _, _⟩ := few_lens hw
  simp only [arg_0, arg_s] at q1 q2
  have e1 : ((ω.w 10).toL.length : Int) ≤ 1000 := by omega
  have e2 : ((ω.w 11).toL.length : Int) ≤ 1000 := by omega
  have e3 : ((ω.w 10).toL.length : Int) ≤ 1000000 := by omega
  have e4 : ((ω.w 11).toL.length : Int) ≤ 1000000 := by omega
  have z1 : ((0 : Nat) : Int) ≤ 1000000 := by omega
  have hs := add_lens q1 q2
  have hR : F 4 [ω.w 0, ω.w 1, ω.w 2, ω.w 3, ω.w 4, ω.w 5, ω.w 6, ω.w 7, ω.w 8, ω.w 9, ω.w 10, ω.w 11] = .vb (checksM [ω.w 0, ω.w 1, ω.w 2, ω.w 3, ω.w 4, ω.w 5, ω.w 6, ω.w 7, ω.w 8, ω.w 9, ω.w 10, ω.w 11]) := by
    simp only [F, rightM_eq, arg_0, arg_s, hk]
    simp
  rw [hR]
  simp only [checksM, arg_0, arg_s]
  by_cases c1 : (ω.w 10).toL.length + (ω.w 11).toL.length ≤ 64
  case neg =>
    have c1' : 64 < (((ω.w 10).toL.length + (ω.w 11).toL.length : Nat) : Int) := by omega
    simp [T_right6, evalT, dens, den, dB, prim, hs, c1', c1, -Int.natCast_add]
  have c1' : ¬ 64 < (((ω.w 10).toL.length + (ω.w 11).toL.length : Nat) : Int) := by omega
  cases c2 : (ω.w 10).toL.any rowBV
  case true => simp [T_right6, evalT, dens, den, dB, prim, hs, c1', c1, c2, e1, e2, hf, F, arg_0, arg_s, -Int.natCast_add]
  cases c3 : (ω.w 11).toL.any paneBV
  case true => simp [T_right6, evalT, dens, den, dB, prim, hs, c1', c1, c2, c3, e1, e2, hf, F, arg_0, arg_s, -Int.natCast_add]
  simp only [T_right6, evalT, dens, den, dB, prim, hs, c1', c1, c2, c3, e1, e2, e3, e4, z1, hf, F, arg_0, arg_s, toI_vi, toB_vb, toL_vl, cmpI_gtr, cmpI_leq, cmpI_eql, decide_true, decide_false, Bool.not_false, Bool.true_and, Bool.false_eq_true, if_false, if_true, List.take_succ_cons, List.take_zero, List.drop_succ_cons, List.drop_zero, List.length_nil, Bool.and_true]
  refine congrArg (fun b => some (0, [Val.vb b])) ?_
  rw [Bool.eq_iff_iff]
  simp [repM, restM, hk, arg_0, arg_s, rows_nil, panes_nil, rowsM, panesM, and_assoc]
theorem t_right7 {ω : Opq} (hf : ∀ i a, ω.f i a = F i a) (hk : (ω.w 0).toI = 7) (hw : fewM [ω.w 0, ω.w 1, ω.w 2, ω.w 3, ω.w 4, ω.w 5, ω.w 6, ω.w 7, ω.w 8, ω.w 9, ω.w 10, ω.w 11] = true) : evalT T_right7 ω = some (0, [F 4 [ω.w 0, ω.w 1, ω.w 2, ω.w 3, ω.w 4, ω.w 5, ω.w 6, ω.w 7, ω.w 8, ω.w 9, ω.w 10, ω.w 11]]) := by
  obtain ⟨q1, q2, _, _⟩ := few_lens hw
  simp only [arg_0, arg_s] at q1 q2
  have e1 : ((ω.w 10).toL.length : Int) ≤ 1000 := by omega
  have e2 : ((ω.w 11).toL.length : Int) ≤ 1000 := by omega
  have e3 : ((ω.w 10).toL.length : Int) ≤ 1000000 := by omega
  have e4 : ((ω.w 11).toL.length : Int) ≤ 1000000 := by omega
  have z1 : ((0 : Nat) : Int) ≤ 1000000 := by omega
  have hs := add_lens q1 q2
  have hR : F 4 [ω.w 0, ω.w 1, ω.w 2, ω.w 3, ω.w 4, ω.w 5, ω.w 6, ω.w 7, ω.w 8, ω.w 9, ω.w 10, ω.w 11] = .vb (!((ω.w 2).toI == 0) && checksM [ω.w 0, ω.w 1, ω.w 2, ω.w 3, ω.w 4, ω.w 5, ω.w 6, ω.w 7, ω.w 8, ω.w 9, ω.w 10, ω.w 11]) := by
    simp only [F, rightM_eq, arg_0, arg_s, hk]
    simp
  rw [hR]
  simp only [checksM, arg_0, arg_s]
  by_cases c0 : (ω.w 2).toI = 0
  case pos => simp [T_right7, evalT, dens, den, dB, prim, c0]
  by_cases c1 : (ω.w 10).toL.length + (ω.w 11).toL.length ≤ 64
  case neg =>
    have c1' : 64 < (((ω.w 10).toL.length + (ω.w 11).toL.length : Nat) : Int) := by omega
    simp [T_right7, evalT, dens, den, dB, prim, hs, c1', c1, c0, -Int.natCast_add]
  have c1' : ¬ 64 < (((ω.w 10).toL.length + (ω.w 11).toL.length : Nat) : Int) := by omega
  cases c2 : (ω.w 10).toL.any rowBV
  case true => simp [T_right7, evalT, dens, den, dB, prim, hs, c1', c1, c2, e1, e2, hf, F, arg_0, arg_s, c0, -Int.natCast_add]
  cases c3 : (ω.w 11).toL.any paneBV
  case true => simp [T_right7, evalT, dens, den, dB, prim, hs, c1', c1, c2, c3, e1, e2, hf, F, arg_0, arg_s, c0, -Int.natCast_add]
  simp only [T_right7, evalT, dens, den, dB, prim, hs, c1', c1, c2, c3, e1, e2, e3, e4, z1, hf, F, arg_0, arg_s, c0, toI_vi, toB_vb, toL_vl, cmpI_gtr, cmpI_leq, cmpI_eql, decide_true, decide_false, Bool.not_false, Bool.true_and, Bool.false_eq_true, if_false, if_true, List.take_succ_cons, List.take_zero, List.drop_succ_cons, List.drop_zero, List.length_nil, Bool.and_true]
  refine congrArg (fun b => some (0, [Val.vb b])) ?_
  rw [Bool.eq_iff_iff]
  simp [repM, restM, hk, arg_0, arg_s, rows_nil, panes_nil, c0, rowsM, panesM, and_assoc]
theorem t_right0 {ω : Opq} (hf : ∀ i a, ω.f i a = F i a) (hk : ¬ (1 ≤ (ω.w 0).toI ∧ (ω.w 0).toI ≤ 7)) : evalT T_right0 ω = some (0, [F 4 [ω.w 0, ω.w 1, ω.w 2, ω.w 3, ω.w 4, ω.w 5, ω.w 6, ω.w 7, ω.w 8, ω.w 9, ω.w 10, ω.w 11]]) := by
  have hR : F 4 [ω.w 0, ω.w 1, ω.w 2, ω.w 3, ω.w 4, ω.w 5, ω.w 6, ω.w 7, ω.w 8, ω.w 9, ω.w 10, ω.w 11] = .vb false := by
    simp only [F, rightM_eq, arg_0, arg_s]
    by_cases h1 : 1 ≤ (ω.w 0).toI
    · have h2 : ¬ (ω.w 0).toI ≤ 7 := by omega
      simp [h2]
    · simp [h1]
  rw [hR]
  by_cases h1 : (ω.w 0).toI < 1
  · simp only [T_right0, evalT, dens, den, dB, prim, toI_vi, toB_vb, cmpI_lss, h1, decide_true, if_true]
  · have h2 : 7 < (ω.w 0).toI := by omega
    simp only [T_right0, evalT, dens, den, dB, prim, toI_vi, toB_vb, cmpI_lss, cmpI_gtr, h1, h2, decide_true, decide_false, if_true, Bool.false_eq_true, if_false]
theorem t_rightR0 {ω : Opq} (hf : ∀ i a, ω.f i a = F i a) (hk : ¬ (1 ≤ (ω.w 0).toI ∧ (ω.w 0).toI ≤ 7)) : evalT T_rightR0 ω = some (0, [F 4 [ω.w 0, ω.w 1, ω.w 2, ω.w 3, ω.w 4, ω.w 5, ω.w 6, ω.w 7, ω.w 8, ω.w 9, ω.w 10, ω.w 11]]) := by
  have hR : F 4 [ω.w 0, ω.w 1, ω.w 2, ω.w 3, ω.w 4, ω.w 5, ω.w 6, ω.w 7, ω.w 8, ω.w 9, ω.w 10, ω.w 11] = .vb false := by
    simp only [F, rightM_eq, arg_0, arg_s]
    by_cases h1 : 1 ≤ (ω.w 0).toI
    · have h2 : ¬ (ω.w 0).toI ≤ 7 := by omega
      simp [h2]
    · simp [h1]
  rw [hR]
  by_cases h1 : (ω.w 0).toI < 1
  · simp only [T_rightR0, evalT, dens, den, dB, prim, toI_vi, toB_vb, cmpI_lss, h1, decide_true, if_true]
  · have h2 : 7 < (ω.w 0).toI := by omega
    simp only [T_rightR0, evalT, dens, den, dB, prim, toI_vi, toB_vb, cmpI_lss, cmpI_gtr, h1, h2, decide_true, decide_false, if_true, Bool.false_eq_true, if_false]
theorem t_rightR1 {ω : Opq} (hf : ∀ i a, ω.f i a = F i a) (hk : (ω.w 0).toI = 1) (hw : fewM [ω.w 0, ω.w 1, ω.w 2, ω.w 3, ω.w 4, ω.w 5, ω.w 6, ω.w 7, ω.w 8, ω.w 9, ω.w 10, ω.w 11] = true) : evalT T_rightR1 ω = some (0, [F 4 [ω.w 0, ω.w 1, ω.w 2, ω.w 3, ω.w 4, ω.w 5, ω.w 6, ω.w 7, ω.w 8, ω.w 9, ω.w 10, ω.w 11]]) := by
  obtain ⟨q1, q2, _, _⟩ := few_lens hw
  simp only [arg_0, arg_s] at q1 q2
  have hs := add_lens q1 q2
  have hR : F 4 [ω.w 0, ω.w 1, ω.w 2, ω.w 3, ω.w 4, ω.w 5, ω.w 6, ω.w 7, ω.w 8, ω.w 9, ω.w 10, ω.w 11] = .vb (checksM [ω.w 0, ω.w 1, ω.w 2, ω.w 3, ω.w 4, ω.w 5, ω.w 6, ω.w 7, ω.w 8, ω.w 9, ω.w 10, ω.w 11]) := by
    simp only [F, rightM_eq, arg_0, arg_s, hk]
    simp
  rw [hR]
  simp only [checksM, arg_0, arg_s]
  by_cases c1 : (ω.w 10).toL.length + (ω.w 11).toL.length ≤ 64
  case neg =>
    have c1' : 64 < (((ω.w 10).toL.length + (ω.w 11).toL.length : Nat) : Int) := by omega
    simp [T_rightR1, evalT, dens, den, dB, prim, hs, c1', c1, -Int.natCast_add]
  have c1' : ¬ 64 < (((ω.w 10).toL.length + (ω.w 11).toL.length : Nat) : Int) := by omega
  simp only [T_rightR1, evalT, evalTs, dens, den, dB, prim, hs, c1', c1, toI_vi, toB_vb, toL_vl, cmpI_gtr, cmpI_eql, decide_true, decide_false, Bool.true_and, Bool.false_eq_true, if_false, List.cons_append, List.nil_append]
  rw [scan_loop (x := .vb false) (bad := fun i => rowBV (atV (ω.w 10).toL i)) (px := fun k => [.vb false, .vi k]) (n := (ω.w 10).toL.length)]
  rotate_left
  · intro i hi hb
    rw [rowBV_f] at hb
    simp [hi, upd_at, arI_add1 (show i ≤ 10000000 by omega), getV_0, getV_1, getV_2, getV_3, getV_4, getV_5, getV_6]
    first | (intros; omega) | (repeat' split) <;> first | rfl | (intros; omega) | (exfalso; omega) | (intros; rfl)
  · intro i hi hb
    rw [rowBV_t] at hb
    simp [hi, upd_at, arI_add1 (show i ≤ 10000000 by omega), getV_0, getV_1, getV_2, getV_3, getV_4, getV_5, getV_6]
    first | (intros; omega) | (repeat' split) <;> first | rfl | (intros; omega) | (exfalso; omega) | (intros; rfl)
  · simp [upd_at]
  have e10 : ∀ l, F 110 l = scanF rowBV (lastA l 2).toL := fun _ => rfl
  cases c2 : (ω.w 10).toL.any rowBV
  case true => simp [scanR_eq, c2, hf, F, lastA, scanF_eq, arg_0, arg_s, evalTs, evalT, dens, den, prim, encR, getV]
  simp only [scanR_eq, c2, hf, F, lastA, scanF_eq, getR0, arg_0, arg_s, toI_vi, List.length_cons, List.length_nil, Nat.reduceAdd, Nat.reduceSub, Bool.false_eq_true, if_false, if_true, evalTs, evalT, dens, den, dB, prim, List.cons_append, List.nil_append]
  rw [scan_loop (x := .vb false) (bad := fun i => paneBV (atV (ω.w 11).toL i)) (px := fun k => [.vb false, .vi k]) (n := (ω.w 11).toL.length)]
  rotate_left
  · intro i hi hb
    rw [paneBV_f] at hb
    simp [hi, upd_at, arI_add1 (show i ≤ 10000000 by omega), getV_0, getV_1, getV_2, getV_3, getV_4, getV_5, getV_6]
    first | (intros; omega) | (repeat' split) <;> first | rfl | (intros; omega) | (exfalso; omega) | (intros; rfl)
  · intro i hi hb
    rw [paneBV_t] at hb
    simp [hi, upd_at, arI_add1 (show i ≤ 10000000 by omega), getV_0, getV_1, getV_2, getV_3, getV_4, getV_5, getV_6]
    first | (intros; omega) | (repeat' split) <;> first | rfl | (intros; omega) | (exfalso; omega) | (intros; rfl)
  · simp [upd_at]
  cases c3 : (ω.w 11).toL.any paneBV
  case true => simp [scanR_eq, c2, c3, hf, F, lastA, scanF_eq, getR0, arg_0, arg_s, evalTs, evalT, dens, den, prim]
  simp only [scanR_eq, c2, c3, hf, F, lastA, scanF_eq, getR0, arg_0, arg_s, toI_vi, toB_vb, List.length_cons, List.length_nil, Nat.reduceAdd, Nat.reduceSub, Bool.false_eq_true, if_false, if_true, evalTs, evalT, dens, den, dB, prim, List.cons_append, List.nil_append, cmpI_eql, Bool.not_false, Bool.true_and, decide_eq_true_eq]
  by_cases a2 : (ω.w 2).toI = 0
  case neg => simp [restM, repM, hk, arg_0, arg_s, rows_nil, panes_nil, a2]
  by_cases a5 : (ω.w 5).toI = 0
  case neg => simp [restM, repM, hk, arg_0, arg_s, rows_nil, panes_nil, a5]
  by_cases a6 : (ω.w 6).toI = 0
  case neg => simp [restM, repM, hk, arg_0, arg_s, rows_nil, panes_nil, a6]
  by_cases a7 : (ω.w 7).toI = 0
  case neg => simp [restM, repM, hk, arg_0, arg_s, rows_nil, panes_nil, a7]
  by_cases a8 : (ω.w 8).toI = 0
  case neg => simp [restM, repM, hk, arg_0, arg_s, rows_nil, panes_nil, a8]
  by_cases a9 : (ω.w 9).toI = 0
  case neg => simp [restM, repM, hk, arg_0, arg_s, rows_nil, panes_nil, a9]
  by_cases ag : (ω.w 11).toL.length = 0
  case neg => simp [restM, repM, hk, arg_0, arg_s, rows_nil, panes_nil, ag]
  simp [restM, repM, hk, arg_0, arg_s, rows_nil, panes_nil, a2, a5, a6, a7, a8, a9, ag]
theorem t_rightR2 {ω : Opq} (hf : ∀ i a, ω.f i a = F i a) (hk : (ω.w 0).toI = 2) (hw : fewM [ω.w 0, ω.w 1, ω.w 2, ω.w 3, ω.w 4, ω.w 5, ω.w 6, ω.w 7, ω.w 8, ω.w 9, ω.w 10, ω.w 11] = true) : evalT T_rightR2 ω = some (0, [F 4 [ω.w 0, ω.w 1, ω.w 2, ω.w 3, ω.w 4, ω.w 5, ω.w 6, ω.w 7, ω.w 8, ω.w 9, ω.w 10, ω.w 11]]) := by
  obtain ⟨q1, q2, _, _⟩ := few_lens hw
  simp only [arg_0, arg_s] at q1 q2
  have hs := add_lens q1 q2
  have hR : F 4 [ω.w 0, ω.w 1, ω.w 2, ω.w 3, ω.w 4, ω.w 5, ω.w 6, ω.w 7, ω.w 8, ω.w 9, ω.w 10, ω.w 11] = .vb (checksM [ω.w 0, ω.w 1, ω.w 2, ω.w 3, ω.w 4, ω.w 5, ω.w 6, ω.w 7, ω.w 8, ω.w 9, ω.w 10, ω.w 11]) := by
    simp only [F, rightM_eq, arg_0, arg_s, hk]
    simp
  rw [hR]
  simp only [checksM, arg_0, arg_s]
  by_cases c1 : (ω.w 10).toL.length + (ω.w 11).toL.length ≤ 64
  case neg =>
    have c1' : 64 < (((ω.w 10).toL.length + (ω.w 11).toL.length : Nat) : Int) := by omega
    simp [T_rightR2, evalT, dens, den, dB, prim, hs, c1', c1, -Int.natCast_add]
  have c1' : ¬ 64 < (((ω.w 10).toL.length + (ω.w 11).toL.length : Nat) : Int) := by omega
  simp only [T_rightR2, evalT, evalTs, dens, den, dB, prim, hs, c1', c1, toI_vi, toB_vb, toL_vl, cmpI_gtr, cmpI_eql, decide_true, decide_false, Bool.true_and, Bool.false_eq_true, if_false, List.cons_append, List.nil_append]
  rw [scan_loop (x := .vb false) (bad := fun i => rowBV (atV (ω.w 10).toL i)) (px := fun k => [.vb false, .vi k]) (n := (ω.w 10).toL.length)]
  rotate_left
  · intro i hi hb
    rw [rowBV_f] at hb
    simp [hi, upd_at, arI_add1 (show i ≤ 10000000 by omega), getV_0, getV_1, getV_2, getV_3, getV_4, getV_5, getV_6]
    first | (intros; omega) | (repeat' split) <;> first | rfl | (intros; omega) | (exfalso; omega) | (intros; rfl)
  · intro i hi hb
    rw [rowBV_t] at hb
    simp [hi, upd_at, arI_add1 (show i ≤ 10000000 by omega), getV_0, getV_1, getV_2, getV_3, getV_4, getV_5, getV_6]
    first | (intros; omega) | (repeat' split) <;> first | rfl | (intros; omega) | (exfalso; omega) | (intros; rfl)
  · simp [upd_at]
  have e10 : ∀ l, F 110 l = scanF rowBV (lastA l 2).toL := fun _ => rfl
  cases c2 : (ω.w 10).toL.any rowBV
  case true => simp [scanR_eq, c2, hf, F, lastA, scanF_eq, arg_0, arg_s, evalTs, evalT, dens, den, prim, encR, getV]
  simp only [scanR_eq, c2, hf, F, lastA, scanF_eq, getR0, arg_0, arg_s, toI_vi, List.length_cons, List.length_nil, Nat.reduceAdd, Nat.reduceSub, Bool.false_eq_true, if_false, if_true, evalTs, evalT, dens, den, dB, prim, List.cons_append, List.nil_append]
  rw [scan_loop (x := .vb false) (bad := fun i => paneBV (atV (ω.w 11).toL i)) (px := fun k => [.vb false, .vi k]) (n := (ω.w 11).toL.length)]
  rotate_left
  · intro i hi hb
    rw [paneBV_f] at hb
    simp [hi, upd_at, arI_add1 (show i ≤ 10000000 by omega), getV_0, getV_1, getV_2, getV_3, getV_4, getV_5, getV_6]
    first | (intros; omega) | (repeat' split) <;> first | rfl | (intros; omega) | (exfalso; omega) | (intros; rfl)
  · intro i hi hb
    rw [paneBV_t] at hb
    simp [hi, upd_at, arI_add1 (show i ≤ 10000000 by omega), getV_0, getV_1, getV_2, getV_3, getV_4, getV_5, getV_6]
    first | (intros; omega) | (repeat' split) <;> first | rfl | (intros; omega) | (exfalso; omega) | (intros; rfl)
  · simp [upd_at]
  cases c3 : (ω.w 11).toL.any paneBV
  case true => simp [scanR_eq, c2, c3, hf, F, lastA, scanF_eq, getR0, arg_0, arg_s, evalTs, evalT, dens, den, prim]
  simp only [scanR_eq, c2, c3, hf, F, lastA, scanF_eq, getR0, arg_0, arg_s, toI_vi, toB_vb, List.length_cons, List.length_nil, Nat.reduceAdd, Nat.reduceSub, Bool.false_eq_true, if_false, if_true, evalTs, evalT, dens, den, dB, prim, List.cons_append, List.nil_append, cmpI_eql, Bool.not_false, Bool.true_and, decide_eq_true_eq]
  by_cases a2 : (ω.w 2).toI = 0
  case neg => simp [restM, repM, hk, arg_0, arg_s, rows_nil, panes_nil, a2]
  by_cases a3 : (ω.w 3).toB = false
  case neg => simp [restM, repM, hk, arg_0, arg_s, rows_nil, panes_nil, a3]
  by_cases a5 : (ω.w 5).toI = 0
  case neg => simp [restM, repM, hk, arg_0, arg_s, rows_nil, panes_nil, a5]
  by_cases a8 : (ω.w 8).toI = 0
  case neg => simp [restM, repM, hk, arg_0, arg_s, rows_nil, panes_nil, a8]
  by_cases a9 : (ω.w 9).toI = 0
  case neg => simp [restM, repM, hk, arg_0, arg_s, rows_nil, panes_nil, a9]
  by_cases ar : (ω.w 10).toL.length = 0
  case neg => simp [restM, repM, hk, arg_0, arg_s, rows_nil, panes_nil, ar]
  by_cases ag : (ω.w 11).toL.length = 0
  case neg => simp [restM, repM, hk, arg_0, arg_s, rows_nil, panes_nil, ag]
  simp [restM, repM, hk, arg_0, arg_s, rows_nil, panes_nil, a2, a3, a5, a8, a9, ar, ag]
theorem t_rightR3 {ω : Opq} (hf : ∀ i a, ω.f i a = F i a) (hk : (ω.w 0).toI = 3) (hw : fewM [ω.w 0, ω.w 1, ω.w 2, ω.w 3, ω.w 4, ω.w 5, ω.w 6, ω.w 7, ω.w 8, ω.w 9, ω.w 10, ω.w 11] = true) : evalT T_rightR3 ω = some (0, [F 4 [ω.w 0, ω.w 1, ω.w 2, ω.w 3, ω.w 4, ω.w 5, ω.w 6, ω.w 7, ω.w 8, ω.w 9, ω.w 10, ω.w 11]]) := by
  obtain ⟨q1, q2, _, _⟩ := few_lens hw
  simp only [arg_0, arg_s] at q1 q2
  have hs := add_lens q1 q2
  have hR : F 4 [ω.w 0, ω.w 1, ω.w 2, ω.w 3, ω.w 4, ω.w 5, ω.w 6, ω.w 7, ω.w 8, ω.w 9, ω.w 10, ω.w 11] = .vb (checksM [ω.w 0, ω.w 1, ω.w 2, ω.w 3, ω.w 4, ω.w 5, ω.w 6, ω.w 7, ω.w 8, ω.w 9, ω.w 10, ω.w 11]) := by
    simp only [F, rightM_eq, arg_0, arg_s, hk]
    simp
  rw [hR]
  simp only [checksM, arg_0, arg_s]
  by_cases c1 : (ω.w 10).toL.length + (ω.w 11).toL.length ≤ 64
  case neg =>
    have c1' : 64 < (((ω.w 10).toL.length + (ω.w 11).toL.length : Nat) : Int) := by omega
    simp [T_rightR3, evalT, dens, den, dB, prim, hs, c1', c1, -Int.natCast_add]
  have c1' : ¬ 64 < (((ω.w 10).toL.length + (ω.w 11).toL.length : Nat) : Int) := by omega
  simp only [T_rightR3, evalT, evalTs, dens, den, dB, prim, hs, c1', c1, toI_vi, toB_vb, toL_vl, cmpI_gtr, cmpI_eql, decide_true, decide_false, Bool.true_and, Bool.false_eq_true, if_false, List.cons_append, List.nil_append]
  rw [scan_loop (x := .vb false) (bad := fun i => rowBV (atV (ω.w 10).toL i)) (px := fun k => [.vb false, .vi k]) (n := (ω.w 10).toL.length)]
  rotate_left
  · intro i hi hb
    rw [rowBV_f] at hb
    simp [hi, upd_at, arI_add1 (show i ≤ 10000000 by omega), getV_0, getV_1, getV_2, getV_3, getV_4, getV_5, getV_6]
    first | (intros; omega) | (repeat' split) <;> first | rfl | (intros; omega) | (exfalso; omega) | (intros; rfl)
  · intro i hi hb
    rw [rowBV_t] at hb
    simp [hi, upd_at, arI_add1 (show i ≤ 10000000 by omega), getV_0, getV_1, getV_2, getV_3, getV_4, getV_5, getV_6]
    first | (intros; omega) | (repeat' split) <;> first | rfl | (intros; omega) | (exfalso; omega) | (intros; rfl)
  · simp [upd_at]
  have e10 : ∀ l, F 110 l = scanF rowBV (lastA l 2).toL := fun _ => rfl
  cases c2 : (ω.w 10).toL.any rowBV
  case true => simp [scanR_eq, c2, hf, F, lastA, scanF_eq, arg_0, arg_s, evalTs, evalT, dens, den, prim, encR, getV]
  simp only [scanR_eq, c2, hf, F, lastA, scanF_eq, getR0, arg_0, arg_s, toI_vi, List.length_cons, List.length_nil, Nat.reduceAdd, Nat.reduceSub, Bool.false_eq_true, if_false, if_true, evalTs, evalT, dens, den, dB, prim, List.cons_append, List.nil_append]
  rw [scan_loop (x := .vb false) (bad := fun i => paneBV (atV (ω.w 11).toL i)) (px := fun k => [.vb false, .vi k]) (n := (ω.w 11).toL.length)]
  rotate_left
  · intro i hi hb
    rw [paneBV_f] at hb
    simp [hi, upd_at, arI_add1 (show i ≤ 10000000 by omega), getV_0, getV_1, getV_2, getV_3, getV_4, getV_5, getV_6]
    first | (intros; omega) | (repeat' split) <;> first | rfl | (intros; omega) | (exfalso; omega) | (intros; rfl)
  · intro i hi hb
    rw [paneBV_t] at hb
    simp [hi, upd_at, arI_add1 (show i ≤ 10000000 by omega), getV_0, getV_1, getV_2, getV_3, getV_4, getV_5, getV_6]
    first | (intros; omega) | (repeat' split) <;> first | rfl | (intros; omega) | (exfalso; omega) | (intros; rfl)
  · simp [upd_at]
  cases c3 : (ω.w 11).toL.any paneBV
  case true => simp [scanR_eq, c2, c3, hf, F, lastA, scanF_eq, getR0, arg_0, arg_s, evalTs, evalT, dens, den, prim]
  simp only [scanR_eq, c2, c3, hf, F, lastA, scanF_eq, getR0, arg_0, arg_s, toI_vi, toB_vb, List.length_cons, List.length_nil, Nat.reduceAdd, Nat.reduceSub, Bool.false_eq_true, if_false, if_true, evalTs, evalT, dens, den, dB, prim, List.cons_append, List.nil_append, cmpI_eql, Bool.not_false, Bool.true_and, decide_eq_true_eq]
  by_cases a2 : (ω.w 2).toI = 0
  case neg => simp [restM, repM, hk, arg_0, arg_s, rows_nil, panes_nil, a2]
  by_cases a3 : (ω.w 3).toB = false
  case neg => simp [restM, repM, hk, arg_0, arg_s, rows_nil, panes_nil, a3]
  by_cases a5 : (ω.w 5).toI = 0
  case neg => simp [restM, repM, hk, arg_0, arg_s, rows_nil, panes_nil, a5]
  by_cases a8 : (ω.w 8).toI = 0
  case neg => simp [restM, repM, hk, arg_0, arg_s, rows_nil, panes_nil, a8]
  by_cases a9 : (ω.w 9).toI = 0
  case neg => simp [restM, repM, hk, arg_0, arg_s, rows_nil, panes_nil, a9]
  by_cases ar : (ω.w 10).toL.length = 0
  case neg => simp [restM, repM, hk, arg_0, arg_s, rows_nil, panes_nil, ar]
  by_cases ag : (ω.w 11).toL.length = 0
  case neg => simp [restM, repM, hk, arg_0, arg_s, rows_nil, panes_nil, ag]
  simp [restM, repM, hk, arg_0, arg_s, rows_nil, panes_nil, a2, a3, a5, a8, a9, ar, ag]
theorem t_rightR4 {ω : Opq} (hf : ∀ i a, ω.f i a = F i a) (hk : (ω.w 0).toI = 4) (hw : fewM [ω.w 0, ω.w 1, ω.w 2, ω.w 3, ω.w 4, ω.w 5, ω.w 6, ω.w 7, ω.w 8, ω.w 9, ω.w 10, ω.w 11] = true) : evalT T_rightR4 ω = some (0, [F 4 [ω.w 0, ω.w 1, ω.w 2, ω.w 3, ω.w 4, ω.w 5, ω.w 6, ω.w 7, ω.w 8, ω.w 9, ω.w 10, ω.w 11]]) := by
  obtain ⟨q1, q2, _, _⟩ := few_lens hw
  simp only [arg_0, arg_s] at q1 q2
  have hs := add_lens q1 q2
  have hR : F 4 [ω.w 0, ω.w 1, ω.w 2, ω.w 3, ω.w 4, ω.w 5, ω.w 6, ω.w 7, ω.w 8, ω.w 9, ω.w 10, ω.w 11] = .vb (checksM [ω.w 0, ω.w 1, ω.w 2, ω.w 3, ω.w 4, ω.w 5, ω.w 6, ω.w 7, ω.w 8, ω.w 9, ω.w 10, ω.w 11]) := by
    simp only [F, rightM_eq, arg_0, arg_s, hk]
    simp
  rw [hR]
  simp only [checksM, arg_0, arg_s]
  by_cases c1 : (ω.w 10).toL.length + (ω.w 11).toL.length ≤ 64
  case neg =>
    have c1' : 64 < (((ω.w 10).toL.length + (ω.w 11).toL.length : Nat) : Int) := by omega
    simp [T_rightR4, evalT, dens, den, dB, prim, hs, c1', c1, -Int.natCast_add]
  have c1' : ¬ 64 < (((ω.w 10).toL.length + (ω.w 11).toL.length : Nat) : Int) := by omega
  simp only [T_rightR4, evalT, evalTs, dens, den, dB, prim, hs, c1', c1, toI_vi, toB_vb, toL_vl, cmpI_gtr, cmpI_eql, decide_true, decide_false, Bool.true_and, Bool.false_eq_true, if_false, List.cons_append, List.nil_append]
  rw [scan_loop (x := .vb false) (bad := fun i => rowBV (atV (ω.w 10).toL i)) (px := fun k => [.vb false, .vi k]) (n := (ω.w 10).toL.length)]
  rotate_left
  · intro i hi hb
    rw [rowBV_f] at hb
    simp [hi, upd_at, arI_add1 (show i ≤ 10000000 by omega), getV_0, getV_1, getV_2, getV_3, getV_4, getV_5, getV_6]
    first | (intros; omega) | (repeat' split) <;> first | rfl | (intros; omega) | (exfalso; omega) | (intros; rfl)
  · intro i hi hb
    rw [rowBV_t] at hb
    simp [hi, upd_at, arI_add1 (show i ≤ 10000000 by omega), getV_0, getV_1, getV_2, getV_3, getV_4, getV_5, getV_6]
    first | (intros; omega) | (repeat' split) <;> first | rfl | (intros; omega) | (exfalso; omega) | (intros; rfl)
  · simp [upd_at]
  have e10 : ∀ l, F 110 l = scanF rowBV (lastA l 2).toL := fun _ => rfl
  cases c2 : (ω.w 10).toL.any rowBV
  case true => simp [scanR_eq, c2, hf, F, lastA, scanF_eq, arg_0, arg_s, evalTs, evalT, dens, den, prim, encR, getV]
  simp only [scanR_eq, c2, hf, F, lastA, scanF_eq, getR0, arg_0, arg_s, toI_vi, List.length_cons, List.length_nil, Nat.reduceAdd, Nat.reduceSub, Bool.false_eq_true, if_false, if_true, evalTs, evalT, dens, den, dB, prim, List.cons_append, List.nil_append]
  rw [scan_loop (x := .vb false) (bad := fun i => paneBV (atV (ω.w 11).toL i)) (px := fun k => [.vb false, .vi k]) (n := (ω.w 11).toL.length)]
  rotate_left
  · intro i hi hb
    rw [paneBV_f] at hb
    simp [hi, upd_at, arI_add1 (show i ≤ 10000000 by omega), getV_0, getV_1, getV_2, getV_3, getV_4, getV_5, getV_6]
    first | (intros; omega) | (repeat' split) <;> first | rfl | (intros; omega) | (exfalso; omega) | (intros; rfl)
  · intro i hi hb
    rw [paneBV_t] at hb
    simp [hi, upd_at, arI_add1 (show i ≤ 10000000 by omega), getV_0, getV_1, getV_2, getV_3, getV_4, getV_5, getV_6]
    first | (intros; omega) | (repeat' split) <;> first | rfl | (intros; omega) | (exfalso; omega) | (intros; rfl)
  · simp [upd_at]
  cases c3 : (ω.w 11).toL.any paneBV
  case true => simp [scanR_eq, c2, c3, hf, F, lastA, scanF_eq, getR0, arg_0, arg_s, evalTs, evalT, dens, den, prim]
  simp only [scanR_eq, c2, c3, hf, F, lastA, scanF_eq, getR0, arg_0, arg_s, toI_vi, toB_vb, List.length_cons, List.length_nil, Nat.reduceAdd, Nat.reduceSub, Bool.false_eq_true, if_false, if_true, evalTs, evalT, dens, den, dB, prim, List.cons_append, List.nil_append, cmpI_eql, Bool.not_false, Bool.true_and, decide_eq_true_eq]
  by_cases a2 : (ω.w 2).toI = 0
  case neg => simp [restM, repM, hk, arg_0, arg_s, rows_nil, panes_nil, a2]
  by_cases a5 : (ω.w 5).toI = 0
  case neg => simp [restM, repM, hk, arg_0, arg_s, rows_nil, panes_nil, a5]
  by_cases a6 : (ω.w 6).toI = 0
  case neg => simp [restM, repM, hk, arg_0, arg_s, rows_nil, panes_nil, a6]
  by_cases a7 : (ω.w 7).toI = 0
  case neg => simp [restM, repM, hk, arg_0, arg_s, rows_nil, panes_nil, a7]
  by_cases a8 : (ω.w 8).toI = 0
  case neg => simp [restM, repM, hk, arg_0, arg_s, rows_nil, panes_nil, a8]
  by_cases a9 : (ω.w 9).toI = 0
  case neg => simp [restM, repM, hk, arg_0, arg_s, rows_nil, panes_nil, a9]
  simp [restM, repM, hk, arg_0, arg_s, rows_nil, panes_nil, a2, a5, a6, a7, a8, a9]
theorem t_rightR5 {ω : Opq} (hf : ∀ i a, ω.f i a = F i a) (hk : (ω.w 0).toI = 5) (hw : fewM [ω.w 0, ω.w 1, ω.w 2, ω.w 3, ω.w 4, ω.w 5, ω.w 6, ω.w 7, ω.w 8, ω.w 9, ω.w 10, ω.w 11] = true) : evalT T_rightR5 ω = some (0, [F 4 [ω.w 0, ω.w 1, ω.w 2, ω.w 3, ω.w 4, ω.w 5, ω.w 6, ω.w 7, ω.w 8, ω.w 9, ω.w 10, ω.w 11]]) := by
  obtain ⟨q1, q2, _, _⟩ := few_lens hw
  simp only [arg_0, arg_s] at q1 q2
  have hs := add_lens q1 q2
  have hR : F 4 [ω.w 0, ω.w 1, ω.w 2, ω.w 3, ω.w 4, ω.w 5, ω.w 6, ω.w 7, ω.w 8, ω.w 9, ω.w 10, ω.w 11] = .vb (checksM [ω.w 0, ω.w 1, ω.w 2, ω.w 3, ω.w 4, ω.w 5, ω.w 6, ω.w 7, ω.w 8, ω.w 9, ω.w 10, ω.w 11]) := by
    simp only [F, rightM_eq, arg_0, arg_s, hk]
    simp
  rw [hR]
  simp only [checksM, arg_0, arg_s]
  by_cases c1 : (ω.w 10).toL.length + (ω.w 11).toL.length ≤ 64
  case neg =>
    have c1' : 64 < (((ω.w 10).toL.length + (ω.w 11).toL.length : Nat) : Int) := by omega
    simp [T_rightR5, evalT, dens, den, dB, prim, hs, c1', c1, -Int.natCast_add]
  have c1' : ¬ 64 < (((ω.w 10).toL.length + (ω.w 11).toL.length : Nat) : Int) := by omega
  simp only [T_rightR5, evalT, evalTs, dens, den, dB, prim, hs, c1', c1, toI_vi, toB_vb, toL_vl, cmpI_gtr, cmpI_eql, decide_true, decide_false, Bool.true_and, Bool.false_eq_true, if_false, List.cons_append, List.nil_append]
  rw [scan_loop (x := .vb false) (bad := fun i => rowBV (atV (ω.w 10).toL i)) (px := fun k => [.vb false, .vi k]) (n := (ω.w 10).toL.length)]
  rotate_left
  · intro i hi hb
    rw [rowBV_f] at hb
    simp [hi, upd_at, arI_add1 (show i ≤ 10000000 by omega), getV_0, getV_1, getV_2, getV_3, getV_4, getV_5, getV_6]
    first | (intros; omega) | (repeat' split) <;> first | rfl | (intros; omega) | (exfalso; omega) | (intros; rfl)
  · intro i hi hb
    rw [rowBV_t] at hb
    simp [hi, upd_at, arI_add1 (show i ≤ 10000000 by omega), getV_0, getV_1, getV_2, getV_3, getV_4, getV_5, getV_6]
    first | (intros; omega) | (repeat' split) <;> first | rfl | (intros; omega) | (exfalso; omega) | (intros; rfl)
  · simp [upd_at]
  have e10 : ∀ l, F 110 l = scanF rowBV (lastA l 2).toL := fun _ => rfl
  cases c2 : (ω.w 10).toL.any rowBV
  case true => simp [scanR_eq, c2, hf, F, lastA, scanF_eq, arg_0, arg_s, evalTs, evalT, dens, den, prim, encR, getV]
  simp only [scanR_eq, c2, hf, F, lastA, scanF_eq, getR0, arg_0, arg_s, toI_vi, List.length_cons, List.length_nil, Nat.reduceAdd, Nat.reduceSub, Bool.false_eq_true, if_false, if_true, evalTs, evalT, dens, den, dB, prim, List.cons_append, List.nil_append]
  rw [scan_loop (x := .vb false) (bad := fun i => paneBV (atV (ω.w 11).toL i)) (px := fun k => [.vb false, .vi k]) (n := (ω.w 11).toL.length)]
  rotate_left
  · intro i hi hb
    rw [paneBV_f] at hb
    simp [hi, upd_at, arI_add1 (show i ≤ 10000000 by omega), getV_0, getV_1, getV_2, getV_3, getV_4, getV_5, getV_6]
    first | (intros; omega) | (repeat' split) <;> first | rfl | (intros; omega) | (exfalso; omega) | (intros; rfl)
  · intro i hi hb
    rw [paneBV_t] at hb
    simp [hi, upd_at, arI_add1 (show i ≤ 10000000 by omega), getV_0, getV_1, getV_2, getV_3, getV_4, getV_5, getV_6]
    first | (intros; omega) | (repeat' split) <;> first | rfl | (intros; omega) | (exfalso; omega) | (intros; rfl)
  · simp [upd_at]
  cases c3 : (ω.w 11).toL.any paneBV
  case true => simp [scanR_eq, c2, c3, hf, F, lastA, scanF_eq, getR0, arg_0, arg_s, evalTs, evalT, dens, den, prim]
  simp only [scanR_eq, c2, c3, hf, F, lastA, scanF_eq, getR0, arg_0, arg_s, toI_vi, toB_vb, List.length_cons, List.length_nil, Nat.reduceAdd, Nat.reduceSub, Bool.false_eq_true, if_false, if_true, evalTs, evalT, dens, den, dB, prim, List.cons_append, List.nil_append, cmpI_eql, Bool.not_false, Bool.true_and, decide_eq_true_eq]
  by_cases a2 : (ω.w 2).toI = 0
  case neg => simp [restM, repM, hk, arg_0, arg_s, rows_nil, panes_nil, a2]
  by_cases a3 : (ω.w 3).toB = false
  case neg => simp [restM, repM, hk, arg_0, arg_s, rows_nil, panes_nil, a3]
  by_cases a6 : (ω.w 6).toI = 0
  case neg => simp [restM, repM, hk, arg_0, arg_s, rows_nil, panes_nil, a6]
  by_cases a7 : (ω.w 7).toI = 0
  case neg => simp [restM, repM, hk, arg_0, arg_s, rows_nil, panes_nil, a7]
  by_cases ar : (ω.w 10).toL.length = 0
  case neg => simp [restM, repM, hk, arg_0, arg_s, rows_nil, panes_nil, ar]
  by_cases ag : (ω.w 11).toL.length = 0
  case neg => simp [restM, repM, hk, arg_0, arg_s, rows_nil, panes_nil, ag]
  simp [restM, repM, hk, arg_0, arg_s, rows_nil, panes_nil, a2, a3, a6, a7, ar, ag]
theorem t_rightR6 {ω : Opq} (hf : ∀ i a, ω.f i a = F i a) (hk : (ω.w 0).toI = 6) (hw : fewM [ω.w 0, ω.w 1, ω.w 2, ω.w 3, ω.w 4, ω.w 5, ω.w 6, ω.w 7, ω.w 8, ω.w 9, ω.w 10, ω.w 11] = true) : evalT T_rightR6 ω = some (0, [F 4 [ω.w 0, ω.w 1, ω.w 2, ω.w 3, ω.w 4, ω.w 5, ω.w 6, ω.w 7, ω.w 8, ω.w 9, ω.w 10, ω.w 11]]) := by
  obtain ⟨q1, q2, _, _⟩ := few_lens hw
  simp only [arg_0, arg_s] at q1 q2
  have hs := add_lens q1 q2
  have hR : F 4 [ω.w 0, ω.w 1, ω.w 2, ω.w 3, ω.w 4, ω.w 5, ω.w 6, ω.w 7, ω.w 8, ω.w 9, ω.w 10, ω.w 11] = .vb (checksM [ω.w 0, ω.w 1, ω.w 2, ω.w 3, ω.w 4, ω.w 5, ω.w 6, ω.w 7, ω.w 8, ω.w 9, ω.w 10, ω.w 11]) := by
    simp only [F, rightM_eq, arg_0, arg_s, hk]
    simp
  rw [hR]
  simp only [checksM, arg_0, arg_s]
  by_cases c1 : (ω.w 10).toL.length + (ω.w 11).toL.length ≤ 64
  case neg =>
    have c1' : 64 < (((ω.w 10).toL.length + (ω.w 11).toL.length : Nat) : Int) := by omega
    simp [T_rightR6, evalT, dens, den, dB, prim, hs, c1', c1, -Int.natCast_add]
  have c1' : ¬ 64 < (((ω.w 10).toL.length + (ω.w 11).toL.length : Nat) : Int) := by omega
  simp only [T_rightR6, evalT, evalTs, dens, den, dB, prim, hs, c1', c1, toI_vi, toB_vb, toL_vl, cmpI_gtr, cmpI_eql, decide_true, decide_false, Bool.true_and, Bool.false_eq_true, if_false, List.cons_append, List.nil_append]
  rw [scan_loop (x := .vb false) (bad := fun i => rowBV (atV (ω.w 10).toL i)) (px := fun k => [.vb false, .vi k]) (n := (ω.w 10).toL.length)]
  rotate_left
  · intro i hi hb
    rw [rowBV_f] at hb
    simp [hi, upd_at, arI_add1 (show i ≤ 10000000 by omega), getV_0, getV_1, getV_2, getV_3, getV_4, getV_5, getV_6]
    first | (intros; omega) | (repeat' split) <;> first | rfl | (intros; omega) | (exfalso; omega) | (intros; rfl)
  · intro i hi hb
    rw [rowBV_t] at hb
    simp [hi, upd_at, arI_add1 (show i ≤ 10000000 by omega), getV_0, getV_1, getV_2, getV_3, getV_4, getV_5, getV_6]
    first | (intros; omega) | (repeat' split) <;> first | rfl | (intros; omega) | (exfalso; omega) | (intros; rfl)
  · simp [upd_at]
  have e10 : ∀ l, F 110 l = scanF rowBV (lastA l 2).toL := fun _ => rfl
  cases c2 : (ω.w 10).toL.any rowBV
  case true => simp [scanR_eq, c2, hf, F, lastA, scanF_eq, arg_0, arg_s, evalTs, evalT, dens, den, prim, encR, getV]
  simp only [scanR_eq, c2, hf, F, lastA, scanF_eq, getR0, arg_0, arg_s, toI_vi, List.length_cons, List.length_nil, Nat.reduceAdd, Nat.reduceSub, Bool.false_eq_true, if_false, if_true, evalTs, evalT, dens, den, dB, prim, List.cons_append, List.nil_append]
  rw [scan_loop (x := .vb false) (bad := fun i => paneBV (atV (ω.w 11).toL i)) (px := fun k => [.vb false, .vi k]) (n := (ω.w 11).toL.length)]
  rotate_left
  · intro i hi hb
    rw [paneBV_f] at hb
    simp [hi, upd_at, arI_add1 (show i ≤ 10000000 by omega), getV_0, getV_1, getV_2, getV_3, getV_4, getV_5, getV_6]
    first | (intros; omega) | (repeat' split) <;> first | rfl | (intros; omega) | (exfalso; omega) | (intros; rfl)
  · intro i hi hb
    rw [paneBV_t] at hb
    simp [hi, upd_at, arI_add1 (show i ≤ 10000000 by omega), getV_0, getV_1, getV_2, getV_3, getV_4, getV_5, getV_6]
    first | (intros; omega) | (repeat' split) <;> first | rfl | (intros; omega) | (exfalso; omega) | (intros; rfl)
  · simp [upd_at]
  cases c3 : (ω.w 11).toL.any paneBV
  case true => simp [scanR_eq, c2, c3, hf, F, lastA, scanF_eq, getR0, arg_0, arg_s, evalTs, evalT, dens, den, prim]
  simp only [scanR_eq, c2, c3, hf, F, lastA, scanF_eq, getR0, arg_0, arg_s, toI_vi, toB_vb, List.length_cons, List.length_nil, Nat.reduceAdd, Nat.reduceSub, Bool.false_eq_true, if_false, if_true, evalTs, evalT, dens, den, dB, prim, List.cons_append, List.nil_append, cmpI_eql, Bool.not_false, Bool.true_and, decide_eq_true_eq]
  by_cases a2 : (ω.w 2).toI = 0
  case neg => simp [restM, repM, hk, arg_0, arg_s, rows_nil, panes_nil, a2]
  by_cases a3 : (ω.w 3).toB = false
  case neg => simp [restM, repM, hk, arg_0, arg_s, rows_nil, panes_nil, a3]
  by_cases a4 : (ω.w 4).toI = 0
  case neg => simp [restM, repM, hk, arg_0, arg_s, rows_nil, panes_nil, a4]
  by_cases a5 : (ω.w 5).toI = 0
  case neg => simp [restM, repM, hk, arg_0, arg_s, rows_nil, panes_nil, a5]
  by_cases a6 : (ω.w 6).toI = 0
  case neg => simp [restM, repM, hk, arg_0, arg_s, rows_nil, panes_nil, a6]
  by_cases a7 : (ω.w 7).toI = 0
  case neg => simp [restM, repM, hk, arg_0, arg_s, rows_nil, panes_nil, a7]
  by_cases a8 : (ω.w 8).toI = 0
  case neg => simp [restM, repM, hk, arg_0, arg_s, rows_nil, panes_nil, a8]
  by_cases a9 : (ω.w 9).toI = 0
  case neg => simp [restM, repM, hk, arg_0, arg_s, rows_nil, panes_nil, a9]
  by_cases ar : (ω.w 10).toL.length = 0
  case neg => simp [restM, repM, hk, arg_0, arg_s, rows_nil, panes_nil, ar]
  by_cases ag : (ω.w 11).toL.length = 0
  case neg => simp [restM, repM, hk, arg_0, arg_s, rows_nil, panes_nil, ag]
  simp [restM, repM, hk, arg_0, arg_s, rows_nil, panes_nil, a2, a3, a4, a5, a6, a7, a8, a9, ar, ag]
theorem t_rightR7 {ω : Opq} (hf : ∀ i a, ω.f i a = F i a) (hk : (ω.w 0).toI = 7) (hw : fewM [ω.w 0, ω.w 1, ω.w 2, ω.w 3, ω.w 4, ω.w 5, ω.w 6, ω.w 7, ω.w 8, ω.w 9, ω.w 10, ω.w 11] = true) : evalT T_rightR7 ω = some (0, [F 4 [ω.w 0, ω.w 1, ω.w 2, ω.w 3, ω.w 4, ω.w 5, ω.w 6, ω.w 7, ω.w 8, ω.w 9, ω.w 10, ω.w 11]]) := by
  obtain ⟨q1, q2, _, _⟩ := few_lens hw
  simp only [arg_0, arg_s] at q1 q2
  have hs := add_lens q1 q2
  have hR : F 4 [ω.w 0, ω.w 1, ω.w 2, ω.w 3, ω.w 4, ω.w 5, ω.w 6, ω.w 7, ω.w 8, ω.w 9, ω.w 10, ω.w 11] = .vb (!((ω.w 2).toI == 0) && checksM [ω.w 0, ω.w 1, ω.w 2, ω.w 3, ω.w 4, ω.w 5, ω.w 6, ω.w 7, ω.w 8, ω.w 9, ω.w 10, ω.w 11]) := by
    simp only [F, rightM_eq, arg_0, arg_s, hk]
    simp
  rw [hR]
  simp only [checksM, arg_0, arg_s]
  by_cases c0 : (ω.w 2).toI = 0
  case pos => simp [T_rightR7, evalT, dens, den, dB, prim, c0]
  by_cases c1 : (ω.w 10).toL.length + (ω.w 11).toL.length ≤ 64
  case neg =>
    have c1' : 64 < (((ω.w 10).toL.length + (ω.w 11).toL.length : Nat) : Int) := by omega
    simp [T_rightR7, evalT, dens, den, dB, prim, hs, c1', c1, c0, -Int.natCast_add]
  have c1' : ¬ 64 < (((ω.w 10).toL.length + (ω.w 11).toL.length : Nat) : Int) := by omega
  simp only [T_rightR7, evalT, evalTs, dens, den, dB, prim, hs, c1', c1, c0, toI_vi, toB_vb, toL_vl, cmpI_gtr, cmpI_eql, decide_true, decide_false, Bool.true_and, Bool.false_eq_true, if_false, List.cons_append, List.nil_append]
  rw [scan_loop (x := .vb false) (bad := fun i => rowBV (atV (ω.w 10).toL i)) (px := fun k => [.vb false, .vi k]) (n := (ω.w 10).toL.length)]
  rotate_left
  · intro i hi hb
    rw [rowBV_f] at hb
    simp [hi, upd_at, arI_add1 (show i ≤ 10000000 by omega), getV_0, getV_1, getV_2, getV_3, getV_4, getV_5, getV_6]
    first | (intros; omega) | (repeat' split) <;> first | rfl | (intros; omega) | (exfalso; omega) | (intros; rfl)
  · intro i hi hb
    rw [rowBV_t] at hb
    simp [hi, upd_at, arI_add1 (show i ≤ 10000000 by omega), getV_0, getV_1, getV_2, getV_3, getV_4, getV_5, getV_6]
    first | (intros; omega) | (repeat' split) <;> first | rfl | (intros; omega) | (exfalso; omega) | (intros; rfl)
  · simp [upd_at]
  have e10 : ∀ l, F 110 l = scanF rowBV (lastA l 2).toL := fun _ => rfl
  cases c2 : (ω.w 10).toL.any rowBV
  case true => simp [scanR_eq, c2, hf, F, lastA, scanF_eq, arg_0, arg_s, evalTs, evalT, dens, den, prim, encR, getV]
  simp only [scanR_eq, c2, hf, F, lastA, scanF_eq, getR0, arg_0, arg_s, toI_vi, List.length_cons, List.length_nil, Nat.reduceAdd, Nat.reduceSub, Bool.false_eq_true, if_false, if_true, evalTs, evalT, dens, den, dB, prim, List.cons_append, List.nil_append]
  rw [scan_loop (x := .vb false) (bad := fun i => paneBV (atV (ω.w 11).toL i)) (px := fun k => [.vb false, .vi k]) (n := (ω.w 11).toL.length)]
  rotate_left
  · intro i hi hb
    rw [paneBV_f] at hb
    simp [hi, upd_at, arI_add1 (show i ≤ 10000000 by omega), getV_0, getV_1, getV_2, getV_3, getV_4, getV_5, getV_6]
    first | (intros; omega) | (repeat' split) <;> first | rfl | (intros; omega) | (exfalso; omega) | (intros; rfl)
  · intro i hi hb
    rw [paneBV_t] at hb
    simp [hi, upd_at, arI_add1 (show i ≤ 10000000 by omega), getV_0, getV_1, getV_2, getV_3, getV_4, getV_5, getV_6]
    first | (intros; omega) | (repeat' split) <;> first | rfl | (intros; omega) | (exfalso; omega) | (intros; rfl)
  · simp [upd_at]
  cases c3 : (ω.w 11).toL.any paneBV
  case true => simp [scanR_eq, c2, c3, hf, F, lastA, scanF_eq, getR0, arg_0, arg_s, evalTs, evalT, dens, den, prim]
  simp only [scanR_eq, c2, c3, hf, F, lastA, scanF_eq, getR0, arg_0, arg_s, toI_vi, toB_vb, List.length_cons, List.length_nil, Nat.reduceAdd, Nat.reduceSub, Bool.false_eq_true, if_false, if_true, evalTs, evalT, dens, den, dB, prim, List.cons_append, List.nil_append, cmpI_eql, Bool.not_false, Bool.true_and, decide_eq_true_eq]
  by_cases a3 : (ω.w 3).toB = false
  case neg => simp [restM, repM, hk, arg_0, arg_s, rows_nil, panes_nil, c0, a3]
  by_cases a4 : (ω.w 4).toI = 0
  case neg => simp [restM, repM, hk, arg_0, arg_s, rows_nil, panes_nil, c0, a4]
  by_cases a6 : (ω.w 6).toI = 0
  case neg => simp [restM, repM, hk, arg_0, arg_s, rows_nil, panes_nil, c0, a6]
  by_cases a7 : (ω.w 7).toI = 0
  case neg => simp [restM, repM, hk, arg_0, arg_s, rows_nil, panes_nil, c0, a7]
  by_cases a8 : (ω.w 8).toI = 0
  case neg => simp [restM, repM, hk, arg_0, arg_s, rows_nil, panes_nil, c0, a8]
  by_cases a9 : (ω.w 9).toI = 0
  case neg => simp [restM, repM, hk, arg_0, arg_s, rows_nil, panes_nil, c0, a9]
  by_cases ar : (ω.w 10).toL.length = 0
  case neg => simp [restM, repM, hk, arg_0, arg_s, rows_nil, panes_nil, c0, ar]
  by_cases ag : (ω.w 11).toL.length = 0
  case neg => simp [restM, repM, hk, arg_0, arg_s, rows_nil, panes_nil, c0, ag]
  simp [restM, repM, hk, arg_0, arg_s, rows_nil, panes_nil, c0, a3, a4, a6, a7, a8, a9, ar, ag]


theorem upd_10 (ω : Opq) (l : List Val) : (ω.upd 2000 l).w 10 = ω.w 10 := rfl
theorem upd_11 (ω : Opq) (l : List Val) : (ω.upd 2000 l).w 11 = ω.w 11 := rfl
theorem upd_a (ω : Opq) (x : Val) (l : List Val) : (ω.upd 2000 (x :: l)).w 2000 = x := rfl
theorem upd_b (ω : Opq) (x y : Val) (l : List Val) : (ω.upd 2000 (x :: y :: l)).w 2001 = y := rfl
theorem upd_c (ω : Opq) (x y z : Val) (l : List Val) : (ω.upd 2000 (x :: y :: z :: l)).w 2002 = z := rfl
theorem F4_congr {a b : List Val} (h : repM a = repM b) : F 4 a = F 4 b := by simp only [F, h]
theorem textV_len (s : List UInt8) : (textV s).length = 2 + s.length := by rw [textV, List.length_append, beV_len, List.length_map]
theorem paneW_len (r : Val) : (paneW r).length = 18 + (colV r 0).toS.length := by
  rw [paneW, List.length_append, List.length_append, textV_len, beV_len, beV_len]; omega
theorem rowW_len (r : Val) : (rowW r).length = 50 + (colV r 0).toS.length := by
  rw [rowW]; simp only [List.length_append, paneW_len, beV_len]; omega
theorem few_at {l : List Val} (h : l.any fewB = false) (i : Nat) : (colV (atV l i) 0).toS.length ≤ 60 := by
  rw [List.any_eq_false] at h
  by_cases hi : i < l.length
  · have := h (atV l i) (by rw [atV, List.getD_eq_getElem?_getD, List.getElem?_eq_getElem hi]; exact List.getElem_mem hi)
    simpa [fewB] using this
  · have : atV l i = .vl [] := by rw [atV, List.getD_eq_getElem?_getD, List.getElem?_eq_none (by omega)]; rfl
    rw [this]; exact Nat.zero_le _
theorem gathF_len {a0 : List Val} {g : Val → List Val} {l : List Val} {m : Nat} (hg : ∀ i, (g (atV l i)).length ≤ m) : (gathF a0 g l).length ≤ a0.length + l.length * m := by
  rw [gathF, List.length_append]
  have := gath_len (g := fun i => g (atV l i)) hg l.length
  omega
theorem gathF_eq (a0 : List Val) (g : Val → List Val) (l : List Val) : gathF a0 g l = a0 ++ l.flatMap g := by
  rw [gathF, gath_range]
  congr 1
  exact flat_range g (.vl []) l
theorem right_len {a : List Val} (h : rightM (repM a) = true) : (arg a 10).toL.length + (arg a 11).toL.length ≤ 64 := by
  rw [rightM_eq] at h
  simp only [checksM, Bool.and_eq_true, decide_eq_true_eq] at h
  exact h.2.1.1.1
theorem getR1 (j : Nat) (x y : Val) (p : List Val) : getV (encR (j, x :: y :: p)).toL 1 1 = y := rfl
theorem getR2 (j : Nat) (x y z : Val) (p : List Val) : getV (encR (j, x :: y :: z :: p)).toL 1 2 = z := rfl
theorem gath_loop' {step : List Val → Option (Nat × List Val)} {n : Nat} {a0 : List Val} {g : Nat → List Val} (mk : Nat → List Val → List Val) {s0 : List Val} (h0 : s0 = mk 0 a0)
    (h1 : ∀ i, i < n → step (mk i (a0 ++ gath g i)) = some (0, mk (i + 1) (a0 ++ gath g i ++ g i))) (h2 : step (mk n (a0 ++ gath g n)) = some (1, mk n (a0 ++ gath g n))) : loopOf step s0 = some (0, mk n (a0 ++ gath g n)) := gath_loop mk h0 h1 h2
theorem gath_flat (g : Val → List Val) (l : List Val) : gath (fun i => g (atV l i)) l.length = l.flatMap g := by
  rw [gath_range]; exact flat_range g (.vl []) l
theorem be_one (k : Int) : beV k 1 = [byteV (k % 256)] := by simp [beV]
theorem ifp {c : Prop} [Decidable c] {α : Type} {a b r : α} (hc : c) (h : a = r) : (if c then a else b) = r := (if_pos hc).trans h
theorem t_put2 {ω : Opq} (hf : ∀ i a, ω.f i a = F i a) (hk : (ω.w 0).toI = 2) (hw : fewM [ω.w 0, ω.w 1, ω.w 2, ω.w 3, ω.w 4, ω.w 5, ω.w 6, ω.w 7, ω.w 8, ω.w 9, ω.w 10, ω.w 11] = true) : evalT T_put2 ω = some (0, [F 6 [ω.w 0, ω.w 1, ω.w 2, ω.w 3, ω.w 4, ω.w 5, ω.w 6, ω.w 7, ω.w 8, ω.w 9, ω.w 10, ω.w 11], F 5 [ω.w 0, ω.w 1, ω.w 2, ω.w 3, ω.w 4, ω.w 5, ω.w 6, ω.w 7, ω.w 8, ω.w 9, ω.w 10, ω.w 11]]) := by
  obtain ⟨q1, q2, q3, q4⟩ := few_lens hw
  simp only [arg_0, arg_s] at q1 q2 q3 q4
  have e1 : (1 : Int).toNat = 1 := rfl
  have e2 : (2 : Int).toNat = 2 := rfl
  have e4 : (4 : Int).toNat = 4 := rfl
  have e8 : (8 : Int).toNat = 8 := rfl
  obtain ⟨B, hB⟩ : ∃ B : Int, (1000000 : Int) = B := ⟨_, rfl⟩
  obtain ⟨D, hD⟩ : ∃ B : Int, (100000 : Int) = B := ⟨_, rfl⟩
  have hw' : fewM [.vi 2, ω.w 1, ω.w 2, ω.w 3, ω.w 4, ω.w 5, ω.w 6, ω.w 7, ω.w 8, ω.w 9, ω.w 10, ω.w 11] = true := hw
  have hR : rightM (repM [.vi 2, ω.w 1, ω.w 2, ω.w 3, ω.w 4, ω.w 5, ω.w 6, ω.w 7, ω.w 8, ω.w 9, ω.w 10, ω.w 11]) = rightM (repM [ω.w 0, ω.w 1, ω.w 2, ω.w 3, ω.w 4, ω.w 5, ω.w 6, ω.w 7, ω.w 8, ω.w 9, ω.w 10, ω.w 11]) := by
    simp only [repM, arg_0, arg_s, toI_vi, hk]
  simp only [T_put2, hB, hD, evalT, evalTs, dens, den, dB, prim, hf, toB_vb, toI_vi, toL_vl, cmpI_lss, cmpI_leq, cmpI_gtr, cmpI_eql, Bool.and_eq_true, decide_eq_true_eq, List.cons_append, List.nil_append]
  refine (if_pos hw').trans ?_
  cases hr : rightM (repM [ω.w 0, ω.w 1, ω.w 2, ω.w 3, ω.w 4, ω.w 5, ω.w 6, ω.w 7, ω.w 8, ω.w 9, ω.w 10, ω.w 11]) with
  | false => simp only [F, hR, hr, Bool.not_false, if_true, toB_vb, cond_false]
  | true =>
  have hr' : (F 4 [.vi 2, ω.w 1, ω.w 2, ω.w 3, ω.w 4, ω.w 5, ω.w 6, ω.w 7, ω.w 8, ω.w 9, ω.w 10, ω.w 11]).toB = true := by simp only [F, hR, hr, toB_vb]
  have h5 : F 5 [ω.w 0, ω.w 1, ω.w 2, ω.w 3, ω.w 4, ω.w 5, ω.w 6, ω.w 7, ω.w 8, ω.w 9, ω.w 10, ω.w 11] = .vl (putV [ω.w 0, ω.w 1, ω.w 2, ω.w 3, ω.w 4, ω.w 5, ω.w 6, ω.w 7, ω.w 8, ω.w 9, ω.w 10, ω.w 11]) := by simp only [F, hr, cond_true]
  have h6 : F 6 [ω.w 0, ω.w 1, ω.w 2, ω.w 3, ω.w 4, ω.w 5, ω.w 6, ω.w 7, ω.w 8, ω.w 9, ω.w 10, ω.w 11] = .vi 0 := by simp only [F, hr, cond_true]
  rw [hr', h5, h6]
  simp only [Bool.not_true, Bool.false_eq_true, if_false, F, arg_0, arg_s, toI_vi, toL_vl]
  refine (if_pos (by simp only [List.length_append, List.length_cons, List.length_nil, beV_len, textV_len, e1, e2, e4, e8]; omega)).trans ?_
  refine (if_pos (by simp only [List.length_append, List.length_cons, List.length_nil, beV_len, textV_len, e1, e2, e4, e8]; omega)).trans ?_
  refine (if_pos (by simp only [List.length_append, List.length_cons, List.length_nil, beV_len, textV_len, e1, e2, e4, e8]; omega)).trans ?_
  refine (if_pos (by simp only [List.length_append, List.length_cons, List.length_nil, beV_len, textV_len, e1, e2, e4, e8]; omega)).trans ?_
  simp only [e1, e2, e4, e8, beV_u64 _ (Nat.le_refl 8), beV_u64 _ (show 4 ≤ 8 by decide), beV_u64 _ (show 2 ≤ 8 by decide), be_one]
  simp [putV, arg_0, arg_s, hk, byteV]
theorem t_put3 {ω : Opq} (hf : ∀ i a, ω.f i a = F i a) (hk : (ω.w 0).toI = 3) (hw : fewM [ω.w 0, ω.w 1, ω.w 2, ω.w 3, ω.w 4, ω.w 5, ω.w 6, ω.w 7, ω.w 8, ω.w 9, ω.w 10, ω.w 11] = true) : evalT T_put3 ω = some (0, [F 6 [ω.w 0, ω.w 1, ω.w 2, ω.w 3, ω.w 4, ω.w 5, ω.w 6, ω.w 7, ω.w 8, ω.w 9, ω.w 10, ω.w 11], F 5 [ω.w 0, ω.w 1, ω.w 2, ω.w 3, ω.w 4, ω.w 5, ω.w 6, ω.w 7, ω.w 8, ω.w 9, ω.w 10, ω.w 11]]) := by
  obtain ⟨q1, q2, q3, q4⟩ := few_lens hw
  simp only [arg_0, arg_s] at q1 q2 q3 q4
  have e1 : (1 : Int).toNat = 1 := rfl
  have e2 : (2 : Int).toNat = 2 := rfl
  have e4 : (4 : Int).toNat = 4 := rfl
  have e8 : (8 : Int).toNat = 8 := rfl
  obtain ⟨B, hB⟩ : ∃ B : Int, (1000000 : Int) = B := ⟨_, rfl⟩
  obtain ⟨D, hD⟩ : ∃ B : Int, (100000 : Int) = B := ⟨_, rfl⟩
  have hw' : fewM [.vi 3, ω.w 1, ω.w 2, ω.w 3, ω.w 4, ω.w 5, ω.w 6, ω.w 7, ω.w 8, ω.w 9, ω.w 10, ω.w 11] = true := hw
  have hR : rightM (repM [.vi 3, ω.w 1, ω.w 2, ω.w 3, ω.w 4, ω.w 5, ω.w 6, ω.w 7, ω.w 8, ω.w 9, ω.w 10, ω.w 11]) = rightM (repM [ω.w 0, ω.w 1, ω.w 2, ω.w 3, ω.w 4, ω.w 5, ω.w 6, ω.w 7, ω.w 8, ω.w 9, ω.w 10, ω.w 11]) := by
    simp only [repM, arg_0, arg_s, toI_vi, hk]
  simp only [T_put3, hB, hD, evalT, evalTs, dens, den, dB, prim, hf, toB_vb, toI_vi, toL_vl, cmpI_lss, cmpI_leq, cmpI_gtr, cmpI_eql, Bool.and_eq_true, decide_eq_true_eq, List.cons_append, List.nil_append]
  refine (if_pos hw').trans ?_
  cases hr : rightM (repM [ω.w 0, ω.w 1, ω.w 2, ω.w 3, ω.w 4, ω.w 5, ω.w 6, ω.w 7, ω.w 8, ω.w 9, ω.w 10, ω.w 11]) with
  | false => simp only [F, hR, hr, Bool.not_false, if_true, toB_vb, cond_false]
  | true =>
  have hr' : (F 4 [.vi 3, ω.w 1, ω.w 2, ω.w 3, ω.w 4, ω.w 5, ω.w 6, ω.w 7, ω.w 8, ω.w 9, ω.w 10, ω.w 11]).toB = true := by simp only [F, hR, hr, toB_vb]
  have h5 : F 5 [ω.w 0, ω.w 1, ω.w 2, ω.w 3, ω.w 4, ω.w 5, ω.w 6, ω.w 7, ω.w 8, ω.w 9, ω.w 10, ω.w 11] = .vl (putV [ω.w 0, ω.w 1, ω.w 2, ω.w 3, ω.w 4, ω.w 5, ω.w 6, ω.w 7, ω.w 8, ω.w 9, ω.w 10, ω.w 11]) := by simp only [F, hr, cond_true]
  have h6 : F 6 [ω.w 0, ω.w 1, ω.w 2, ω.w 3, ω.w 4, ω.w 5, ω.w 6, ω.w 7, ω.w 8, ω.w 9, ω.w 10, ω.w 11] = .vi 0 := by simp only [F, hr, cond_true]
  rw [hr', h5, h6]
  simp only [Bool.not_true, Bool.false_eq_true, if_false, F, arg_0, arg_s, toI_vi, toL_vl]
  refine (if_pos (by simp only [List.length_append, List.length_cons, List.length_nil, beV_len, textV_len, e1, e2, e4, e8]; omega)).trans ?_
  refine (if_pos (by simp only [List.length_append, List.length_cons, List.length_nil, beV_len, textV_len, e1, e2, e4, e8]; omega)).trans ?_
  refine (if_pos (by simp only [List.length_append, List.length_cons, List.length_nil, beV_len, textV_len, e1, e2, e4, e8]; omega)).trans ?_
  refine (if_pos (by simp only [List.length_append, List.length_cons, List.length_nil, beV_len, textV_len, e1, e2, e4, e8]; omega)).trans ?_
  simp only [e1, e2, e4, e8, beV_u64 _ (Nat.le_refl 8), beV_u64 _ (show 4 ≤ 8 by decide), beV_u64 _ (show 2 ≤ 8 by decide), be_one]
  simp [putV, arg_0, arg_s, hk, byteV]
theorem t_put5 {ω : Opq} (hf : ∀ i a, ω.f i a = F i a) (hk : (ω.w 0).toI = 5) (hw : fewM [ω.w 0, ω.w 1, ω.w 2, ω.w 3, ω.w 4, ω.w 5, ω.w 6, ω.w 7, ω.w 8, ω.w 9, ω.w 10, ω.w 11] = true) : evalT T_put5 ω = some (0, [F 6 [ω.w 0, ω.w 1, ω.w 2, ω.w 3, ω.w 4, ω.w 5, ω.w 6, ω.w 7, ω.w 8, ω.w 9, ω.w 10, ω.w 11], F 5 [ω.w 0, ω.w 1, ω.w 2, ω.w 3, ω.w 4, ω.w 5, ω.w 6, ω.w 7, ω.w 8, ω.w 9, ω.w 10, ω.w 11]]) := by
  obtain ⟨q1, q2, q3, q4⟩ := few_lens hw
  simp only [arg_0, arg_s] at q1 q2 q3 q4
  have e1 : (1 : Int).toNat = 1 := rfl
  have e2 : (2 : Int).toNat = 2 := rfl
  have e4 : (4 : Int).toNat = 4 := rfl
  have e8 : (8 : Int).toNat = 8 := rfl
  obtain ⟨B, hB⟩ : ∃ B : Int, (1000000 : Int) = B := ⟨_, rfl⟩
  obtain ⟨D, hD⟩ : ∃ B : Int, (100000 : Int) = B := ⟨_, rfl⟩
  have hw' : fewM [.vi 5, ω.w 1, ω.w 2, ω.w 3, ω.w 4, ω.w 5, ω.w 6, ω.w 7, ω.w 8, ω.w 9, ω.w 10, ω.w 11] = true := hw
  have hR : rightM (repM [.vi 5, ω.w 1, ω.w 2, ω.w 3, ω.w 4, ω.w 5, ω.w 6, ω.w 7, ω.w 8, ω.w 9, ω.w 10, ω.w 11]) = rightM (repM [ω.w 0, ω.w 1, ω.w 2, ω.w 3, ω.w 4, ω.w 5, ω.w 6, ω.w 7, ω.w 8, ω.w 9, ω.w 10, ω.w 11]) := by
    simp only [repM, arg_0, arg_s, toI_vi, hk]
  simp only [T_put5, hB, hD, evalT, evalTs, dens, den, dB, prim, hf, toB_vb, toI_vi, toL_vl, cmpI_lss, cmpI_leq, cmpI_gtr, cmpI_eql, Bool.and_eq_true, decide_eq_true_eq, List.cons_append, List.nil_append]
  refine (if_pos hw').trans ?_
  cases hr : rightM (repM [ω.w 0, ω.w 1, ω.w 2, ω.w 3, ω.w 4, ω.w 5, ω.w 6, ω.w 7, ω.w 8, ω.w 9, ω.w 10, ω.w 11]) with
  | false => simp only [F, hR, hr, Bool.not_false, if_true, toB_vb, cond_false]
  | true =>
  have hr' : (F 4 [.vi 5, ω.w 1, ω.w 2, ω.w 3, ω.w 4, ω.w 5, ω.w 6, ω.w 7, ω.w 8, ω.w 9, ω.w 10, ω.w 11]).toB = true := by simp only [F, hR, hr, toB_vb]
  have h5 : F 5 [ω.w 0, ω.w 1, ω.w 2, ω.w 3, ω.w 4, ω.w 5, ω.w 6, ω.w 7, ω.w 8, ω.w 9, ω.w 10, ω.w 11] = .vl (putV [ω.w 0, ω.w 1, ω.w 2, ω.w 3, ω.w 4, ω.w 5, ω.w 6, ω.w 7, ω.w 8, ω.w 9, ω.w 10, ω.w 11]) := by simp only [F, hr, cond_true]
  have h6 : F 6 [ω.w 0, ω.w 1, ω.w 2, ω.w 3, ω.w 4, ω.w 5, ω.w 6, ω.w 7, ω.w 8, ω.w 9, ω.w 10, ω.w 11] = .vi 0 := by simp only [F, hr, cond_true]
  rw [hr', h5, h6]
  simp only [Bool.not_true, Bool.false_eq_true, if_false, F, arg_0, arg_s, toI_vi, toL_vl]
  refine (if_pos (by simp only [List.length_append, List.length_cons, List.length_nil, beV_len, textV_len, e1, e2, e4, e8]; omega)).trans ?_
  refine (if_pos (by simp only [List.length_append, List.length_cons, List.length_nil, beV_len, textV_len, e1, e2, e4, e8]; omega)).trans ?_
  refine (if_pos (by simp only [List.length_append, List.length_cons, List.length_nil, beV_len, textV_len, e1, e2, e4, e8]; omega)).trans ?_
  refine (if_pos (by simp only [List.length_append, List.length_cons, List.length_nil, beV_len, textV_len, e1, e2, e4, e8]; omega)).trans ?_
  refine (if_pos (by simp only [List.length_append, List.length_cons, List.length_nil, beV_len, textV_len, e1, e2, e4, e8]; omega)).trans ?_
  simp only [e1, e2, e4, e8, beV_u64 _ (Nat.le_refl 8), beV_u64 _ (show 4 ≤ 8 by decide), beV_u64 _ (show 2 ≤ 8 by decide), be_one]
  simp [putV, arg_0, arg_s, hk, byteV]
theorem t_put6 {ω : Opq} (hf : ∀ i a, ω.f i a = F i a) (hk : (ω.w 0).toI = 6) (hw : fewM [ω.w 0, ω.w 1, ω.w 2, ω.w 3, ω.w 4, ω.w 5, ω.w 6, ω.w 7, ω.w 8, ω.w 9, ω.w 10, ω.w 11] = true) : evalT T_put6 ω = some (0, [F 6 [ω.w 0, ω.w 1, ω.w 2, ω.w 3, ω.w 4, ω.w 5, ω.w 6, ω.w 7, ω.w 8, ω.w 9, ω.w 10, ω.w 11], F 5 [ω.w 0, ω.w 1, ω.w 2, ω.w 3, ω.w 4, ω.w 5, ω.w 6, ω.w 7, ω.w 8, ω.w 9, ω.w 10, ω.w 11]]) := by
  obtain ⟨q1, q2, q3, q4⟩ := few_lens hw
  simp only [arg_0, arg_s] at q1 q2 q3 q4
  have e1 : (1 : Int).toNat = 1 := rfl
  have e2 : (2 : Int).toNat = 2 := rfl
  have e4 : (4 : Int).toNat = 4 := rfl
  have e8 : (8 : Int).toNat = 8 := rfl
  obtain ⟨B, hB⟩ : ∃ B : Int, (1000000 : Int) = B := ⟨_, rfl⟩
  obtain ⟨D, hD⟩ : ∃ B : Int, (100000 : Int) = B := ⟨_, rfl⟩
  have hw' : fewM [.vi 6, ω.w 1, ω.w 2, ω.w 3, ω.w 4, ω.w 5, ω.w 6, ω.w 7, ω.w 8, ω.w 9, ω.w 10, ω.w 11] = true := hw
  have hR : rightM (repM [.vi 6, ω.w 1, ω.w 2, ω.w 3, ω.w 4, ω.w 5, ω.w 6, ω.w 7, ω.w 8, ω.w 9, ω.w 10, ω.w 11]) = rightM (repM [ω.w 0, ω.w 1, ω.w 2, ω.w 3, ω.w 4, ω.w 5, ω.w 6, ω.w 7, ω.w 8, ω.w 9, ω.w 10, ω.w 11]) := by
    simp only [repM, arg_0, arg_s, toI_vi, hk]
  simp only [T_put6, hB, hD, evalT, evalTs, dens, den, dB, prim, hf, toB_vb, toI_vi, toL_vl, cmpI_lss, cmpI_leq, cmpI_gtr, cmpI_eql, Bool.and_eq_true, decide_eq_true_eq, List.cons_append, List.nil_append]
  refine (if_pos hw').trans ?_
  cases hr : rightM (repM [ω.w 0, ω.w 1, ω.w 2, ω.w 3, ω.w 4, ω.w 5, ω.w 6, ω.w 7, ω.w 8, ω.w 9, ω.w 10, ω.w 11]) with
  | false => simp only [F, hR, hr, Bool.not_false, if_true, toB_vb, cond_false]
  | true =>
  have hr' : (F 4 [.vi 6, ω.w 1, ω.w 2, ω.w 3, ω.w 4, ω.w 5, ω.w 6, ω.w 7, ω.w 8, ω.w 9, ω.w 10, ω.w 11]).toB = true := by simp only [F, hR, hr, toB_vb]
  have h5 : F 5 [ω.w 0, ω.w 1, ω.w 2, ω.w 3, ω.w 4, ω.w 5, ω.w 6, ω.w 7, ω.w 8, ω.w 9, ω.w 10, ω.w 11] = .vl (putV [ω.w 0, ω.w 1, ω.w 2, ω.w 3, ω.w 4, ω.w 5, ω.w 6, ω.w 7, ω.w 8, ω.w 9, ω.w 10, ω.w 11]) := by simp only [F, hr, cond_true]
  have h6 : F 6 [ω.w 0, ω.w 1, ω.w 2, ω.w 3, ω.w 4, ω.w 5, ω.w 6, ω.w 7, ω.w 8, ω.w 9, ω.w 10, ω.w 11] = .vi 0 := by simp only [F, hr, cond_true]
  rw [hr', h5, h6]
  simp only [Bool.not_true, Bool.false_eq_true, if_false, F, arg_0, arg_s, toI_vi, toL_vl]
  refine (if_pos (by simp only [List.length_append, List.length_cons, List.length_nil, beV_len, textV_len, e1, e2, e4, e8]; omega)).trans ?_
  simp only [e1, e2, e4, e8, beV_u64 _ (Nat.le_refl 8), beV_u64 _ (show 4 ≤ 8 by decide), beV_u64 _ (show 2 ≤ 8 by decide), be_one]
  simp [putV, arg_0, arg_s, hk, byteV]
theorem t_put7 {ω : Opq} (hf : ∀ i a, ω.f i a = F i a) (hk : (ω.w 0).toI = 7) (hw : fewM [ω.w 0, ω.w 1, ω.w 2, ω.w 3, ω.w 4, ω.w 5, ω.w 6, ω.w 7, ω.w 8, ω.w 9, ω.w 10, ω.w 11] = true) : evalT T_put7 ω = some (0, [F 6 [ω.w 0, ω.w 1, ω.w 2, ω.w 3, ω.w 4, ω.w 5, ω.w 6, ω.w 7, ω.w 8, ω.w 9, ω.w 10, ω.w 11], F 5 [ω.w 0, ω.w 1, ω.w 2, ω.w 3, ω.w 4, ω.w 5, ω.w 6, ω.w 7, ω.w 8, ω.w 9, ω.w 10, ω.w 11]]) := by
  obtain ⟨q1, q2, q3, q4⟩ := few_lens hw
  simp only [arg_0, arg_s] at q1 q2 q3 q4
  have e1 : (1 : Int).toNat = 1 := rfl
  have e2 : (2 : Int).toNat = 2 := rfl
  have e4 : (4 : Int).toNat = 4 := rfl
  have e8 : (8 : Int).toNat = 8 := rfl
  obtain ⟨B, hB⟩ : ∃ B : Int, (1000000 : Int) = B := ⟨_, rfl⟩
  obtain ⟨D, hD⟩ : ∃ B : Int, (100000 : Int) = B := ⟨_, rfl⟩
  have hw' : fewM [.vi 7, ω.w 1, ω.w 2, ω.w 3, ω.w 4, ω.w 5, ω.w 6, ω.w 7, ω.w 8, ω.w 9, ω.w 10, ω.w 11] = true := hw
  have hR : rightM (repM [.vi 7, ω.w 1, ω.w 2, ω.w 3, ω.w 4, ω.w 5, ω.w 6, ω.w 7, ω.w 8, ω.w 9, ω.w 10, ω.w 11]) = rightM (repM [ω.w 0, ω.w 1, ω.w 2, ω.w 3, ω.w 4, ω.w 5, ω.w 6, ω.w 7, ω.w 8, ω.w 9, ω.w 10, ω.w 11]) := by
    simp only [repM, arg_0, arg_s, toI_vi, hk]
  simp only [T_put7, hB, hD, evalT, evalTs, dens, den, dB, prim, hf, toB_vb, toI_vi, toL_vl, cmpI_lss, cmpI_leq, cmpI_gtr, cmpI_eql, Bool.and_eq_true, decide_eq_true_eq, List.cons_append, List.nil_append]
  refine (if_pos hw').trans ?_
  cases hr : rightM (repM [ω.w 0, ω.w 1, ω.w 2, ω.w 3, ω.w 4, ω.w 5, ω.w 6, ω.w 7, ω.w 8, ω.w 9, ω.w 10, ω.w 11]) with
  | false => simp only [F, hR, hr, Bool.not_false, if_true, toB_vb, cond_false]
  | true =>
  have hr' : (F 4 [.vi 7, ω.w 1, ω.w 2, ω.w 3, ω.w 4, ω.w 5, ω.w 6, ω.w 7, ω.w 8, ω.w 9, ω.w 10, ω.w 11]).toB = true := by simp only [F, hR, hr, toB_vb]
  have h5 : F 5 [ω.w 0, ω.w 1, ω.w 2, ω.w 3, ω.w 4, ω.w 5, ω.w 6, ω.w 7, ω.w 8, ω.w 9, ω.w 10, ω.w 11] = .vl (putV [ω.w 0, ω.w 1, ω.w 2, ω.w 3, ω.w 4, ω.w 5, ω.w 6, ω.w 7, ω.w 8, ω.w 9, ω.w 10, ω.w 11]) := by simp only [F, hr, cond_true]
  have h6 : F 6 [ω.w 0, ω.w 1, ω.w 2, ω.w 3, ω.w 4, ω.w 5, ω.w 6, ω.w 7, ω.w 8, ω.w 9, ω.w 10, ω.w 11] = .vi 0 := by simp only [F, hr, cond_true]
  rw [hr', h5, h6]
  simp only [Bool.not_true, Bool.false_eq_true, if_false, F, arg_0, arg_s, toI_vi, toL_vl]
  refine (if_pos (by simp only [List.length_append, List.length_cons, List.length_nil, beV_len, textV_len, e1, e2, e4, e8]; omega)).trans ?_
  refine (if_pos (by simp only [List.length_append, List.length_cons, List.length_nil, beV_len, textV_len, e1, e2, e4, e8]; omega)).trans ?_
  refine (if_pos (by simp only [List.length_append, List.length_cons, List.length_nil, beV_len, textV_len, e1, e2, e4, e8]; omega)).trans ?_
  simp only [e1, e2, e4, e8, beV_u64 _ (Nat.le_refl 8), beV_u64 _ (show 4 ≤ 8 by decide), beV_u64 _ (show 2 ≤ 8 by decide), be_one]
  simp [putV, arg_0, arg_s, hk, byteV]
theorem t_putR2 {ω : Opq} (hf : ∀ i a, ω.f i a = F i a) (hk : (ω.w 0).toI = 2) (hw : fewM [ω.w 0, ω.w 1, ω.w 2, ω.w 3, ω.w 4, ω.w 5, ω.w 6, ω.w 7, ω.w 8, ω.w 9, ω.w 10, ω.w 11] = true) (hp : 0 ≤ (ω.w 4).toI ∧ 0 ≤ (ω.w 5).toI ∧ 0 ≤ (ω.w 6).toI ∧ 0 ≤ (ω.w 7).toI ∧ 0 ≤ (ω.w 8).toI ∧ 0 ≤ (ω.w 9).toI) : evalT T_putR2 ω = some (0, [F 6 [ω.w 0, ω.w 1, ω.w 2, ω.w 3, ω.w 4, ω.w 5, ω.w 6, ω.w 7, ω.w 8, ω.w 9, ω.w 10, ω.w 11], F 5 [ω.w 0, ω.w 1, ω.w 2, ω.w 3, ω.w 4, ω.w 5, ω.w 6, ω.w 7, ω.w 8, ω.w 9, ω.w 10, ω.w 11]]) := by
  obtain ⟨p4, p5, p6, p7, p8, p9⟩ := hp
  obtain ⟨q1, q2, q3, q4⟩ := few_lens hw
  simp only [arg_0, arg_s] at q1 q2 q3 q4
  have e1 : (1 : Int).toNat = 1 := rfl
  have e2 : (2 : Int).toNat = 2 := rfl
  have e4 : (4 : Int).toNat = 4 := rfl
  have e8 : (8 : Int).toNat = 8 := rfl
  obtain ⟨B, hB⟩ : ∃ B : Int, (1000000 : Int) = B := ⟨_, rfl⟩
  obtain ⟨D, hD⟩ : ∃ B : Int, (100000 : Int) = B := ⟨_, rfl⟩
  have hw' : fewM [.vi 2, ω.w 1, ω.w 2, ω.w 3, ω.w 4, ω.w 5, ω.w 6, ω.w 7, ω.w 8, ω.w 9, ω.w 10, ω.w 11] = true := hw
  have hR : rightM (repM [.vi 2, ω.w 1, ω.w 2, ω.w 3, ω.w 4, ω.w 5, ω.w 6, ω.w 7, ω.w 8, ω.w 9, ω.w 10, ω.w 11]) = rightM (repM [ω.w 0, ω.w 1, ω.w 2, ω.w 3, ω.w 4, ω.w 5, ω.w 6, ω.w 7, ω.w 8, ω.w 9, ω.w 10, ω.w 11]) := by
    simp only [repM, arg_0, arg_s, toI_vi, hk]
  simp only [T_putR2, hB, hD, evalT, evalTs, dens, den, dB, prim, hf, toB_vb, toI_vi, toL_vl, cmpI_lss, cmpI_leq, cmpI_gtr, cmpI_eql, Bool.and_eq_true, decide_eq_true_eq, List.cons_append, List.nil_append]
  refine (if_pos hw').trans ?_
  cases hr : rightM (repM [ω.w 0, ω.w 1, ω.w 2, ω.w 3, ω.w 4, ω.w 5, ω.w 6, ω.w 7, ω.w 8, ω.w 9, ω.w 10, ω.w 11]) with
  | false => simp only [F, hR, hr, Bool.not_false, if_true, toB_vb, cond_false]
  | true =>
  have hr' : (F 4 [.vi 2, ω.w 1, ω.w 2, ω.w 3, ω.w 4, ω.w 5, ω.w 6, ω.w 7, ω.w 8, ω.w 9, ω.w 10, ω.w 11]).toB = true := by simp only [F, hR, hr, toB_vb]
  have h5 : F 5 [ω.w 0, ω.w 1, ω.w 2, ω.w 3, ω.w 4, ω.w 5, ω.w 6, ω.w 7, ω.w 8, ω.w 9, ω.w 10, ω.w 11] = .vl (putV [ω.w 0, ω.w 1, ω.w 2, ω.w 3, ω.w 4, ω.w 5, ω.w 6, ω.w 7, ω.w 8, ω.w 9, ω.w 10, ω.w 11]) := by simp only [F, hr, cond_true]
  have h6 : F 6 [ω.w 0, ω.w 1, ω.w 2, ω.w 3, ω.w 4, ω.w 5, ω.w 6, ω.w 7, ω.w 8, ω.w 9, ω.w 10, ω.w 11] = .vi 0 := by simp only [F, hr, cond_true]
  rw [hr', h5, h6]
  simp only [Bool.not_true, Bool.false_eq_true, if_false, F, arg_0, arg_s, toI_vi, toL_vl]
  refine (if_pos (by simp only [wu64]; omega)).trans ?_
  refine (if_pos (by simp only [List.length_append, List.length_cons, List.length_nil, beV_len, textV_len, e1, e2, e4, e8]; omega)).trans ?_
  refine (if_pos (p7)).trans ?_
  refine (if_pos (by simp only [List.length_append, List.length_cons, List.length_nil, beV_len, textV_len, e1, e2, e4, e8]; omega)).trans ?_
  refine (if_pos (p4)).trans ?_
  refine (if_pos (by simp only [List.length_append, List.length_cons, List.length_nil, beV_len, textV_len, e1, e2, e4, e8]; omega)).trans ?_
  refine (if_pos (p6)).trans ?_
  refine (if_pos (by simp only [List.length_append, List.length_cons, List.length_nil, beV_len, textV_len, e1, e2, e4, e8]; omega)).trans ?_
  simp only [e1, e2, e4, e8, beV_u64 _ (Nat.le_refl 8), beV_u64 _ (show 4 ≤ 8 by decide), beV_u64 _ (show 2 ≤ 8 by decide), be_one]
  simp [putV, arg_0, arg_s, hk, byteV]
theorem t_putR3 {ω : Opq} (hf : ∀ i a, ω.f i a = F i a) (hk : (ω.w 0).toI = 3) (hw : fewM [ω.w 0, ω.w 1, ω.w 2, ω.w 3, ω.w 4, ω.w 5, ω.w 6, ω.w 7, ω.w 8, ω.w 9, ω.w 10, ω.w 11] = true) (hp : 0 ≤ (ω.w 4).toI ∧ 0 ≤ (ω.w 5).toI ∧ 0 ≤ (ω.w 6).toI ∧ 0 ≤ (ω.w 7).toI ∧ 0 ≤ (ω.w 8).toI ∧ 0 ≤ (ω.w 9).toI) : evalT T_putR3 ω = some (0, [F 6 [ω.w 0, ω.w 1, ω.w 2, ω.w 3, ω.w 4, ω.w 5, ω.w 6, ω.w 7, ω.w 8, ω.w 9, ω.w 10, ω.w 11], F 5 [ω.w 0, ω.w 1, ω.w 2, ω.w 3, ω.w 4, ω.w 5, ω.w 6, ω.w 7, ω.w 8, ω.w 9, ω.w 10, ω.w 11]]) := by
  obtain ⟨p4, p5, p6, p7, p8, p9⟩ := hp
  obtain ⟨q1, q2, q3, q4⟩ := few_lens hw
  simp only [arg_0, arg_s] at q1 q2 q3 q4
  have e1 : (1 : Int).toNat = 1 := rfl
  have e2 : (2 : Int).toNat = 2 := rfl
  have e4 : (4 : Int).toNat = 4 := rfl
  have e8 : (8 : Int).toNat = 8 := rfl
  obtain ⟨B, hB⟩ : ∃ B : Int, (1000000 : Int) = B := ⟨_, rfl⟩
  obtain ⟨D, hD⟩ : ∃ B : Int, (100000 : Int) = B := ⟨_, rfl⟩
  have hw' : fewM [.vi 3, ω.w 1, ω.w 2, ω.w 3, ω.w 4, ω.w 5, ω.w 6, ω.w 7, ω.w 8, ω.w 9, ω.w 10, ω.w 11] = true := hw
  have hR : rightM (repM [.vi 3, ω.w 1, ω.w 2, ω.w 3, ω.w 4, ω.w 5, ω.w 6, ω.w 7, ω.w 8, ω.w 9, ω.w 10, ω.w 11]) = rightM (repM [ω.w 0, ω.w 1, ω.w 2, ω.w 3, ω.w 4, ω.w 5, ω.w 6, ω.w 7, ω.w 8, ω.w 9, ω.w 10, ω.w 11]) := by
    simp only [repM, arg_0, arg_s, toI_vi, hk]
  simp only [T_putR3, hB, hD, evalT, evalTs, dens, den, dB, prim, hf, toB_vb, toI_vi, toL_vl, cmpI_lss, cmpI_leq, cmpI_gtr, cmpI_eql, Bool.and_eq_true, decide_eq_true_eq, List.cons_append, List.nil_append]
  refine (if_pos hw').trans ?_
  cases hr : rightM (repM [ω.w 0, ω.w 1, ω.w 2, ω.w 3, ω.w 4, ω.w 5, ω.w 6, ω.w 7, ω.w 8, ω.w 9, ω.w 10, ω.w 11]) with
  | false => simp only [F, hR, hr, Bool.not_false, if_true, toB_vb, cond_false]
  | true =>
  have hr' : (F 4 [.vi 3, ω.w 1, ω.w 2, ω.w 3, ω.w 4, ω.w 5, ω.w 6, ω.w 7, ω.w 8, ω.w 9, ω.w 10, ω.w 11]).toB = true := by simp only [F, hR, hr, toB_vb]
  have h5 : F 5 [ω.w 0, ω.w 1, ω.w 2, ω.w 3, ω.w 4, ω.w 5, ω.w 6, ω.w 7, ω.w 8, ω.w 9, ω.w 10, ω.w 11] = .vl (putV [ω.w 0, ω.w 1, ω.w 2, ω.w 3, ω.w 4, ω.w 5, ω.w 6, ω.w 7, ω.w 8, ω.w 9, ω.w 10, ω.w 11]) := by simp only [F, hr, cond_true]
  have h6 : F 6 [ω.w 0, ω.w 1, ω.w 2, ω.w 3, ω.w 4, ω.w 5, ω.w 6, ω.w 7, ω.w 8, ω.w 9, ω.w 10, ω.w 11] = .vi 0 := by simp only [F, hr, cond_true]
  rw [hr', h5, h6]
  simp only [Bool.not_true, Bool.false_eq_true, if_false, F, arg_0, arg_s, toI_vi, toL_vl]
  refine (if_pos (by simp only [wu64]; omega)).trans ?_
  refine (if_pos (by simp only [List.length_append, List.length_cons, List.length_nil, beV_len, textV_len, e1, e2, e4, e8]; omega)).trans ?_
  refine (if_pos (p7)).trans ?_
  refine (if_pos (by simp only [List.length_append, List.length_cons, List.length_nil, beV_len, textV_len, e1, e2, e4, e8]; omega)).trans ?_
  refine (if_pos (p4)).trans ?_
  refine (if_pos (by simp only [List.length_append, List.length_cons, List.length_nil, beV_len, textV_len, e1, e2, e4, e8]; omega)).trans ?_
  refine (if_pos (p6)).trans ?_
  refine (if_pos (by simp only [List.length_append, List.length_cons, List.length_nil, beV_len, textV_len, e1, e2, e4, e8]; omega)).trans ?_
  simp only [e1, e2, e4, e8, beV_u64 _ (Nat.le_refl 8), beV_u64 _ (show 4 ≤ 8 by decide), beV_u64 _ (show 2 ≤ 8 by decide), be_one]
  simp [putV, arg_0, arg_s, hk, byteV]
theorem t_putR5 {ω : Opq} (hf : ∀ i a, ω.f i a = F i a) (hk : (ω.w 0).toI = 5) (hw : fewM [ω.w 0, ω.w 1, ω.w 2, ω.w 3, ω.w 4, ω.w 5, ω.w 6, ω.w 7, ω.w 8, ω.w 9, ω.w 10, ω.w 11] = true) (hp : 0 ≤ (ω.w 4).toI ∧ 0 ≤ (ω.w 5).toI ∧ 0 ≤ (ω.w 6).toI ∧ 0 ≤ (ω.w 7).toI ∧ 0 ≤ (ω.w 8).toI ∧ 0 ≤ (ω.w 9).toI) : evalT T_putR5 ω = some (0, [F 6 [ω.w 0, ω.w 1, ω.w 2, ω.w 3, ω.w 4, ω.w 5, ω.w 6, ω.w 7, ω.w 8, ω.w 9, ω.w 10, ω.w 11], F 5 [ω.w 0, ω.w 1, ω.w 2, ω.w 3, ω.w 4, ω.w 5, ω.w 6, ω.w 7, ω.w 8, ω.w 9, ω.w 10, ω.w 11]]) := by
  obtain ⟨p4, p5, p6, p7, p8, p9⟩ := hp
  obtain ⟨q1, q2, q3, q4⟩ := few_lens hw
  simp only [arg_0, arg_s] at q1 q2 q3 q4
  have e1 : (1 : Int).toNat = 1 := rfl
  have e2 : (2 : Int).toNat = 2 := rfl
  have e4 : (4 : Int).toNat = 4 := rfl
  have e8 : (8 : Int).toNat = 8 := rfl
  obtain ⟨B, hB⟩ : ∃ B : Int, (1000000 : Int) = B := ⟨_, rfl⟩
  obtain ⟨D, hD⟩ : ∃ B : Int, (100000 : Int) = B := ⟨_, rfl⟩
  have hw' : fewM [.vi 5, ω.w 1, ω.w 2, ω.w 3, ω.w 4, ω.w 5, ω.w 6, ω.w 7, ω.w 8, ω.w 9, ω.w 10, ω.w 11] = true := hw
  have hR : rightM (repM [.vi 5, ω.w 1, ω.w 2, ω.w 3, ω.w 4, ω.w 5, ω.w 6, ω.w 7, ω.w 8, ω.w 9, ω.w 10, ω.w 11]) = rightM (repM [ω.w 0, ω.w 1, ω.w 2, ω.w 3, ω.w 4, ω.w 5, ω.w 6, ω.w 7, ω.w 8, ω.w 9, ω.w 10, ω.w 11]) := by
    simp only [repM, arg_0, arg_s, toI_vi, hk]
  simp only [T_putR5, hB, hD, evalT, evalTs, dens, den, dB, prim, hf, toB_vb, toI_vi, toL_vl, cmpI_lss, cmpI_leq, cmpI_gtr, cmpI_eql, Bool.and_eq_true, decide_eq_true_eq, List.cons_append, List.nil_append]
  refine (if_pos hw').trans ?_
  cases hr : rightM (repM [ω.w 0, ω.w 1, ω.w 2, ω.w 3, ω.w 4, ω.w 5, ω.w 6, ω.w 7, ω.w 8, ω.w 9, ω.w 10, ω.w 11]) with
  | false => simp only [F, hR, hr, Bool.not_false, if_true, toB_vb, cond_false]
  | true =>
  have hr' : (F 4 [.vi 5, ω.w 1, ω.w 2, ω.w 3, ω.w 4, ω.w 5, ω.w 6, ω.w 7, ω.w 8, ω.w 9, ω.w 10, ω.w 11]).toB = true := by simp only [F, hR, hr, toB_vb]
  have h5 : F 5 [ω.w 0, ω.w 1, ω.w 2, ω.w 3, ω.w 4, ω.w 5, ω.w 6, ω.w 7, ω.w 8, ω.w 9, ω.w 10, ω.w 11] = .vl (putV [ω.w 0, ω.w 1, ω.w 2, ω.w 3, ω.w 4, ω.w 5, ω.w 6, ω.w 7, ω.w 8, ω.w 9, ω.w 10, ω.w 11]) := by simp only [F, hr, cond_true]
  have h6 : F 6 [ω.w 0, ω.w 1, ω.w 2, ω.w 3, ω.w 4, ω.w 5, ω.w 6, ω.w 7, ω.w 8, ω.w 9, ω.w 10, ω.w 11] = .vi 0 := by simp only [F, hr, cond_true]
  rw [hr', h5, h6]
  simp only [Bool.not_true, Bool.false_eq_true, if_false, F, arg_0, arg_s, toI_vi, toL_vl]
  refine (if_pos (by simp only [wu64]; omega)).trans ?_
  refine (if_pos (by simp only [List.length_append, List.length_cons, List.length_nil, beV_len, textV_len, e1, e2, e4, e8]; omega)).trans ?_
  refine (if_pos (p4)).trans ?_
  refine (if_pos (by simp only [List.length_append, List.length_cons, List.length_nil, beV_len, textV_len, e1, e2, e4, e8]; omega)).trans ?_
  refine (if_pos (p5)).trans ?_
  refine (if_pos (by simp only [List.length_append, List.length_cons, List.length_nil, beV_len, textV_len, e1, e2, e4, e8]; omega)).trans ?_
  refine (if_pos (p8)).trans ?_
  refine (if_pos (by simp only [List.length_append, List.length_cons, List.length_nil, beV_len, textV_len, e1, e2, e4, e8]; omega)).trans ?_
  refine (if_pos (p9)).trans ?_
  refine (if_pos (by simp only [List.length_append, List.length_cons, List.length_nil, beV_len, textV_len, e1, e2, e4, e8]; omega)).trans ?_
  simp only [e1, e2, e4, e8, beV_u64 _ (Nat.le_refl 8), beV_u64 _ (show 4 ≤ 8 by decide), beV_u64 _ (show 2 ≤ 8 by decide), be_one]
  simp [putV, arg_0, arg_s, hk, byteV]
theorem t_putR6 {ω : Opq} (hf : ∀ i a, ω.f i a = F i a) (hk : (ω.w 0).toI = 6) (hw : fewM [ω.w 0, ω.w 1, ω.w 2, ω.w 3, ω.w 4, ω.w 5, ω.w 6, ω.w 7, ω.w 8, ω.w 9, ω.w 10, ω.w 11] = true) (hp : 0 ≤ (ω.w 4).toI ∧ 0 ≤ (ω.w 5).toI ∧ 0 ≤ (ω.w 6).toI ∧ 0 ≤ (ω.w 7).toI ∧ 0 ≤ (ω.w 8).toI ∧ 0 ≤ (ω.w 9).toI) : evalT T_putR6 ω = some (0, [F 6 [ω.w 0, ω.w 1, ω.w 2, ω.w 3, ω.w 4, ω.w 5, ω.w 6, ω.w 7, ω.w 8, ω.w 9, ω.w 10, ω.w 11], F 5 [ω.w 0, ω.w 1, ω.w 2, ω.w 3, ω.w 4, ω.w 5, ω.w 6, ω.w 7, ω.w 8, ω.w 9, ω.w 10, ω.w 11]]) := by
  obtain ⟨p4, p5, p6, p7, p8, p9⟩ := hp
  obtain ⟨q1, q2, q3, q4⟩ := few_lens hw
  simp only [arg_0, arg_s] at q1 q2 q3 q4
  have e1 : (1 : Int).toNat = 1 := rfl
  have e2 : (2 : Int).toNat = 2 := rfl
  have e4 : (4 : Int).toNat = 4 := rfl
  have e8 : (8 : Int).toNat = 8 := rfl
  obtain ⟨B, hB⟩ : ∃ B : Int, (1000000 : Int) = B := ⟨_, rfl⟩
  obtain ⟨D, hD⟩ : ∃ B : Int, (100000 : Int) = B := ⟨_, rfl⟩
  have hw' : fewM [.vi 6, ω.w 1, ω.w 2, ω.w 3, ω.w 4, ω.w 5, ω.w 6, ω.w 7, ω.w 8, ω.w 9, ω.w 10, ω.w 11] = true := hw
  have hR : rightM (repM [.vi 6, ω.w 1, ω.w 2, ω.w 3, ω.w 4, ω.w 5, ω.w 6, ω.w 7, ω.w 8, ω.w 9, ω.w 10, ω.w 11]) = rightM (repM [ω.w 0, ω.w 1, ω.w 2, ω.w 3, ω.w 4, ω.w 5, ω.w 6, ω.w 7, ω.w 8, ω.w 9, ω.w 10, ω.w 11]) := by
    simp only [repM, arg_0, arg_s, toI_vi, hk]
  simp only [T_putR6, hB, hD, evalT, evalTs, dens, den, dB, prim, hf, toB_vb, toI_vi, toL_vl, cmpI_lss, cmpI_leq, cmpI_gtr, cmpI_eql, Bool.and_eq_true, decide_eq_true_eq, List.cons_append, List.nil_append]
  refine (if_pos hw').trans ?_
  cases hr : rightM (repM [ω.w 0, ω.w 1, ω.w 2, ω.w 3, ω.w 4, ω.w 5, ω.w 6, ω.w 7, ω.w 8, ω.w 9, ω.w 10, ω.w 11]) with
  | false => simp only [F, hR, hr, Bool.not_false, if_true, toB_vb, cond_false]
  | true =>
  have hr' : (F 4 [.vi 6, ω.w 1, ω.w 2, ω.w 3, ω.w 4, ω.w 5, ω.w 6, ω.w 7, ω.w 8, ω.w 9, ω.w 10, ω.w 11]).toB = true := by simp only [F, hR, hr, toB_vb]
  have h5 : F 5 [ω.w 0, ω.w 1, ω.w 2, ω.w 3, ω.w 4, ω.w 5, ω.w 6, ω.w 7, ω.w 8, ω.w 9, ω.w 10, ω.w 11] = .vl (putV [ω.w 0, ω.w 1, ω.w 2, ω.w 3, ω.w 4, ω.w 5, ω.w 6, ω.w 7, ω.w 8, ω.w 9, ω.w 10, ω.w 11]) := by simp only [F, hr, cond_true]
  have h6 : F 6 [ω.w 0, ω.w 1, ω.w 2, ω.w 3, ω.w 4, ω.w 5, ω.w 6, ω.w 7, ω.w 8, ω.w 9, ω.w 10, ω.w 11] = .vi 0 := by simp only [F, hr, cond_true]
  rw [hr', h5, h6]
  simp only [Bool.not_true, Bool.false_eq_true, if_false, F, arg_0, arg_s, toI_vi, toL_vl]
  refine (if_pos (by simp only [wu64]; omega)).trans ?_
  refine (if_pos (by simp only [List.length_append, List.length_cons, List.length_nil, beV_len, textV_len, e1, e2, e4, e8]; omega)).trans ?_
  simp only [e1, e2, e4, e8, beV_u64 _ (Nat.le_refl 8), beV_u64 _ (show 4 ≤ 8 by decide), beV_u64 _ (show 2 ≤ 8 by decide), be_one]
  simp [putV, arg_0, arg_s, hk, byteV]
theorem t_putR7 {ω : Opq} (hf : ∀ i a, ω.f i a = F i a) (hk : (ω.w 0).toI = 7) (hw : fewM [ω.w 0, ω.w 1, ω.w 2, ω.w 3, ω.w 4, ω.w 5, ω.w 6, ω.w 7, ω.w 8, ω.w 9, ω.w 10, ω.w 11] = true) (hp : 0 ≤ (ω.w 4).toI ∧ 0 ≤ (ω.w 5).toI ∧ 0 ≤ (ω.w 6).toI ∧ 0 ≤ (ω.w 7).toI ∧ 0 ≤ (ω.w 8).toI ∧ 0 ≤ (ω.w 9).toI) : evalT T_putR7 ω = some (0, [F 6 [ω.w 0, ω.w 1, ω.w 2, ω.w 3, ω.w 4, ω.w 5, ω.w 6, ω.w 7, ω.w 8, ω.w 9, ω.w 10, ω.w 11], F 5 [ω.w 0, ω.w 1, ω.w 2, ω.w 3, ω.w 4, ω.w 5, ω.w 6, ω.w 7, ω.w 8, ω.w 9, ω.w 10, ω.w 11]]) := by
  obtain ⟨p4, p5, p6, p7, p8, p9⟩ := hp
  obtain ⟨q1, q2, q3, q4⟩ := few_lens hw
  simp only [arg_0, arg_s] at q1 q2 q3 q4
  have e1 : (1 : Int).toNat = 1 := rfl
  have e2 : (2 : Int).toNat = 2 := rfl
  have e4 : (4 : Int).toNat = 4 := rfl
  have e8 : (8 : Int).toNat = 8 := rfl
  obtain ⟨B, hB⟩ : ∃ B : Int, (1000000 : Int) = B := ⟨_, rfl⟩
  obtain ⟨D, hD⟩ : ∃ B : Int, (100000 : Int) = B := ⟨_, rfl⟩
  have hw' : fewM [.vi 7, ω.w 1, ω.w 2, ω.w 3, ω.w 4, ω.w 5, ω.w 6, ω.w 7, ω.w 8, ω.w 9, ω.w 10, ω.w 11] = true := hw
  have hR : rightM (repM [.vi 7, ω.w 1, ω.w 2, ω.w 3, ω.w 4, ω.w 5, ω.w 6, ω.w 7, ω.w 8, ω.w 9, ω.w 10, ω.w 11]) = rightM (repM [ω.w 0, ω.w 1, ω.w 2, ω.w 3, ω.w 4, ω.w 5, ω.w 6, ω.w 7, ω.w 8, ω.w 9, ω.w 10, ω.w 11]) := by
    simp only [repM, arg_0, arg_s, toI_vi, hk]
  simp only [T_putR7, hB, hD, evalT, evalTs, dens, den, dB, prim, hf, toB_vb, toI_vi, toL_vl, cmpI_lss, cmpI_leq, cmpI_gtr, cmpI_eql, Bool.and_eq_true, decide_eq_true_eq, List.cons_append, List.nil_append]
  refine (if_pos hw').trans ?_
  cases hr : rightM (repM [ω.w 0, ω.w 1, ω.w 2, ω.w 3, ω.w 4, ω.w 5, ω.w 6, ω.w 7, ω.w 8, ω.w 9, ω.w 10, ω.w 11]) with
  | false => simp only [F, hR, hr, Bool.not_false, if_true, toB_vb, cond_false]
  | true =>
  have hr' : (F 4 [.vi 7, ω.w 1, ω.w 2, ω.w 3, ω.w 4, ω.w 5, ω.w 6, ω.w 7, ω.w 8, ω.w 9, ω.w 10, ω.w 11]).toB = true := by simp only [F, hR, hr, toB_vb]
  have h5 : F 5 [ω.w 0, ω.w 1, ω.w 2, ω.w 3, ω.w 4, ω.w 5, ω.w 6, ω.w 7, ω.w 8, ω.w 9, ω.w 10, ω.w 11] = .vl (putV [ω.w 0, ω.w 1, ω.w 2, ω.w 3, ω.w 4, ω.w 5, ω.w 6, ω.w 7, ω.w 8, ω.w 9, ω.w 10, ω.w 11]) := by simp only [F, hr, cond_true]
  have h6 : F 6 [ω.w 0, ω.w 1, ω.w 2, ω.w 3, ω.w 4, ω.w 5, ω.w 6, ω.w 7, ω.w 8, ω.w 9, ω.w 10, ω.w 11] = .vi 0 := by simp only [F, hr, cond_true]
  rw [hr', h5, h6]
  simp only [Bool.not_true, Bool.false_eq_true, if_false, F, arg_0, arg_s, toI_vi, toL_vl]
  refine (if_pos (by simp only [wu64]; omega)).trans ?_
  refine (if_pos (by simp only [List.length_append, List.length_cons, List.length_nil, beV_len, textV_len, e1, e2, e4, e8]; omega)).trans ?_
  refine (if_pos (by simp only [wu64]; omega)).trans ?_
  refine (if_pos (by simp only [List.length_append, List.length_cons, List.length_nil, beV_len, textV_len, e1, e2, e4, e8]; omega)).trans ?_
  refine (if_pos (p5)).trans ?_
  refine (if_pos (by simp only [List.length_append, List.length_cons, List.length_nil, beV_len, textV_len, e1, e2, e4, e8]; omega)).trans ?_
  simp only [e1, e2, e4, e8, beV_u64 _ (Nat.le_refl 8), beV_u64 _ (show 4 ≤ 8 by decide), beV_u64 _ (show 2 ≤ 8 by decide), be_one]
  simp [putV, arg_0, arg_s, hk, byteV]
theorem t_put1 {ω : Opq} (hf : ∀ i a, ω.f i a = F i a) (hk : (ω.w 0).toI = 1) (hw : fewM [ω.w 0, ω.w 1, ω.w 2, ω.w 3, ω.w 4, ω.w 5, ω.w 6, ω.w 7, ω.w 8, ω.w 9, ω.w 10, ω.w 11] = true) : evalT T_put1 ω = some (0, [F 6 [ω.w 0, ω.w 1, ω.w 2, ω.w 3, ω.w 4, ω.w 5, ω.w 6, ω.w 7, ω.w 8, ω.w 9, ω.w 10, ω.w 11], F 5 [ω.w 0, ω.w 1, ω.w 2, ω.w 3, ω.w 4, ω.w 5, ω.w 6, ω.w 7, ω.w 8, ω.w 9, ω.w 10, ω.w 11]]) := by
  obtain ⟨q1, q2, q3, q4⟩ := few_lens hw
  simp only [arg_0, arg_s] at q1 q2 q3 q4
  have e1 : (1 : Int).toNat = 1 := rfl
  have e2 : (2 : Int).toNat = 2 := rfl
  have e4 : (4 : Int).toNat = 4 := rfl
  have e8 : (8 : Int).toNat = 8 := rfl
  obtain ⟨B, hB⟩ : ∃ B : Int, (1000000 : Int) = B := ⟨_, rfl⟩
  obtain ⟨D, hD⟩ : ∃ B : Int, (100000 : Int) = B := ⟨_, rfl⟩
  have hw' : fewM [.vi 1, ω.w 1, ω.w 2, ω.w 3, ω.w 4, ω.w 5, ω.w 6, ω.w 7, ω.w 8, ω.w 9, ω.w 10, ω.w 11] = true := hw
  have hR : rightM (repM [.vi 1, ω.w 1, ω.w 2, ω.w 3, ω.w 4, ω.w 5, ω.w 6, ω.w 7, ω.w 8, ω.w 9, ω.w 10, ω.w 11]) = rightM (repM [ω.w 0, ω.w 1, ω.w 2, ω.w 3, ω.w 4, ω.w 5, ω.w 6, ω.w 7, ω.w 8, ω.w 9, ω.w 10, ω.w 11]) := by
    simp only [repM, arg_0, arg_s, toI_vi, hk]
  simp only [T_put1, hB, hD, evalT, evalTs, dens, den, dB, prim, hf, toB_vb, toI_vi, toL_vl, cmpI_lss, cmpI_leq, cmpI_gtr, cmpI_eql, Bool.and_eq_true, decide_eq_true_eq, List.cons_append, List.nil_append]
  refine (if_pos hw').trans ?_
  cases hr : rightM (repM [ω.w 0, ω.w 1, ω.w 2, ω.w 3, ω.w 4, ω.w 5, ω.w 6, ω.w 7, ω.w 8, ω.w 9, ω.w 10, ω.w 11]) with
  | false => simp only [F, hR, hr, Bool.not_false, if_true, toB_vb, cond_false]
  | true =>
  have hr' : (F 4 [.vi 1, ω.w 1, ω.w 2, ω.w 3, ω.w 4, ω.w 5, ω.w 6, ω.w 7, ω.w 8, ω.w 9, ω.w 10, ω.w 11]).toB = true := by simp only [F, hR, hr, toB_vb]
  have h5 : F 5 [ω.w 0, ω.w 1, ω.w 2, ω.w 3, ω.w 4, ω.w 5, ω.w 6, ω.w 7, ω.w 8, ω.w 9, ω.w 10, ω.w 11] = .vl (putV [ω.w 0, ω.w 1, ω.w 2, ω.w 3, ω.w 4, ω.w 5, ω.w 6, ω.w 7, ω.w 8, ω.w 9, ω.w 10, ω.w 11]) := by simp only [F, hr, cond_true]
  have h6 : F 6 [ω.w 0, ω.w 1, ω.w 2, ω.w 3, ω.w 4, ω.w 5, ω.w 6, ω.w 7, ω.w 8, ω.w 9, ω.w 10, ω.w 11] = .vi 0 := by simp only [F, hr, cond_true]
  rw [hr', h5, h6]
  simp only [Bool.not_true, Bool.false_eq_true, if_false, F, arg_0, arg_s, toI_vi, toL_vl]
  have g1 := gath_len (g := fun i => rowW (atV (ω.w 10).toL i)) (m := 110) (fun i => by rw [rowW_len]; have := few_at q3 i; omega) (ω.w 10).toL.length
  have g2 := gath_len (g := fun i => paneW (atV (ω.w 11).toL i)) (m := 110) (fun i => by rw [paneW_len]; have := few_at q4 i; omega) (ω.w 11).toL.length
  refine ifp (by simp only [List.length_append, List.length_cons, List.length_nil, beV_len, textV_len, e1, e2, e4, e8]; omega) ?_
  refine ifp (by simp only [List.length_append, List.length_cons, List.length_nil, beV_len, textV_len, e1, e2, e4, e8]; omega) ?_
  cases hb : (ω.w 3).toB
  all_goals
    simp only [Bool.false_eq_true, if_false, if_true]
    refine ifp (by simp only [List.length_append, List.length_cons, List.length_nil, beV_len, textV_len, e1, e2, e4, e8]; omega) ?_
    refine ifp (by simp only [List.length_append, List.length_cons, List.length_nil, beV_len, textV_len, e1, e2, e4, e8]; omega) ?_
    rw [gath_loop' (fun i acc => [.vi i, .vi acc.length, .vl acc]) (n := (ω.w 10).toL.length) (g := fun i => rowW (atV (ω.w 10).toL i))]
    case h0 => exact rfl
    case h1 =>
      intro i hi
      have hg := gath_len (g := fun i => rowW (atV (ω.w 10).toL i)) (m := 110) (fun i => by rw [rowW_len]; have := few_at q3 i; omega) i
      have hkey := few_at q3 i
      generalize gath (fun i => rowW (atV (ω.w 10).toL i)) i = acc at hg ⊢
      simp only [upd_f, upd_a, upd_b, upd_c, upd_10, upd_11, toI_vi, toB_vb, toL_vl, toS_vs, cmpI_lss, cmpI_leq, cmpI_gtr, cmpI_eql, Bool.and_eq_true, decide_eq_true_eq, getV_0, getV_1, getV_2, getV_3, getV_4, getV_5, getV_6, hf, F, arg_0, arg_s]
      refine ifp (by omega) ?_
      refine ifp (by omega) ?_
      refine ifp (by omega) ?_
      refine ifp (by simp only [List.length_append, List.length_cons, List.length_nil, beV_len, textV_len, paneW_len, rowW_len, e1, e2, e4, e8]; omega) ?_
      refine ifp (⟨trivial, by simp only [List.length_append, List.length_cons, List.length_nil, beV_len, textV_len, paneW_len, rowW_len, e1, e2, e4, e8]; omega⟩) ?_
      refine ifp (by simp only [List.length_append, List.length_cons, List.length_nil, beV_len, textV_len, paneW_len, rowW_len, e1, e2, e4, e8]; omega) ?_
      refine ifp (by simp only [List.length_append, List.length_cons, List.length_nil, beV_len, textV_len, paneW_len, rowW_len, e1, e2, e4, e8]; omega) ?_
      simp only [arI_add1 (show i ≤ 10000000 by omega), rowW, paneW, beV_u64 _ (Nat.le_refl 8), List.append_assoc, e8]
    case h2 =>
      simp only [upd_f, upd_a, upd_b, upd_c, upd_10, upd_11, toI_vi, toB_vb, toL_vl, toS_vs, cmpI_lss, cmpI_leq, cmpI_gtr, cmpI_eql, Bool.and_eq_true, decide_eq_true_eq, getV_0, getV_1, getV_2, getV_3, getV_4, getV_5, getV_6, hf, F, arg_0, arg_s]
      rw [if_neg (by omega)]
    simp only [hB, hD, lastA, hf, F, arg_0, arg_s, gathF, List.length_cons, List.length_nil, Nat.reduceAdd, Nat.reduceSub, if_true, evalTs, evalT, dens, den, dB, prim, getR1, getR2, getR0, List.cons_append, List.nil_append, toI_vi, toB_vb, toL_vl, cmpI_eql, cmpI_leq, Bool.and_eq_true, decide_eq_true_eq]
    simp only [e1, e2, e4, e8, beV_u64 _ (Nat.le_refl 8), beV_u64 _ (show 4 ≤ 8 by decide), beV_u64 _ (show 2 ≤ 8 by decide), be_one, gath_flat, wu8]
    simp [putV, arg_0, arg_s, hk, hb, byteV]
theorem t_putR1 {ω : Opq} (hf : ∀ i a, ω.f i a = F i a) (hk : (ω.w 0).toI = 1) (hw : fewM [ω.w 0, ω.w 1, ω.w 2, ω.w 3, ω.w 4, ω.w 5, ω.w 6, ω.w 7, ω.w 8, ω.w 9, ω.w 10, ω.w 11] = true) (hp : 0 ≤ (ω.w 4).toI ∧ 0 ≤ (ω.w 5).toI ∧ 0 ≤ (ω.w 6).toI ∧ 0 ≤ (ω.w 7).toI ∧ 0 ≤ (ω.w 8).toI ∧ 0 ≤ (ω.w 9).toI) : evalT T_putR1 ω = some (0, [F 6 [ω.w 0, ω.w 1, ω.w 2, ω.w 3, ω.w 4, ω.w 5, ω.w 6, ω.w 7, ω.w 8, ω.w 9, ω.w 10, ω.w 11], F 5 [ω.w 0, ω.w 1, ω.w 2, ω.w 3, ω.w 4, ω.w 5, ω.w 6, ω.w 7, ω.w 8, ω.w 9, ω.w 10, ω.w 11]]) := by
  obtain ⟨p4, p5, p6, p7, p8, p9⟩ := hp
  obtain ⟨q1, q2, q3, q4⟩ := few_lens hw
  simp only [arg_0, arg_s] at q1 q2 q3 q4
  have e1 : (1 : Int).toNat = 1 := rfl
  have e2 : (2 : Int).toNat = 2 := rfl
  have e4 : (4 : Int).toNat = 4 := rfl
  have e8 : (8 : Int).toNat = 8 := rfl
  obtain ⟨B, hB⟩ : ∃ B : Int, (1000000 : Int) = B := ⟨_, rfl⟩
  obtain ⟨D, hD⟩ : ∃ B : Int, (100000 : Int) = B := ⟨_, rfl⟩
  have hw' : fewM [.vi 1, ω.w 1, ω.w 2, ω.w 3, ω.w 4, ω.w 5, ω.w 6, ω.w 7, ω.w 8, ω.w 9, ω.w 10, ω.w 11] = true := hw
  have hR : rightM (repM [.vi 1, ω.w 1, ω.w 2, ω.w 3, ω.w 4, ω.w 5, ω.w 6, ω.w 7, ω.w 8, ω.w 9, ω.w 10, ω.w 11]) = rightM (repM [ω.w 0, ω.w 1, ω.w 2, ω.w 3, ω.w 4, ω.w 5, ω.w 6, ω.w 7, ω.w 8, ω.w 9, ω.w 10, ω.w 11]) := by
    simp only [repM, arg_0, arg_s, toI_vi, hk]
  simp only [T_putR1, hB, hD, evalT, evalTs, dens, den, dB, prim, hf, toB_vb, toI_vi, toL_vl, cmpI_lss, cmpI_leq, cmpI_gtr, cmpI_eql, Bool.and_eq_true, decide_eq_true_eq, List.cons_append, List.nil_append]
  refine (if_pos hw').trans ?_
  cases hr : rightM (repM [ω.w 0, ω.w 1, ω.w 2, ω.w 3, ω.w 4, ω.w 5, ω.w 6, ω.w 7, ω.w 8, ω.w 9, ω.w 10, ω.w 11]) with
  | false => simp only [F, hR, hr, Bool.not_false, if_true, toB_vb, cond_false]
  | true =>
  have hr' : (F 4 [.vi 1, ω.w 1, ω.w 2, ω.w 3, ω.w 4, ω.w 5, ω.w 6, ω.w 7, ω.w 8, ω.w 9, ω.w 10, ω.w 11]).toB = true := by simp only [F, hR, hr, toB_vb]
  have h5 : F 5 [ω.w 0, ω.w 1, ω.w 2, ω.w 3, ω.w 4, ω.w 5, ω.w 6, ω.w 7, ω.w 8, ω.w 9, ω.w 10, ω.w 11] = .vl (putV [ω.w 0, ω.w 1, ω.w 2, ω.w 3, ω.w 4, ω.w 5, ω.w 6, ω.w 7, ω.w 8, ω.w 9, ω.w 10, ω.w 11]) := by simp only [F, hr, cond_true]
  have h6 : F 6 [ω.w 0, ω.w 1, ω.w 2, ω.w 3, ω.w 4, ω.w 5, ω.w 6, ω.w 7, ω.w 8, ω.w 9, ω.w 10, ω.w 11] = .vi 0 := by simp only [F, hr, cond_true]
  rw [hr', h5, h6]
  simp only [Bool.not_true, Bool.false_eq_true, if_false, F, arg_0, arg_s, toI_vi, toL_vl]
  have g1 := gath_len (g := fun i => rowW (atV (ω.w 10).toL i)) (m := 110) (fun i => by rw [rowW_len]; have := few_at q3 i; omega) (ω.w 10).toL.length
  have g2 := gath_len (g := fun i => paneW (atV (ω.w 11).toL i)) (m := 110) (fun i => by rw [paneW_len]; have := few_at q4 i; omega) (ω.w 11).toL.length
  refine ifp (by simp only [wu64]; omega) ?_
  refine ifp (by simp only [List.length_append, List.length_cons, List.length_nil, beV_len, textV_len, e1, e2, e4, e8]; omega) ?_
  refine ifp (p4) ?_
  refine ifp (by simp only [List.length_append, List.length_cons, List.length_nil, beV_len, textV_len, e1, e2, e4, e8]; omega) ?_
  cases hb : (ω.w 3).toB
  all_goals
    simp only [Bool.false_eq_true, if_false, if_true]
    refine ifp (by simp only [List.length_append, List.length_cons, List.length_nil, beV_len, textV_len, e1, e2, e4, e8]; omega) ?_
    rw [gath_loop' (fun i acc => [.vi acc.length, .vi i, .vl acc]) (n := (ω.w 10).toL.length) (g := fun i => rowW (atV (ω.w 10).toL i))]
    case h0 => exact rfl
    case h1 =>
      intro i hi
      have hg := gath_len (g := fun i => rowW (atV (ω.w 10).toL i)) (m := 110) (fun i => by rw [rowW_len]; have := few_at q3 i; omega) i
      have hkey := few_at q3 i
      generalize gath (fun i => rowW (atV (ω.w 10).toL i)) i = acc at hg ⊢
      simp only [upd_f, upd_a, upd_b, upd_c, upd_10, upd_11, toI_vi, toB_vb, toL_vl, toS_vs, cmpI_lss, cmpI_leq, cmpI_gtr, cmpI_eql, Bool.and_eq_true, decide_eq_true_eq, getV_0, getV_1, getV_2, getV_3, getV_4, getV_5, getV_6, hf, F, arg_0, arg_s]
      refine ifp (by omega) ?_
      refine ifp (by omega) ?_
      refine ifp (by omega) ?_
      refine ifp (⟨trivial, by simp only [List.length_append, List.length_cons, List.length_nil, beV_len, textV_len, paneW_len, rowW_len, e1, e2, e4, e8]; omega⟩) ?_
      refine ifp (by simp only [List.length_append, List.length_cons, List.length_nil, beV_len, textV_len, paneW_len, rowW_len, e1, e2, e4, e8]; omega) ?_
      refine ifp (by simp only [List.length_append, List.length_cons, List.length_nil, beV_len, textV_len, paneW_len, rowW_len, e1, e2, e4, e8]; omega) ?_
      simp only [arI_add1 (show i ≤ 10000000 by omega), rowW, paneW, beV_u64 _ (Nat.le_refl 8), List.append_assoc, e8]
    case h2 =>
      simp only [upd_f, upd_a, upd_b, upd_c, upd_10, upd_11, toI_vi, toB_vb, toL_vl, toS_vs, cmpI_lss, cmpI_leq, cmpI_gtr, cmpI_eql, Bool.and_eq_true, decide_eq_true_eq, getV_0, getV_1, getV_2, getV_3, getV_4, getV_5, getV_6, hf, F, arg_0, arg_s]
      rw [if_neg (by omega)]
    simp only [hB, hD, lastA, hf, F, arg_0, arg_s, gathF, List.length_cons, List.length_nil, Nat.reduceAdd, Nat.reduceSub, if_true, evalTs, evalT, dens, den, dB, prim, getR1, getR2, getR0, List.cons_append, List.nil_append, toI_vi, toB_vb, toL_vl, cmpI_eql, cmpI_leq, Bool.and_eq_true, decide_eq_true_eq]
    refine ifp ⟨trivial, by simp only [List.length_append, List.length_cons, List.length_nil, beV_len, textV_len, paneW_len, rowW_len, e1, e2, e4, e8]; omega⟩ ?_
    simp only [e1, e2, e4, e8, beV_u64 _ (Nat.le_refl 8), beV_u64 _ (show 4 ≤ 8 by decide), beV_u64 _ (show 2 ≤ 8 by decide), be_one, gath_flat, wu8]
    simp [putV, arg_0, arg_s, hk, hb, byteV]
theorem t_put4 {ω : Opq} (hf : ∀ i a, ω.f i a = F i a) (hk : (ω.w 0).toI = 4) (hw : fewM [ω.w 0, ω.w 1, ω.w 2, ω.w 3, ω.w 4, ω.w 5, ω.w 6, ω.w 7, ω.w 8, ω.w 9, ω.w 10, ω.w 11] = true) : evalT T_put4 ω = some (0, [F 6 [ω.w 0, ω.w 1, ω.w 2, ω.w 3, ω.w 4, ω.w 5, ω.w 6, ω.w 7, ω.w 8, ω.w 9, ω.w 10, ω.w 11], F 5 [ω.w 0, ω.w 1, ω.w 2, ω.w 3, ω.w 4, ω.w 5, ω.w 6, ω.w 7, ω.w 8, ω.w 9, ω.w 10, ω.w 11]]) := by
  obtain ⟨q1, q2, q3, q4⟩ := few_lens hw
  simp only [arg_0, arg_s] at q1 q2 q3 q4
  have e1 : (1 : Int).toNat = 1 := rfl
  have e2 : (2 : Int).toNat = 2 := rfl
  have e4 : (4 : Int).toNat = 4 := rfl
  have e8 : (8 : Int).toNat = 8 := rfl
  obtain ⟨B, hB⟩ : ∃ B : Int, (1000000 : Int) = B := ⟨_, rfl⟩
  obtain ⟨D, hD⟩ : ∃ B : Int, (100000 : Int) = B := ⟨_, rfl⟩
  have hw' : fewM [.vi 4, ω.w 1, ω.w 2, ω.w 3, ω.w 4, ω.w 5, ω.w 6, ω.w 7, ω.w 8, ω.w 9, ω.w 10, ω.w 11] = true := hw
  have hR : rightM (repM [.vi 4, ω.w 1, ω.w 2, ω.w 3, ω.w 4, ω.w 5, ω.w 6, ω.w 7, ω.w 8, ω.w 9, ω.w 10, ω.w 11]) = rightM (repM [ω.w 0, ω.w 1, ω.w 2, ω.w 3, ω.w 4, ω.w 5, ω.w 6, ω.w 7, ω.w 8, ω.w 9, ω.w 10, ω.w 11]) := by
    simp only [repM, arg_0, arg_s, toI_vi, hk]
  simp only [T_put4, hB, hD, evalT, evalTs, dens, den, dB, prim, hf, toB_vb, toI_vi, toL_vl, cmpI_lss, cmpI_leq, cmpI_gtr, cmpI_eql, Bool.and_eq_true, decide_eq_true_eq, List.cons_append, List.nil_append]
  refine (if_pos hw').trans ?_
  cases hr : rightM (repM [ω.w 0, ω.w 1, ω.w 2, ω.w 3, ω.w 4, ω.w 5, ω.w 6, ω.w 7, ω.w 8, ω.w 9, ω.w 10, ω.w 11]) with
  | false => simp only [F, hR, hr, Bool.not_false, if_true, toB_vb, cond_false]
  | true =>
  have hr' : (F 4 [.vi 4, ω.w 1, ω.w 2, ω.w 3, ω.w 4, ω.w 5, ω.w 6, ω.w 7, ω.w 8, ω.w 9, ω.w 10, ω.w 11]).toB = true := by simp only [F, hR, hr, toB_vb]
  have h5 : F 5 [ω.w 0, ω.w 1, ω.w 2, ω.w 3, ω.w 4, ω.w 5, ω.w 6, ω.w 7, ω.w 8, ω.w 9, ω.w 10, ω.w 11] = .vl (putV [ω.w 0, ω.w 1, ω.w 2, ω.w 3, ω.w 4, ω.w 5, ω.w 6, ω.w 7, ω.w 8, ω.w 9, ω.w 10, ω.w 11]) := by simp only [F, hr, cond_true]
  have h6 : F 6 [ω.w 0, ω.w 1, ω.w 2, ω.w 3, ω.w 4, ω.w 5, ω.w 6, ω.w 7, ω.w 8, ω.w 9, ω.w 10, ω.w 11] = .vi 0 := by simp only [F, hr, cond_true]
  rw [hr', h5, h6]
  simp only [Bool.not_true, Bool.false_eq_true, if_false, F, arg_0, arg_s, toI_vi, toL_vl]
  have g1 := gath_len (g := fun i => rowW (atV (ω.w 10).toL i)) (m := 110) (fun i => by rw [rowW_len]; have := few_at q3 i; omega) (ω.w 10).toL.length
  have g2 := gath_len (g := fun i => paneW (atV (ω.w 11).toL i)) (m := 110) (fun i => by rw [paneW_len]; have := few_at q4 i; omega) (ω.w 11).toL.length
  refine ifp (by simp only [List.length_append, List.length_cons, List.length_nil, beV_len, textV_len, e1, e2, e4, e8]; omega) ?_
  refine ifp (by simp only [List.length_append, List.length_cons, List.length_nil, beV_len, textV_len, e1, e2, e4, e8]; omega) ?_
  cases hb : (ω.w 3).toB
  all_goals
    simp only [Bool.false_eq_true, if_false, if_true]
    refine ifp (by simp only [List.length_append, List.length_cons, List.length_nil, beV_len, textV_len, e1, e2, e4, e8]; omega) ?_
    refine ifp (by simp only [List.length_append, List.length_cons, List.length_nil, beV_len, textV_len, e1, e2, e4, e8]; omega) ?_
    rw [gath_loop' (fun i acc => [.vi i, .vi acc.length, .vl acc]) (n := (ω.w 10).toL.length) (g := fun i => rowW (atV (ω.w 10).toL i))]
    case h0 => exact rfl
    case h1 =>
      intro i hi
      have hg := gath_len (g := fun i => rowW (atV (ω.w 10).toL i)) (m := 110) (fun i => by rw [rowW_len]; have := few_at q3 i; omega) i
      have hkey := few_at q3 i
      generalize gath (fun i => rowW (atV (ω.w 10).toL i)) i = acc at hg ⊢
      simp only [upd_f, upd_a, upd_b, upd_c, upd_10, upd_11, toI_vi, toB_vb, toL_vl, toS_vs, cmpI_lss, cmpI_leq, cmpI_gtr, cmpI_eql, Bool.and_eq_true, decide_eq_true_eq, getV_0, getV_1, getV_2, getV_3, getV_4, getV_5, getV_6, hf, F, arg_0, arg_s]
      refine ifp (by omega) ?_
      refine ifp (by omega) ?_
      refine ifp (by omega) ?_
      refine ifp (by simp only [List.length_append, List.length_cons, List.length_nil, beV_len, textV_len, paneW_len, rowW_len, e1, e2, e4, e8]; omega) ?_
      refine ifp (⟨trivial, by simp only [List.length_append, List.length_cons, List.length_nil, beV_len, textV_len, paneW_len, rowW_len, e1, e2, e4, e8]; omega⟩) ?_
      refine ifp (by simp only [List.length_append, List.length_cons, List.length_nil, beV_len, textV_len, paneW_len, rowW_len, e1, e2, e4, e8]; omega) ?_
      refine ifp (by simp only [List.length_append, List.length_cons, List.length_nil, beV_len, textV_len, paneW_len, rowW_len, e1, e2, e4, e8]; omega) ?_
      simp only [arI_add1 (show i ≤ 10000000 by omega), rowW, paneW, beV_u64 _ (Nat.le_refl 8), List.append_assoc, e8]
    case h2 =>
      simp only [upd_f, upd_a, upd_b, upd_c, upd_10, upd_11, toI_vi, toB_vb, toL_vl, toS_vs, cmpI_lss, cmpI_leq, cmpI_gtr, cmpI_eql, Bool.and_eq_true, decide_eq_true_eq, getV_0, getV_1, getV_2, getV_3, getV_4, getV_5, getV_6, hf, F, arg_0, arg_s]
      rw [if_neg (by omega)]
    simp only [hB, hD, lastA, hf, F, arg_0, arg_s, gathF, List.length_cons, List.length_nil, Nat.reduceAdd, Nat.reduceSub, if_true, evalTs, evalT, dens, den, dB, prim, getR1, getR2, getR0, List.cons_append, List.nil_append, toI_vi, toB_vb, toL_vl, cmpI_eql, cmpI_leq, Bool.and_eq_true, decide_eq_true_eq]
    refine ifp ⟨trivial, by simp only [List.length_append, List.length_cons, List.length_nil, beV_len, textV_len, paneW_len, rowW_len, e1, e2, e4, e8]; omega⟩ ?_
    rw [gath_loop' (fun i acc => [.vi i, .vi acc.length, .vl acc]) (n := (ω.w 11).toL.length) (g := fun i => paneW (atV (ω.w 11).toL i))]
    case h0 => exact rfl
    case h1 =>
      intro i hi
      have hg := gath_len (g := fun i => paneW (atV (ω.w 11).toL i)) (m := 110) (fun i => by rw [paneW_len]; have := few_at q4 i; omega) i
      have hkey := few_at q4 i
      generalize gath (fun i => paneW (atV (ω.w 11).toL i)) i = acc at hg ⊢
      simp only [upd_f, upd_a, upd_b, upd_c, upd_10, upd_11, toI_vi, toB_vb, toL_vl, toS_vs, cmpI_lss, cmpI_leq, cmpI_gtr, cmpI_eql, Bool.and_eq_true, decide_eq_true_eq, getV_0, getV_1, getV_2, getV_3, getV_4, getV_5, getV_6, hf, F, arg_0, arg_s]
      refine ifp (by omega) ?_
      refine ifp (by omega) ?_
      refine ifp (by omega) ?_
      refine ifp (by simp only [List.length_append, List.length_cons, List.length_nil, beV_len, textV_len, paneW_len, rowW_len, e1, e2, e4, e8]; omega) ?_
      refine ifp (⟨trivial, by simp only [List.length_append, List.length_cons, List.length_nil, beV_len, textV_len, paneW_len, rowW_len, e1, e2, e4, e8]; omega⟩) ?_
      simp only [arI_add1 (show i ≤ 10000000 by omega), rowW, paneW, beV_u64 _ (Nat.le_refl 8), List.append_assoc, e8]
    case h2 =>
      simp only [upd_f, upd_a, upd_b, upd_c, upd_10, upd_11, toI_vi, toB_vb, toL_vl, toS_vs, cmpI_lss, cmpI_leq, cmpI_gtr, cmpI_eql, Bool.and_eq_true, decide_eq_true_eq, getV_0, getV_1, getV_2, getV_3, getV_4, getV_5, getV_6, hf, F, arg_0, arg_s]
      rw [if_neg (by omega)]
    simp only [hB, hD, lastA, hf, F, arg_0, arg_s, gathF, List.length_cons, List.length_nil, Nat.reduceAdd, Nat.reduceSub, if_true, evalTs, evalT, dens, den, dB, prim, getR1, getR2, getR0, List.cons_append, List.nil_append, toI_vi, toB_vb, toL_vl, cmpI_eql, cmpI_leq, Bool.and_eq_true, decide_eq_true_eq]
    simp only [e1, e2, e4, e8, beV_u64 _ (Nat.le_refl 8), beV_u64 _ (show 4 ≤ 8 by decide), beV_u64 _ (show 2 ≤ 8 by decide), be_one, gath_flat, wu8]
    simp [putV, arg_0, arg_s, hk, hb, byteV]
theorem t_putR4 {ω : Opq} (hf : ∀ i a, ω.f i a = F i a) (hk : (ω.w 0).toI = 4) (hw : fewM [ω.w 0, ω.w 1, ω.w 2, ω.w 3, ω.w 4, ω.w 5, ω.w 6, ω.w 7, ω.w 8, ω.w 9, ω.w 10, ω.w 11] = true) (hp : 0 ≤ (ω.w 4).toI ∧ 0 ≤ (ω.w 5).toI ∧ 0 ≤ (ω.w 6).toI ∧ 0 ≤ (ω.w 7).toI ∧ 0 ≤ (ω.w 8).toI ∧ 0 ≤ (ω.w 9).toI) : evalT T_putR4 ω = some (0, [F 6 [ω.w 0, ω.w 1, ω.w 2, ω.w 3, ω.w 4, ω.w 5, ω.w 6, ω.w 7, ω.w 8, ω.w 9, ω.w 10, ω.w 11], F 5 [ω.w 0, ω.w 1, ω.w 2, ω.w 3, ω.w 4, ω.w 5, ω.w 6, ω.w 7, ω.w 8, ω.w 9, ω.w 10, ω.w 11]]) := by
  obtain ⟨p4, p5, p6, p7, p8, p9⟩ := hp
  obtain ⟨q1, q2, q3, q4⟩ := few_lens hw
  simp only [arg_0, arg_s] at q1 q2 q3 q4
  have e1 : (1 : Int).toNat = 1 := rfl
  have e2 : (2 : Int).toNat = 2 := rfl
  have e4 : (4 : Int).toNat = 4 := rfl
  have e8 : (8 : Int).toNat = 8 := rfl
  obtain ⟨B, hB⟩ : ∃ B : Int, (1000000 : Int) = B := ⟨_, rfl⟩
  obtain ⟨D, hD⟩ : ∃ B : Int, (100000 : Int) = B := ⟨_, rfl⟩
  have hw' : fewM [.vi 4, ω.w 1, ω.w 2, ω.w 3, ω.w 4, ω.w 5, ω.w 6, ω.w 7, ω.w 8, ω.w 9, ω.w 10, ω.w 11] = true := hw
  have hR : rightM (repM [.vi 4, ω.w 1, ω.w 2, ω.w 3, ω.w 4, ω.w 5, ω.w 6, ω.w 7, ω.w 8, ω.w 9, ω.w 10, ω.w 11]) = rightM (repM [ω.w 0, ω.w 1, ω.w 2, ω.w 3, ω.w 4, ω.w 5, ω.w 6, ω.w 7, ω.w 8, ω.w 9, ω.w 10, ω.w 11]) := by
    simp only [repM, arg_0, arg_s, toI_vi, hk]
  simp only [T_putR4, hB, hD, evalT, evalTs, dens, den, dB, prim, hf, toB_vb, toI_vi, toL_vl, cmpI_lss, cmpI_leq, cmpI_gtr, cmpI_eql, Bool.and_eq_true, decide_eq_true_eq, List.cons_append, List.nil_append]
  refine (if_pos hw').trans ?_
  cases hr : rightM (repM [ω.w 0, ω.w 1, ω.w 2, ω.w 3, ω.w 4, ω.w 5, ω.w 6, ω.w 7, ω.w 8, ω.w 9, ω.w 10, ω.w 11]) with
  | false => simp only [F, hR, hr, Bool.not_false, if_true, toB_vb, cond_false]
  | true =>
  have hr' : (F 4 [.vi 4, ω.w 1, ω.w 2, ω.w 3, ω.w 4, ω.w 5, ω.w 6, ω.w 7, ω.w 8, ω.w 9, ω.w 10, ω.w 11]).toB = true := by simp only [F, hR, hr, toB_vb]
  have h5 : F 5 [ω.w 0, ω.w 1, ω.w 2, ω.w 3, ω.w 4, ω.w 5, ω.w 6, ω.w 7, ω.w 8, ω.w 9, ω.w 10, ω.w 11] = .vl (putV [ω.w 0, ω.w 1, ω.w 2, ω.w 3, ω.w 4, ω.w 5, ω.w 6, ω.w 7, ω.w 8, ω.w 9, ω.w 10, ω.w 11]) := by simp only [F, hr, cond_true]
  have h6 : F 6 [ω.w 0, ω.w 1, ω.w 2, ω.w 3, ω.w 4, ω.w 5, ω.w 6, ω.w 7, ω.w 8, ω.w 9, ω.w 10, ω.w 11] = .vi 0 := by simp only [F, hr, cond_true]
  rw [hr', h5, h6]
  simp only [Bool.not_true, Bool.false_eq_true, if_false, F, arg_0, arg_s, toI_vi, toL_vl]
  have g1 := gath_len (g := fun i => rowW (atV (ω.w 10).toL i)) (m := 110) (fun i => by rw [rowW_len]; have := few_at q3 i; omega) (ω.w 10).toL.length
  have g2 := gath_len (g := fun i => paneW (atV (ω.w 11).toL i)) (m := 110) (fun i => by rw [paneW_len]; have := few_at q4 i; omega) (ω.w 11).toL.length
  refine ifp (by simp only [wu64]; omega) ?_
  refine ifp (by simp only [List.length_append, List.length_cons, List.length_nil, beV_len, textV_len, e1, e2, e4, e8]; omega) ?_
  refine ifp (p4) ?_
  refine ifp (by simp only [List.length_append, List.length_cons, List.length_nil, beV_len, textV_len, e1, e2, e4, e8]; omega) ?_
  cases hb : (ω.w 3).toB
  all_goals
    simp only [Bool.false_eq_true, if_false, if_true]
    refine ifp (by simp only [List.length_append, List.length_cons, List.length_nil, beV_len, textV_len, e1, e2, e4, e8]; omega) ?_
    rw [gath_loop' (fun i acc => [.vi acc.length, .vi i, .vl acc]) (n := (ω.w 10).toL.length) (g := fun i => rowW (atV (ω.w 10).toL i))]
    case h0 => exact rfl
    case h1 =>
      intro i hi
      have hg := gath_len (g := fun i => rowW (atV (ω.w 10).toL i)) (m := 110) (fun i => by rw [rowW_len]; have := few_at q3 i; omega) i
      have hkey := few_at q3 i
      generalize gath (fun i => rowW (atV (ω.w 10).toL i)) i = acc at hg ⊢
      simp only [upd_f, upd_a, upd_b, upd_c, upd_10, upd_11, toI_vi, toB_vb, toL_vl, toS_vs, cmpI_lss, cmpI_leq, cmpI_gtr, cmpI_eql, Bool.and_eq_true, decide_eq_true_eq, getV_0, getV_1, getV_2, getV_3, getV_4, getV_5, getV_6, hf, F, arg_0, arg_s]
      refine ifp (by omega) ?_
      refine ifp (by omega) ?_
      refine ifp (by omega) ?_
      refine ifp (⟨trivial, by simp only [List.length_append, List.length_cons, List.length_nil, beV_len, textV_len, paneW_len, rowW_len, e1, e2, e4, e8]; omega⟩) ?_
      refine ifp (by simp only [List.length_append, List.length_cons, List.length_nil, beV_len, textV_len, paneW_len, rowW_len, e1, e2, e4, e8]; omega) ?_
      refine ifp (by simp only [List.length_append, List.length_cons, List.length_nil, beV_len, textV_len, paneW_len, rowW_len, e1, e2, e4, e8]; omega) ?_
      simp only [arI_add1 (show i ≤ 10000000 by omega), rowW, paneW, beV_u64 _ (Nat.le_refl 8), List.append_assoc, e8]
    case h2 =>
      simp only [upd_f, upd_a, upd_b, upd_c, upd_10, upd_11, toI_vi, toB_vb, toL_vl, toS_vs, cmpI_lss, cmpI_leq, cmpI_gtr, cmpI_eql, Bool.and_eq_true, decide_eq_true_eq, getV_0, getV_1, getV_2, getV_3, getV_4, getV_5, getV_6, hf, F, arg_0, arg_s]
      rw [if_neg (by omega)]
    simp only [hB, hD, lastA, hf, F, arg_0, arg_s, gathF, List.length_cons, List.length_nil, Nat.reduceAdd, Nat.reduceSub, if_true, evalTs, evalT, dens, den, dB, prim, getR1, getR2, getR0, List.cons_append, List.nil_append, toI_vi, toB_vb, toL_vl, cmpI_eql, cmpI_leq, Bool.and_eq_true, decide_eq_true_eq]
    refine ifp ⟨trivial, by simp only [List.length_append, List.length_cons, List.length_nil, beV_len, textV_len, paneW_len, rowW_len, e1, e2, e4, e8]; omega⟩ ?_
    rw [gath_loop' (fun i acc => [.vi acc.length, .vi i, .vl acc]) (n := (ω.w 11).toL.length) (g := fun i => paneW (atV (ω.w 11).toL i)) (a0 := [Val.vl [Val.vi (IntKind.u8.wrap ((ω.w 11).toL.length : Int))]])]
    case h0 => exact rfl
    case h1 =>
      intro i hi
      have hg := gath_len (g := fun i => paneW (atV (ω.w 11).toL i)) (m := 110) (fun i => by rw [paneW_len]; have := few_at q4 i; omega) i
      have hkey := few_at q4 i
      generalize gath (fun i => paneW (atV (ω.w 11).toL i)) i = acc at hg ⊢
      simp only [upd_f, upd_a, upd_b, upd_c, upd_10, upd_11, toI_vi, toB_vb, toL_vl, toS_vs, cmpI_lss, cmpI_leq, cmpI_gtr, cmpI_eql, Bool.and_eq_true, decide_eq_true_eq, getV_0, getV_1, getV_2, getV_3, getV_4, getV_5, getV_6, hf, F, arg_0, arg_s]
      refine ifp (by omega) ?_
      refine ifp (by omega) ?_
      refine ifp (by omega) ?_
      refine ifp (⟨trivial, by simp only [List.length_append, List.length_cons, List.length_nil, beV_len, textV_len, paneW_len, rowW_len, e1, e2, e4, e8]; omega⟩) ?_
      simp only [arI_add1 (show i ≤ 10000000 by omega), rowW, paneW, beV_u64 _ (Nat.le_refl 8), List.append_assoc, e8]
    case h2 =>
      simp only [upd_f, upd_a, upd_b, upd_c, upd_10, upd_11, toI_vi, toB_vb, toL_vl, toS_vs, cmpI_lss, cmpI_leq, cmpI_gtr, cmpI_eql, Bool.and_eq_true, decide_eq_true_eq, getV_0, getV_1, getV_2, getV_3, getV_4, getV_5, getV_6, hf, F, arg_0, arg_s]
      rw [if_neg (by omega)]
    simp only [hB, hD, lastA, hf, F, arg_0, arg_s, gathF, List.length_cons, List.length_nil, Nat.reduceAdd, Nat.reduceSub, if_true, evalTs, evalT, dens, den, dB, prim, getR1, getR2, getR0, List.cons_append, List.nil_append, toI_vi, toB_vb, toL_vl, cmpI_eql, cmpI_leq, Bool.and_eq_true, decide_eq_true_eq]
    refine ifp ⟨trivial, by simp only [List.length_append, List.length_cons, List.length_nil, beV_len, textV_len, paneW_len, rowW_len, e1, e2, e4, e8]; omega⟩ ?_
    simp only [e1, e2, e4, e8, beV_u64 _ (Nat.le_refl 8), beV_u64 _ (show 4 ≤ 8 by decide), beV_u64 _ (show 2 ≤ 8 by decide), be_one, gath_flat, wu8]
    simp [putV, arg_0, arg_s, hk, hb, byteV]
theorem t_put0 {ω : Opq} (hf : ∀ i a, ω.f i a = F i a) (hk : ¬ (1 ≤ (ω.w 0).toI ∧ (ω.w 0).toI ≤ 7)) (hw : fewM [ω.w 0, ω.w 1, ω.w 2, ω.w 3, ω.w 4, ω.w 5, ω.w 6, ω.w 7, ω.w 8, ω.w 9, ω.w 10, ω.w 11] = true) : evalT T_put0 ω = some (0, [F 6 [ω.w 0, ω.w 1, ω.w 2, ω.w 3, ω.w 4, ω.w 5, ω.w 6, ω.w 7, ω.w 8, ω.w 9, ω.w 10, ω.w 11], F 5 [ω.w 0, ω.w 1, ω.w 2, ω.w 3, ω.w 4, ω.w 5, ω.w 6, ω.w 7, ω.w 8, ω.w 9, ω.w 10, ω.w 11]]) := by
  have hr : rightM (repM [ω.w 0, ω.w 1, ω.w 2, ω.w 3, ω.w 4, ω.w 5, ω.w 6, ω.w 7, ω.w 8, ω.w 9, ω.w 10, ω.w 11]) = false := by
    rw [rightM_eq]
    simp only [arg_0, arg_s]
    by_cases h1 : 1 ≤ (ω.w 0).toI
    · have h2 : ¬ (ω.w 0).toI ≤ 7 := by omega
      simp [h2]
    · simp [h1]
  have h8 : F 8 [ω.w 0, ω.w 1, ω.w 2, ω.w 3, ω.w 4, ω.w 5, ω.w 6, ω.w 7, ω.w 8, ω.w 9, ω.w 10, ω.w 11] = .vb true := by simp only [F, hw]
  have h4 : F 4 [ω.w 0, ω.w 1, ω.w 2, ω.w 3, ω.w 4, ω.w 5, ω.w 6, ω.w 7, ω.w 8, ω.w 9, ω.w 10, ω.w 11] = .vb false := by simp only [F, hr]
  have h5 : F 5 [ω.w 0, ω.w 1, ω.w 2, ω.w 3, ω.w 4, ω.w 5, ω.w 6, ω.w 7, ω.w 8, ω.w 9, ω.w 10, ω.w 11] = .vl [] := by simp only [F, hr, cond_false]
  have h6 : F 6 [ω.w 0, ω.w 1, ω.w 2, ω.w 3, ω.w 4, ω.w 5, ω.w 6, ω.w 7, ω.w 8, ω.w 9, ω.w 10, ω.w 11] = .vi 81 := by simp only [F, hr, cond_false]
  simp only [T_put0, evalT, dens, den, dB, prim, hf, h8, h4, h5, h6, toB_vb, if_true, Bool.not_false]
theorem t_putR0 {ω : Opq} (hf : ∀ i a, ω.f i a = F i a) (hk : ¬ (1 ≤ (ω.w 0).toI ∧ (ω.w 0).toI ≤ 7)) (hw : fewM [ω.w 0, ω.w 1, ω.w 2, ω.w 3, ω.w 4, ω.w 5, ω.w 6, ω.w 7, ω.w 8, ω.w 9, ω.w 10, ω.w 11] = true) : evalT T_putR0 ω = some (0, [F 6 [ω.w 0, ω.w 1, ω.w 2, ω.w 3, ω.w 4, ω.w 5, ω.w 6, ω.w 7, ω.w 8, ω.w 9, ω.w 10, ω.w 11], F 5 [ω.w 0, ω.w 1, ω.w 2, ω.w 3, ω.w 4, ω.w 5, ω.w 6, ω.w 7, ω.w 8, ω.w 9, ω.w 10, ω.w 11]]) := by
  have hr : rightM (repM [ω.w 0, ω.w 1, ω.w 2, ω.w 3, ω.w 4, ω.w 5, ω.w 6, ω.w 7, ω.w 8, ω.w 9, ω.w 10, ω.w 11]) = false := by
    rw [rightM_eq]
    simp only [arg_0, arg_s]
    by_cases h1 : 1 ≤ (ω.w 0).toI
    · have h2 : ¬ (ω.w 0).toI ≤ 7 := by omega
      simp [h2]
    · simp [h1]
  have h8 : F 8 [ω.w 0, ω.w 1, ω.w 2, ω.w 3, ω.w 4, ω.w 5, ω.w 6, ω.w 7, ω.w 8, ω.w 9, ω.w 10, ω.w 11] = .vb true := by simp only [F, hw]
  have h4 : F 4 [ω.w 0, ω.w 1, ω.w 2, ω.w 3, ω.w 4, ω.w 5, ω.w 6, ω.w 7, ω.w 8, ω.w 9, ω.w 10, ω.w 11] = .vb false := by simp only [F, hr]
  have h5 : F 5 [ω.w 0, ω.w 1, ω.w 2, ω.w 3, ω.w 4, ω.w 5, ω.w 6, ω.w 7, ω.w 8, ω.w 9, ω.w 10, ω.w 11] = .vl [] := by simp only [F, hr, cond_false]
  have h6 : F 6 [ω.w 0, ω.w 1, ω.w 2, ω.w 3, ω.w 4, ω.w 5, ω.w 6, ω.w 7, ω.w 8, ω.w 9, ω.w 10, ω.w 11] = .vi 81 := by simp only [F, hr, cond_false]
  simp only [T_putR0, evalT, dens, den, dB, prim, hf, h8, h4, h5, h6, toB_vb, if_true, Bool.not_false]

theorem rowM_norm (r : Val) : rowM (norm7 r) = rowM r := rfl
theorem paneM_norm (r : Val) : paneM (norm3 r) = paneM r := rfl
theorem rowsM_norm (v : Val) : rowsM (F 30 [v]) = rowsM v := by
  simp only [F, rowsM, arg_0, toL_vl, List.map_map]
  rfl
theorem panesM_norm (v : Val) : panesM (F 31 [v]) = panesM v := by
  simp only [F, panesM, arg_0, toL_vl, List.map_map]
  rfl
theorem len_norm7 (v : Val) : (F 30 [v]).toL.length = v.toL.length := by simp [F, arg_0]
theorem len_norm3 (v : Val) : (F 31 [v]).toL.length = v.toL.length := by simp [F, arg_0]
theorem few_norm (v : Val) : (F 30 [v]).toL.any fewB = v.toL.any fewB := by
  simp only [F, arg_0, toL_vl, List.any_map]; rfl
theorem few_norm3 (v : Val) : (F 31 [v]).toL.any fewB = v.toL.any fewB := by
  simp only [F, arg_0, toL_vl, List.any_map]; rfl
theorem flat_norm (v : Val) : (F 30 [v]).toL.flatMap rowW = v.toL.flatMap rowW := by
  simp only [F, arg_0, toL_vl, List.flatMap_map]; rfl
theorem flat_norm3 (v : Val) : (F 31 [v]).toL.flatMap paneW = v.toL.flatMap paneW := by
  simp only [F, arg_0, toL_vl, List.flatMap_map]; rfl
theorem putV_len {a : List Val} (hw : fewM a = true) : (putV a).length ≤ 20000 := by
  obtain ⟨q1, q2, q3, q4⟩ := few_lens hw
  have g1 := gath_len (g := fun i => rowW (atV (arg a 10).toL i)) (m := 110) (fun i => by rw [rowW_len]; have := few_at q3 i; omega) (arg a 10).toL.length
  have g2 := gath_len (g := fun i => paneW (atV (arg a 11).toL i)) (m := 110) (fun i => by rw [paneW_len]; have := few_at q4 i; omega) (arg a 11).toL.length
  rw [gath_flat] at g1 g2
  unfold putV
  simp only [List.length_append, List.length_cons, List.length_nil, beV_len]
  repeat' split
  all_goals simp only [List.length_append, List.length_cons, List.length_nil, beV_len]
  all_goals omega
theorem t_replyPuts {ω : Opq} (hf : ∀ i a, ω.f i a = F i a) (hp : 0 ≤ (ω.w 4).toI ∧ 0 ≤ (ω.w 5).toI ∧ 0 ≤ (ω.w 6).toI ∧ 0 ≤ (ω.w 7).toI ∧ 0 ≤ (ω.w 8).toI ∧ 0 ≤ (ω.w 9).toI) : evalT T_replyPuts ω = some (0, [.vb true]) := by
  obtain ⟨p4, p5, p6, p7, p8, p9⟩ := hp
  have hM : repM [ω.w 0, ω.w 1, ω.w 2, ω.w 3, ω.w 4, ω.w 5, ω.w 6, ω.w 7, ω.w 8, ω.w 9, F 30 [ω.w 10], F 31 [ω.w 11]] = repM [ω.w 0, ω.w 1, ω.w 2, ω.w 3, ω.w 4, ω.w 5, ω.w 6, ω.w 7, ω.w 8, ω.w 9, ω.w 10, ω.w 11] := by simp only [repM, arg_0, arg_s, rowsM_norm, panesM_norm]
  have hM' : repM [ω.w 12, ω.w 13, ω.w 14, ω.w 15, ω.w 16, ω.w 17, ω.w 18, ω.w 19, ω.w 20, ω.w 21, F 30 [ω.w 22], F 31 [ω.w 23]] = repM [ω.w 12, ω.w 13, ω.w 14, ω.w 15, ω.w 16, ω.w 17, ω.w 18, ω.w 19, ω.w 20, ω.w 21, ω.w 22, ω.w 23] := by simp only [repM, arg_0, arg_s, rowsM_norm, panesM_norm]
  have hP : putV [ω.w 0, ω.w 1, ω.w 2, ω.w 3, ω.w 4, ω.w 5, ω.w 6, ω.w 7, ω.w 8, ω.w 9, F 30 [ω.w 10], F 31 [ω.w 11]] = putV [ω.w 0, ω.w 1, ω.w 2, ω.w 3, ω.w 4, ω.w 5, ω.w 6, ω.w 7, ω.w 8, ω.w 9, ω.w 10, ω.w 11] := by simp only [putV, arg_0, arg_s, flat_norm, flat_norm3, len_norm7, len_norm3]; rfl
  have hW : fewM [ω.w 0, ω.w 1, ω.w 2, ω.w 3, ω.w 4, ω.w 5, ω.w 6, ω.w 7, ω.w 8, ω.w 9, F 30 [ω.w 10], F 31 [ω.w 11]] = fewM [ω.w 0, ω.w 1, ω.w 2, ω.w 3, ω.w 4, ω.w 5, ω.w 6, ω.w 7, ω.w 8, ω.w 9, ω.w 10, ω.w 11] := by simp only [fewM, arg_0, arg_s, few_norm, few_norm3, len_norm7, len_norm3]; rfl
  have h4 : F 4 [ω.w 0, ω.w 1, ω.w 2, ω.w 3, ω.w 4, ω.w 5, ω.w 6, ω.w 7, ω.w 8, ω.w 9, F 30 [ω.w 10], F 31 [ω.w 11]] = F 4 [ω.w 0, ω.w 1, ω.w 2, ω.w 3, ω.w 4, ω.w 5, ω.w 6, ω.w 7, ω.w 8, ω.w 9, ω.w 10, ω.w 11] := by
    show Val.vb (rightM (repM [ω.w 0, ω.w 1, ω.w 2, ω.w 3, ω.w 4, ω.w 5, ω.w 6, ω.w 7, ω.w 8, ω.w 9, F 30 [ω.w 10], F 31 [ω.w 11]])) = Val.vb (rightM (repM [ω.w 0, ω.w 1, ω.w 2, ω.w 3, ω.w 4, ω.w 5, ω.w 6, ω.w 7, ω.w 8, ω.w 9, ω.w 10, ω.w 11])); rw [hM]
  have h6 : F 6 [ω.w 0, ω.w 1, ω.w 2, ω.w 3, ω.w 4, ω.w 5, ω.w 6, ω.w 7, ω.w 8, ω.w 9, F 30 [ω.w 10], F 31 [ω.w 11]] = F 6 [ω.w 0, ω.w 1, ω.w 2, ω.w 3, ω.w 4, ω.w 5, ω.w 6, ω.w 7, ω.w 8, ω.w 9, ω.w 10, ω.w 11] := by
    show Val.vi (bif rightM (repM [ω.w 0, ω.w 1, ω.w 2, ω.w 3, ω.w 4, ω.w 5, ω.w 6, ω.w 7, ω.w 8, ω.w 9, F 30 [ω.w 10], F 31 [ω.w 11]]) then 0 else 81) = Val.vi (bif rightM (repM [ω.w 0, ω.w 1, ω.w 2, ω.w 3, ω.w 4, ω.w 5, ω.w 6, ω.w 7, ω.w 8, ω.w 9, ω.w 10, ω.w 11]) then 0 else 81); rw [hM]
  have h5 : F 5 [ω.w 0, ω.w 1, ω.w 2, ω.w 3, ω.w 4, ω.w 5, ω.w 6, ω.w 7, ω.w 8, ω.w 9, F 30 [ω.w 10], F 31 [ω.w 11]] = F 5 [ω.w 0, ω.w 1, ω.w 2, ω.w 3, ω.w 4, ω.w 5, ω.w 6, ω.w 7, ω.w 8, ω.w 9, ω.w 10, ω.w 11] := by
    show Val.vl (bif rightM (repM [ω.w 0, ω.w 1, ω.w 2, ω.w 3, ω.w 4, ω.w 5, ω.w 6, ω.w 7, ω.w 8, ω.w 9, F 30 [ω.w 10], F 31 [ω.w 11]]) then putV [ω.w 0, ω.w 1, ω.w 2, ω.w 3, ω.w 4, ω.w 5, ω.w 6, ω.w 7, ω.w 8, ω.w 9, F 30 [ω.w 10], F 31 [ω.w 11]] else []) = Val.vl (bif rightM (repM [ω.w 0, ω.w 1, ω.w 2, ω.w 3, ω.w 4, ω.w 5, ω.w 6, ω.w 7, ω.w 8, ω.w 9, ω.w 10, ω.w 11]) then putV [ω.w 0, ω.w 1, ω.w 2, ω.w 3, ω.w 4, ω.w 5, ω.w 6, ω.w 7, ω.w 8, ω.w 9, ω.w 10, ω.w 11] else []); rw [hM, hP]
  have h8 : F 8 [ω.w 0, ω.w 1, ω.w 2, ω.w 3, ω.w 4, ω.w 5, ω.w 6, ω.w 7, ω.w 8, ω.w 9, F 30 [ω.w 10], F 31 [ω.w 11]] = F 8 [ω.w 0, ω.w 1, ω.w 2, ω.w 3, ω.w 4, ω.w 5, ω.w 6, ω.w 7, ω.w 8, ω.w 9, ω.w 10, ω.w 11] := by
    show Val.vb (fewM [ω.w 0, ω.w 1, ω.w 2, ω.w 3, ω.w 4, ω.w 5, ω.w 6, ω.w 7, ω.w 8, ω.w 9, F 30 [ω.w 10], F 31 [ω.w 11]]) = Val.vb (fewM [ω.w 0, ω.w 1, ω.w 2, ω.w 3, ω.w 4, ω.w 5, ω.w 6, ω.w 7, ω.w 8, ω.w 9, ω.w 10, ω.w 11]); rw [hW]
  have h7 : F 7 [ω.w 0, ω.w 1, ω.w 2, ω.w 3, ω.w 4, ω.w 5, ω.w 6, ω.w 7, ω.w 8, ω.w 9, F 30 [ω.w 10], F 31 [ω.w 11], ω.w 12, ω.w 13, ω.w 14, ω.w 15, ω.w 16, ω.w 17, ω.w 18, ω.w 19, ω.w 20, ω.w 21, F 30 [ω.w 22], F 31 [ω.w 23]] = F 7 [ω.w 0, ω.w 1, ω.w 2, ω.w 3, ω.w 4, ω.w 5, ω.w 6, ω.w 7, ω.w 8, ω.w 9, ω.w 10, ω.w 11, ω.w 12, ω.w 13, ω.w 14, ω.w 15, ω.w 16, ω.w 17, ω.w 18, ω.w 19, ω.w 20, ω.w 21, ω.w 22, ω.w 23] := by
    show Val.vb (eqB (repM [ω.w 0, ω.w 1, ω.w 2, ω.w 3, ω.w 4, ω.w 5, ω.w 6, ω.w 7, ω.w 8, ω.w 9, F 30 [ω.w 10], F 31 [ω.w 11]]) (repM [ω.w 12, ω.w 13, ω.w 14, ω.w 15, ω.w 16, ω.w 17, ω.w 18, ω.w 19, ω.w 20, ω.w 21, F 30 [ω.w 22], F 31 [ω.w 23]])) = Val.vb (eqB (repM [ω.w 0, ω.w 1, ω.w 2, ω.w 3, ω.w 4, ω.w 5, ω.w 6, ω.w 7, ω.w 8, ω.w 9, ω.w 10, ω.w 11]) (repM [ω.w 12, ω.w 13, ω.w 14, ω.w 15, ω.w 16, ω.w 17, ω.w 18, ω.w 19, ω.w 20, ω.w 21, ω.w 22, ω.w 23])); rw [hM, hM']
  have h7s : F 7 [ω.w 0, ω.w 1, ω.w 2, ω.w 3, ω.w 4, ω.w 5, ω.w 6, ω.w 7, ω.w 8, ω.w 9, ω.w 10, ω.w 11, ω.w 0, ω.w 1, ω.w 2, ω.w 3, ω.w 4, ω.w 5, ω.w 6, ω.w 7, ω.w 8, ω.w 9, ω.w 10, ω.w 11] = .vb true := by
    show Val.vb (eqB (repM [ω.w 0, ω.w 1, ω.w 2, ω.w 3, ω.w 4, ω.w 5, ω.w 6, ω.w 7, ω.w 8, ω.w 9, ω.w 10, ω.w 11]) (repM [ω.w 0, ω.w 1, ω.w 2, ω.w 3, ω.w 4, ω.w 5, ω.w 6, ω.w 7, ω.w 8, ω.w 9, ω.w 10, ω.w 11])) = _; rw [eqB_self]
  have h7t : F 7 [ω.w 0, ω.w 1, ω.w 2, ω.w 3, ω.w 4, ω.w 5, ω.w 6, ω.w 7, ω.w 8, ω.w 9, F 30 [ω.w 10], F 31 [ω.w 11], ω.w 0, ω.w 1, ω.w 2, ω.w 3, ω.w 4, ω.w 5, ω.w 6, ω.w 7, ω.w 8, ω.w 9, F 30 [ω.w 10], F 31 [ω.w 11]] = .vb true := by
    show Val.vb (eqB (repM [ω.w 0, ω.w 1, ω.w 2, ω.w 3, ω.w 4, ω.w 5, ω.w 6, ω.w 7, ω.w 8, ω.w 9, F 30 [ω.w 10], F 31 [ω.w 11]]) (repM [ω.w 0, ω.w 1, ω.w 2, ω.w 3, ω.w 4, ω.w 5, ω.w 6, ω.w 7, ω.w 8, ω.w 9, F 30 [ω.w 10], F 31 [ω.w 11]])) = _; rw [eqB_self]
  have h12 : F 12 [F 5 [ω.w 0, ω.w 1, ω.w 2, ω.w 3, ω.w 4, ω.w 5, ω.w 6, ω.w 7, ω.w 8, ω.w 9, ω.w 10, ω.w 11], F 5 [ω.w 0, ω.w 1, ω.w 2, ω.w 3, ω.w 4, ω.w 5, ω.w 6, ω.w 7, ω.w 8, ω.w 9, ω.w 10, ω.w 11]] = .vb true := by
    show Val.vb (eqB (bytesM (F 5 [ω.w 0, ω.w 1, ω.w 2, ω.w 3, ω.w 4, ω.w 5, ω.w 6, ω.w 7, ω.w 8, ω.w 9, ω.w 10, ω.w 11])) (bytesM (F 5 [ω.w 0, ω.w 1, ω.w 2, ω.w 3, ω.w 4, ω.w 5, ω.w 6, ω.w 7, ω.w 8, ω.w 9, ω.w 10, ω.w 11]))) = _; rw [eqB_self]
  simp only [T_replyPuts, evalT, dens, den, dB, prim, hf, h4, h5, h6, h7, h7s, h7t, h8, h12, toI_vi, toB_vb, cmpI_neq, cmpI_leq, cmpI_eql, decide_true, Bool.not_true, Bool.false_eq_true, if_false, if_true, len_norm7, len_norm3, p4, p5, p6, p7, p8, p9, Bool.and_true, beq_self_eq_true, Bool.not_eq_true']
  cases c1 : fewM [ω.w 0, ω.w 1, ω.w 2, ω.w 3, ω.w 4, ω.w 5, ω.w 6, ω.w 7, ω.w 8, ω.w 9, ω.w 10, ω.w 11] with
  | false =>
    have e8 : F 8 [ω.w 0, ω.w 1, ω.w 2, ω.w 3, ω.w 4, ω.w 5, ω.w 6, ω.w 7, ω.w 8, ω.w 9, ω.w 10, ω.w 11] = .vb false := by show Val.vb (fewM [ω.w 0, ω.w 1, ω.w 2, ω.w 3, ω.w 4, ω.w 5, ω.w 6, ω.w 7, ω.w 8, ω.w 9, ω.w 10, ω.w 11]) = _; rw [c1]
    simp only [e8, toB_vb, if_true, Bool.not_false]
  | true =>
  have e8 : F 8 [ω.w 0, ω.w 1, ω.w 2, ω.w 3, ω.w 4, ω.w 5, ω.w 6, ω.w 7, ω.w 8, ω.w 9, ω.w 10, ω.w 11] = .vb true := by show Val.vb (fewM [ω.w 0, ω.w 1, ω.w 2, ω.w 3, ω.w 4, ω.w 5, ω.w 6, ω.w 7, ω.w 8, ω.w 9, ω.w 10, ω.w 11]) = _; rw [c1]
  cases c2 : fewM [ω.w 12, ω.w 13, ω.w 14, ω.w 15, ω.w 16, ω.w 17, ω.w 18, ω.w 19, ω.w 20, ω.w 21, ω.w 22, ω.w 23] with
  | false =>
    have e8' : F 8 [ω.w 12, ω.w 13, ω.w 14, ω.w 15, ω.w 16, ω.w 17, ω.w 18, ω.w 19, ω.w 20, ω.w 21, ω.w 22, ω.w 23] = .vb false := by show Val.vb (fewM [ω.w 12, ω.w 13, ω.w 14, ω.w 15, ω.w 16, ω.w 17, ω.w 18, ω.w 19, ω.w 20, ω.w 21, ω.w 22, ω.w 23]) = _; rw [c2]
    simp only [e8, e8', toB_vb, if_true, if_false, Bool.false_eq_true, Bool.true_eq_false]
  | true =>
  have e8' : F 8 [ω.w 12, ω.w 13, ω.w 14, ω.w 15, ω.w 16, ω.w 17, ω.w 18, ω.w 19, ω.w 20, ω.w 21, ω.w 22, ω.w 23] = .vb true := by show Val.vb (fewM [ω.w 12, ω.w 13, ω.w 14, ω.w 15, ω.w 16, ω.w 17, ω.w 18, ω.w 19, ω.w 20, ω.w 21, ω.w 22, ω.w 23]) = _; rw [c2]
  have e5 : (F 5 [ω.w 0, ω.w 1, ω.w 2, ω.w 3, ω.w 4, ω.w 5, ω.w 6, ω.w 7, ω.w 8, ω.w 9, ω.w 10, ω.w 11]).toL.length ≤ 20000 := by
    show (bif rightM (repM [ω.w 0, ω.w 1, ω.w 2, ω.w 3, ω.w 4, ω.w 5, ω.w 6, ω.w 7, ω.w 8, ω.w 9, ω.w 10, ω.w 11]) then putV [ω.w 0, ω.w 1, ω.w 2, ω.w 3, ω.w 4, ω.w 5, ω.w 6, ω.w 7, ω.w 8, ω.w 9, ω.w 10, ω.w 11] else []).length ≤ 20000
    cases rightM (repM [ω.w 0, ω.w 1, ω.w 2, ω.w 3, ω.w 4, ω.w 5, ω.w 6, ω.w 7, ω.w 8, ω.w 9, ω.w 10, ω.w 11]) with
    | false => simp
    | true => exact putV_len c1
  obtain ⟨q1, q2, _, _⟩ := few_lens c1
  obtain ⟨q5, q6, _, _⟩ := few_lens c2
  simp only [arg_0, arg_s] at q1 q2 q5 q6
  have k1 : ((ω.w 10).toL.length : Int) ≤ 100 := by omega
  have k2 : ((ω.w 11).toL.length : Int) ≤ 100 := by omega
  have k3 : ((ω.w 22).toL.length : Int) ≤ 100 := by omega
  have k4 : ((ω.w 23).toL.length : Int) ≤ 100 := by omega
  have k5 : ((ω.w 10).toL.length : Int) ≤ 1000000 := by omega
  have k6 : ((ω.w 11).toL.length : Int) ≤ 1000000 := by omega
  have k7 : ((F 5 [ω.w 0, ω.w 1, ω.w 2, ω.w 3, ω.w 4, ω.w 5, ω.w 6, ω.w 7, ω.w 8, ω.w 9, ω.w 10, ω.w 11]).toL.length : Int) ≤ 1000000 := by omega
  simp only [e8, e8', toB_vb, if_true, if_false, Bool.false_eq_true, Bool.true_eq_false, k1, k2, k3, k4, k5, k6, k7, decide_true, Bool.and_true, Bool.and_self, Bool.not_true]
end Go.Ev
