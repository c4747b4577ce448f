/- The contracts of the functions, in the seat's numbers; their runs. -/
import Derived.Test.YthgndhfpfblphaaDoorRows
import Derived.Test.YthgndhfpfblphaaDoorEB1
import Derived.Test.YthgndhfpfblphaaDoorE42
import Derived.ProofKit
set_option linter.unusedVariables false
set_option linter.unusedSimpArgs false
namespace Go.Proofs.YthgndhfpfblphaaDoor.Ctr
open Go Go.Ev

noncomputable def env0 : Env := ⟨Tryd.prog, fun f => bif Nat.beq f 64 then some (.count) else bif Nat.beq f 73 then some (.indexByte) else bif Nat.beq f 57 then some (.ident) else bif Nat.beq f 68 then some (.makeNoZero 83) else none, fun f => false, fun f => false, fun _ _ _ => .bad, fun _ _ => none, fun _ _ _ _ => none⟩
noncomputable def loops (f : FuncId) (r : Nat) (a : Fr) (h : Heap) : Option LSpec := bif Nat.beq f 58 && Nat.beq r 13 then some (genL ⟨320, 2000, [12, 54, 55, 56, 57, 58, 59, 60, 61, 62, 63, 64, 65, 66, 67, 68, 69, 70, 71, 72, 73], [(10, some (1), 5, [.int .u8])], [11, 53], [10], [0, 1, 2, 10, 52], [(.exit 0, [])], []⟩ a h) else bif Nat.beq f 27 && Nat.beq r 2 then some (genL ⟨313, 2000, [5, 9, 10, 11, 12, 13, 14, 15, 16, 17, 18], [], [4, 8], [], [0, 1, 7], [(.exit 0, []), (.ret, [])], []⟩ a h) else bif Nat.beq f 17 && Nat.beq r 5 then some (genL ⟨314, 2000, [7, 16, 17, 18, 19, 20, 21, 22, 23, 24, 25, 26, 27, 28, 29, 30, 31, 32, 33, 34, 35], [], [5, 6], [0], [0, 1], [(.exit 0, [])], []⟩ a h) else bif Nat.beq f 3 && Nat.beq r 5 then some (genL ⟨315, 2000, [16, 17, 18, 19, 20, 21, 22, 23, 24, 25, 26, 27, 28, 29, 30, 31, 32, 33, 34, 35, 36, 37], [(5, none, 30, [.str, .int .i64, .int .i64])], [4, 5, 6], [], [1, 2], [(.exit 0, []), (.ret, [])], []⟩ a h) else bif Nat.beq f 3 && Nat.beq r 18 then some (genL ⟨316, 2000, [54, 55, 56, 57, 58, 59, 60, 61, 62, 63, 64, 65, 66, 67, 68, 69, 70, 71, 72, 73], [], [4, 10], [9], [1, 2, 5, 7, 8, 9], [(.exit 4, []), (.ret, [])], []⟩ a h) else bif Nat.beq f 3 && Nat.beq r 24 then some (genL ⟨317, 2000, [74, 75, 76, 77, 78, 79, 80, 81, 82, 83, 84, 85, 86, 87, 88, 89], [], [4, 11], [], [1, 5], [(.exit 6, []), (.ret, [])], []⟩ a h) else bif Nat.beq f 7 && Nat.beq r 3 then some (genL ⟨318, 2000, [7, 8, 9, 10, 11, 12, 13, 14, 15, 16, 17, 18, 19, 20, 21, 22, 23, 24, 25, 26, 27, 28, 29, 30, 31, 32, 33, 34, 35, 36, 37, 38, 39, 40, 41, 42, 43, 44, 45, 46, 47, 48, 49, 50, 51, 52, 53, 54, 55, 56, 57, 58, 59, 60, 61, 62, 63, 64, 65], [(5, none, 30, [.str, .int .i64, .int .i64])], [5, 6], [], [1, 2], [(.exit 0, [])], []⟩ a h) else bif Nat.beq f 7 && Nat.beq r 8 then some (genL ⟨319, 3000, [31, 32, 33, 34, 35, 36, 37, 38, 39, 40, 41, 42, 43, 44, 45, 46, 47, 48, 49, 50, 51, 52, 53, 54, 55, 56, 57, 58, 59, 60, 61, 62, 63, 64, 65], [], [7], [5], [1, 2, 5, 6], [(.exit 2, [])], []⟩ a h) else none
noncomputable def env : Env := { env0 with lspec := loops }
def h_works : HC := ⟨4, 0, ⟨[], [], 0, .cb true, .obool (.va 1000), [], [.cb true]⟩⟩
def L0 : List HC := [h_works]
def h_repl : HC := ⟨56, 1, ⟨[.ostr (.va 0), .str [0], .str [0, 255]], [], 0, .op (.cmp .leq) [.op .slen [.va 0], .ci 1000], .ostr (.va 1000), [], [.app 300 [.va 0]]⟩⟩
def h_has : HC := ⟨13, 8, ⟨[.agg [.oint .u8 (.va 0), .ostr (.va 1), .ostr (.va 2), .oint .i64 (.va 3), .oint .i64 (.va 4)], .agg [.ostr (.va 5), .oint .i64 (.va 6), .oint .i64 (.va 7)]], [], 0, .cb true, .obool (.va 1000), [], [.app 304 [.va 0, .va 1, .va 2, .va 3, .va 4, .va 5, .va 6, .va 7]]⟩⟩
def h_hasR : HC := ⟨15, 8, ⟨[.agg [.oint .u8 (.va 0), .ostr (.va 1), .ostr (.va 2), .oint .i64 (.va 3), .oint .i64 (.va 4)], .agg [.ostr (.va 5), .oint .i64 (.va 6), .oint .i64 (.va 7)]], [], 0, .cb true, .obool (.va 1000), [], [.app 304 [.va 0, .va 1, .va 2, .va 3, .va 4, .va 5, .va 6, .va 7]]⟩⟩
def h_partI : HC := ⟨52, 1, ⟨[.agg [.int .u8 1, .oint .i64 (.va 0), .str []]], [], 0, .cb true, .ostr (.va 1000), [], [.app 302 [.va 0]]⟩⟩
def h_clone : HC := ⟨18, 1, ⟨[.osl 0 (.ci 0) (.op .llen [.va 0]) 3], [.arr 4294967295 [.str, .int .i64, .int .i64] (.va 0)], 1, .op .and [.op (.cmp .leq) [.op .llen [.va 0], .ci 100], .app 303 [.va 0]], .ous 1 (.op .llen [.va 1000]) 3, [some (.arr 29 [.str, .int .i64, .int .i64] (.va 1000))], [.va 0]⟩⟩
def h_lessS : HC := ⟨16, 7, ⟨[.agg [.ostr (.va 0), .oint .i64 (.va 1), .oint .i64 (.va 2)], .agg [.ostr (.va 3), .oint .i64 (.va 4), .oint .i64 (.va 5)], .obool (.va 6)], [], 0, .cb true, .obool (.va 1000), [], [.app 305 [.va 0, .va 1, .va 2, .va 3, .va 4, .va 5, .va 6]]⟩⟩
def L1 : List HC := [h_repl, h_has, h_hasR, h_partI, h_clone, h_lessS]
def h_partT : HC := ⟨52, 1, ⟨[.agg [.int .u8 2, .int .i64 0, .ostr (.va 0)]], [], 0, .op (.cmp .leq) [.op .slen [.va 0], .ci 1000], .ostr (.va 1000), [], [.app 301 [.va 0]]⟩⟩
def L2 : List HC := [h_partT]
def h_prim : HC := ⟨33, 3, ⟨[.agg [.ostr (.va 0), .oint .i64 (.va 1), .oint .i64 (.va 2)]], [], 0, .op (.cmp .leq) [.op .slen [.va 0], .ci 1000], .ostr (.va 1000), [], [.app 306 [.va 0, .va 1, .va 2]]⟩⟩
def h_sec : HC := ⟨32, 3, ⟨[.agg [.ostr (.va 0), .oint .i64 (.va 1), .oint .i64 (.va 2)]], [], 0, .op (.cmp .leq) [.op .slen [.va 0], .ci 1000], .ostr (.va 1000), [], [.app 307 [.va 0, .va 1, .va 2]]⟩⟩
def L3 : List HC := [h_prim, h_sec]
def h_cmpF : HC := ⟨21, 11, ⟨[.agg [.ostr (.va 0), .oint .i64 (.va 1), .oint .i64 (.va 2)], .agg [.ostr (.va 3), .oint .i64 (.va 4), .oint .i64 (.va 5)], .ptr 0 0], [.cells 23 0 [.oint .u8 (.va 6), .ostr (.va 7), .ostr (.va 8), .oint .i64 (.va 9), .oint .i64 (.va 10)]], 1, .op .and [.op (.cmp .leq) [.op .slen [.va 0], .ci 1000], .op (.cmp .leq) [.op .slen [.va 3], .ci 1000]], .oint .i64 (.va 1000), [], [.app 308 [.va 0, .va 1, .va 2, .va 3, .va 4, .va 5, .va 6, .va 7, .va 8, .va 9, .va 10]]⟩⟩
def L4 : List HC := [h_cmpF]
def h_SORT : HC := ⟨20, 6, ⟨[.ous 1 (.op .llen [.va 5]) 3, .func (.func 21) [] [.ptr 0 0]], [.cells 23 0 [.oint .u8 (.va 0), .ostr (.va 1), .ostr (.va 2), .oint .i64 (.va 3), .oint .i64 (.va 4)], .arr 29 [.str, .int .i64, .int .i64] (.va 5)], 1, .op .and [.op (.cmp .leq) [.op .llen [.va 5], .ci 1000000], .app 310 [.va 5]], .tup [], [some (.arr 29 [.str, .int .i64, .int .i64] (.va 1000))], [.app 311 [.va 0, .va 1, .va 2, .va 3, .va 4, .va 5]]⟩⟩
def L5 : List HC := [h_SORT]
def h_sort : HC := ⟨9, 6, ⟨[.agg [.oint .u8 (.va 0), .ostr (.va 1), .ostr (.va 2), .oint .i64 (.va 3), .oint .i64 (.va 4)], .osl 0 (.ci 0) (.op .llen [.va 5]) 3], [.arr 4294967295 [.str, .int .i64, .int .i64] (.va 5)], 1, .op .and [.op (.cmp .leq) [.op .llen [.va 5], .ci 100], .app 310 [.va 5]], .ous 1 (.op .llen [.va 1000]) 3, [some (.arr 29 [.str, .int .i64, .int .i64] (.va 1000))], [.app 312 [.va 0, .va 1, .va 2, .va 3, .va 4, .va 5]]⟩⟩
def h_sortR : HC := ⟨7, 6, ⟨[.agg [.oint .u8 (.va 0), .ostr (.va 1), .ostr (.va 2), .oint .i64 (.va 3), .oint .i64 (.va 4)], .osl 0 (.ci 0) (.op .llen [.va 5]) 3], [.arr 4294967295 [.str, .int .i64, .int .i64] (.va 5)], 1, .op .and [.op (.cmp .leq) [.op .llen [.va 5], .ci 100], .app 310 [.va 5]], .ous 1 (.op .llen [.va 1000]) 3, [some (.arr 30 [.str, .int .i64, .int .i64] (.va 1000))], [.app 312 [.va 0, .va 1, .va 2, .va 3, .va 4, .va 5]]⟩⟩
def L6 : List HC := [h_sort, h_sortR]
def h_boundSorts : HC := ⟨3, 6, ⟨[.agg [.oint .u8 (.va 0), .ostr (.va 1), .ostr (.va 2), .oint .i64 (.va 3), .oint .i64 (.va 4)], .osl 0 (.ci 0) (.op .llen [.va 5]) 3], [.arr 4294967295 [.str, .int .i64, .int .i64] (.va 5)], 1, .app 309 [.va 5], .obool (.va 1000), [], [.cb true]⟩⟩
def L7 : List HC := [h_boundSorts]theorem names : (Tryd.prog.funcs.toList.all fun fn => !(fn.name == "runtime.NumGoroutine")) = true := by kernel_rfl
theorem ext64 : ∃ fn : Func, Tryd.prog.funcs[64]? = some fn ∧ fn.body = none ∧ Extern.findNext fn = none ∧ Extern.find fn = some (Ext.count).model :=
  ⟨_, Tryd.func64, by kernel_rfl, by kernel_rfl, by kernel_rfl⟩
theorem ext73 : ∃ fn : Func, Tryd.prog.funcs[73]? = some fn ∧ fn.body = none ∧ Extern.findNext fn = none ∧ Extern.find fn = some (Ext.indexByte).model :=
  ⟨_, Tryd.func73, by kernel_rfl, by kernel_rfl, by kernel_rfl⟩
theorem ext57 : ∃ fn : Func, Tryd.prog.funcs[57]? = some fn ∧ fn.body = none ∧ Extern.findNext fn = none ∧ Extern.find fn = some (Ext.ident).model :=
  ⟨_, Tryd.func57, by kernel_rfl, by kernel_rfl, by kernel_rfl⟩
theorem ext68 : ∃ fn : Func, Tryd.prog.funcs[68]? = some fn ∧ fn.body = none ∧ Extern.findNext fn = none ∧ Extern.find fn = some ((Ext.makeNoZero 83)).model :=
  ⟨_, Tryd.func68, by kernel_rfl, by kernel_rfl, by kernel_rfl⟩
theorem env0_ok (ω : Opq) (hω : ∀ t, ω.fix t = fixT Tryd.prog t) : env0.Ok ω := by
  refine ⟨hω, fun f fn h => ?_, fun f e h => ?_, fun _ _ _ _ h => (by cases h), fun _ _ _ h => (by cases h), fun _ _ _ h => (by cases h), fun _ _ _ _ _ h => (by cases h)⟩
  · have h1 := List.all_eq_true.1 names fn (by
      obtain ⟨h2, rfl⟩ := Array.getElem?_eq_some_iff.1 h
      exact Array.mem_toList_iff.2 (Array.getElem_mem h2))
    simpa using h1
  · have h : (bif Nat.beq f 64 then some (.count) else bif Nat.beq f 73 then some (.indexByte) else bif Nat.beq f 57 then some (.ident) else bif Nat.beq f 68 then some (.makeNoZero 83) else none : Option Ext) = some e := h
    cases hf64 : Nat.beq f 64 with
    | true =>
      rw [hf64] at h
      obtain rfl : f = 64 := by simpa using hf64
      cases h
      exact ext64
    | false =>
      rw [hf64] at h
      simp only [cond_false] at h
      cases hf73 : Nat.beq f 73 with
      | true =>
        rw [hf73] at h
        obtain rfl : f = 73 := by simpa using hf73
        cases h
        exact ext73
      | false =>
        rw [hf73] at h
        simp only [cond_false] at h
        cases hf57 : Nat.beq f 57 with
        | true =>
          rw [hf57] at h
          obtain rfl : f = 57 := by simpa using hf57
          cases h
          exact ext57
        | false =>
          rw [hf57] at h
          simp only [cond_false] at h
          cases hf68 : Nat.beq f 68 with
          | true =>
            rw [hf68] at h
            obtain rfl : f = 68 := by simpa using hf68
            cases h
            exact ext68
          | false =>
            rw [hf68] at h
            simp only [cond_false] at h
            cases h
theorem env_ok (ω : Opq) (hω : ∀ t, ω.fix t = fixT Tryd.prog t) : env.Ok ω :=
  let h := env0_ok ω hω
  ⟨h.fix, h.name, h.ext, h.bin, h.un, h.conv, h.blt⟩
theorem orders : Tryd.prog.follows .mixedOrders = true := by kernel_rfl
noncomputable def H0 : List HC := []
noncomputable def H1 : List HC := L0 ++ H0
noncomputable def H2 : List HC := L1 ++ H1
noncomputable def H3 : List HC := L2 ++ H2
noncomputable def H4 : List HC := L3 ++ H3
noncomputable def H5 : List HC := L4 ++ H4
noncomputable def H6 : List HC := L5 ++ H5
noncomputable def H7 : List HC := L6 ++ H6

theorem r_works : FC.run env0 1000000 h_works.f h_works.c h_works.c.args = T_works := by kernel_rfl
theorem r_repl : FC.run (env.hooks H1) 1000000 h_repl.f h_repl.c h_repl.c.args = T_repl := by kernel_rfl
theorem r_has : FC.run (env.hooks H1) 1000000 h_has.f h_has.c h_has.c.args = T_has := by kernel_rfl
theorem r_hasR : FC.run (env.hooks H1) 1000000 h_hasR.f h_hasR.c h_hasR.c.args = T_hasR := by kernel_rfl
theorem r_partI : FC.run (env.hooks H1) 1000000 h_partI.f h_partI.c h_partI.c.args = T_partI := by kernel_rfl
theorem r_clone : FC.run (env.hooks H1) 1000000 h_clone.f h_clone.c h_clone.c.args = T_clone := by kernel_rfl
theorem r_lessS : FC.run (env.hooks H1) 1000000 h_lessS.f h_lessS.c h_lessS.c.args = T_lessS := by kernel_rfl
theorem r_partT : FC.run (env.hooks H2) 1000000 h_partT.f h_partT.c h_partT.c.args = T_partT := by kernel_rfl
theorem r_prim : FC.run (env.hooks H3) 1000000 h_prim.f h_prim.c h_prim.c.args = T_prim := by kernel_rfl
theorem r_sec : FC.run (env.hooks H3) 1000000 h_sec.f h_sec.c h_sec.c.args = T_sec := by kernel_rfl
theorem r_cmpF : FC.run (env.hooks H4) 1000000 h_cmpF.f h_cmpF.c h_cmpF.c.args = T_cmpF := by kernel_rfl
theorem r_sort : FC.run (env.hooks H6) 1000000 h_sort.f h_sort.c h_sort.c.args = T_sort := by kernel_rfl
theorem r_sortR : FC.run (env.hooks H6) 1000000 h_sortR.f h_sortR.c h_sortR.c.args = T_sortR := by kernel_rfl
theorem r_boundSorts : FC.run (env.hooks H7) 1000000 h_boundSorts.f h_boundSorts.c h_boundSorts.c.args = T_boundSorts := by kernel_rfl

open Go Go.Ev Go.Shelf

def Om (ω : Opq) : Prop := OmF F Tryd.prog ω
theorem om_upd (ω : Opq) (v0 : Nat) (l : List Val) (h : Om ω) : Om (ω.upd v0 l) := h
theorem om_f {ω : Opq} (h : Om ω) : ∀ i a, ω.f i a = F i a := fun i a => by rw [h.1]
theorem e_ok (ω : Opq) (h : Om ω) : env.Ok ω := env_ok ω h.2
theorem e0_ok (ω : Opq) (h : Om ω) : env0.Ok ω := env0_ok ω h.2
theorem VRs_kind {β : Bij} {ω : Opq} {us : List Value} {k : IntKind} {n : Nat} {i : Int} {r : List AV} (h : (ω.w n).toI = i) (hv : VRs β ω [.agg (.oint k (.va n) :: r)] us) : VRs β ω [.agg (.int k i :: r)] us := by
  obtain ⟨v, vr, e, ⟨xs, e2, u, ur, e3, p1, p2⟩, q⟩ := hv
  refine ⟨v, vr, e, ⟨xs, e2, u, ur, e3, ?_, p2⟩, q⟩
  show u = .int k i
  rw [← h]; exact p1
theorem h0_ok : ∀ x ∈ H0, HcOk env Om x := fun x hx => by cases hx
theorem k_works : HcOk env Om h_works :=
  hc_step (E := env0) (cs := []) om_upd e0_ok orders (fun x hx => by cases hx) (n := 1000000) (by kernel_rfl) (fcMath1 (T := T_works) r_works fun ω hω hn => by
    exact rfl)
theorem l0_ok : ∀ x ∈ L0, HcOk env Om x := by
  exact hc_add (fun x hx => (by cases hx)) k_works
theorem h1_ok : ∀ x ∈ H1, HcOk env Om x := hc_app h0_ok l0_ok
theorem k_repl : HcOk env Om h_repl :=
  hc_step (E := env) (cs := H1) om_upd e_ok orders h1_ok (n := 1000000) (by kernel_rfl) (fcMath1 (T := T_repl) r_repl fun ω hω hn => by
    have hn := hn
    simp only [h_repl, dB, den, dens, prim, toB_vb, toI_vi, toL_vl, toS_vs, cmpI_leq, cmpI_eql, cmpI_lss, decide_eq_true_eq, Bool.and_eq_true, List.length_append] at hn
    exact (t_repl (om_f hω) (by omega)).trans (by simp only [h_repl, dens, den, prim, om_f hω, toI_vi, toL_vl]))
theorem k_has : HcOk env Om h_has :=
  hc_step (E := env) (cs := H1) om_upd e_ok orders h1_ok (n := 1000000) (by kernel_rfl) (fcMath1 (T := T_has) r_has fun ω hω hn => by
    exact (t_has ).trans (by simp only [h_has, dens, den, prim, om_f hω, toI_vi, toL_vl]))
theorem k_hasR : HcOk env Om h_hasR :=
  hc_step (E := env) (cs := H1) om_upd e_ok orders h1_ok (n := 1000000) (by kernel_rfl) (fcMath1 (T := T_hasR) r_hasR fun ω hω hn => by
    exact (t_hasR ).trans (by simp only [h_hasR, dens, den, prim, om_f hω, toI_vi, toL_vl]))
theorem k_partI : HcOk env Om h_partI :=
  hc_step (E := env) (cs := H1) om_upd e_ok orders h1_ok (n := 1000000) (by kernel_rfl) (fcMath1 (T := T_partI) r_partI fun ω hω hn => by
    exact (t_partI (om_f hω)).trans (by simp only [h_partI, dens, den, prim, om_f hω, toI_vi, toL_vl]))
theorem k_clone : HcOk env Om h_clone :=
  hc_step (E := env) (cs := H1) om_upd e_ok orders h1_ok (n := 1000000) (by kernel_rfl) (fcMath1 (T := T_clone) r_clone fun ω hω hn => by
    have hn : (decide (((ω.w 0).toL.length : Int) ≤ 100) && (ω.f 303 [ω.w 0]).toB) = true := hn
    obtain ⟨h1, h2⟩ := and_t hn
    rw [om_f hω] at h2
    exact (t_clone (by have := of_decide_eq_true h1; omega) h2).trans (by simp only [h_clone, dens, den]))
theorem k_lessS : HcOk env Om h_lessS :=
  hc_step (E := env) (cs := H1) om_upd e_ok orders h1_ok (n := 1000000) (by kernel_rfl) (fcMath1 (T := T_lessS) r_lessS fun ω hω hn => by
    exact (t_lessS ).trans (by simp only [h_lessS, dens, den, prim, om_f hω, toI_vi, toL_vl]))
theorem l1_ok : ∀ x ∈ L1, HcOk env Om x := by
  exact hc_add (hc_add (hc_add (hc_add (hc_add (hc_add (fun x hx => (by cases hx)) k_lessS) k_clone) k_partI) k_hasR) k_has) k_repl
theorem h2_ok : ∀ x ∈ H2, HcOk env Om x := hc_app h1_ok l1_ok
theorem k_partT : HcOk env Om h_partT :=
  hc_step (E := env) (cs := H2) om_upd e_ok orders h2_ok (n := 1000000) (by kernel_rfl) (fcMath1 (T := T_partT) r_partT fun ω hω hn => by
    have hn := hn
    simp only [h_partT, dB, den, dens, prim, toB_vb, toI_vi, toL_vl, toS_vs, cmpI_leq, cmpI_eql, cmpI_lss, decide_eq_true_eq, Bool.and_eq_true, List.length_append] at hn
    exact (t_partT (om_f hω) (by omega)).trans (by simp only [h_partT, dens, den, prim, om_f hω, toI_vi, toL_vl]))
theorem l2_ok : ∀ x ∈ L2, HcOk env Om x := by
  exact hc_add (fun x hx => (by cases hx)) k_partT
theorem h3_ok : ∀ x ∈ H3, HcOk env Om x := hc_app h2_ok l2_ok
theorem k_prim : HcOk env Om h_prim :=
  hc_step (E := env) (cs := H3) om_upd e_ok orders h3_ok (n := 1000000) (by kernel_rfl) (fcMath1 (T := T_prim) r_prim fun ω hω hn => by
    have hn := hn
    simp only [h_prim, dB, den, dens, prim, toB_vb, toI_vi, toL_vl, toS_vs, cmpI_leq, cmpI_eql, cmpI_lss, decide_eq_true_eq, Bool.and_eq_true, List.length_append] at hn
    exact (t_prim (om_f hω) (by omega)).trans (by simp only [h_prim, dens, den, prim, om_f hω, toI_vi, toL_vl]))
theorem k_sec : HcOk env Om h_sec :=
  hc_step (E := env) (cs := H3) om_upd e_ok orders h3_ok (n := 1000000) (by kernel_rfl) (fcMath1 (T := T_sec) r_sec fun ω hω hn => by
    have hn := hn
    simp only [h_sec, dB, den, dens, prim, toB_vb, toI_vi, toL_vl, toS_vs, cmpI_leq, cmpI_eql, cmpI_lss, decide_eq_true_eq, Bool.and_eq_true, List.length_append] at hn
    exact (t_sec (om_f hω) (by omega)).trans (by simp only [h_sec, dens, den, prim, om_f hω, toI_vi, toL_vl]))
theorem l3_ok : ∀ x ∈ L3, HcOk env Om x := by
  exact hc_add (hc_add (fun x hx => (by cases hx)) k_sec) k_prim
theorem h4_ok : ∀ x ∈ H4, HcOk env Om x := hc_app h3_ok l3_ok
theorem k_cmpF : HcOk env Om h_cmpF :=
  hc_step (E := env) (cs := H4) om_upd e_ok orders h4_ok (n := 1000000) (by kernel_rfl) (fcMath1 (T := T_cmpF) r_cmpF fun ω hω hn => by
    have hn := hn
    simp only [h_cmpF, dB, den, dens, prim, toB_vb, toI_vi, toL_vl, toS_vs, cmpI_leq, cmpI_eql, cmpI_lss, decide_eq_true_eq, Bool.and_eq_true, List.length_append] at hn
    have h1 := hn.1
    have h2 := hn.2
    exact (t_cmpF (om_f hω) (by omega) (by omega)).trans (by simp only [h_cmpF, dens, den, prim, om_f hω, toI_vi, toL_vl]))
theorem l4_ok : ∀ x ∈ L4, HcOk env Om x := by
  exact hc_add (fun x hx => (by cases hx)) k_cmpF
theorem h5_ok : ∀ x ∈ H5, HcOk env Om x := hc_app h4_ok l4_ok
def sortRen : Go.Shelf.Ren := ⟨fun | 6 => 20 | 15 => 29 | 14 => 28 | 28 => 43 | 29 => 44 | 20 => 35 | 21 => 36 | 22 => 37 | 23 => 38 | 24 => 39 | 25 => 40 | 26 => 41 | 27 => 42 | 46 => 46 | 47 => 47 | 48 => 48 | 49 => 49 | 50 => 50 | 57 => 54 | n => n, fun | 22 => 24 | 24 => 29 | 25 => 48 | 3 => 3 | 39 => 58 | 0 => 0 | 53 => 70 | 55 => 72 | 4 => 4 | 46 => 63 | 45 => 62 | 50 => 67 | 5 => 5 | 9 => 9 | 66 => 75 | 70 => 79 | 76 => 91 | 77 => 92 | n => n, fun | n => n⟩
theorem sortLays : Go.Proofs.SlLaysF0.n6 Tryd.prog sortRen := {
  mixed := by kernel_rfl
  f6 := ⟨Tryd.f20.name, by decide, Tryd.func20.trans (congrArg some (by kernel_rfl))⟩
  f14 := ⟨Tryd.f28.name, by decide, Tryd.func28.trans (congrArg some (by kernel_rfl))⟩
  f15 := Tryd.func29.trans (congrArg some (by kernel_rfl))
  f20 := ⟨Tryd.f35.name, by decide, Tryd.func35.trans (congrArg some (by kernel_rfl))⟩
  f21 := ⟨Tryd.f36.name, by decide, Tryd.func36.trans (congrArg some (by kernel_rfl))⟩
  f22 := ⟨Tryd.f37.name, by decide, Tryd.func37.trans (congrArg some (by kernel_rfl))⟩
  f23 := ⟨Tryd.f38.name, by decide, Tryd.func38.trans (congrArg some (by kernel_rfl))⟩
  f24 := ⟨Tryd.f39.name, by decide, Tryd.func39.trans (congrArg some (by kernel_rfl))⟩
  f25 := ⟨Tryd.f40.name, by decide, Tryd.func40.trans (congrArg some (by kernel_rfl))⟩
  f26 := ⟨Tryd.f41.name, by decide, Tryd.func41.trans (congrArg some (by kernel_rfl))⟩
  f27 := ⟨Tryd.f42.name, by decide, Tryd.func42.trans (congrArg some (by kernel_rfl))⟩
  f28 := Tryd.func43.trans (congrArg some (by kernel_rfl))
  f29 := Tryd.func44.trans (congrArg some (by kernel_rfl))
  f46 := ⟨Tryd.f46.name, by decide, Tryd.func46.trans (congrArg some (by kernel_rfl))⟩
  f47 := Tryd.func47.trans (congrArg some (by kernel_rfl))
  f48 := Tryd.func48.trans (congrArg some (by kernel_rfl))
  f49 := ⟨Tryd.f49.name, by decide, Tryd.func49.trans (congrArg some (by kernel_rfl))⟩
  f50 := ⟨Tryd.f50.name, by decide, Tryd.func50.trans (congrArg some (by kernel_rfl))⟩
  f57 := ⟨Tryd.f54.name, by decide, Tryd.func54.trans (congrArg some (by kernel_rfl))⟩
  t0 := Tryd.underlying0
  a0 := Tryd.isAgg0
  z0 := Tryd.sizeOf0
  v0 := Tryd.zeroValue0
  t3 := Tryd.underlying3
  a3 := Tryd.isAgg3
  z3 := Tryd.sizeOf3
  v3 := Tryd.zeroValue3
  t4 := Tryd.underlying4
  a4 := Tryd.isAgg4
  z4 := Tryd.sizeOf4
  v4 := Tryd.zeroValue4
  t5 := Tryd.underlying5
  a5 := Tryd.isAgg5
  z5 := Tryd.sizeOf5
  v5 := Tryd.zeroValue5
  t9 := Tryd.underlying9
  a9 := Tryd.isAgg9
  z9 := Tryd.sizeOf9
  v9 := Tryd.zeroValue9
  t22 := Tryd.underlying24
  a22 := Tryd.isAgg24
  z22 := Tryd.sizeOf24
  v22 := Tryd.zeroValue24
  t25 := Tryd.underlying48
  a25 := Tryd.isAgg48
  z25 := Tryd.sizeOf48
  v25 := Tryd.zeroValue48
  t39 := Tryd.underlying58
  a39 := Tryd.isAgg58
  z39 := Tryd.sizeOf58
  v39 := Tryd.zeroValue58
  t45 := Tryd.underlying62
  a45 := Tryd.isAgg62
  z45 := Tryd.sizeOf62
  v45 := Tryd.zeroValue62
  t46 := Tryd.underlying63
  a46 := Tryd.isAgg63
  z46 := Tryd.sizeOf63
  v46 := Tryd.zeroValue63
  t50 := Tryd.underlying67
  a50 := Tryd.isAgg67
  z50 := Tryd.sizeOf67
  v50 := Tryd.zeroValue67
  t53 := Tryd.underlying70
  a53 := Tryd.isAgg70
  z53 := Tryd.sizeOf70
  v53 := Tryd.zeroValue70
  t55 := Tryd.underlying72
  a55 := Tryd.isAgg72
  z55 := Tryd.sizeOf72
  v55 := Tryd.zeroValue72
  t66 := Tryd.underlying75
  a66 := Tryd.isAgg75
  z66 := Tryd.sizeOf75
  v66 := Tryd.zeroValue75
  t70 := Tryd.underlying79
  a70 := Tryd.isAgg79
  z70 := Tryd.sizeOf79
  v70 := Tryd.zeroValue79
  t76 := Tryd.underlying91
  a76 := Tryd.isAgg91
  z76 := Tryd.sizeOf91
  v76 := Tryd.zeroValue91
  t77 := Tryd.underlying92
  a77 := Tryd.isAgg92
  z77 := Tryd.sizeOf92
  v77 := Tryd.zeroValue92 }
theorem swo_cf (sec : Bool) : Go.Sort.SWO (Go.Proofs.ltOf fun a b : Sub (fun v => okP v = true) => cfP sec a.1 b.1) where
  irrefl x := (ltOf_cf sec x.1 x.1).trans (ltB_irrefl _)
  trans x y z h1 h2 := (ltOf_cf sec x.1 z.1).trans (ltB_trans ((ltOf_cf sec x.1 y.1).symm.trans h1) ((ltOf_cf sec y.1 z.1).symm.trans h2))
  ntrans x y z h1 h2 := (ltOf_cf sec x.1 z.1).trans (ltB_ntrans ((ltOf_cf sec x.1 y.1).symm.trans h1) ((ltOf_cf sec y.1 z.1).symm.trans h2))
theorem c_ans : resNeed (fcHook h_cmpF.c h_cmpF.nv h_cmpF.c.args h_cmpF.c.heap) = some (h_cmpF.c.need, .oint .i64 (.app 308 [.va 0, .va 1, .va 2, .va 3, .va 4, .va 5, .va 6, .va 7, .va 8, .va 9, .va 10])) := by kernel_rfl
theorem k_cmp (ω : Opq) (hω : Om ω) (β : Bij) (L : Go.Ev.Loc) (w : World) (hb : L.blk < w.heap.size) (hbr : BR β ω L w.heap[L.blk]? (.cells 23 0 (patK [.int .u8, .str, .str, .int .i64, .int .i64] 0))) : CmpOkQ Tryd.prog 21 #[.pointer (some ⟨L.blk, L.off, none⟩)] [.str, .int .i64, .int .i64] (fun v => okP v = true) (cfP (secA (fil ω))) L.blk w :=
  cmp_ofQ (E := env) om_upd hω (g := 21) (nv := 11) (c := h_cmpF.c) k_cmpF (by kernel_rfl) (sig := [.str, .int .i64, .int .i64]) (cs := [.int .u8, .str, .str, .int .i64, .int .i64]) (ec := 23) rfl rfl rfl c_ans (fun ω' hω' a b qa qb ha hb hc => by
    have a0 : ω'.w 0 = a.toL.getD 0 default := ha 0 (by decide)
    have a1 : ω'.w 1 = a.toL.getD 1 default := ha 1 (by decide)
    have a2 : ω'.w 2 = a.toL.getD 2 default := ha 2 (by decide)
    have b0 : ω'.w 3 = b.toL.getD 0 default := hb 0 (by decide)
    have b1 : ω'.w 4 = b.toL.getD 1 default := hb 1 (by decide)
    have b2 : ω'.w 5 = b.toL.getD 2 default := hb 2 (by decide)
    have c0 : ω'.w 6 = ω.w 0 := hc 0 (by decide)
    refine ⟨?_, ?_⟩
    · show (decide (((ω'.w 0).toS.length : Int) ≤ 1000) && decide (((ω'.w 3).toS.length : Int) ≤ 1000)) = true
      rw [a0, b0]
      have h1 : (a.toL.getD 0 default).toS.length ≤ 1000 := (okP_at qa).2
      have h2 : (b.toL.getD 0 default).toS.length ≤ 1000 := (okP_at qb).2
      exact and2 (decide_eq_true (by omega)) (decide_eq_true (by omega))
    · show (ω'.f 308 [ω'.w 0, ω'.w 1, ω'.w 2, ω'.w 3, ω'.w 4, ω'.w 5, ω'.w 6, ω'.w 7, ω'.w 8, ω'.w 9, ω'.w 10]).toI = _
      rw [om_f hω', a0, a1, a2, b0, b1, b2, c0]; rfl) hb hbr
theorem k_SORT : HcOk env Om h_SORT :=
  (haveI : Inhabited (Sub fun v => okP v = true) := ⟨⟨zeroV, by decide⟩⟩
   sort_hc (E := env) om_upd (nv := 6) (by kernel_rfl) (sort_fcQ (E := env) sortLays (f := 20) rfl (g := 21) (sig := [.str, .int .i64, .int .i64]) (cs := [.int .u8, .str, .str, .int .i64, .int .i64]) (e := 29) (ec := 23) (id := 311) (need := .app 310 [.va 5]) (Q := fun v => okP v = true) (cf := fun ω => cfP (secA (fil ω))) Tryd.isAgg29 Tryd.sizeOf29 (fun ω => swo_cf _) (enters_of Tryd.func21 (by kernel_rfl) rfl) k_cmp
    (fun ω hω hn => by
      have h2 : (ω.f 310 [ω.w 5]).toB = true := hn
      rw [om_f hω] at h2
      exact fun v hv => okP_hd (and_t h2).2 hv)
    (fun ω hω hn l hp hs => by
      have h2 : (ω.f 310 [ω.w 5]).toB = true := hn
      rw [om_f hω] at h2
      show (ω.f 311 [ω.w 0, ω.w 1, ω.w 2, ω.w 3, ω.w 4, ω.w 5]).toL = l
      rw [om_f hω]
      exact srt_only (fun v hv => (okP_at (okP_hd (and_t h2).2 hv)).1) hp hs) (by kernel_rfl)) : HcOk env Om ⟨20, 6, sortCQ 21 29 [.str, .int .i64, .int .i64] 23 [.int .u8, .str, .str, .int .i64, .int .i64] (.app 310 [.va 5]) 311⟩)
theorem l5_ok : ∀ x ∈ L5, HcOk env Om x := by
  exact hc_add (fun x hx => (by cases hx)) k_SORT
theorem h6_ok : ∀ x ∈ H6, HcOk env Om x := hc_app h5_ok l5_ok
theorem k_sort : HcOk env Om h_sort :=
  hc_step (E := env) (cs := H6) om_upd e_ok orders h6_ok (n := 1000000) (by kernel_rfl) (fcMath1 (T := T_sort) r_sort fun ω hω hn => by
    have hn : (decide (((ω.w 5).toL.length : Int) ≤ 100) && (ω.f 310 [ω.w 5]).toB) = true := hn
    obtain ⟨h1, h2⟩ := and_t hn
    rw [om_f hω] at h2
    exact (t_sort (om_f hω) (by have := of_decide_eq_true h1; omega) h2).trans (by simp only [h_sort, dens, den, om_f hω]))
theorem k_sortR : HcOk env Om h_sortR :=
  hc_step (E := env) (cs := H6) om_upd e_ok orders h6_ok (n := 1000000) (by kernel_rfl) (fcMath1 (T := T_sortR) r_sortR fun ω hω hn => by
    have hn : (decide (((ω.w 5).toL.length : Int) ≤ 100) && (ω.f 310 [ω.w 5]).toB) = true := hn
    obtain ⟨h1, h2⟩ := and_t hn
    rw [om_f hω] at h2
    exact (t_sortR (om_f hω) (by have := of_decide_eq_true h1; omega) h2).trans (by simp only [h_sortR, dens, den, om_f hω]))
theorem l6_ok : ∀ x ∈ L6, HcOk env Om x := by
  exact hc_add (hc_add (fun x hx => (by cases hx)) k_sortR) k_sort
theorem h7_ok : ∀ x ∈ H7, HcOk env Om x := hc_app h6_ok l6_ok
end Go.Proofs.YthgndhfpfblphaaDoor.Ctr
