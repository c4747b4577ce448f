/- The contracts of the functions, in the seat's numbers; their runs. -/
import Derived.Test.YtogkkhiaddpjpaaRows
import Derived.Test.YtogkkhiaddpjpaaED8
import Derived.Test.YtogkkhiaddpjpaaE42
import Derived.ProofKit
set_option linter.unusedVariables false
set_option linter.unusedSimpArgs false
namespace Go.Proofs.Ytogkkhiaddpjpaa.Ctr
open Go Go.Ev

noncomputable def env0 : Env := ⟨Try.prog, fun f => none, fun _ => false, fun _ => false, fun _ _ _ => .bad, fun _ _ => none, fun _ _ _ _ => none⟩
noncomputable def loops (f : FuncId) (r : Nat) (a : Fr) (h : Heap) : Option LSpec := bif Nat.beq f 22 && Nat.beq r 2 then some (genL ⟨101, 2000, [4, 5, 6, 7, 8, 9, 10, 11, 12, 13, 14, 15, 16, 17], [], [2, 3], [], [0], [(.exit 0, []), (.ret, [])], []⟩ a h) else bif Nat.beq f 7 && Nat.beq r 3 then some (genL ⟨103, 2000, [5, 6, 7, 8, 9, 10, 11, 12, 13, 14, 15, 16, 17, 18, 19, 20, 21, 22, 23, 24, 25, 26], [(3, none, 67, [.str, .int .i64, .int .i64, .int .i64, .int .i64, .int .i64, .int .i64])], [3, 4], [], [0], [(.exit 0, [])], []⟩ a h) else bif Nat.beq f 12 && Nat.beq r 4 then some (genL ⟨107, 2000, [11, 12, 13, 14, 15, 16, 17, 18, 19, 20, 21, 22, 23, 24, 25], [], [4, 5], [], [0, 1], [(.exit 0, []), (.ret, [])], []⟩ a h) else bif Nat.beq f 14 && Nat.beq r 3 then some (genL ⟨130, 2000, [5, 6, 7, 8, 9, 10, 11, 12, 13, 14, 15, 16, 17, 18, 19, 20, 21, 22, 23, 24, 25, 26, 27, 28, 29, 30, 31], [(3, none, 72, [.str, .int .i64, .int .i64, .bool, .int .i64, .int .i64, .int .i64, .int .i64])], [3, 4], [], [0], [(.exit 0, [])], []⟩ a h) else bif Nat.beq f 33 && Nat.beq r 4 then some (genL ⟨131, 2000, [11, 12, 13, 14, 15, 16, 17, 18, 19, 20, 21, 22, 23, 24, 25], [], [4, 5], [], [0, 1], [(.exit 0, []), (.ret, [])], []⟩ a h) else bif Nat.beq f 11 && Nat.beq r 1 then some (genL ⟨132, 2000, [3, 4, 5, 6, 7, 8, 9, 10, 11, 12, 13], [], [2], [0], [0], [(.exit 0, [])], []⟩ a h) else bif Nat.beq f 28 && Nat.beq r 2 then some (genL ⟨133, 2000, [4, 5, 6, 7, 8, 9, 10, 11, 12, 13, 14, 15, 16, 17, 18, 19, 20, 21, 22, 23, 24, 25, 26, 27, 28, 29, 30, 31, 32, 33], [], [2, 3], [], [0], [(.exit 0, []), (.ret, [])], []⟩ a h) else bif Nat.beq f 28 && Nat.beq r 7 then some (genL ⟨134, 3000, [18, 19, 20, 21, 22, 23, 24, 25, 26, 27, 28, 29, 30, 31, 32, 33], [], [2, 4], [], [0, 3], [(.exit 2, []), (.ret, [])], []⟩ a h) else bif Nat.beq f 29 && Nat.beq r 2 then some (genL ⟨135, 2000, [7, 8, 9, 10, 11, 12, 13, 14, 15, 16, 17, 18, 19, 20, 21, 22, 23, 24], [], [5, 6], [4], [0, 3, 4], [(.exit 0, []), (.ret, [])], []⟩ a h) else bif Nat.beq f 30 && Nat.beq r 3 then some (genL ⟨136, 2000, [5, 6, 7, 8, 9, 10, 11, 12, 13, 14, 15, 16, 17, 18, 19, 20, 21, 22, 23, 24, 25, 26, 27, 28, 29, 30, 31, 32, 33, 34, 35, 36, 37, 38, 39, 40, 41, 42, 43, 44, 45, 46, 47, 48, 49, 50, 51, 52, 53], [(3, none, 72, [.str, .int .i64, .int .i64, .bool, .int .i64, .int .i64, .int .i64, .int .i64])], [3, 4], [], [0], [(.exit 0, [])], []⟩ a h) else bif Nat.beq f 30 && Nat.beq r 7 then some (genL ⟨137, 3000, [20, 21, 22, 23, 24, 25, 26, 27, 28, 29, 30, 31, 32, 33, 34, 35, 36, 37, 38, 39, 40, 41, 42, 43, 44, 45, 46, 47, 48, 49, 50, 51, 52, 53], [], [5], [3], [0, 3, 4], [(.exit 2, [])], []⟩ a h) else bif Nat.beq f 31 && Nat.beq r 3 then some (genL ⟨140, 2000, [6, 7, 8, 13, 14, 15, 16, 17, 18, 19, 20, 21, 22, 23, 24, 25, 26, 27, 28, 29, 30, 31, 32, 33, 34, 35, 36, 37, 38, 39, 40], [], [12], [4], [4, 10, 11], [(.exit 0, []), (.ret, [])], [(4, [.str, .int .i64, .int .i64], [.int .i64, .int .i64, .int .i64, .int .i64])]⟩ a h) else bif Nat.beq f 9 && Nat.beq r 7 then some (genL ⟨141, 2000, [12, 13, 14, 38, 39, 40, 41, 42, 43, 44, 45, 46, 47, 48, 49, 50, 51, 52, 53, 54, 55, 56], [(10, none, 60, [.str, .int .i64, .int .i64, .bool, .int .i64, .int .i64, .int .i64, .int .i64])], [10, 37], [], [1, 6, 8, 35, 36], [(.exit 0, [])], []⟩ a h) else bif Nat.beq f 9 && Nat.beq r 14 then some (genL ⟨142, 2000, [16, 17, 18, 60, 61, 62, 63, 64, 65, 66, 67, 68, 69, 70, 71, 72, 73, 74, 75, 76, 77, 78, 79, 80, 81, 82, 83, 84, 85, 86], [(10, none, 60, [.str, .int .i64, .int .i64, .bool, .int .i64, .int .i64, .int .i64, .int .i64])], [10, 59], [], [6, 57, 58], [(.exit 2, [])], []⟩ a h) else bif Nat.beq f 8 && Nat.beq r 5 then some (genL ⟨143, 2000, [8, 9, 21, 22, 23, 24, 25, 26, 27, 28, 29, 30, 31, 32, 33, 34, 35, 36, 37, 38, 39, 40, 41, 42, 43, 44, 45, 46, 47], [(6, none, 72, [.str, .int .i64, .int .i64, .bool, .int .i64, .int .i64, .int .i64, .int .i64])], [6, 7], [], [0, 1], [(.exit 0, [])], []⟩ a h) else bif Nat.beq f 8 && Nat.beq r 11 then some (genL ⟨144, 2000, [11, 12, 48, 49, 50, 51, 52, 53, 54, 55, 56, 57, 58, 59, 60, 61, 62, 63, 64, 65, 66, 67, 68, 69, 70, 71, 72, 73, 74, 75, 76, 77, 78, 79, 80, 81, 82, 83, 84, 85, 86, 87, 88], [(6, none, 72, [.str, .int .i64, .int .i64, .bool, .int .i64, .int .i64, .int .i64, .int .i64])], [6, 10], [], [0, 1], [(.exit 2, [])], []⟩ a h) else none
noncomputable def env : Env := { env0 with lspec := loops }
def h_works : HC := ⟨6, 0, ⟨[], [], 0, .cb true, .obool (.va 1000), [], [.cb true]⟩⟩
def L0 : List HC := [h_works]
def h_fewRows : HC := ⟨22, 1, ⟨[.osl 0 (.ci 0) (.op .llen [.va 0]) 7], [.arr 4294967295 [.str, .int .i64, .int .i64, .int .i64, .int .i64, .int .i64, .int .i64] (.va 0)], 1, .op (.cmp .leq) [.op .llen [.va 0], .ci 1000], .obool (.va 1000), [], [.app 1 [.va 0]]⟩⟩
def h_rows : HC := ⟨7, 1, ⟨[.osl 0 (.ci 0) (.op .llen [.va 0]) 7], [.arr 4294967295 [.str, .int .i64, .int .i64, .int .i64, .int .i64, .int .i64, .int .i64] (.va 0)], 1, .op (.cmp .leq) [.op .llen [.va 0], .ci 100], .ous 1 (.op .llen [.va 1000]) 7, [some (.arr 67 [.str, .int .i64, .int .i64, .int .i64, .int .i64, .int .i64, .int .i64] (.va 1000))], [.app 30 [.va 0]]⟩⟩
def h_changes : HC := ⟨14, 1, ⟨[.osl 0 (.ci 0) (.op .llen [.va 0]) 8], [.arr 4294967295 [.str, .int .i64, .int .i64, .bool, .int .i64, .int .i64, .int .i64, .int .i64] (.va 0)], 1, .op (.cmp .leq) [.op .llen [.va 0], .ci 1000], .ous 1 (.op .llen [.va 1000]) 8, [some (.arr 72 [.str, .int .i64, .int .i64, .bool, .int .i64, .int .i64, .int .i64, .int .i64] (.va 1000))], [.app 200 [.va 0]]⟩⟩
def h_sameV : HC := ⟨12, 2, ⟨[.osl 0 (.ci 0) (.op .llen [.va 0]) 7, .osl 1 (.ci 0) (.op .llen [.va 1]) 7], [.arr 4294967295 [.str, .int .i64, .int .i64, .int .i64, .int .i64, .int .i64, .int .i64] (.va 0), .arr 4294967295 [.str, .int .i64, .int .i64, .int .i64, .int .i64, .int .i64, .int .i64] (.va 1)], 2, .op (.cmp .leq) [.op .llen [.va 0], .ci 1000000], .obool (.va 1000), [], [.app 3 [.va 0, .va 1]]⟩⟩
def h_sameC : HC := ⟨33, 2, ⟨[.osl 0 (.ci 0) (.op .llen [.va 0]) 8, .osl 1 (.ci 0) (.op .llen [.va 1]) 8], [.arr 4294967295 [.str, .int .i64, .int .i64, .bool, .int .i64, .int .i64, .int .i64, .int .i64] (.va 0), .arr 4294967295 [.str, .int .i64, .int .i64, .bool, .int .i64, .int .i64, .int .i64, .int .i64] (.va 1)], 2, .op (.cmp .leq) [.op .llen [.va 0], .ci 1000000], .obool (.va 1000), [], [.app 201 [.va 0, .va 1]]⟩⟩
def h_spoilC : HC := ⟨11, 2, ⟨[.ous 0 (.va 0) 8], [.arr 60 [.str, .int .i64, .int .i64, .bool, .int .i64, .int .i64, .int .i64, .int .i64] (.va 1)], 0, .op .and [.op (.cmp .eql) [.va 0, .op .llen [.va 1]], .op (.cmp .leq) [.op .llen [.va 1], .ci 1000000]], .tup [], [none], []⟩⟩
def h_rowsOk : HC := ⟨28, 1, ⟨[.osl 0 (.ci 0) (.op .llen [.va 0]) 7], [.arr 4294967295 [.str, .int .i64, .int .i64, .int .i64, .int .i64, .int .i64, .int .i64] (.va 0)], 1, .op (.cmp .leq) [.op .llen [.va 0], .ci 1000000], .obool (.va 1000), [], [.app 202 [.va 0]]⟩⟩
def h_find : HC := ⟨29, 4, ⟨[.osl 0 (.ci 0) (.op .llen [.va 0]) 7, .agg [.ostr (.va 1), .oint .i64 (.va 2), .oint .i64 (.va 3)]], [.arr 4294967295 [.str, .int .i64, .int .i64, .int .i64, .int .i64, .int .i64, .int .i64] (.va 0)], 1, .op (.cmp .leq) [.op .llen [.va 0], .ci 1000000], .tup [.agg [.oint .i64 (.va 1000), .oint .i64 (.va 1001), .oint .i64 (.va 1002), .oint .i64 (.va 1003)], .obool (.va 1004)], [], [.op .lget [.app 203 [.va 0, .va 1, .va 2, .va 3], .ci 0, .ci 0], .op .lget [.app 203 [.va 0, .va 1, .va 2, .va 3], .ci 0, .ci 1], .op .lget [.app 203 [.va 0, .va 1, .va 2, .va 3], .ci 0, .ci 2], .op .lget [.app 203 [.va 0, .va 1, .va 2, .va 3], .ci 0, .ci 3], .app 204 [.va 0, .va 1, .va 2, .va 3]]⟩⟩
def h_less : HC := ⟨43, 6, ⟨[.agg [.ostr (.va 0), .oint .i64 (.va 1), .oint .i64 (.va 2)], .agg [.ostr (.va 3), .oint .i64 (.va 4), .oint .i64 (.va 5)], .bool false], [], 0, .cb true, .obool (.va 1000), [], [.app 205 [.va 0, .va 1, .va 2, .va 3, .va 4, .va 5]]⟩⟩
def h_prim : HC := ⟨47, 16, ⟨[.agg [.ostr (.va 0), .oint .i64 (.va 1), .oint .i64 (.va 2), .obool (.va 3), .oint .i64 (.va 4), .oint .i64 (.va 5), .oint .i64 (.va 6), .oint .i64 (.va 7)], .agg [.ostr (.va 8), .oint .i64 (.va 9), .oint .i64 (.va 10), .obool (.va 11), .oint .i64 (.va 12), .oint .i64 (.va 13), .oint .i64 (.va 14), .oint .i64 (.va 15)]], [], 0, .cb true, .oint .i64 (.va 1000), [], [.app 206 [.va 0, .va 1, .va 2, .va 8, .va 9, .va 10]]⟩⟩
def L1 : List HC := [h_fewRows, h_rows, h_changes, h_sameV, h_sameC, h_spoilC, h_rowsOk, h_find, h_less, h_prim]
def h_sortedR : HC := ⟨30, 1, ⟨[.osl 0 (.ci 0) (.op .llen [.va 0]) 8], [.arr 4294967295 [.str, .int .i64, .int .i64, .bool, .int .i64, .int .i64, .int .i64, .int .i64] (.va 0)], 1, .op (.cmp .leq) [.op .llen [.va 0], .ci 1000], .ous 1 (.op .llen [.va 1000]) 8, [some (.arr 72 [.str, .int .i64, .int .i64, .bool, .int .i64, .int .i64, .int .i64, .int .i64] (.va 1000))], [.app 207 [.va 0]]⟩⟩
def h_SORT : HC := ⟨46, 2, ⟨[.ous 0 (.va 0) 8, .func (.func 47) [] []], [.arr 60 [.str, .int .i64, .int .i64, .bool, .int .i64, .int .i64, .int .i64, .int .i64] (.va 1)], 0, .op .and [.op (.cmp .eql) [.va 0, .op .llen [.va 1]], .op (.cmp .leq) [.op .llen [.va 1], .ci 1000000]], .tup [], [some (.arr 60 [.str, .int .i64, .int .i64, .bool, .int .i64, .int .i64, .int .i64, .int .i64] (.va 1000))], [.app 211 [.va 1]]⟩⟩
def L2 : List HC := [h_sortedR, h_SORT]
def h_diff : HC := ⟨9, 2, ⟨[.osl 0 (.ci 0) (.op .llen [.va 0]) 7, .osl 1 (.ci 0) (.op .llen [.va 1]) 7], [.arr 4294967295 [.str, .int .i64, .int .i64, .int .i64, .int .i64, .int .i64, .int .i64] (.va 0), .arr 4294967295 [.str, .int .i64, .int .i64, .int .i64, .int .i64, .int .i64, .int .i64] (.va 1)], 2, .op .and [.op (.cmp .leq) [.op .llen [.va 0], .ci 100], .op (.cmp .leq) [.op .llen [.va 1], .ci 100]], .tup [.ous 2 (.op .llen [.va 1001]) 8, .oint .i64 (.va 1000)], [some (.arr 60 [.str, .int .i64, .int .i64, .bool, .int .i64, .int .i64, .int .i64, .int .i64] (.va 1001))], [.app 209 [.va 0, .va 1], .app 208 [.va 0, .va 1]]⟩⟩
def h_diffR : HC := ⟨8, 2, ⟨[.osl 0 (.ci 0) (.op .llen [.va 0]) 7, .osl 1 (.ci 0) (.op .llen [.va 1]) 7], [.arr 4294967295 [.str, .int .i64, .int .i64, .int .i64, .int .i64, .int .i64, .int .i64] (.va 0), .arr 4294967295 [.str, .int .i64, .int .i64, .int .i64, .int .i64, .int .i64, .int .i64] (.va 1)], 2, .op .and [.op (.cmp .leq) [.op .llen [.va 0], .ci 100], .op (.cmp .leq) [.op .llen [.va 1], .ci 100]], .tup [.ous 2 (.op .llen [.va 1001]) 8, .oint .i64 (.va 1000)], [some (.arr 72 [.str, .int .i64, .int .i64, .bool, .int .i64, .int .i64, .int .i64, .int .i64] (.va 1001))], [.app 209 [.va 0, .va 1], .app 208 [.va 0, .va 1]]⟩⟩
def L3 : List HC := [h_diff, h_diffR]
def h_deltaDiffs : HC := ⟨3, 2, ⟨[.osl 0 (.ci 0) (.op .llen [.va 0]) 7, .osl 1 (.ci 0) (.op .llen [.va 1]) 7], [.arr 4294967295 [.str, .int .i64, .int .i64, .int .i64, .int .i64, .int .i64, .int .i64] (.va 0), .arr 4294967295 [.str, .int .i64, .int .i64, .int .i64, .int .i64, .int .i64, .int .i64] (.va 1)], 2, .cb true, .obool (.va 1000), [], [.cb true]⟩⟩
def L4 : List HC := [h_deltaDiffs]theorem names : (Try.prog.funcs.toList.all fun fn => !(fn.name == "runtime.NumGoroutine")) = true := by kernel_rfl
theorem env0_ok (ω : Opq) (hω : ∀ t, ω.fix t = fixT Try.prog t) : env0.Ok ω := by
  refine ⟨hω, fun f fn h => ?_, fun f e h => ?_, fun _ _ _ _ h => (by cases h), fun _ _ _ h => (by cases h), fun _ _ _ h => (by cases h), fun _ _ _ _ _ h => (by cases h)⟩
  · have h1 := List.all_eq_true.1 names fn (by
      obtain ⟨h2, rfl⟩ := Array.getElem?_eq_some_iff.1 h
      exact Array.mem_toList_iff.2 (Array.getElem_mem h2))
    simpa using h1
  · cases h
theorem env_ok (ω : Opq) (hω : ∀ t, ω.fix t = fixT Try.prog t) : env.Ok ω :=
  let h := env0_ok ω hω
  ⟨h.fix, h.name, h.ext, h.bin, h.un, h.conv, h.blt⟩
theorem orders : Try.prog.follows .mixedOrders = true := by kernel_rfl
noncomputable def H0 : List HC := []
noncomputable def H1 : List HC := L0 ++ H0
noncomputable def H2 : List HC := L1 ++ H1
noncomputable def H3 : List HC := L2 ++ H2
noncomputable def H4 : List HC := L3 ++ H3

theorem r_works : FC.run env0 1000000 h_works.f h_works.c h_works.c.args = T_works := by kernel_rfl
theorem r_fewRows : FC.run (env.hooks H1) 1000000 h_fewRows.f h_fewRows.c h_fewRows.c.args = T_fewRows := by kernel_rfl
theorem r_rows : FC.run (env.hooks H1) 1000000 h_rows.f h_rows.c h_rows.c.args = T_rows := by kernel_rfl
theorem r_changes : FC.run (env.hooks H1) 1000000 h_changes.f h_changes.c h_changes.c.args = T_changes := by kernel_rfl
theorem r_sameV : FC.run (env.hooks H1) 1000000 h_sameV.f h_sameV.c h_sameV.c.args = T_sameV := by kernel_rfl
theorem r_sameC : FC.run (env.hooks H1) 1000000 h_sameC.f h_sameC.c h_sameC.c.args = T_sameC := by kernel_rfl
theorem r_spoilC : FC.run (env.hooks H1) 1000000 h_spoilC.f h_spoilC.c h_spoilC.c.args = T_spoilC := by kernel_rfl
theorem r_rowsOk : FC.run (env.hooks H1) 1000000 h_rowsOk.f h_rowsOk.c h_rowsOk.c.args = T_rowsOk := by kernel_rfl
theorem r_find : FC.run (env.hooks H1) 1000000 h_find.f h_find.c h_find.c.args = T_find := by kernel_rfl
theorem r_less : FC.run (env.hooks H1) 1000000 h_less.f h_less.c h_less.c.args = T_less := by kernel_rfl
theorem r_prim : FC.run (env.hooks H1) 1000000 h_prim.f h_prim.c h_prim.c.args = T_prim := by kernel_rfl
theorem r_sortedR : FC.run (env.hooks H2) 1000000 h_sortedR.f h_sortedR.c h_sortedR.c.args = T_sortedR := by kernel_rfl
theorem r_diff : FC.run (env.hooks H3) 1000000 h_diff.f h_diff.c h_diff.c.args = T_diff := by kernel_rfl
theorem r_diffR : FC.run (env.hooks H3) 1000000 h_diffR.f h_diffR.c h_diffR.c.args = T_diffR := by kernel_rfl
theorem r_deltaDiffs : FC.run (env.hooks H4) 1000000 h_deltaDiffs.f h_deltaDiffs.c h_deltaDiffs.c.args = T_deltaDiffs := by kernel_rfl

open Go Go.Ev Go.Shelf

def Om (ω : Opq) : Prop := OmF F Try.prog ω
theorem om_upd (ω : Opq) (v0 : Nat) (l : List Val) (h : Om ω) : Om (ω.upd v0 l) := h
theorem om_f {ω : Opq} (h : Om ω) : ∀ i a, ω.f i a = F i a := fun i a => by rw [h.1]
theorem e_ok (ω : Opq) (h : Om ω) : env.Ok ω := env_ok ω h.2
theorem e0_ok (ω : Opq) (h : Om ω) : env0.Ok ω := env0_ok ω h.2
theorem h0_ok : ∀ x ∈ H0, HcOk env Om x := fun x hx => by cases hx
theorem k_works : HcOk env Om h_works :=
  hc_step (E := env0) (cs := []) om_upd e0_ok orders (fun x hx => by cases hx) (n := 1000000) (by kernel_rfl) (fcMath1 (T := T_works) r_works fun ω hω hn => by
    exact rfl)
theorem l0_ok : ∀ x ∈ L0, HcOk env Om x := by
  exact hc_add (fun x hx => (by cases hx)) k_works
theorem h1_ok : ∀ x ∈ H1, HcOk env Om x := hc_app h0_ok l0_ok
theorem k_fewRows : HcOk env Om h_fewRows :=
  hc_step (E := env) (cs := H1) om_upd e_ok orders h1_ok (n := 1000000) (by kernel_rfl) (fcMath1 (T := T_fewRows) r_fewRows fun ω hω hn => by
    have hn := hn
    simp only [h_fewRows, dB, den, dens, prim, toB_vb, toI_vi, toL_vl, toS_vs, cmpI_leq, cmpI_eql, cmpI_lss, decide_eq_true_eq, Bool.and_eq_true, List.length_append] at hn
    exact (t_fewRows (om_f hω) (by omega)).trans (by simp only [h_fewRows, dens, den, prim, om_f hω, toI_vi, toL_vl]))
theorem k_rows : HcOk env Om h_rows :=
  hc_step (E := env) (cs := H1) om_upd e_ok orders h1_ok (n := 1000000) (by kernel_rfl) (fcMath1 (T := T_rows) r_rows fun ω hω hn => by
    have hn := hn
    simp only [h_rows, dB, den, dens, prim, toB_vb, toI_vi, toL_vl, toS_vs, cmpI_leq, cmpI_eql, cmpI_lss, decide_eq_true_eq, Bool.and_eq_true, List.length_append] at hn
    exact (t_rows (om_f hω) (by omega)).trans (by simp only [h_rows, dens, den, prim, om_f hω, toI_vi, toL_vl]))
theorem k_changes : HcOk env Om h_changes :=
  hc_step (E := env) (cs := H1) om_upd e_ok orders h1_ok (n := 1000000) (by kernel_rfl) (fcMath1 (T := T_changes) r_changes fun ω hω hn => by
    have hn := hn
    simp only [h_changes, dB, den, dens, prim, toB_vb, toI_vi, toL_vl, toS_vs, cmpI_leq, cmpI_eql, cmpI_lss, decide_eq_true_eq, Bool.and_eq_true, List.length_append] at hn
    exact (t_changes (om_f hω) (by omega)).trans (by simp only [h_changes, dens, den, prim, om_f hω, toI_vi, toL_vl]))
theorem k_sameV : HcOk env Om h_sameV :=
  hc_step (E := env) (cs := H1) om_upd e_ok orders h1_ok (n := 1000000) (by kernel_rfl) (fcMath1 (T := T_sameV) r_sameV fun ω hω hn => by
    have hn := hn
    simp only [h_sameV, dB, den, dens, prim, toB_vb, toI_vi, toL_vl, toS_vs, cmpI_leq, cmpI_eql, cmpI_lss, decide_eq_true_eq, Bool.and_eq_true, List.length_append] at hn
    exact (t_sameV (om_f hω) (by omega)).trans (by simp only [h_sameV, dens, den, prim, om_f hω, toI_vi, toL_vl]))
theorem k_sameC : HcOk env Om h_sameC :=
  hc_step (E := env) (cs := H1) om_upd e_ok orders h1_ok (n := 1000000) (by kernel_rfl) (fcMath1 (T := T_sameC) r_sameC fun ω hω hn => by
    have hn := hn
    simp only [h_sameC, dB, den, dens, prim, toB_vb, toI_vi, toL_vl, toS_vs, cmpI_leq, cmpI_eql, cmpI_lss, decide_eq_true_eq, Bool.and_eq_true, List.length_append] at hn
    exact (t_sameC (om_f hω) (by omega)).trans (by simp only [h_sameC, dens, den, prim, om_f hω, toI_vi, toL_vl]))
theorem k_spoilC : HcOk env Om h_spoilC :=
  hc_step (E := env) (cs := H1) om_upd e_ok orders h1_ok (n := 1000000) (by kernel_rfl) (fcMath1 (T := T_spoilC) r_spoilC fun ω hω hn => by
    have hn := hn
    simp only [h_spoilC, dB, den, dens, prim, toB_vb, toI_vi, toL_vl, toS_vs, cmpI_leq, cmpI_eql, cmpI_lss, decide_eq_true_eq, Bool.and_eq_true, List.length_append] at hn
    have h1 := hn.1
    have h2 := hn.2
    exact t_spoilC (om_f hω) h1 (by omega))
theorem k_rowsOk : HcOk env Om h_rowsOk :=
  hc_step (E := env) (cs := H1) om_upd e_ok orders h1_ok (n := 1000000) (by kernel_rfl) (fcMath1 (T := T_rowsOk) r_rowsOk fun ω hω hn => by
    have hn := hn
    simp only [h_rowsOk, dB, den, dens, prim, toB_vb, toI_vi, toL_vl, toS_vs, cmpI_leq, cmpI_eql, cmpI_lss, decide_eq_true_eq, Bool.and_eq_true, List.length_append] at hn
    exact (t_rowsOk (om_f hω) (by omega)).trans (by simp only [h_rowsOk, dens, den, prim, om_f hω, toI_vi, toL_vl]))
theorem k_find : HcOk env Om h_find :=
  hc_step (E := env) (cs := H1) om_upd e_ok orders h1_ok (n := 1000000) (by kernel_rfl) (fcMath1 (T := T_find) r_find fun ω hω hn => by
    have hn := hn
    simp only [h_find, dB, den, dens, prim, toB_vb, toI_vi, toL_vl, toS_vs, cmpI_leq, cmpI_eql, cmpI_lss, decide_eq_true_eq, Bool.and_eq_true, List.length_append] at hn
    exact (t_find (om_f hω) (by omega)).trans (by simp only [h_find, dens, den, prim, om_f hω, toI_vi, toL_vl]))
theorem k_less : HcOk env Om h_less :=
  hc_step (E := env) (cs := H1) om_upd e_ok orders h1_ok (n := 1000000) (by kernel_rfl) (fcMath1 (T := T_less) r_less fun ω hω hn => by
    exact (t_less ).trans (by simp only [h_less, dens, den, prim, om_f hω, toI_vi, toL_vl]))
theorem k_prim : HcOk env Om h_prim :=
  hc_step (E := env) (cs := H1) om_upd e_ok orders h1_ok (n := 1000000) (by kernel_rfl) (fcMath1 (T := T_prim) r_prim fun ω hω hn => by
    exact (t_prim ).trans (by simp only [h_prim, dens, den, prim, om_f hω, toI_vi, toL_vl]))
theorem l1_ok : ∀ x ∈ L1, HcOk env Om x := by
  exact hc_add (hc_add (hc_add (hc_add (hc_add (hc_add (hc_add (hc_add (hc_add (hc_add (fun x hx => (by cases hx)) k_prim) k_less) k_find) k_rowsOk) k_spoilC) k_sameC) k_sameV) k_changes) k_rows) k_fewRows
theorem h2_ok : ∀ x ∈ H2, HcOk env Om x := hc_app h1_ok l1_ok
theorem k_sortedR : HcOk env Om h_sortedR :=
  hc_step (E := env) (cs := H2) om_upd e_ok orders h2_ok (n := 1000000) (by kernel_rfl) (fcMath1 (T := T_sortedR) r_sortedR fun ω hω hn => by
    have hn := hn
    simp only [h_sortedR, dB, den, dens, prim, toB_vb, toI_vi, toL_vl, toS_vs, cmpI_leq, cmpI_eql, cmpI_lss, decide_eq_true_eq, Bool.and_eq_true, List.length_append] at hn
    exact (t_sortedR (om_f hω) (by omega)).trans (by simp only [h_sortedR, dens, den, prim, om_f hω, toI_vi, toL_vl]))
def sortRen : Go.Shelf.Ren := ⟨fun | 6 => 46 | 15 => 61 | 14 => 60 | 28 => 76 | 29 => 77 | 20 => 68 | 21 => 69 | 22 => 70 | 23 => 71 | 24 => 72 | 25 => 73 | 26 => 74 | 27 => 75 | 46 => 82 | 47 => 83 | 48 => 84 | 49 => 85 | 50 => 86 | 57 => 88 | n => n, fun | 22 => 31 | 24 => 60 | 25 => 90 | 3 => 3 | 39 => 106 | 0 => 0 | 53 => 122 | 55 => 124 | 4 => 4 | 46 => 115 | 45 => 114 | 50 => 119 | 5 => 5 | 9 => 9 | 66 => 130 | 70 => 134 | 76 => 136 | 77 => 137 | n => n, fun | n => n⟩
theorem sortLays : Go.Proofs.SlLaysF0.n6 Try.prog sortRen := {
  mixed := by kernel_rfl
  f6 := ⟨Try.f46.name, by decide, Try.func46.trans (congrArg some (by kernel_rfl))⟩
  f14 := ⟨Try.f60.name, by decide, Try.func60.trans (congrArg some (by kernel_rfl))⟩
  f15 := Try.func61.trans (congrArg some (by kernel_rfl))
  f20 := ⟨Try.f68.name, by decide, Try.func68.trans (congrArg some (by kernel_rfl))⟩
  f21 := ⟨Try.f69.name, by decide, Try.func69.trans (congrArg some (by kernel_rfl))⟩
  f22 := ⟨Try.f70.name, by decide, Try.func70.trans (congrArg some (by kernel_rfl))⟩
  f23 := ⟨Try.f71.name, by decide, Try.func71.trans (congrArg some (by kernel_rfl))⟩
  f24 := ⟨Try.f72.name, by decide, Try.func72.trans (congrArg some (by kernel_rfl))⟩
  f25 := ⟨Try.f73.name, by decide, Try.func73.trans (congrArg some (by kernel_rfl))⟩
  f26 := ⟨Try.f74.name, by decide, Try.func74.trans (congrArg some (by kernel_rfl))⟩
  f27 := ⟨Try.f75.name, by decide, Try.func75.trans (congrArg some (by kernel_rfl))⟩
  f28 := Try.func76.trans (congrArg some (by kernel_rfl))
  f29 := Try.func77.trans (congrArg some (by kernel_rfl))
  f46 := ⟨Try.f82.name, by decide, Try.func82.trans (congrArg some (by kernel_rfl))⟩
  f47 := Try.func83.trans (congrArg some (by kernel_rfl))
  f48 := Try.func84.trans (congrArg some (by kernel_rfl))
  f49 := ⟨Try.f85.name, by decide, Try.func85.trans (congrArg some (by kernel_rfl))⟩
  f50 := ⟨Try.f86.name, by decide, Try.func86.trans (congrArg some (by kernel_rfl))⟩
  f57 := ⟨Try.f88.name, by decide, Try.func88.trans (congrArg some (by kernel_rfl))⟩
  t0 := Try.underlying0
  a0 := Try.isAgg0
  z0 := Try.sizeOf0
  v0 := Try.zeroValue0
  t3 := Try.underlying3
  a3 := Try.isAgg3
  z3 := Try.sizeOf3
  v3 := Try.zeroValue3
  t4 := Try.underlying4
  a4 := Try.isAgg4
  z4 := Try.sizeOf4
  v4 := Try.zeroValue4
  t5 := Try.underlying5
  a5 := Try.isAgg5
  z5 := Try.sizeOf5
  v5 := Try.zeroValue5
  t9 := Try.underlying9
  a9 := Try.isAgg9
  z9 := Try.sizeOf9
  v9 := Try.zeroValue9
  t22 := Try.underlying31
  a22 := Try.isAgg31
  z22 := Try.sizeOf31
  v22 := Try.zeroValue31
  t25 := Try.underlying90
  a25 := Try.isAgg90
  z25 := Try.sizeOf90
  v25 := Try.zeroValue90
  t39 := Try.underlying106
  a39 := Try.isAgg106
  z39 := Try.sizeOf106
  v39 := Try.zeroValue106
  t45 := Try.underlying114
  a45 := Try.isAgg114
  z45 := Try.sizeOf114
  v45 := Try.zeroValue114
  t46 := Try.underlying115
  a46 := Try.isAgg115
  z46 := Try.sizeOf115
  v46 := Try.zeroValue115
  t50 := Try.underlying119
  a50 := Try.isAgg119
  z50 := Try.sizeOf119
  v50 := Try.zeroValue119
  t53 := Try.underlying122
  a53 := Try.isAgg122
  z53 := Try.sizeOf122
  v53 := Try.zeroValue122
  t55 := Try.underlying124
  a55 := Try.isAgg124
  z55 := Try.sizeOf124
  v55 := Try.zeroValue124
  t66 := Try.underlying130
  a66 := Try.isAgg130
  z66 := Try.sizeOf130
  v66 := Try.zeroValue130
  t70 := Try.underlying134
  a70 := Try.isAgg134
  z70 := Try.sizeOf134
  v70 := Try.zeroValue134
  t76 := Try.underlying136
  a76 := Try.isAgg136
  z76 := Try.sizeOf136
  v76 := Try.zeroValue136
  t77 := Try.underlying137
  a77 := Try.isAgg137
  z77 := Try.sizeOf137
  v77 := Try.zeroValue137 }
noncomputable def om0 : Opq := ⟨ω0.v, ω0.w, F, ω0.one, fixT Try.prog⟩
theorem omF_mk (G : Nat → List Val → Val) (P : Program) : OmF G P ⟨ω0.v, ω0.w, G, ω0.one, fixT P⟩ := ⟨rfl, fun _ => rfl⟩
theorem om0_ok : Om om0 := omF_mk F Try.prog
theorem k_cmp : CmpOk Try.prog 47 [.str, .int .i64, .int .i64, .bool, .int .i64, .int .i64, .int .i64, .int .i64] cfV :=
  cmp_of (E := env) om_upd om0_ok k_prim (x := .app 206 [.va 0, .va 1, .va 2, .va 8, .va 9, .va 10]) (h2 := Heap.empty) (by kernel_rfl) (fun ω hω a b ha hb => by
    have a0 : ω.w 0 = a.toL.getD 0 default := ha 0 (by decide)
    have a1 : ω.w 1 = a.toL.getD 1 default := ha 1 (by decide)
    have a2 : ω.w 2 = a.toL.getD 2 default := ha 2 (by decide)
    have b0 : ω.w 8 = b.toL.getD 0 default := hb 0 (by decide)
    have b1 : ω.w 9 = b.toL.getD 1 default := hb 1 (by decide)
    have b2 : ω.w 10 = b.toL.getD 2 default := hb 2 (by decide)
    show (ω.f 206 [ω.w 0, ω.w 1, ω.w 2, ω.w 8, ω.w 9, ω.w 10]).toI = _
    rw [om_f hω, a0, a1, a2, b0, b1, b2]; rfl)
theorem k_SORT : HcOk env Om h_SORT :=
  (sort_hc (E := env) om_upd (nv := 2) (by kernel_rfl) (sort_fc (E := env) sortLays (f := 46) rfl (g := 47) (sig := [.str, .int .i64, .int .i64, .bool, .int .i64, .int .i64, .int .i64, .int .i64]) (e := 60) (id := 211) (cf := cfV) Try.isAgg60 Try.sizeOf60 swo_cfV (enters_of Try.func47 (by kernel_rfl) rfl) k_cmp (fun ω hω l => by rw [om_f hω]; rfl) (by kernel_rfl)) : HcOk env Om ⟨46, 2, sortC 47 60 [.str, .int .i64, .int .i64, .bool, .int .i64, .int .i64, .int .i64, .int .i64] 211⟩)
theorem l2_ok : ∀ x ∈ L2, HcOk env Om x := by
  exact hc_add (hc_add (fun x hx => (by cases hx)) k_SORT) k_sortedR
theorem h3_ok : ∀ x ∈ H3, HcOk env Om x := hc_app h2_ok l2_ok
theorem k_diff : HcOk env Om h_diff :=
  hc_step (E := env) (cs := H3) om_upd e_ok orders h3_ok (n := 1000000) (by kernel_rfl) (fcMath1 (T := T_diff) r_diff fun ω hω hn => by
    have hn := hn
    simp only [h_diff, dB, den, dens, prim, toB_vb, toI_vi, toL_vl, toS_vs, cmpI_leq, cmpI_eql, cmpI_lss, decide_eq_true_eq, Bool.and_eq_true, List.length_append] at hn
    have h1 := hn.1
    have h2 := hn.2
    exact (t_diff (om_f hω) (by omega) (by omega)).trans (by simp only [h_diff, dens, den, prim, om_f hω, toI_vi, toL_vl]))
theorem k_diffR : HcOk env Om h_diffR :=
  hc_step (E := env) (cs := H3) om_upd e_ok orders h3_ok (n := 1000000) (by kernel_rfl) (fcMath1 (T := T_diffR) r_diffR fun ω hω hn => by
    have hn := hn
    simp only [h_diffR, dB, den, dens, prim, toB_vb, toI_vi, toL_vl, toS_vs, cmpI_leq, cmpI_eql, cmpI_lss, decide_eq_true_eq, Bool.and_eq_true, List.length_append] at hn
    have h1 := hn.1
    have h2 := hn.2
    exact (t_diffR (om_f hω) (by omega) (by omega)).trans (by simp only [h_diffR, dens, den, prim, om_f hω, toI_vi, toL_vl]))
theorem l3_ok : ∀ x ∈ L3, HcOk env Om x := by
  exact hc_add (hc_add (fun x hx => (by cases hx)) k_diffR) k_diff
theorem h4_ok : ∀ x ∈ H4, HcOk env Om x := hc_app h3_ok l3_ok
end Go.Proofs.Ytogkkhiaddpjpaa.Ctr
