/- The contracts of the functions, in the seat's numbers; their runs. -/
import Derived.Test.YtcgkdegokfkgjaaRows
import Derived.Test.YtcgkdegokfkgjaaEM8b
import Derived.ProofKit
set_option linter.unusedVariables false
set_option linter.unusedSimpArgs false
namespace Go.Proofs.Ytcgkdegokfkgjaa.Ctr
open Go Go.Ev

noncomputable def env0 : Env := ⟨Try.prog, fun f => none, fun _ => false, fun _ => false, fun _ _ _ => .bad, fun _ _ => none, fun _ _ _ _ => none⟩
noncomputable def loops (f : FuncId) (r : Nat) (a : Fr) (h : Heap) : Option LSpec := bif Nat.beq f 22 && Nat.beq r 2 then some (genL ⟨101, 2000, [4, 5, 6, 7, 8, 9, 10, 11, 12, 13, 14, 15, 16, 17], [], [2, 3], [], [0], [(.exit 0, []), (.ret, [])]⟩ a h) else bif Nat.beq f 23 && Nat.beq r 2 then some (genL ⟨102, 2000, [4, 5, 6, 7, 8, 9, 10, 11, 12, 13, 14, 15, 16], [], [2, 3], [], [0], [(.exit 0, []), (.ret, [])]⟩ a h) else bif Nat.beq f 25 && Nat.beq r 3 then some (genL ⟨103, 2000, [5, 6, 7, 8, 9, 10, 11, 12, 13, 14, 15, 16, 17, 18, 19, 20, 21, 22, 23, 24, 25, 26], [(3, none, 88, [.str, .int .i64, .int .i64, .int .i64, .int .i64, .int .i64, .int .i64])], [3, 4], [], [0], [(.exit 0, [])]⟩ a h) else bif Nat.beq f 26 && Nat.beq r 3 then some (genL ⟨104, 2000, [5, 6, 7, 8, 9, 10, 11, 12, 13, 14, 15, 16, 17, 18], [(3, none, 85, [.str, .int .i64, .int .i64])], [3, 4], [], [0], [(.exit 0, [])]⟩ a h) else bif Nat.beq f 45 && Nat.beq r 4 then some (genL ⟨105, 2000, [5, 14, 15, 16, 17, 18, 19, 20, 21, 22, 23, 24, 25], [], [4, 13], [], [0, 1, 12], [(.exit 0, []), (.ret, [])]⟩ a h) else bif Nat.beq f 46 && Nat.beq r 4 then some (genL ⟨106, 2000, [5, 14, 15, 16, 17, 18, 19, 20, 21, 22, 23, 24, 25], [], [4, 13], [], [0, 1, 12], [(.exit 0, []), (.ret, [])]⟩ a h) else bif Nat.beq f 47 && Nat.beq r 4 then some (genL ⟨107, 2000, [11, 12, 13, 14, 15, 16, 17, 18, 19, 20, 21, 22, 23, 24, 25], [], [4, 5], [], [0, 1], [(.exit 0, []), (.ret, [])]⟩ a h) else bif Nat.beq f 11 && Nat.beq r 4 then some (genL ⟨108, 2000, [11, 12, 13, 14, 15, 16, 17, 18, 19, 20, 21, 22, 23, 24, 25], [], [4, 5], [], [0, 1], [(.exit 0, []), (.ret, [])]⟩ a h) else bif Nat.beq f 16 && Nat.beq r 4 then some (genL ⟨109, 2000, [21, 22, 23, 24, 25, 26, 27, 28, 29, 30, 31, 32, 33, 34, 35, 36, 37, 38], [], [4, 5], [], [2, 3], [(.exit 0, []), (.ret, [])]⟩ a h) else bif Nat.beq f 14 && Nat.beq r 4 then some (genL ⟨110, 2000, [4, 37, 38, 39, 40, 41, 42, 43, 44, 45, 46, 47, 48, 49, 50, 51, 52, 53, 54, 55, 56, 57, 58, 59, 60, 61, 62, 63, 64], [], [2, 3], [], [1], [(.exit 0, []), (.ret, [])]⟩ a h) else bif Nat.beq f 14 && Nat.beq r 10 then some (genL ⟨111, 2000, [65, 66, 67, 68, 69, 70, 71, 72, 73, 74, 75, 76, 77, 78], [], [2, 5], [], [1], [(.exit 2, []), (.ret, [])]⟩ a h) else bif Nat.beq f 64 && Nat.beq r 2 then some (genL ⟨112, 2000, [5, 9, 10, 11, 12, 13, 14, 15, 16, 17, 18], [], [4, 8], [], [0, 1, 7], [(.exit 0, []), (.ret, [])]⟩ a h) else bif Nat.beq f 66 && Nat.beq r 2 then some (genL ⟨113, 2000, [5, 9, 10, 11, 12, 13, 14, 15, 16, 17, 18], [], [4, 8], [], [0, 1, 7], [(.exit 0, []), (.ret, [])]⟩ a h) else bif Nat.beq f 12 && Nat.beq r 1 then some (genL ⟨118, 2000, [3, 4, 5, 6, 7, 8, 9, 10, 11], [], [2], [0], [0], [(.exit 0, [])]⟩ a h) else bif Nat.beq f 96 && Nat.beq r 2 then some (genL ⟨114, 2000, [5, 25, 26, 27, 28, 29, 30, 31, 32, 33, 34, 35, 36, 37, 38, 39, 40, 41, 42, 43, 44, 45, 46, 47, 48, 49, 50, 51, 52, 53, 54, 55, 56, 57, 58], [(0, some (0), 5, [.int .u8])], [24], [0], [0, 22, 23], [(.exit 0, [])]⟩ a h) else bif Nat.beq f 95 && Nat.beq r 2 then some (genL ⟨115, 2000, [5, 25, 26, 27, 28, 29, 30, 31], [(0, some (0), 5, [.int .u8])], [24], [0], [0, 22, 23], [(.exit 0, [])]⟩ a h) else bif Nat.beq f 29 && Nat.beq r 11 then some (genL ⟨116, 2000, [7, 30, 31, 32, 33, 34, 35, 36, 37, 38, 39, 40, 41, 42, 43, 44, 45, 46, 47, 48, 49, 50, 51, 52, 53, 54, 55, 56, 57, 58, 59, 60, 61, 62, 63, 64, 65, 66, 67], [(5, none, 5, [.int .u8])], [5, 6], [], [2], [(.exit 1, [])]⟩ a h) else bif Nat.beq f 29 && Nat.beq r 20 then some (genL ⟨117, 2000, [76, 77, 78, 79, 80, 81, 82, 83, 84, 85, 86, 87, 88, 89, 90], [(8, none, 5, [.int .u8])], [8, 9], [], [2], [(.exit 3, [])]⟩ a h) else none
noncomputable def env : Env := { env0 with lspec := loops }
def h_works : HC := ⟨7, 0, ⟨[], [], 0, .cb true, .obool (.va 1000), [], [.cb true]⟩⟩
def L0 : List HC := [h_works]
def h_pkA : HC := ⟨31, 1, ⟨[.oint .u8 (.va 0)], [], 0, .cb true, .ous 0 (.op .llen [.va 1000]) 1, [some (.arr 5 [.int .u8] (.va 1000))], [.app 20 [.va 0, .ci 1]]⟩⟩
def h_pkB : HC := ⟨101, 1, ⟨[.oint .u16 (.va 0)], [], 0, .cb true, .ous 0 (.op .llen [.va 1000]) 1, [some (.arr 5 [.int .u8] (.va 1000))], [.app 20 [.va 0, .ci 2]]⟩⟩
def h_pkC : HC := ⟨32, 1, ⟨[.oint .u32 (.va 0)], [], 0, .cb true, .ous 0 (.op .llen [.va 1000]) 1, [some (.arr 5 [.int .u8] (.va 1000))], [.app 20 [.va 0, .ci 4]]⟩⟩
def h_pkD : HC := ⟨98, 1, ⟨[.oint .u64 (.va 0)], [], 0, .cb true, .ous 0 (.op .llen [.va 1000]) 1, [some (.arr 5 [.int .u8] (.va 1000))], [.app 20 [.va 0, .ci 8]]⟩⟩
def h_numB : HC := ⟨27, 1, ⟨[.oint .u64 (.va 0), .int .i64 2], [], 0, .op (.cmp .leq) [.ci 0, .va 0], .ous 0 (.op .llen [.va 1000]) 1, [some (.arr 5 [.int .u8] (.va 1000))], [.app 20 [.va 0, .ci 2]]⟩⟩
def h_numC : HC := ⟨27, 1, ⟨[.oint .u64 (.va 0), .int .i64 4], [], 0, .op (.cmp .leq) [.ci 0, .va 0], .ous 0 (.op .llen [.va 1000]) 1, [some (.arr 5 [.int .u8] (.va 1000))], [.app 20 [.va 0, .ci 4]]⟩⟩
def h_numD : HC := ⟨27, 1, ⟨[.oint .u64 (.va 0), .int .i64 8], [], 0, .op (.cmp .leq) [.ci 0, .va 0], .ous 0 (.op .llen [.va 1000]) 1, [some (.arr 5 [.int .u8] (.va 1000))], [.app 20 [.va 0, .ci 8]]⟩⟩
def h_joinB : HC := ⟨30, 2, ⟨[.sl 0 0 2 2], [.cells 36 0 [.osl 1 (.ci 0) (.op .llen [.va 0]) 1, .osl 2 (.ci 0) (.op .llen [.va 1]) 1], .arr 5 [.int .u8] (.va 0), .arr 5 [.int .u8] (.va 1)], 3, .op (.cmp .leq) [.op .llen [.op .lcat [.va 0, .va 1]], .ci 100000], .ous 3 (.op .llen [.va 1000]) 1, [some (.arr 5 [.int .u8] (.va 1000))], [.op .lcat [.va 0, .va 1]]⟩⟩
def h_joinC : HC := ⟨30, 3, ⟨[.sl 0 0 3 3], [.cells 36 0 [.osl 1 (.ci 0) (.op .llen [.va 0]) 1, .osl 2 (.ci 0) (.op .llen [.va 1]) 1, .osl 3 (.ci 0) (.op .llen [.va 2]) 1], .arr 5 [.int .u8] (.va 0), .arr 5 [.int .u8] (.va 1), .arr 5 [.int .u8] (.va 2)], 4, .op (.cmp .leq) [.op .llen [.op .lcat [.op .lcat [.va 0, .va 1], .va 2]], .ci 100000], .ous 4 (.op .llen [.va 1000]) 1, [some (.arr 5 [.int .u8] (.va 1000))], [.op .lcat [.op .lcat [.va 0, .va 1], .va 2]]⟩⟩
def h_joinD : HC := ⟨30, 4, ⟨[.sl 0 0 4 4], [.cells 36 0 [.osl 1 (.ci 0) (.op .llen [.va 0]) 1, .osl 2 (.ci 0) (.op .llen [.va 1]) 1, .osl 3 (.ci 0) (.op .llen [.va 2]) 1, .osl 4 (.ci 0) (.op .llen [.va 3]) 1], .arr 5 [.int .u8] (.va 0), .arr 5 [.int .u8] (.va 1), .arr 5 [.int .u8] (.va 2), .arr 5 [.int .u8] (.va 3)], 5, .op (.cmp .leq) [.op .llen [.op .lcat [.op .lcat [.op .lcat [.va 0, .va 1], .va 2], .va 3]], .ci 100000], .ous 5 (.op .llen [.va 1000]) 1, [some (.arr 5 [.int .u8] (.va 1000))], [.op .lcat [.op .lcat [.op .lcat [.va 0, .va 1], .va 2], .va 3]]⟩⟩
def h_joinR : HC := ⟨58, 4, ⟨[.sl 0 0 4 4], [.cells 36 0 [.osl 1 (.ci 0) (.op .llen [.va 0]) 1, .osl 2 (.ci 0) (.op .llen [.va 1]) 1, .osl 3 (.ci 0) (.op .llen [.va 2]) 1, .osl 4 (.ci 0) (.op .llen [.va 3]) 1], .arr 5 [.int .u8] (.va 0), .arr 5 [.int .u8] (.va 1), .arr 5 [.int .u8] (.va 2), .arr 5 [.int .u8] (.va 3)], 5, .op (.cmp .leq) [.op .llen [.op .lcat [.op .lcat [.op .lcat [.va 0, .va 1], .va 2], .va 3]], .ci 100000], .ous 5 (.op .llen [.va 1000]) 1, [some (.arr 5 [.int .u8] (.va 1000))], [.op .lcat [.op .lcat [.op .lcat [.va 0, .va 1], .va 2], .va 3]]⟩⟩
def h_fewRows : HC := ⟨22, 1, ⟨[.osl 0 (.ci 0) (.op .llen [.va 0]) 7], [.arr 4294967295 [.str, .int .i64, .int .i64, .int .i64, .int .i64, .int .i64, .int .i64] (.va 0)], 1, .op (.cmp .leq) [.op .llen [.va 0], .ci 1000], .obool (.va 1000), [], [.app 1 [.va 0]]⟩⟩
def h_few : HC := ⟨23, 1, ⟨[.osl 0 (.ci 0) (.op .llen [.va 0]) 3], [.arr 4294967295 [.str, .int .i64, .int .i64] (.va 0)], 1, .op (.cmp .leq) [.op .llen [.va 0], .ci 1000], .obool (.va 1000), [], [.app 2 [.va 0]]⟩⟩
def h_rows : HC := ⟨25, 1, ⟨[.osl 0 (.ci 0) (.op .llen [.va 0]) 7], [.arr 4294967295 [.str, .int .i64, .int .i64, .int .i64, .int .i64, .int .i64, .int .i64] (.va 0)], 1, .op (.cmp .leq) [.op .llen [.va 0], .ci 100], .ous 1 (.op .llen [.va 1000]) 7, [some (.arr 88 [.str, .int .i64, .int .i64, .int .i64, .int .i64, .int .i64, .int .i64] (.va 1000))], [.app 30 [.va 0]]⟩⟩
def h_panes : HC := ⟨26, 1, ⟨[.osl 0 (.ci 0) (.op .llen [.va 0]) 3], [.arr 4294967295 [.str, .int .i64, .int .i64] (.va 0)], 1, .op (.cmp .leq) [.op .llen [.va 0], .ci 100], .ous 1 (.op .llen [.va 1000]) 3, [some (.arr 85 [.str, .int .i64, .int .i64] (.va 1000))], [.app 31 [.va 0]]⟩⟩
def h_equalRows : HC := ⟨45, 2, ⟨[.osl 0 (.ci 0) (.op .llen [.va 0]) 7, .osl 1 (.ci 0) (.op .llen [.va 1]) 7], [.arr 4294967295 [.str, .int .i64, .int .i64, .int .i64, .int .i64, .int .i64, .int .i64] (.va 0), .arr 4294967295 [.str, .int .i64, .int .i64, .int .i64, .int .i64, .int .i64, .int .i64] (.va 1)], 2, .op (.cmp .leq) [.op .llen [.va 0], .ci 1000000], .obool (.va 1000), [], [.app 3 [.va 0, .va 1]]⟩⟩
def h_equalPanes : HC := ⟨46, 2, ⟨[.osl 0 (.ci 0) (.op .llen [.va 0]) 3, .osl 1 (.ci 0) (.op .llen [.va 1]) 3], [.arr 4294967295 [.str, .int .i64, .int .i64] (.va 0), .arr 4294967295 [.str, .int .i64, .int .i64] (.va 1)], 2, .op (.cmp .leq) [.op .llen [.va 0], .ci 1000000], .obool (.va 1000), [], [.app 11 [.va 0, .va 1]]⟩⟩
def h_sameV : HC := ⟨47, 2, ⟨[.osl 0 (.ci 0) (.op .llen [.va 0]) 7, .osl 1 (.ci 0) (.op .llen [.va 1]) 7], [.arr 4294967295 [.str, .int .i64, .int .i64, .int .i64, .int .i64, .int .i64, .int .i64] (.va 0), .arr 4294967295 [.str, .int .i64, .int .i64, .int .i64, .int .i64, .int .i64, .int .i64] (.va 1)], 2, .op (.cmp .leq) [.op .llen [.va 0], .ci 1000000], .obool (.va 1000), [], [.app 3 [.va 0, .va 1]]⟩⟩
def h_sameBytes : HC := ⟨11, 2, ⟨[.osl 0 (.ci 0) (.op .llen [.va 0]) 1, .osl 1 (.ci 0) (.op .llen [.va 1]) 1], [.arr 4294967295 [.int .u8] (.va 0), .arr 4294967295 [.int .u8] (.va 1)], 2, .op (.cmp .leq) [.op .llen [.va 0], .ci 1000000], .obool (.va 1000), [], [.app 12 [.va 0, .va 1]]⟩⟩
def h_spoil : HC := ⟨12, 2, ⟨[.ous 0 (.va 0) 1], [.arr 5 [.int .u8] (.va 1)], 0, .op .and [.op (.cmp .eql) [.va 0, .op .llen [.va 1]], .op (.cmp .leq) [.op .llen [.va 1], .ci 1000000]], .tup [], [none], []⟩⟩
def h_badRows : HC := ⟨35, 1, ⟨[.osl 0 (.ci 0) (.op .llen [.va 0]) 7, .func (.func 36) [] []], [.arr 4294967295 [.str, .int .i64, .int .i64, .int .i64, .int .i64, .int .i64, .int .i64] (.va 0)], 1, .op (.cmp .leq) [.op .llen [.va 0], .ci 1000], .obool (.va 1000), [], [.app 9 [.va 0]]⟩⟩
def h_badPanes : HC := ⟨40, 1, ⟨[.osl 0 (.ci 0) (.op .llen [.va 0]) 3, .func (.func 41) [] []], [.arr 4294967295 [.str, .int .i64, .int .i64] (.va 0)], 1, .op (.cmp .leq) [.op .llen [.va 0], .ci 1000], .obool (.va 1000), [], [.app 10 [.va 0]]⟩⟩
def L1 : List HC := [h_pkA, h_pkB, h_pkC, h_pkD, h_numB, h_numC, h_numD, h_joinB, h_joinC, h_joinD, h_joinR, h_fewRows, h_few, h_rows, h_panes, h_equalRows, h_equalPanes, h_sameV, h_sameBytes, h_spoil, h_badRows, h_badPanes]
def h_putInt : HC := ⟨100, 1, ⟨[.oint .i64 (.va 0)], [], 0, .cb true, .ous 0 (.op .llen [.va 1000]) 1, [some (.arr 5 [.int .u8] (.va 1000))], [.app 20 [.op (.conv .u64) [.va 0], .ci 8]]⟩⟩
def h_intR : HC := ⟨59, 1, ⟨[.oint .i64 (.va 0)], [], 0, .cb true, .ous 0 (.op .llen [.va 1000]) 1, [some (.arr 5 [.int .u8] (.va 1000))], [.app 20 [.op (.conv .u64) [.va 0], .ci 8]]⟩⟩
def h_putText : HC := ⟨103, 1, ⟨[.ostr (.va 0)], [], 0, .op (.cmp .leq) [.op .slen [.va 0], .ci 65535], .tup [.ous 0 (.op .llen [.va 1001]) 1, .oint .i64 (.va 1000)], [some (.arr 5 [.int .u8] (.va 1001))], [.ci 0, .app 21 [.va 0]]⟩⟩
def h_text : HC := ⟨73, 1, ⟨[.ostr (.va 0)], [], 0, .op (.cmp .leq) [.op .slen [.va 0], .ci 65535], .tup [.ous 0 (.op .llen [.va 1001]) 1, .oint .i64 (.va 1000)], [some (.arr 5 [.int .u8] (.va 1001))], [.ci 0, .app 21 [.va 0]]⟩⟩
def h_fewRep : HC := ⟨6, 12, ⟨[.agg [.oint .u8 (.va 0), .oint .u32 (.va 1), .oint .u16 (.va 2), .obool (.va 3), .oint .u64 (.va 4), .oint .u64 (.va 5), .oint .u64 (.va 6), .oint .u64 (.va 7), .oint .u64 (.va 8), .oint .u64 (.va 9), .osl 0 (.ci 0) (.op .llen [.va 10]) 7, .osl 1 (.ci 0) (.op .llen [.va 11]) 3]], [.arr 4294967295 [.str, .int .i64, .int .i64, .int .i64, .int .i64, .int .i64, .int .i64] (.va 10), .arr 4294967295 [.str, .int .i64, .int .i64] (.va 11)], 2, .cb true, .obool (.va 1000), [], [.app 8 [.va 0, .va 1, .va 2, .va 3, .va 4, .va 5, .va 6, .va 7, .va 8, .va 9, .va 10, .va 11]]⟩⟩
def h_rep : HC := ⟨8, 12, ⟨[.agg [.oint .u8 (.va 0), .oint .u32 (.va 1), .oint .u16 (.va 2), .obool (.va 3), .oint .u64 (.va 4), .oint .u64 (.va 5), .oint .u64 (.va 6), .oint .u64 (.va 7), .oint .u64 (.va 8), .oint .u64 (.va 9), .osl 0 (.ci 0) (.op .llen [.va 10]) 7, .osl 1 (.ci 0) (.op .llen [.va 11]) 3]], [.arr 4294967295 [.str, .int .i64, .int .i64, .int .i64, .int .i64, .int .i64, .int .i64] (.va 10), .arr 4294967295 [.str, .int .i64, .int .i64] (.va 11)], 2, .op .and [.op (.cmp .leq) [.op .llen [.va 10], .ci 100], .op (.cmp .leq) [.op .llen [.va 11], .ci 100]], .agg [.oint .u8 (.va 1000), .oint .u32 (.va 1001), .oint .u16 (.va 1002), .obool (.va 1003), .oint .u64 (.va 1004), .oint .u64 (.va 1005), .oint .u64 (.va 1006), .oint .u64 (.va 1007), .oint .u64 (.va 1008), .oint .u64 (.va 1009), .ous 2 (.op .llen [.va 1010]) 7, .ous 3 (.op .llen [.va 1011]) 3], [some (.arr 88 [.str, .int .i64, .int .i64, .int .i64, .int .i64, .int .i64, .int .i64] (.va 1010)), some (.arr 85 [.str, .int .i64, .int .i64] (.va 1011))], [.va 0, .va 1, .va 2, .va 3, .va 4, .va 5, .va 6, .va 7, .va 8, .va 9, .app 30 [.va 10], .app 31 [.va 11]]⟩⟩
def h_same : HC := ⟨15, 24, ⟨[.agg [.oint .u8 (.va 0), .oint .u32 (.va 1), .oint .u16 (.va 2), .obool (.va 3), .oint .u64 (.va 4), .oint .u64 (.va 5), .oint .u64 (.va 6), .oint .u64 (.va 7), .oint .u64 (.va 8), .oint .u64 (.va 9), .osl 0 (.ci 0) (.op .llen [.va 10]) 7, .osl 1 (.ci 0) (.op .llen [.va 11]) 3], .agg [.oint .u8 (.va 12), .oint .u32 (.va 13), .oint .u16 (.va 14), .obool (.va 15), .oint .u64 (.va 16), .oint .u64 (.va 17), .oint .u64 (.va 18), .oint .u64 (.va 19), .oint .u64 (.va 20), .oint .u64 (.va 21), .osl 2 (.ci 0) (.op .llen [.va 22]) 7, .osl 3 (.ci 0) (.op .llen [.va 23]) 3]], [.arr 4294967295 [.str, .int .i64, .int .i64, .int .i64, .int .i64, .int .i64, .int .i64] (.va 10), .arr 4294967295 [.str, .int .i64, .int .i64] (.va 11), .arr 4294967295 [.str, .int .i64, .int .i64, .int .i64, .int .i64, .int .i64, .int .i64] (.va 22), .arr 4294967295 [.str, .int .i64, .int .i64] (.va 23)], 4, .op .and [.op (.cmp .leq) [.op .llen [.va 10], .ci 1000000], .op (.cmp .leq) [.op .llen [.va 11], .ci 1000000]], .obool (.va 1000), [], [.app 7 [.va 0, .va 1, .va 2, .va 3, .va 4, .va 5, .va 6, .va 7, .va 8, .va 9, .va 10, .va 11, .va 12, .va 13, .va 14, .va 15, .va 16, .va 17, .va 18, .va 19, .va 20, .va 21, .va 22, .va 23]]⟩⟩
def h_sameR : HC := ⟨16, 24, ⟨[.agg [.oint .u8 (.va 0), .oint .u32 (.va 1), .oint .u16 (.va 2), .obool (.va 3), .oint .u64 (.va 4), .oint .u64 (.va 5), .oint .u64 (.va 6), .oint .u64 (.va 7), .oint .u64 (.va 8), .oint .u64 (.va 9), .osl 0 (.ci 0) (.op .llen [.va 10]) 7, .osl 1 (.ci 0) (.op .llen [.va 11]) 3], .agg [.oint .u8 (.va 12), .oint .u32 (.va 13), .oint .u16 (.va 14), .obool (.va 15), .oint .u64 (.va 16), .oint .u64 (.va 17), .oint .u64 (.va 18), .oint .u64 (.va 19), .oint .u64 (.va 20), .oint .u64 (.va 21), .osl 2 (.ci 0) (.op .llen [.va 22]) 7, .osl 3 (.ci 0) (.op .llen [.va 23]) 3]], [.arr 4294967295 [.str, .int .i64, .int .i64, .int .i64, .int .i64, .int .i64, .int .i64] (.va 10), .arr 4294967295 [.str, .int .i64, .int .i64] (.va 11), .arr 4294967295 [.str, .int .i64, .int .i64, .int .i64, .int .i64, .int .i64, .int .i64] (.va 22), .arr 4294967295 [.str, .int .i64, .int .i64] (.va 23)], 4, .op .and [.op (.cmp .leq) [.op .llen [.va 10], .ci 1000000], .op (.cmp .leq) [.op .llen [.va 11], .ci 1000000]], .obool (.va 1000), [], [.app 7 [.va 0, .va 1, .va 2, .va 3, .va 4, .va 5, .va 6, .va 7, .va 8, .va 9, .va 10, .va 11, .va 12, .va 13, .va 14, .va 15, .va 16, .va 17, .va 18, .va 19, .va 20, .va 21, .va 22, .va 23]]⟩⟩
def L2 : List HC := [h_putInt, h_intR, h_putText, h_text, h_fewRep, h_rep, h_same, h_sameR]
def h_pane : HC := ⟨57, 3, ⟨[.agg [.ostr (.va 0), .oint .i64 (.va 1), .oint .i64 (.va 2)]], [], 0, .op (.cmp .leq) [.op .slen [.va 0], .ci 65535], .ous 0 (.op .llen [.va 1000]) 1, [some (.arr 5 [.int .u8] (.va 1000))], [.app 22 [.va 0, .va 1, .va 2]]⟩⟩
def h_rightR : HC := ⟨14, 12, ⟨[.agg [.oint .u8 (.va 0), .oint .u32 (.va 1), .oint .u16 (.va 2), .obool (.va 3), .oint .u64 (.va 4), .oint .u64 (.va 5), .oint .u64 (.va 6), .oint .u64 (.va 7), .oint .u64 (.va 8), .oint .u64 (.va 9), .osl 0 (.ci 0) (.op .llen [.va 10]) 7, .osl 1 (.ci 0) (.op .llen [.va 11]) 3]], [.arr 4294967295 [.str, .int .i64, .int .i64, .int .i64, .int .i64, .int .i64, .int .i64] (.va 10), .arr 4294967295 [.str, .int .i64, .int .i64] (.va 11)], 2, .app 8 [.va 0, .va 1, .va 2, .va 3, .va 4, .va 5, .va 6, .va 7, .va 8, .va 9, .va 10, .va 11], .obool (.va 1000), [], [.app 4 [.va 0, .va 1, .va 2, .va 3, .va 4, .va 5, .va 6, .va 7, .va 8, .va 9, .va 10, .va 11]]⟩⟩
def a_rightR0 : List AV := [.agg [.oint .u8 (.va 0), .oint .u32 (.va 1), .oint .u16 (.va 2), .obool (.va 3), .oint .u64 (.va 4), .oint .u64 (.va 5), .oint .u64 (.va 6), .oint .u64 (.va 7), .oint .u64 (.va 8), .oint .u64 (.va 9), .osl 0 (.ci 0) (.op .llen [.va 10]) 7, .osl 1 (.ci 0) (.op .llen [.va 11]) 3]]
def a_rightR1 : List AV := [.agg [.int .u8 1, .oint .u32 (.va 1), .oint .u16 (.va 2), .obool (.va 3), .oint .u64 (.va 4), .oint .u64 (.va 5), .oint .u64 (.va 6), .oint .u64 (.va 7), .oint .u64 (.va 8), .oint .u64 (.va 9), .osl 0 (.ci 0) (.op .llen [.va 10]) 7, .osl 1 (.ci 0) (.op .llen [.va 11]) 3]]
def a_rightR2 : List AV := [.agg [.int .u8 2, .oint .u32 (.va 1), .oint .u16 (.va 2), .obool (.va 3), .oint .u64 (.va 4), .oint .u64 (.va 5), .oint .u64 (.va 6), .oint .u64 (.va 7), .oint .u64 (.va 8), .oint .u64 (.va 9), .osl 0 (.ci 0) (.op .llen [.va 10]) 7, .osl 1 (.ci 0) (.op .llen [.va 11]) 3]]
def a_rightR3 : List AV := [.agg [.int .u8 3, .oint .u32 (.va 1), .oint .u16 (.va 2), .obool (.va 3), .oint .u64 (.va 4), .oint .u64 (.va 5), .oint .u64 (.va 6), .oint .u64 (.va 7), .oint .u64 (.va 8), .oint .u64 (.va 9), .osl 0 (.ci 0) (.op .llen [.va 10]) 7, .osl 1 (.ci 0) (.op .llen [.va 11]) 3]]
def a_rightR4 : List AV := [.agg [.int .u8 4, .oint .u32 (.va 1), .oint .u16 (.va 2), .obool (.va 3), .oint .u64 (.va 4), .oint .u64 (.va 5), .oint .u64 (.va 6), .oint .u64 (.va 7), .oint .u64 (.va 8), .oint .u64 (.va 9), .osl 0 (.ci 0) (.op .llen [.va 10]) 7, .osl 1 (.ci 0) (.op .llen [.va 11]) 3]]
def a_rightR5 : List AV := [.agg [.int .u8 5, .oint .u32 (.va 1), .oint .u16 (.va 2), .obool (.va 3), .oint .u64 (.va 4), .oint .u64 (.va 5), .oint .u64 (.va 6), .oint .u64 (.va 7), .oint .u64 (.va 8), .oint .u64 (.va 9), .osl 0 (.ci 0) (.op .llen [.va 10]) 7, .osl 1 (.ci 0) (.op .llen [.va 11]) 3]]
def a_rightR6 : List AV := [.agg [.int .u8 6, .oint .u32 (.va 1), .oint .u16 (.va 2), .obool (.va 3), .oint .u64 (.va 4), .oint .u64 (.va 5), .oint .u64 (.va 6), .oint .u64 (.va 7), .oint .u64 (.va 8), .oint .u64 (.va 9), .osl 0 (.ci 0) (.op .llen [.va 10]) 7, .osl 1 (.ci 0) (.op .llen [.va 11]) 3]]
def a_rightR7 : List AV := [.agg [.int .u8 7, .oint .u32 (.va 1), .oint .u16 (.va 2), .obool (.va 3), .oint .u64 (.va 4), .oint .u64 (.va 5), .oint .u64 (.va 6), .oint .u64 (.va 7), .oint .u64 (.va 8), .oint .u64 (.va 9), .osl 0 (.ci 0) (.op .llen [.va 10]) 7, .osl 1 (.ci 0) (.op .llen [.va 11]) 3]]
def h_right : HC := ⟨13, 12, ⟨[.agg [.oint .u8 (.va 0), .oint .u32 (.va 1), .oint .u16 (.va 2), .obool (.va 3), .oint .u64 (.va 4), .oint .u64 (.va 5), .oint .u64 (.va 6), .oint .u64 (.va 7), .oint .u64 (.va 8), .oint .u64 (.va 9), .osl 0 (.ci 0) (.op .llen [.va 10]) 7, .osl 1 (.ci 0) (.op .llen [.va 11]) 3]], [.arr 4294967295 [.str, .int .i64, .int .i64, .int .i64, .int .i64, .int .i64, .int .i64] (.va 10), .arr 4294967295 [.str, .int .i64, .int .i64] (.va 11)], 2, .app 8 [.va 0, .va 1, .va 2, .va 3, .va 4, .va 5, .va 6, .va 7, .va 8, .va 9, .va 10, .va 11], .obool (.va 1000), [], [.app 4 [.va 0, .va 1, .va 2, .va 3, .va 4, .va 5, .va 6, .va 7, .va 8, .va 9, .va 10, .va 11]]⟩⟩
def a_right0 : List AV := [.agg [.oint .u8 (.va 0), .oint .u32 (.va 1), .oint .u16 (.va 2), .obool (.va 3), .oint .u64 (.va 4), .oint .u64 (.va 5), .oint .u64 (.va 6), .oint .u64 (.va 7), .oint .u64 (.va 8), .oint .u64 (.va 9), .osl 0 (.ci 0) (.op .llen [.va 10]) 7, .osl 1 (.ci 0) (.op .llen [.va 11]) 3]]
def a_right1 : List AV := [.agg [.int .u8 1, .oint .u32 (.va 1), .oint .u16 (.va 2), .obool (.va 3), .oint .u64 (.va 4), .oint .u64 (.va 5), .oint .u64 (.va 6), .oint .u64 (.va 7), .oint .u64 (.va 8), .oint .u64 (.va 9), .osl 0 (.ci 0) (.op .llen [.va 10]) 7, .osl 1 (.ci 0) (.op .llen [.va 11]) 3]]
def a_right2 : List AV := [.agg [.int .u8 2, .oint .u32 (.va 1), .oint .u16 (.va 2), .obool (.va 3), .oint .u64 (.va 4), .oint .u64 (.va 5), .oint .u64 (.va 6), .oint .u64 (.va 7), .oint .u64 (.va 8), .oint .u64 (.va 9), .osl 0 (.ci 0) (.op .llen [.va 10]) 7, .osl 1 (.ci 0) (.op .llen [.va 11]) 3]]
def a_right3 : List AV := [.agg [.int .u8 3, .oint .u32 (.va 1), .oint .u16 (.va 2), .obool (.va 3), .oint .u64 (.va 4), .oint .u64 (.va 5), .oint .u64 (.va 6), .oint .u64 (.va 7), .oint .u64 (.va 8), .oint .u64 (.va 9), .osl 0 (.ci 0) (.op .llen [.va 10]) 7, .osl 1 (.ci 0) (.op .llen [.va 11]) 3]]
def a_right4 : List AV := [.agg [.int .u8 4, .oint .u32 (.va 1), .oint .u16 (.va 2), .obool (.va 3), .oint .u64 (.va 4), .oint .u64 (.va 5), .oint .u64 (.va 6), .oint .u64 (.va 7), .oint .u64 (.va 8), .oint .u64 (.va 9), .osl 0 (.ci 0) (.op .llen [.va 10]) 7, .osl 1 (.ci 0) (.op .llen [.va 11]) 3]]
def a_right5 : List AV := [.agg [.int .u8 5, .oint .u32 (.va 1), .oint .u16 (.va 2), .obool (.va 3), .oint .u64 (.va 4), .oint .u64 (.va 5), .oint .u64 (.va 6), .oint .u64 (.va 7), .oint .u64 (.va 8), .oint .u64 (.va 9), .osl 0 (.ci 0) (.op .llen [.va 10]) 7, .osl 1 (.ci 0) (.op .llen [.va 11]) 3]]
def a_right6 : List AV := [.agg [.int .u8 6, .oint .u32 (.va 1), .oint .u16 (.va 2), .obool (.va 3), .oint .u64 (.va 4), .oint .u64 (.va 5), .oint .u64 (.va 6), .oint .u64 (.va 7), .oint .u64 (.va 8), .oint .u64 (.va 9), .osl 0 (.ci 0) (.op .llen [.va 10]) 7, .osl 1 (.ci 0) (.op .llen [.va 11]) 3]]
def a_right7 : List AV := [.agg [.int .u8 7, .oint .u32 (.va 1), .oint .u16 (.va 2), .obool (.va 3), .oint .u64 (.va 4), .oint .u64 (.va 5), .oint .u64 (.va 6), .oint .u64 (.va 7), .oint .u64 (.va 8), .oint .u64 (.va 9), .osl 0 (.ci 0) (.op .llen [.va 10]) 7, .osl 1 (.ci 0) (.op .llen [.va 11]) 3]]
def L3 : List HC := [h_pane, h_rightR, h_right]
def h_put : HC := ⟨10, 12, ⟨[.agg [.oint .u8 (.va 0), .oint .u32 (.va 1), .oint .u16 (.va 2), .obool (.va 3), .oint .u64 (.va 4), .oint .u64 (.va 5), .oint .u64 (.va 6), .oint .u64 (.va 7), .oint .u64 (.va 8), .oint .u64 (.va 9), .osl 0 (.ci 0) (.op .llen [.va 10]) 7, .osl 1 (.ci 0) (.op .llen [.va 11]) 3]], [.arr 4294967295 [.str, .int .i64, .int .i64, .int .i64, .int .i64, .int .i64, .int .i64] (.va 10), .arr 4294967295 [.str, .int .i64, .int .i64] (.va 11)], 2, .app 8 [.va 0, .va 1, .va 2, .va 3, .va 4, .va 5, .va 6, .va 7, .va 8, .va 9, .va 10, .va 11], .tup [.ous 2 (.op .llen [.va 1001]) 1, .oint .i64 (.va 1000)], [some (.arr 5 [.int .u8] (.va 1001))], [.app 6 [.va 0, .va 1, .va 2, .va 3, .va 4, .va 5, .va 6, .va 7, .va 8, .va 9, .va 10, .va 11], .app 5 [.va 0, .va 1, .va 2, .va 3, .va 4, .va 5, .va 6, .va 7, .va 8, .va 9, .va 10, .va 11]]⟩⟩
def a_put0 : List AV := [.agg [.oint .u8 (.va 0), .oint .u32 (.va 1), .oint .u16 (.va 2), .obool (.va 3), .oint .u64 (.va 4), .oint .u64 (.va 5), .oint .u64 (.va 6), .oint .u64 (.va 7), .oint .u64 (.va 8), .oint .u64 (.va 9), .osl 0 (.ci 0) (.op .llen [.va 10]) 7, .osl 1 (.ci 0) (.op .llen [.va 11]) 3]]
def a_put1 : List AV := [.agg [.int .u8 1, .oint .u32 (.va 1), .oint .u16 (.va 2), .obool (.va 3), .oint .u64 (.va 4), .oint .u64 (.va 5), .oint .u64 (.va 6), .oint .u64 (.va 7), .oint .u64 (.va 8), .oint .u64 (.va 9), .osl 0 (.ci 0) (.op .llen [.va 10]) 7, .osl 1 (.ci 0) (.op .llen [.va 11]) 3]]
def a_put2 : List AV := [.agg [.int .u8 2, .oint .u32 (.va 1), .oint .u16 (.va 2), .obool (.va 3), .oint .u64 (.va 4), .oint .u64 (.va 5), .oint .u64 (.va 6), .oint .u64 (.va 7), .oint .u64 (.va 8), .oint .u64 (.va 9), .osl 0 (.ci 0) (.op .llen [.va 10]) 7, .osl 1 (.ci 0) (.op .llen [.va 11]) 3]]
def a_put3 : List AV := [.agg [.int .u8 3, .oint .u32 (.va 1), .oint .u16 (.va 2), .obool (.va 3), .oint .u64 (.va 4), .oint .u64 (.va 5), .oint .u64 (.va 6), .oint .u64 (.va 7), .oint .u64 (.va 8), .oint .u64 (.va 9), .osl 0 (.ci 0) (.op .llen [.va 10]) 7, .osl 1 (.ci 0) (.op .llen [.va 11]) 3]]
def a_put4 : List AV := [.agg [.int .u8 4, .oint .u32 (.va 1), .oint .u16 (.va 2), .obool (.va 3), .oint .u64 (.va 4), .oint .u64 (.va 5), .oint .u64 (.va 6), .oint .u64 (.va 7), .oint .u64 (.va 8), .oint .u64 (.va 9), .osl 0 (.ci 0) (.op .llen [.va 10]) 7, .osl 1 (.ci 0) (.op .llen [.va 11]) 3]]
def a_put5 : List AV := [.agg [.int .u8 5, .oint .u32 (.va 1), .oint .u16 (.va 2), .obool (.va 3), .oint .u64 (.va 4), .oint .u64 (.va 5), .oint .u64 (.va 6), .oint .u64 (.va 7), .oint .u64 (.va 8), .oint .u64 (.va 9), .osl 0 (.ci 0) (.op .llen [.va 10]) 7, .osl 1 (.ci 0) (.op .llen [.va 11]) 3]]
def a_put6 : List AV := [.agg [.int .u8 6, .oint .u32 (.va 1), .oint .u16 (.va 2), .obool (.va 3), .oint .u64 (.va 4), .oint .u64 (.va 5), .oint .u64 (.va 6), .oint .u64 (.va 7), .oint .u64 (.va 8), .oint .u64 (.va 9), .osl 0 (.ci 0) (.op .llen [.va 10]) 7, .osl 1 (.ci 0) (.op .llen [.va 11]) 3]]
def a_put7 : List AV := [.agg [.int .u8 7, .oint .u32 (.va 1), .oint .u16 (.va 2), .obool (.va 3), .oint .u64 (.va 4), .oint .u64 (.va 5), .oint .u64 (.va 6), .oint .u64 (.va 7), .oint .u64 (.va 8), .oint .u64 (.va 9), .osl 0 (.ci 0) (.op .llen [.va 10]) 7, .osl 1 (.ci 0) (.op .llen [.va 11]) 3]]
def h_putR : HC := ⟨9, 12, ⟨[.agg [.oint .u8 (.va 0), .oint .u32 (.va 1), .oint .u16 (.va 2), .obool (.va 3), .oint .u64 (.va 4), .oint .u64 (.va 5), .oint .u64 (.va 6), .oint .u64 (.va 7), .oint .u64 (.va 8), .oint .u64 (.va 9), .osl 0 (.ci 0) (.op .llen [.va 10]) 7, .osl 1 (.ci 0) (.op .llen [.va 11]) 3]], [.arr 4294967295 [.str, .int .i64, .int .i64, .int .i64, .int .i64, .int .i64, .int .i64] (.va 10), .arr 4294967295 [.str, .int .i64, .int .i64] (.va 11)], 2, .op .and [.op .and [.op .and [.op .and [.op .and [.op .and [.app 8 [.va 0, .va 1, .va 2, .va 3, .va 4, .va 5, .va 6, .va 7, .va 8, .va 9, .va 10, .va 11], .op (.cmp .leq) [.ci 0, .va 4]], .op (.cmp .leq) [.ci 0, .va 5]], .op (.cmp .leq) [.ci 0, .va 6]], .op (.cmp .leq) [.ci 0, .va 7]], .op (.cmp .leq) [.ci 0, .va 8]], .op (.cmp .leq) [.ci 0, .va 9]], .tup [.ous 2 (.op .llen [.va 1001]) 1, .oint .i64 (.va 1000)], [some (.arr 5 [.int .u8] (.va 1001))], [.app 6 [.va 0, .va 1, .va 2, .va 3, .va 4, .va 5, .va 6, .va 7, .va 8, .va 9, .va 10, .va 11], .app 5 [.va 0, .va 1, .va 2, .va 3, .va 4, .va 5, .va 6, .va 7, .va 8, .va 9, .va 10, .va 11]]⟩⟩
def a_putR0 : List AV := [.agg [.oint .u8 (.va 0), .oint .u32 (.va 1), .oint .u16 (.va 2), .obool (.va 3), .oint .u64 (.va 4), .oint .u64 (.va 5), .oint .u64 (.va 6), .oint .u64 (.va 7), .oint .u64 (.va 8), .oint .u64 (.va 9), .osl 0 (.ci 0) (.op .llen [.va 10]) 7, .osl 1 (.ci 0) (.op .llen [.va 11]) 3]]
def a_putR1 : List AV := [.agg [.int .u8 1, .oint .u32 (.va 1), .oint .u16 (.va 2), .obool (.va 3), .oint .u64 (.va 4), .oint .u64 (.va 5), .oint .u64 (.va 6), .oint .u64 (.va 7), .oint .u64 (.va 8), .oint .u64 (.va 9), .osl 0 (.ci 0) (.op .llen [.va 10]) 7, .osl 1 (.ci 0) (.op .llen [.va 11]) 3]]
def a_putR2 : List AV := [.agg [.int .u8 2, .oint .u32 (.va 1), .oint .u16 (.va 2), .obool (.va 3), .oint .u64 (.va 4), .oint .u64 (.va 5), .oint .u64 (.va 6), .oint .u64 (.va 7), .oint .u64 (.va 8), .oint .u64 (.va 9), .osl 0 (.ci 0) (.op .llen [.va 10]) 7, .osl 1 (.ci 0) (.op .llen [.va 11]) 3]]
def a_putR3 : List AV := [.agg [.int .u8 3, .oint .u32 (.va 1), .oint .u16 (.va 2), .obool (.va 3), .oint .u64 (.va 4), .oint .u64 (.va 5), .oint .u64 (.va 6), .oint .u64 (.va 7), .oint .u64 (.va 8), .oint .u64 (.va 9), .osl 0 (.ci 0) (.op .llen [.va 10]) 7, .osl 1 (.ci 0) (.op .llen [.va 11]) 3]]
def a_putR4 : List AV := [.agg [.int .u8 4, .oint .u32 (.va 1), .oint .u16 (.va 2), .obool (.va 3), .oint .u64 (.va 4), .oint .u64 (.va 5), .oint .u64 (.va 6), .oint .u64 (.va 7), .oint .u64 (.va 8), .oint .u64 (.va 9), .osl 0 (.ci 0) (.op .llen [.va 10]) 7, .osl 1 (.ci 0) (.op .llen [.va 11]) 3]]
def a_putR5 : List AV := [.agg [.int .u8 5, .oint .u32 (.va 1), .oint .u16 (.va 2), .obool (.va 3), .oint .u64 (.va 4), .oint .u64 (.va 5), .oint .u64 (.va 6), .oint .u64 (.va 7), .oint .u64 (.va 8), .oint .u64 (.va 9), .osl 0 (.ci 0) (.op .llen [.va 10]) 7, .osl 1 (.ci 0) (.op .llen [.va 11]) 3]]
def a_putR6 : List AV := [.agg [.int .u8 6, .oint .u32 (.va 1), .oint .u16 (.va 2), .obool (.va 3), .oint .u64 (.va 4), .oint .u64 (.va 5), .oint .u64 (.va 6), .oint .u64 (.va 7), .oint .u64 (.va 8), .oint .u64 (.va 9), .osl 0 (.ci 0) (.op .llen [.va 10]) 7, .osl 1 (.ci 0) (.op .llen [.va 11]) 3]]
def a_putR7 : List AV := [.agg [.int .u8 7, .oint .u32 (.va 1), .oint .u16 (.va 2), .obool (.va 3), .oint .u64 (.va 4), .oint .u64 (.va 5), .oint .u64 (.va 6), .oint .u64 (.va 7), .oint .u64 (.va 8), .oint .u64 (.va 9), .osl 0 (.ci 0) (.op .llen [.va 10]) 7, .osl 1 (.ci 0) (.op .llen [.va 11]) 3]]
def L4 : List HC := [h_put, h_putR]
def h_replyPuts : HC := ⟨3, 24, ⟨[.agg [.oint .u8 (.va 0), .oint .u32 (.va 1), .oint .u16 (.va 2), .obool (.va 3), .oint .u64 (.va 4), .oint .u64 (.va 5), .oint .u64 (.va 6), .oint .u64 (.va 7), .oint .u64 (.va 8), .oint .u64 (.va 9), .osl 0 (.ci 0) (.op .llen [.va 10]) 7, .osl 1 (.ci 0) (.op .llen [.va 11]) 3], .agg [.oint .u8 (.va 12), .oint .u32 (.va 13), .oint .u16 (.va 14), .obool (.va 15), .oint .u64 (.va 16), .oint .u64 (.va 17), .oint .u64 (.va 18), .oint .u64 (.va 19), .oint .u64 (.va 20), .oint .u64 (.va 21), .osl 2 (.ci 0) (.op .llen [.va 22]) 7, .osl 3 (.ci 0) (.op .llen [.va 23]) 3]], [.arr 4294967295 [.str, .int .i64, .int .i64, .int .i64, .int .i64, .int .i64, .int .i64] (.va 10), .arr 4294967295 [.str, .int .i64, .int .i64] (.va 11), .arr 4294967295 [.str, .int .i64, .int .i64, .int .i64, .int .i64, .int .i64, .int .i64] (.va 22), .arr 4294967295 [.str, .int .i64, .int .i64] (.va 23)], 4, .op .and [.op .and [.op .and [.op .and [.op .and [.op (.cmp .leq) [.ci 0, .va 4], .op (.cmp .leq) [.ci 0, .va 5]], .op (.cmp .leq) [.ci 0, .va 6]], .op (.cmp .leq) [.ci 0, .va 7]], .op (.cmp .leq) [.ci 0, .va 8]], .op (.cmp .leq) [.ci 0, .va 9]], .obool (.va 1000), [], [.cb true]⟩⟩
def L5 : List HC := [h_replyPuts]
theorem names : (Try.prog.funcs.toList.all fun fn => !(fn.name == "runtime.NumGoroutine")) = true := by kernel_rfl
theorem env0_ok (ω : Opq) (hω : ∀ t, ω.fix t = fixT Try.prog t) : env0.Ok ω := by
  refine ⟨hω, fun f fn h => ?_, fun f e h => ?_, fun _ _ _ _ h => (by cases h), fun _ _ _ h => (by cases h), fun _ _ _ h => (by cases h), fun _ _ _ _ _ h => (by cases h)⟩
  · have h1 := List.all_eq_true.1 names fn (by
      obtain ⟨h2, rfl⟩ := Array.getElem?_eq_some_iff.1 h
      exact Array.mem_toList_iff.2 (Array.getElem_mem h2))
    simpa using h1
  · cases h
theorem env_ok (ω : Opq) (hω : ∀ t, ω.fix t = fixT Try.prog t) : env.Ok ω :=
  let h := env0_ok ω hω
  ⟨h.fix, h.name, h.ext, h.bin, h.un, h.conv, h.blt⟩
theorem orders : Try.prog.follows .mixedOrders = true := by kernel_rfl
noncomputable def H0 : List HC := []
noncomputable def H1 : List HC := L0 ++ H0
noncomputable def H2 : List HC := L1 ++ H1
noncomputable def H3 : List HC := L2 ++ H2
noncomputable def H4 : List HC := L3 ++ H3
noncomputable def H5 : List HC := L4 ++ H4

theorem r_works : FC.run env0 1000000 h_works.f h_works.c h_works.c.args = T_works := by kernel_rfl
theorem r_pkA : FC.run (env.hooks H1) 1000000 h_pkA.f h_pkA.c h_pkA.c.args = T_pkA := by kernel_rfl
theorem r_pkB : FC.run (env.hooks H1) 1000000 h_pkB.f h_pkB.c h_pkB.c.args = T_pkB := by kernel_rfl
theorem r_pkC : FC.run (env.hooks H1) 1000000 h_pkC.f h_pkC.c h_pkC.c.args = T_pkC := by kernel_rfl
theorem r_pkD : FC.run (env.hooks H1) 1000000 h_pkD.f h_pkD.c h_pkD.c.args = T_pkD := by kernel_rfl
theorem r_numB : FC.run (env.hooks H1) 1000000 h_numB.f h_numB.c h_numB.c.args = T_numB := by kernel_rfl
theorem r_numC : FC.run (env.hooks H1) 1000000 h_numC.f h_numC.c h_numC.c.args = T_numC := by kernel_rfl
theorem r_numD : FC.run (env.hooks H1) 1000000 h_numD.f h_numD.c h_numD.c.args = T_numD := by kernel_rfl
theorem r_joinB : FC.run (env.hooks H1) 1000000 h_joinB.f h_joinB.c h_joinB.c.args = T_joinB := by kernel_rfl
theorem r_joinC : FC.run (env.hooks H1) 1000000 h_joinC.f h_joinC.c h_joinC.c.args = T_joinC := by kernel_rfl
theorem r_joinD : FC.run (env.hooks H1) 1000000 h_joinD.f h_joinD.c h_joinD.c.args = T_joinD := by kernel_rfl
theorem r_joinR : FC.run (env.hooks H1) 1000000 h_joinR.f h_joinR.c h_joinR.c.args = T_joinR := by kernel_rfl
theorem r_fewRows : FC.run (env.hooks H1) 1000000 h_fewRows.f h_fewRows.c h_fewRows.c.args = T_fewRows := by kernel_rfl
theorem r_few : FC.run (env.hooks H1) 1000000 h_few.f h_few.c h_few.c.args = T_few := by kernel_rfl
theorem r_rows : FC.run (env.hooks H1) 1000000 h_rows.f h_rows.c h_rows.c.args = T_rows := by kernel_rfl
theorem r_panes : FC.run (env.hooks H1) 1000000 h_panes.f h_panes.c h_panes.c.args = T_panes := by kernel_rfl
theorem r_equalRows : FC.run (env.hooks H1) 1000000 h_equalRows.f h_equalRows.c h_equalRows.c.args = T_equalRows := by kernel_rfl
theorem r_equalPanes : FC.run (env.hooks H1) 1000000 h_equalPanes.f h_equalPanes.c h_equalPanes.c.args = T_equalPanes := by kernel_rfl
theorem r_sameV : FC.run (env.hooks H1) 1000000 h_sameV.f h_sameV.c h_sameV.c.args = T_sameV := by kernel_rfl
theorem r_sameBytes : FC.run (env.hooks H1) 1000000 h_sameBytes.f h_sameBytes.c h_sameBytes.c.args = T_sameBytes := by kernel_rfl
theorem r_spoil : FC.run (env.hooks H1) 1000000 h_spoil.f h_spoil.c h_spoil.c.args = T_spoil := by kernel_rfl
theorem r_badRows : FC.run (env.hooks H1) 1000000 h_badRows.f h_badRows.c h_badRows.c.args = T_badRows := by kernel_rfl
theorem r_badPanes : FC.run (env.hooks H1) 1000000 h_badPanes.f h_badPanes.c h_badPanes.c.args = T_badPanes := by kernel_rfl
theorem r_putInt : FC.run (env.hooks H2) 1000000 h_putInt.f h_putInt.c h_putInt.c.args = T_putInt := by kernel_rfl
theorem r_intR : FC.run (env.hooks H2) 1000000 h_intR.f h_intR.c h_intR.c.args = T_intR := by kernel_rfl
theorem r_putText : FC.run (env.hooks H2) 1000000 h_putText.f h_putText.c h_putText.c.args = T_putText := by kernel_rfl
theorem r_text : FC.run (env.hooks H2) 1000000 h_text.f h_text.c h_text.c.args = T_text := by kernel_rfl
theorem r_fewRep : FC.run (env.hooks H2) 1000000 h_fewRep.f h_fewRep.c h_fewRep.c.args = T_fewRep := by kernel_rfl
theorem r_rep : FC.run (env.hooks H2) 1000000 h_rep.f h_rep.c h_rep.c.args = T_rep := by kernel_rfl
theorem r_same : FC.run (env.hooks H2) 1000000 h_same.f h_same.c h_same.c.args = T_same := by kernel_rfl
theorem r_sameR : FC.run (env.hooks H2) 1000000 h_sameR.f h_sameR.c h_sameR.c.args = T_sameR := by kernel_rfl
theorem r_pane : FC.run (env.hooks H3) 1000000 h_pane.f h_pane.c h_pane.c.args = T_pane := by kernel_rfl
theorem r_rightR0 : FC.run (env.hooks H3) 1000000 h_rightR.f h_rightR.c a_rightR0 = T_rightR0 := by kernel_rfl
theorem r_rightR1 : FC.run (env.hooks H3) 1000000 h_rightR.f h_rightR.c a_rightR1 = T_rightR1 := by kernel_rfl
theorem r_rightR2 : FC.run (env.hooks H3) 1000000 h_rightR.f h_rightR.c a_rightR2 = T_rightR2 := by kernel_rfl
theorem r_rightR3 : FC.run (env.hooks H3) 1000000 h_rightR.f h_rightR.c a_rightR3 = T_rightR3 := by kernel_rfl
theorem r_rightR4 : FC.run (env.hooks H3) 1000000 h_rightR.f h_rightR.c a_rightR4 = T_rightR4 := by kernel_rfl
theorem r_rightR5 : FC.run (env.hooks H3) 1000000 h_rightR.f h_rightR.c a_rightR5 = T_rightR5 := by kernel_rfl
theorem r_rightR6 : FC.run (env.hooks H3) 1000000 h_rightR.f h_rightR.c a_rightR6 = T_rightR6 := by kernel_rfl
theorem r_rightR7 : FC.run (env.hooks H3) 1000000 h_rightR.f h_rightR.c a_rightR7 = T_rightR7 := by kernel_rfl
theorem r_right0 : FC.run (env.hooks H3) 1000000 h_right.f h_right.c a_right0 = T_right0 := by kernel_rfl
theorem r_right1 : FC.run (env.hooks H3) 1000000 h_right.f h_right.c a_right1 = T_right1 := by kernel_rfl
theorem r_right2 : FC.run (env.hooks H3) 1000000 h_right.f h_right.c a_right2 = T_right2 := by kernel_rfl
theorem r_right3 : FC.run (env.hooks H3) 1000000 h_right.f h_right.c a_right3 = T_right3 := by kernel_rfl
theorem r_right4 : FC.run (env.hooks H3) 1000000 h_right.f h_right.c a_right4 = T_right4 := by kernel_rfl
theorem r_right5 : FC.run (env.hooks H3) 1000000 h_right.f h_right.c a_right5 = T_right5 := by kernel_rfl
theorem r_right6 : FC.run (env.hooks H3) 1000000 h_right.f h_right.c a_right6 = T_right6 := by kernel_rfl
theorem r_right7 : FC.run (env.hooks H3) 1000000 h_right.f h_right.c a_right7 = T_right7 := by kernel_rfl
theorem r_put0 : FC.run (env.hooks H4) 1000000 h_put.f h_put.c a_put0 = T_put0 := by kernel_rfl
theorem r_put1 : FC.run (env.hooks H4) 1000000 h_put.f h_put.c a_put1 = T_put1 := by kernel_rfl
theorem r_put2 : FC.run (env.hooks H4) 1000000 h_put.f h_put.c a_put2 = T_put2 := by kernel_rfl
theorem r_put3 : FC.run (env.hooks H4) 1000000 h_put.f h_put.c a_put3 = T_put3 := by kernel_rfl
theorem r_put4 : FC.run (env.hooks H4) 1000000 h_put.f h_put.c a_put4 = T_put4 := by kernel_rfl
theorem r_put5 : FC.run (env.hooks H4) 1000000 h_put.f h_put.c a_put5 = T_put5 := by kernel_rfl
theorem r_put6 : FC.run (env.hooks H4) 1000000 h_put.f h_put.c a_put6 = T_put6 := by kernel_rfl
theorem r_put7 : FC.run (env.hooks H4) 1000000 h_put.f h_put.c a_put7 = T_put7 := by kernel_rfl
theorem r_putR0 : FC.run (env.hooks H4) 1000000 h_putR.f h_putR.c a_putR0 = T_putR0 := by kernel_rfl
theorem r_putR1 : FC.run (env.hooks H4) 1000000 h_putR.f h_putR.c a_putR1 = T_putR1 := by kernel_rfl
theorem r_putR2 : FC.run (env.hooks H4) 1000000 h_putR.f h_putR.c a_putR2 = T_putR2 := by kernel_rfl
theorem r_putR3 : FC.run (env.hooks H4) 1000000 h_putR.f h_putR.c a_putR3 = T_putR3 := by kernel_rfl
theorem r_putR4 : FC.run (env.hooks H4) 1000000 h_putR.f h_putR.c a_putR4 = T_putR4 := by kernel_rfl
theorem r_putR5 : FC.run (env.hooks H4) 1000000 h_putR.f h_putR.c a_putR5 = T_putR5 := by kernel_rfl
theorem r_putR6 : FC.run (env.hooks H4) 1000000 h_putR.f h_putR.c a_putR6 = T_putR6 := by kernel_rfl
theorem r_putR7 : FC.run (env.hooks H4) 1000000 h_putR.f h_putR.c a_putR7 = T_putR7 := by kernel_rfl
theorem r_replyPuts : FC.run (env.hooks H5) 1000000 h_replyPuts.f h_replyPuts.c h_replyPuts.c.args = T_replyPuts := by kernel_rfl


def Om (ω : Opq) : Prop := OmF F Try.prog ω
theorem om_upd (ω : Opq) (v0 : Nat) (l : List Val) (h : Om ω) : Om (ω.upd v0 l) := h
theorem om_f {ω : Opq} (h : Om ω) : ∀ i a, ω.f i a = F i a := fun i a => by rw [h.1]
theorem e_ok (ω : Opq) (h : Om ω) : env.Ok ω := env_ok ω h.2
theorem e0_ok (ω : Opq) (h : Om ω) : env0.Ok ω := env0_ok ω h.2
theorem VRs_kind {β : Bij} {ω : Opq} {us : List Value} {k : IntKind} {n : Nat} {i : Int} {r : List AV} (h : (ω.w n).toI = i) (hv : VRs β ω [.agg (.oint k (.va n) :: r)] us) : VRs β ω [.agg (.int k i :: r)] us := by
  obtain ⟨v, vr, e, ⟨xs, e2, u, ur, e3, p1, p2⟩, q⟩ := hv
  refine ⟨v, vr, e, ⟨xs, e2, u, ur, e3, ?_, p2⟩, q⟩
  show u = .int k i
  rw [← h]; exact p1
theorem h0_ok : ∀ x ∈ H0, HcOk env Om x := fun x hx => by cases hx
theorem k_works : HcOk env Om h_works :=
  hc_step (E := env0) (cs := []) om_upd e0_ok orders (fun x hx => by cases hx) (n := 1000000) (by kernel_rfl) (fcMath1 (T := T_works) r_works fun ω hω hn => by
    exact rfl)
theorem l0_ok : ∀ x ∈ L0, HcOk env Om x := by
  exact hc_add (fun x hx => (by cases hx)) k_works
theorem h1_ok : ∀ x ∈ H1, HcOk env Om x := hc_app h0_ok l0_ok
theorem k_pkA : HcOk env Om h_pkA :=
  hc_step (E := env) (cs := H1) om_upd e_ok orders h1_ok (n := 1000000) (by kernel_rfl) (fcMath1 (T := T_pkA) r_pkA fun ω hω hn => by
    exact (t_pkA ).trans (by simp only [h_pkA, dens, den, prim, om_f hω, toI_vi, toL_vl]))
theorem k_pkB : HcOk env Om h_pkB :=
  hc_step (E := env) (cs := H1) om_upd e_ok orders h1_ok (n := 1000000) (by kernel_rfl) (fcMath1 (T := T_pkB) r_pkB fun ω hω hn => by
    exact (t_pkB ).trans (by simp only [h_pkB, dens, den, prim, om_f hω, toI_vi, toL_vl]))
theorem k_pkC : HcOk env Om h_pkC :=
  hc_step (E := env) (cs := H1) om_upd e_ok orders h1_ok (n := 1000000) (by kernel_rfl) (fcMath1 (T := T_pkC) r_pkC fun ω hω hn => by
    exact (t_pkC ).trans (by simp only [h_pkC, dens, den, prim, om_f hω, toI_vi, toL_vl]))
theorem k_pkD : HcOk env Om h_pkD :=
  hc_step (E := env) (cs := H1) om_upd e_ok orders h1_ok (n := 1000000) (by kernel_rfl) (fcMath1 (T := T_pkD) r_pkD fun ω hω hn => by
    exact (t_pkD ).trans (by simp only [h_pkD, dens, den, prim, om_f hω, toI_vi, toL_vl]))
theorem k_numB : HcOk env Om h_numB :=
  hc_step (E := env) (cs := H1) om_upd e_ok orders h1_ok (n := 1000000) (by kernel_rfl) (fcMath1 (T := T_numB) r_numB fun ω hω hn => by
    have hn := hn
    simp only [h_numB, dB, den, dens, prim, toB_vb, toI_vi, toL_vl, toS_vs, cmpI_leq, cmpI_eql, cmpI_lss, decide_eq_true_eq, Bool.and_eq_true, List.length_append] at hn
    exact (t_numB (by omega)).trans (by simp only [h_numB, dens, den, prim, om_f hω, toI_vi, toL_vl]))
theorem k_numC : HcOk env Om h_numC :=
  hc_step (E := env) (cs := H1) om_upd e_ok orders h1_ok (n := 1000000) (by kernel_rfl) (fcMath1 (T := T_numC) r_numC fun ω hω hn => by
    have hn := hn
    simp only [h_numC, dB, den, dens, prim, toB_vb, toI_vi, toL_vl, toS_vs, cmpI_leq, cmpI_eql, cmpI_lss, decide_eq_true_eq, Bool.and_eq_true, List.length_append] at hn
    exact (t_numC (by omega)).trans (by simp only [h_numC, dens, den, prim, om_f hω, toI_vi, toL_vl]))
theorem k_numD : HcOk env Om h_numD :=
  hc_step (E := env) (cs := H1) om_upd e_ok orders h1_ok (n := 1000000) (by kernel_rfl) (fcMath1 (T := T_numD) r_numD fun ω hω hn => by
    have hn := hn
    simp only [h_numD, dB, den, dens, prim, toB_vb, toI_vi, toL_vl, toS_vs, cmpI_leq, cmpI_eql, cmpI_lss, decide_eq_true_eq, Bool.and_eq_true, List.length_append] at hn
    exact (t_numD (by omega)).trans (by simp only [h_numD, dens, den, prim, om_f hω, toI_vi, toL_vl]))
theorem k_joinB : HcOk env Om h_joinB :=
  hc_step (E := env) (cs := H1) om_upd e_ok orders h1_ok (n := 1000000) (by kernel_rfl) (fcMath1 (T := T_joinB) r_joinB fun ω hω hn => by
    have hn := hn
    simp only [h_joinB, dB, den, dens, prim, toB_vb, toI_vi, toL_vl, toS_vs, cmpI_leq, cmpI_eql, cmpI_lss, decide_eq_true_eq, Bool.and_eq_true, List.length_append] at hn
    exact (t_joinB (by omega)).trans (by simp only [h_joinB, dens, den, prim, om_f hω, toI_vi, toL_vl]))
theorem k_joinC : HcOk env Om h_joinC :=
  hc_step (E := env) (cs := H1) om_upd e_ok orders h1_ok (n := 1000000) (by kernel_rfl) (fcMath1 (T := T_joinC) r_joinC fun ω hω hn => by
    have hn := hn
    simp only [h_joinC, dB, den, dens, prim, toB_vb, toI_vi, toL_vl, toS_vs, cmpI_leq, cmpI_eql, cmpI_lss, decide_eq_true_eq, Bool.and_eq_true, List.length_append] at hn
    exact (t_joinC (by omega)).trans (by simp only [h_joinC, dens, den, prim, om_f hω, toI_vi, toL_vl]))
theorem k_joinD : HcOk env Om h_joinD :=
  hc_step (E := env) (cs := H1) om_upd e_ok orders h1_ok (n := 1000000) (by kernel_rfl) (fcMath1 (T := T_joinD) r_joinD fun ω hω hn => by
    have hn := hn
    simp only [h_joinD, dB, den, dens, prim, toB_vb, toI_vi, toL_vl, toS_vs, cmpI_leq, cmpI_eql, cmpI_lss, decide_eq_true_eq, Bool.and_eq_true, List.length_append] at hn
    exact (t_joinD (by omega)).trans (by simp only [h_joinD, dens, den, prim, om_f hω, toI_vi, toL_vl]))
theorem k_joinR : HcOk env Om h_joinR :=
  hc_step (E := env) (cs := H1) om_upd e_ok orders h1_ok (n := 1000000) (by kernel_rfl) (fcMath1 (T := T_joinR) r_joinR fun ω hω hn => by
    have hn := hn
    simp only [h_joinR, dB, den, dens, prim, toB_vb, toI_vi, toL_vl, toS_vs, cmpI_leq, cmpI_eql, cmpI_lss, decide_eq_true_eq, Bool.and_eq_true, List.length_append] at hn
    exact (t_joinR (by omega)).trans (by simp only [h_joinR, dens, den, prim, om_f hω, toI_vi, toL_vl]))
theorem k_fewRows : HcOk env Om h_fewRows :=
  hc_step (E := env) (cs := H1) om_upd e_ok orders h1_ok (n := 1000000) (by kernel_rfl) (fcMath1 (T := T_fewRows) r_fewRows fun ω hω hn => by
    have hn := hn
    simp only [h_fewRows, dB, den, dens, prim, toB_vb, toI_vi, toL_vl, toS_vs, cmpI_leq, cmpI_eql, cmpI_lss, decide_eq_true_eq, Bool.and_eq_true, List.length_append] at hn
    exact (t_fewRows (om_f hω) (by omega)).trans (by simp only [h_fewRows, dens, den, prim, om_f hω, toI_vi, toL_vl]))
theorem k_few : HcOk env Om h_few :=
  hc_step (E := env) (cs := H1) om_upd e_ok orders h1_ok (n := 1000000) (by kernel_rfl) (fcMath1 (T := T_few) r_few fun ω hω hn => by
    have hn := hn
    simp only [h_few, dB, den, dens, prim, toB_vb, toI_vi, toL_vl, toS_vs, cmpI_leq, cmpI_eql, cmpI_lss, decide_eq_true_eq, Bool.and_eq_true, List.length_append] at hn
    exact (t_few (om_f hω) (by omega)).trans (by simp only [h_few, dens, den, prim, om_f hω, toI_vi, toL_vl]))
theorem k_rows : HcOk env Om h_rows :=
  hc_step (E := env) (cs := H1) om_upd e_ok orders h1_ok (n := 1000000) (by kernel_rfl) (fcMath1 (T := T_rows) r_rows fun ω hω hn => by
    have hn := hn
    simp only [h_rows, dB, den, dens, prim, toB_vb, toI_vi, toL_vl, toS_vs, cmpI_leq, cmpI_eql, cmpI_lss, decide_eq_true_eq, Bool.and_eq_true, List.length_append] at hn
    exact (t_rows (om_f hω) (by omega)).trans (by simp only [h_rows, dens, den, prim, om_f hω, toI_vi, toL_vl]))
theorem k_panes : HcOk env Om h_panes :=
  hc_step (E := env) (cs := H1) om_upd e_ok orders h1_ok (n := 1000000) (by kernel_rfl) (fcMath1 (T := T_panes) r_panes fun ω hω hn => by
    have hn := hn
    simp only [h_panes, dB, den, dens, prim, toB_vb, toI_vi, toL_vl, toS_vs, cmpI_leq, cmpI_eql, cmpI_lss, decide_eq_true_eq, Bool.and_eq_true, List.length_append] at hn
    exact (t_panes (om_f hω) (by omega)).trans (by simp only [h_panes, dens, den, prim, om_f hω, toI_vi, toL_vl]))
theorem k_equalRows : HcOk env Om h_equalRows :=
  hc_step (E := env) (cs := H1) om_upd e_ok orders h1_ok (n := 1000000) (by kernel_rfl) (fcMath1 (T := T_equalRows) r_equalRows fun ω hω hn => by
    have hn := hn
    simp only [h_equalRows, dB, den, dens, prim, toB_vb, toI_vi, toL_vl, toS_vs, cmpI_leq, cmpI_eql, cmpI_lss, decide_eq_true_eq, Bool.and_eq_true, List.length_append] at hn
    exact (t_equalRows (om_f hω) (by omega)).trans (by simp only [h_equalRows, dens, den, prim, om_f hω, toI_vi, toL_vl]))
theorem k_equalPanes : HcOk env Om h_equalPanes :=
  hc_step (E := env) (cs := H1) om_upd e_ok orders h1_ok (n := 1000000) (by kernel_rfl) (fcMath1 (T := T_equalPanes) r_equalPanes fun ω hω hn => by
    have hn := hn
    simp only [h_equalPanes, dB, den, dens, prim, toB_vb, toI_vi, toL_vl, toS_vs, cmpI_leq, cmpI_eql, cmpI_lss, decide_eq_true_eq, Bool.and_eq_true, List.length_append] at hn
    exact (t_equalPanes (om_f hω) (by omega)).trans (by simp only [h_equalPanes, dens, den, prim, om_f hω, toI_vi, toL_vl]))
theorem k_sameV : HcOk env Om h_sameV :=
  hc_step (E := env) (cs := H1) om_upd e_ok orders h1_ok (n := 1000000) (by kernel_rfl) (fcMath1 (T := T_sameV) r_sameV fun ω hω hn => by
    have hn := hn
    simp only [h_sameV, dB, den, dens, prim, toB_vb, toI_vi, toL_vl, toS_vs, cmpI_leq, cmpI_eql, cmpI_lss, decide_eq_true_eq, Bool.and_eq_true, List.length_append] at hn
    exact (t_sameV (om_f hω) (by omega)).trans (by simp only [h_sameV, dens, den, prim, om_f hω, toI_vi, toL_vl]))
theorem k_sameBytes : HcOk env Om h_sameBytes :=
  hc_step (E := env) (cs := H1) om_upd e_ok orders h1_ok (n := 1000000) (by kernel_rfl) (fcMath1 (T := T_sameBytes) r_sameBytes fun ω hω hn => by
    have hn := hn
    simp only [h_sameBytes, dB, den, dens, prim, toB_vb, toI_vi, toL_vl, toS_vs, cmpI_leq, cmpI_eql, cmpI_lss, decide_eq_true_eq, Bool.and_eq_true, List.length_append] at hn
    exact (t_sameBytes (om_f hω) (by omega)).trans (by simp only [h_sameBytes, dens, den, prim, om_f hω, toI_vi, toL_vl]))
theorem k_spoil : HcOk env Om h_spoil :=
  hc_step (E := env) (cs := H1) om_upd e_ok orders h1_ok (n := 1000000) (by kernel_rfl) (fcMath1 (T := T_spoil) r_spoil fun ω hω hn => by
    have hn := hn
    simp only [h_spoil, dB, den, dens, prim, toB_vb, toI_vi, toL_vl, toS_vs, cmpI_leq, cmpI_eql, cmpI_lss, decide_eq_true_eq, Bool.and_eq_true, List.length_append] at hn
    have h1 := hn.1
    have h2 := hn.2
    exact t_spoil (om_f hω) h1 (by omega))
theorem k_badRows : HcOk env Om h_badRows :=
  hc_step (E := env) (cs := H1) om_upd e_ok orders h1_ok (n := 1000000) (by kernel_rfl) (fcMath1 (T := T_badRows) r_badRows fun ω hω hn => by
    have hn := hn
    simp only [h_badRows, dB, den, dens, prim, toB_vb, toI_vi, toL_vl, toS_vs, cmpI_leq, cmpI_eql, cmpI_lss, decide_eq_true_eq, Bool.and_eq_true, List.length_append] at hn
    exact (t_badRows (om_f hω) (by omega)).trans (by simp only [h_badRows, dens, den, prim, om_f hω, toI_vi, toL_vl]))
theorem k_badPanes : HcOk env Om h_badPanes :=
  hc_step (E := env) (cs := H1) om_upd e_ok orders h1_ok (n := 1000000) (by kernel_rfl) (fcMath1 (T := T_badPanes) r_badPanes fun ω hω hn => by
    have hn := hn
    simp only [h_badPanes, dB, den, dens, prim, toB_vb, toI_vi, toL_vl, toS_vs, cmpI_leq, cmpI_eql, cmpI_lss, decide_eq_true_eq, Bool.and_eq_true, List.length_append] at hn
    exact (t_badPanes (om_f hω) (by omega)).trans (by simp only [h_badPanes, dens, den, prim, om_f hω, toI_vi, toL_vl]))
theorem l1_ok : ∀ x ∈ L1, HcOk env Om x := by
  exact hc_add (hc_add (hc_add (hc_add (hc_add (hc_add (hc_add (hc_add (hc_add (hc_add (hc_add (hc_add (hc_add (hc_add (hc_add (hc_add (hc_add (hc_add (hc_add (hc_add (hc_add (hc_add (fun x hx => (by cases hx)) k_badPanes) k_badRows) k_spoil) k_sameBytes) k_sameV) k_equalPanes) k_equalRows) k_panes) k_rows) k_few) k_fewRows) k_joinR) k_joinD) k_joinC) k_joinB) k_numD) k_numC) k_numB) k_pkD) k_pkC) k_pkB) k_pkA
theorem h2_ok : ∀ x ∈ H2, HcOk env Om x := hc_app h1_ok l1_ok
theorem k_putInt : HcOk env Om h_putInt :=
  hc_step (E := env) (cs := H2) om_upd e_ok orders h2_ok (n := 1000000) (by kernel_rfl) (fcMath1 (T := T_putInt) r_putInt fun ω hω hn => by
    exact (t_putInt (om_f hω)).trans (by simp only [h_putInt, dens, den, prim, om_f hω, toI_vi, toL_vl]))
theorem k_intR : HcOk env Om h_intR :=
  hc_step (E := env) (cs := H2) om_upd e_ok orders h2_ok (n := 1000000) (by kernel_rfl) (fcMath1 (T := T_intR) r_intR fun ω hω hn => by
    exact (t_intR (om_f hω)).trans (by simp only [h_intR, dens, den, prim, om_f hω, toI_vi, toL_vl]))
theorem k_putText : HcOk env Om h_putText :=
  hc_step (E := env) (cs := H2) om_upd e_ok orders h2_ok (n := 1000000) (by kernel_rfl) (fcMath1 (T := T_putText) r_putText fun ω hω hn => by
    have hn := hn
    simp only [h_putText, dB, den, dens, prim, toB_vb, toI_vi, toL_vl, toS_vs, cmpI_leq, cmpI_eql, cmpI_lss, decide_eq_true_eq, Bool.and_eq_true, List.length_append] at hn
    exact (t_putText (om_f hω) (by omega)).trans (by simp only [h_putText, dens, den, prim, om_f hω, toI_vi, toL_vl]))
theorem k_text : HcOk env Om h_text :=
  hc_step (E := env) (cs := H2) om_upd e_ok orders h2_ok (n := 1000000) (by kernel_rfl) (fcMath1 (T := T_text) r_text fun ω hω hn => by
    have hn := hn
    simp only [h_text, dB, den, dens, prim, toB_vb, toI_vi, toL_vl, toS_vs, cmpI_leq, cmpI_eql, cmpI_lss, decide_eq_true_eq, Bool.and_eq_true, List.length_append] at hn
    exact (t_text (om_f hω) (by omega)).trans (by simp only [h_text, dens, den, prim, om_f hω, toI_vi, toL_vl]))
theorem k_fewRep : HcOk env Om h_fewRep :=
  hc_step (E := env) (cs := H2) om_upd e_ok orders h2_ok (n := 1000000) (by kernel_rfl) (fcMath1 (T := T_fewRep) r_fewRep fun ω hω hn => by
    exact (t_fewRep (om_f hω)).trans (by simp only [h_fewRep, dens, den, prim, om_f hω, toI_vi, toL_vl]))
theorem k_rep : HcOk env Om h_rep :=
  hc_step (E := env) (cs := H2) om_upd e_ok orders h2_ok (n := 1000000) (by kernel_rfl) (fcMath1 (T := T_rep) r_rep fun ω hω hn => by
    have hn := hn
    simp only [h_rep, dB, den, dens, prim, toB_vb, toI_vi, toL_vl, toS_vs, cmpI_leq, cmpI_eql, cmpI_lss, decide_eq_true_eq, Bool.and_eq_true, List.length_append] at hn
    have h1 := hn.1
    have h2 := hn.2
    exact (t_rep (om_f hω) (by omega) (by omega)).trans (by simp only [h_rep, dens, den, prim, om_f hω, toI_vi, toL_vl]))
theorem k_same : HcOk env Om h_same :=
  hc_step (E := env) (cs := H2) om_upd e_ok orders h2_ok (n := 1000000) (by kernel_rfl) (fcMath1 (T := T_same) r_same fun ω hω hn => by
    have hn := hn
    simp only [h_same, dB, den, dens, prim, toB_vb, toI_vi, toL_vl, toS_vs, cmpI_leq, cmpI_eql, cmpI_lss, decide_eq_true_eq, Bool.and_eq_true, List.length_append] at hn
    have h1 := hn.1
    have h2 := hn.2
    exact (t_same (om_f hω) (by omega) (by omega)).trans (by simp only [h_same, dens, den, prim, om_f hω, toI_vi, toL_vl]))
theorem k_sameR : HcOk env Om h_sameR :=
  hc_step (E := env) (cs := H2) om_upd e_ok orders h2_ok (n := 1000000) (by kernel_rfl) (fcMath1 (T := T_sameR) r_sameR fun ω hω hn => by
    have hn := hn
    simp only [h_sameR, dB, den, dens, prim, toB_vb, toI_vi, toL_vl, toS_vs, cmpI_leq, cmpI_eql, cmpI_lss, decide_eq_true_eq, Bool.and_eq_true, List.length_append] at hn
    have h1 := hn.1
    have h2 := hn.2
    exact (t_sameR (om_f hω) (by omega) (by omega)).trans (by simp only [h_sameR, dens, den, prim, om_f hω, toI_vi, toL_vl]))
theorem l2_ok : ∀ x ∈ L2, HcOk env Om x := by
  exact hc_add (hc_add (hc_add (hc_add (hc_add (hc_add (hc_add (hc_add (fun x hx => (by cases hx)) k_sameR) k_same) k_rep) k_fewRep) k_text) k_putText) k_intR) k_putInt
theorem h3_ok : ∀ x ∈ H3, HcOk env Om x := hc_app h2_ok l2_ok
theorem k_pane : HcOk env Om h_pane :=
  hc_step (E := env) (cs := H3) om_upd e_ok orders h3_ok (n := 1000000) (by kernel_rfl) (fcMath1 (T := T_pane) r_pane fun ω hω hn => by
    have hn := hn
    simp only [h_pane, dB, den, dens, prim, toB_vb, toI_vi, toL_vl, toS_vs, cmpI_leq, cmpI_eql, cmpI_lss, decide_eq_true_eq, Bool.and_eq_true, List.length_append] at hn
    exact (t_pane (om_f hω) (by omega)).trans (by simp only [h_pane, dens, den, prim, om_f hω, toI_vi, toL_vl]))
theorem k_rightR : HcOk env Om h_rightR :=
  hc_step (E := env) (cs := H3) om_upd e_ok orders h3_ok (n := 1000000) (by kernel_rfl) (fun ω hω hn => by
    have hf := om_f hω
    have hn := hn
    simp only [h_rightR, dB, den, dens, prim, toB_vb, toI_vi, toL_vl, toS_vs, cmpI_leq, cmpI_eql, cmpI_lss, decide_eq_true_eq, Bool.and_eq_true, List.length_append] at hn
    have hw : fewM [ω.w 0, ω.w 1, ω.w 2, ω.w 3, ω.w 4, ω.w 5, ω.w 6, ω.w 7, ω.w 8, ω.w 9, ω.w 10, ω.w 11] = true := by
      rw [hf] at hn
      exact hn
    have fin : ∀ T : VT, evalT T ω = some (0, [F 4 [ω.w 0, ω.w 1, ω.w 2, ω.w 3, ω.w 4, ω.w 5, ω.w 6, ω.w 7, ω.w 8, ω.w 9, ω.w 10, ω.w 11]]) → evalT T ω = some (0, dens ω h_rightR.c.outs) := fun T e => e.trans (by simp only [h_rightR, dens, den, hf])
    by_cases hk : 1 ≤ (ω.w 0).toI ∧ (ω.w 0).toI ≤ 7
    · have : (ω.w 0).toI = 1 ∨ (ω.w 0).toI = 2 ∨ (ω.w 0).toI = 3 ∨ (ω.w 0).toI = 4 ∨ (ω.w 0).toI = 5 ∨ (ω.w 0).toI = 6 ∨ (ω.w 0).toI = 7 := by omega
      rcases this with e | e | e | e | e | e | e
      · exact ⟨a_rightR1, fun β us h => VRs_kind e h, by rw [r_rightR1]; exact fin _ (t_rightR1 hf e hw)⟩
      · exact ⟨a_rightR2, fun β us h => VRs_kind e h, by rw [r_rightR2]; exact fin _ (t_rightR2 hf e hw)⟩
      · exact ⟨a_rightR3, fun β us h => VRs_kind e h, by rw [r_rightR3]; exact fin _ (t_rightR3 hf e hw)⟩
      · exact ⟨a_rightR4, fun β us h => VRs_kind e h, by rw [r_rightR4]; exact fin _ (t_rightR4 hf e hw)⟩
      · exact ⟨a_rightR5, fun β us h => VRs_kind e h, by rw [r_rightR5]; exact fin _ (t_rightR5 hf e hw)⟩
      · exact ⟨a_rightR6, fun β us h => VRs_kind e h, by rw [r_rightR6]; exact fin _ (t_rightR6 hf e hw)⟩
      · exact ⟨a_rightR7, fun β us h => VRs_kind e h, by rw [r_rightR7]; exact fin _ (t_rightR7 hf e hw)⟩
    · exact ⟨a_rightR0, fun β us h => h, by rw [r_rightR0]; exact fin _ (t_rightR0 hf hk)⟩)
theorem k_right : HcOk env Om h_right :=
  hc_step (E := env) (cs := H3) om_upd e_ok orders h3_ok (n := 1000000) (by kernel_rfl) (fun ω hω hn => by
    have hf := om_f hω
    have hn := hn
    simp only [h_right, dB, den, dens, prim, toB_vb, toI_vi, toL_vl, toS_vs, cmpI_leq, cmpI_eql, cmpI_lss, decide_eq_true_eq, Bool.and_eq_true, List.length_append] at hn
    have hw : fewM [ω.w 0, ω.w 1, ω.w 2, ω.w 3, ω.w 4, ω.w 5, ω.w 6, ω.w 7, ω.w 8, ω.w 9, ω.w 10, ω.w 11] = true := by
      rw [hf] at hn
      exact hn
    have fin : ∀ T : VT, evalT T ω = some (0, [F 4 [ω.w 0, ω.w 1, ω.w 2, ω.w 3, ω.w 4, ω.w 5, ω.w 6, ω.w 7, ω.w 8, ω.w 9, ω.w 10, ω.w 11]]) → evalT T ω = some (0, dens ω h_right.c.outs) := fun T e => e.trans (by simp only [h_right, dens, den, hf])
    by_cases hk : 1 ≤ (ω.w 0).toI ∧ (ω.w 0).toI ≤ 7
    · have : (ω.w 0).toI = 1 ∨ (ω.w 0).toI = 2 ∨ (ω.w 0).toI = 3 ∨ (ω.w 0).toI = 4 ∨ (ω.w 0).toI = 5 ∨ (ω.w 0).toI = 6 ∨ (ω.w 0).toI = 7 := by omega
      rcases this with e | e | e | e | e | e | e
      · exact ⟨a_right1, fun β us h => VRs_kind e h, by rw [r_right1]; exact fin _ (t_right1 hf e hw)⟩
      · exact ⟨a_right2, fun β us h => VRs_kind e h, by rw [r_right2]; exact fin _ (t_right2 hf e hw)⟩
      · exact ⟨a_right3, fun β us h => VRs_kind e h, by rw [r_right3]; exact fin _ (t_right3 hf e hw)⟩
      · exact ⟨a_right4, fun β us h => VRs_kind e h, by rw [r_right4]; exact fin _ (t_right4 hf e hw)⟩
      · exact ⟨a_right5, fun β us h => VRs_kind e h, by rw [r_right5]; exact fin _ (t_right5 hf e hw)⟩
      · exact ⟨a_right6, fun β us h => VRs_kind e h, by rw [r_right6]; exact fin _ (t_right6 hf e hw)⟩
      · exact ⟨a_right7, fun β us h => VRs_kind e h, by rw [r_right7]; exact fin _ (t_right7 hf e hw)⟩
    · exact ⟨a_right0, fun β us h => h, by rw [r_right0]; exact fin _ (t_right0 hf hk)⟩)
theorem l3_ok : ∀ x ∈ L3, HcOk env Om x := by
  exact hc_add (hc_add (hc_add (fun x hx => (by cases hx)) k_right) k_rightR) k_pane
theorem h4_ok : ∀ x ∈ H4, HcOk env Om x := hc_app h3_ok l3_ok
theorem k_put : HcOk env Om h_put :=
  hc_step (E := env) (cs := H4) om_upd e_ok orders h4_ok (n := 1000000) (by kernel_rfl) (fun ω hω hn => by
    have hf := om_f hω
    have hn := hn
    simp only [h_put, dB, den, dens, prim, toB_vb, toI_vi, toL_vl, toS_vs, cmpI_leq, cmpI_eql, cmpI_lss, decide_eq_true_eq, Bool.and_eq_true, List.length_append] at hn
    have hw : fewM [ω.w 0, ω.w 1, ω.w 2, ω.w 3, ω.w 4, ω.w 5, ω.w 6, ω.w 7, ω.w 8, ω.w 9, ω.w 10, ω.w 11] = true := by
      rw [hf] at hn
      exact hn
    have fin : ∀ T : VT, evalT T ω = some (0, [F 6 [ω.w 0, ω.w 1, ω.w 2, ω.w 3, ω.w 4, ω.w 5, ω.w 6, ω.w 7, ω.w 8, ω.w 9, ω.w 10, ω.w 11], F 5 [ω.w 0, ω.w 1, ω.w 2, ω.w 3, ω.w 4, ω.w 5, ω.w 6, ω.w 7, ω.w 8, ω.w 9, ω.w 10, ω.w 11]]) → evalT T ω = some (0, dens ω h_put.c.outs) := fun T e => e.trans (by simp only [h_put, dens, den, hf])
    by_cases hk : 1 ≤ (ω.w 0).toI ∧ (ω.w 0).toI ≤ 7
    · have : (ω.w 0).toI = 1 ∨ (ω.w 0).toI = 2 ∨ (ω.w 0).toI = 3 ∨ (ω.w 0).toI = 4 ∨ (ω.w 0).toI = 5 ∨ (ω.w 0).toI = 6 ∨ (ω.w 0).toI = 7 := by omega
      rcases this with e | e | e | e | e | e | e
      · exact ⟨a_put1, fun β us h => VRs_kind e h, by rw [r_put1]; exact fin _ (t_put1 hf e hw)⟩
      · exact ⟨a_put2, fun β us h => VRs_kind e h, by rw [r_put2]; exact fin _ (t_put2 hf e hw)⟩
      · exact ⟨a_put3, fun β us h => VRs_kind e h, by rw [r_put3]; exact fin _ (t_put3 hf e hw)⟩
      · exact ⟨a_put4, fun β us h => VRs_kind e h, by rw [r_put4]; exact fin _ (t_put4 hf e hw)⟩
      · exact ⟨a_put5, fun β us h => VRs_kind e h, by rw [r_put5]; exact fin _ (t_put5 hf e hw)⟩
      · exact ⟨a_put6, fun β us h => VRs_kind e h, by rw [r_put6]; exact fin _ (t_put6 hf e hw)⟩
      · exact ⟨a_put7, fun β us h => VRs_kind e h, by rw [r_put7]; exact fin _ (t_put7 hf e hw)⟩
    · exact ⟨a_put0, fun β us h => h, by rw [r_put0]; exact fin _ (t_put0 hf hk hw)⟩)
theorem k_putR : HcOk env Om h_putR :=
  hc_step (E := env) (cs := H4) om_upd e_ok orders h4_ok (n := 1000000) (by kernel_rfl) (fun ω hω hn => by
    have hf := om_f hω
    have hn := hn
    simp only [h_putR, dB, den, dens, prim, toB_vb, toI_vi, toL_vl, toS_vs, cmpI_leq, cmpI_eql, cmpI_lss, decide_eq_true_eq, Bool.and_eq_true, List.length_append] at hn
    obtain ⟨⟨⟨⟨⟨⟨hn, p4⟩, p5⟩, p6⟩, p7⟩, p8⟩, p9⟩ := hn
    have hp : 0 ≤ (ω.w 4).toI ∧ 0 ≤ (ω.w 5).toI ∧ 0 ≤ (ω.w 6).toI ∧ 0 ≤ (ω.w 7).toI ∧ 0 ≤ (ω.w 8).toI ∧ 0 ≤ (ω.w 9).toI := ⟨p4, p5, p6, p7, p8, p9⟩
    have hw : fewM [ω.w 0, ω.w 1, ω.w 2, ω.w 3, ω.w 4, ω.w 5, ω.w 6, ω.w 7, ω.w 8, ω.w 9, ω.w 10, ω.w 11] = true := by
      rw [hf] at hn
      exact hn
    have fin : ∀ T : VT, evalT T ω = some (0, [F 6 [ω.w 0, ω.w 1, ω.w 2, ω.w 3, ω.w 4, ω.w 5, ω.w 6, ω.w 7, ω.w 8, ω.w 9, ω.w 10, ω.w 11], F 5 [ω.w 0, ω.w 1, ω.w 2, ω.w 3, ω.w 4, ω.w 5, ω.w 6, ω.w 7, ω.w 8, ω.w 9, ω.w 10, ω.w 11]]) → evalT T ω = some (0, dens ω h_putR.c.outs) := fun T e => e.trans (by simp only [h_putR, dens, den, hf])
    by_cases hk : 1 ≤ (ω.w 0).toI ∧ (ω.w 0).toI ≤ 7
    · have : (ω.w 0).toI = 1 ∨ (ω.w 0).toI = 2 ∨ (ω.w 0).toI = 3 ∨ (ω.w 0).toI = 4 ∨ (ω.w 0).toI = 5 ∨ (ω.w 0).toI = 6 ∨ (ω.w 0).toI = 7 := by omega
      rcases this with e | e | e | e | e | e | e
      · exact ⟨a_putR1, fun β us h => VRs_kind e h, by rw [r_putR1]; exact fin _ (t_putR1 hf e hw hp)⟩
      · exact ⟨a_putR2, fun β us h => VRs_kind e h, by rw [r_putR2]; exact fin _ (t_putR2 hf e hw hp)⟩
      · exact ⟨a_putR3, fun β us h => VRs_kind e h, by rw [r_putR3]; exact fin _ (t_putR3 hf e hw hp)⟩
      · exact ⟨a_putR4, fun β us h => VRs_kind e h, by rw [r_putR4]; exact fin _ (t_putR4 hf e hw hp)⟩
      · exact ⟨a_putR5, fun β us h => VRs_kind e h, by rw [r_putR5]; exact fin _ (t_putR5 hf e hw hp)⟩
      · exact ⟨a_putR6, fun β us h => VRs_kind e h, by rw [r_putR6]; exact fin _ (t_putR6 hf e hw hp)⟩
      · exact ⟨a_putR7, fun β us h => VRs_kind e h, by rw [r_putR7]; exact fin _ (t_putR7 hf e hw hp)⟩
    · exact ⟨a_putR0, fun β us h => h, by rw [r_putR0]; exact fin _ (t_putR0 hf hk hw)⟩)
theorem l4_ok : ∀ x ∈ L4, HcOk env Om x := by
  exact hc_add (hc_add (fun x hx => (by cases hx)) k_putR) k_put
theorem h5_ok : ∀ x ∈ H5, HcOk env Om x := hc_app h4_ok l4_ok
end Go.Proofs.Ytcgkdegokfkgjaa.Ctr
