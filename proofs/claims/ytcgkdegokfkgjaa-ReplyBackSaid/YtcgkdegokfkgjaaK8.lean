/- The contracts of the functions, in the seat's numbers; their runs. -/
import Derived.Test.YtcgkdegokfkgjaaRows
import Derived.Test.YtcgkdegokfkgjaaEK10
import Derived.ProofKit
set_option linter.unusedVariables false
set_option linter.unusedSimpArgs false
namespace Go.Proofs.Ytcgkdegokfkgjaa.Ctr
open Go Go.Ev

noncomputable def env0 : Env := ⟨Try.prog, fun f => none, fun _ => false, fun _ => false, fun _ _ _ => .bad, fun _ _ => none, fun _ _ _ _ => none⟩
noncomputable def loops (f : FuncId) (r : Nat) (a : Fr) (h : Heap) : Option LSpec := bif Nat.beq f 22 && Nat.beq r 2 then some (genL ⟨101, 2000, [4, 5, 6, 7, 8, 9, 10, 11, 12, 13, 14, 15, 16, 17], [], [2, 3], [], [0], [(.exit 0, []), (.ret, [])]⟩ a h) else bif Nat.beq f 23 && Nat.beq r 2 then some (genL ⟨102, 2000, [4, 5, 6, 7, 8, 9, 10, 11, 12, 13, 14, 15, 16], [], [2, 3], [], [0], [(.exit 0, []), (.ret, [])]⟩ a h) else bif Nat.beq f 45 && Nat.beq r 4 then some (genL ⟨105, 2000, [5, 14, 15, 16, 17, 18, 19, 20, 21, 22, 23, 24, 25], [], [4, 13], [], [0, 1, 12], [(.exit 0, []), (.ret, [])]⟩ a h) else bif Nat.beq f 46 && Nat.beq r 4 then some (genL ⟨106, 2000, [5, 14, 15, 16, 17, 18, 19, 20, 21, 22, 23, 24, 25], [], [4, 13], [], [0, 1, 12], [(.exit 0, []), (.ret, [])]⟩ a h) else bif Nat.beq f 11 && Nat.beq r 4 then some (genL ⟨108, 2000, [11, 12, 13, 14, 15, 16, 17, 18, 19, 20, 21, 22, 23, 24, 25], [], [4, 5], [], [0, 1], [(.exit 0, []), (.ret, [])]⟩ a h) else bif Nat.beq f 64 && Nat.beq r 2 then some (genL ⟨112, 2000, [5, 9, 10, 11, 12, 13, 14, 15, 16, 17, 18], [], [4, 8], [], [0, 1, 7], [(.exit 0, []), (.ret, [])]⟩ a h) else bif Nat.beq f 66 && Nat.beq r 2 then some (genL ⟨113, 2000, [5, 9, 10, 11, 12, 13, 14, 15, 16, 17, 18], [], [4, 8], [], [0, 1, 7], [(.exit 0, []), (.ret, [])]⟩ a h) else bif Nat.beq f 96 && Nat.beq r 2 then some (genL ⟨114, 2000, [5, 25, 26, 27, 28, 29, 30, 31, 32, 33, 34, 35, 36, 37, 38, 39, 40, 41, 42, 43, 44, 45, 46, 47, 48, 49, 50, 51, 52, 53, 54, 55, 56, 57, 58], [(0, some (0), 5, [.int .u8])], [24], [0], [0, 22, 23], [(.exit 0, [])]⟩ a h) else bif Nat.beq f 95 && Nat.beq r 2 then some (genL ⟨115, 2000, [5, 25, 26, 27, 28, 29, 30, 31], [(0, some (0), 5, [.int .u8])], [24], [0], [0, 22, 23], [(.exit 0, [])]⟩ a h) else bif Nat.beq f 114 && Nat.beq r 1 then some (genL ⟨119, 2000, [10, 11, 12, 13, 14, 15, 16, 17, 18, 19, 20, 21, 22, 23, 24, 25, 26, 27, 28, 29, 30, 31, 32, 33, 34, 35, 36, 37, 38, 39, 40, 41, 42, 43, 44, 45, 46, 47, 48, 49, 50, 51, 52], [(1, some (0), 79, [.str, .int .i64, .int .i64, .int .i64, .int .i64, .int .i64, .int .i64])], [4], [11001, 1000], [2000], [(.exit 0, [])]⟩ a h) else bif Nat.beq f 113 && Nat.beq r 1 then some (genL ⟨120, 2000, [10, 11, 12, 13, 14, 15, 16, 17, 18, 19, 20, 21, 22, 23, 24, 25, 26, 27, 28, 29, 30], [(1, some (0), 75, [.str, .int .i64, .int .i64])], [4], [11101, 1000], [2000], [(.exit 0, [])]⟩ a h) else none
noncomputable def env : Env := { env0 with lspec := loops }
def h_kindP (k : Int) : HC := ⟨52, 1, ⟨[.ptr 1 0], [.arr 5 [.int .u8] (.va 0), .cells 143 0 [.ous 0 (.op .llen [.va 0]) 1, .int .i64 0]], 1, .op .and [.app 39 [.va 0], .op .and [.op (.cmp .leq) [.ci 1, .op .llen [.va 0]], .app 49 [.va 0, .ci k]]], .oint .u8 (.va 1000), [some (.cells 143 0 [.osl 0 (.va 1001) (.va 1002) 1, .oint .i64 (.va 1003)])], [.ci k, .op .lget [.app 44 [.va 0, .op .row [.op .row [.ci 0, .op .llen [.va 0], .ci 0]], .ci 1], .ci 0, .ci 0], .op .lget [.app 44 [.va 0, .op .row [.op .row [.ci 0, .op .llen [.va 0], .ci 0]], .ci 1], .ci 0, .ci 1], .op .lget [.app 44 [.va 0, .op .row [.op .row [.ci 0, .op .llen [.va 0], .ci 0]], .ci 1], .ci 0, .ci 2]]⟩⟩
def h_works : HC := ⟨7, 0, ⟨[], [], 0, .cb true, .obool (.va 1000), [], [.cb true]⟩⟩
def L0 : List HC := [h_works]
def h_pkA : HC := ⟨31, 1, ⟨[.oint .u8 (.va 0)], [], 0, .cb true, .ous 0 (.op .llen [.va 1000]) 1, [some (.arr 5 [.int .u8] (.va 1000))], [.app 20 [.va 0, .ci 1]]⟩⟩
def h_pkB : HC := ⟨101, 1, ⟨[.oint .u16 (.va 0)], [], 0, .cb true, .ous 0 (.op .llen [.va 1000]) 1, [some (.arr 5 [.int .u8] (.va 1000))], [.app 20 [.va 0, .ci 2]]⟩⟩
def h_pkC : HC := ⟨32, 1, ⟨[.oint .u32 (.va 0)], [], 0, .cb true, .ous 0 (.op .llen [.va 1000]) 1, [some (.arr 5 [.int .u8] (.va 1000))], [.app 20 [.va 0, .ci 4]]⟩⟩
def h_pkD : HC := ⟨98, 1, ⟨[.oint .u64 (.va 0)], [], 0, .cb true, .ous 0 (.op .llen [.va 1000]) 1, [some (.arr 5 [.int .u8] (.va 1000))], [.app 20 [.va 0, .ci 8]]⟩⟩
def h_joinB : HC := ⟨30, 2, ⟨[.sl 0 0 2 2], [.cells 36 0 [.osl 1 (.ci 0) (.op .llen [.va 0]) 1, .osl 2 (.ci 0) (.op .llen [.va 1]) 1], .arr 5 [.int .u8] (.va 0), .arr 5 [.int .u8] (.va 1)], 3, .op (.cmp .leq) [.op .llen [.op .lcat [.va 0, .va 1]], .ci 100000], .ous 3 (.op .llen [.va 1000]) 1, [some (.arr 5 [.int .u8] (.va 1000))], [.op .lcat [.va 0, .va 1]]⟩⟩
def h_joinC : HC := ⟨30, 3, ⟨[.sl 0 0 3 3], [.cells 36 0 [.osl 1 (.ci 0) (.op .llen [.va 0]) 1, .osl 2 (.ci 0) (.op .llen [.va 1]) 1, .osl 3 (.ci 0) (.op .llen [.va 2]) 1], .arr 5 [.int .u8] (.va 0), .arr 5 [.int .u8] (.va 1), .arr 5 [.int .u8] (.va 2)], 4, .op (.cmp .leq) [.op .llen [.op .lcat [.op .lcat [.va 0, .va 1], .va 2]], .ci 100000], .ous 4 (.op .llen [.va 1000]) 1, [some (.arr 5 [.int .u8] (.va 1000))], [.op .lcat [.op .lcat [.va 0, .va 1], .va 2]]⟩⟩
def h_joinD : HC := ⟨30, 4, ⟨[.sl 0 0 4 4], [.cells 36 0 [.osl 1 (.ci 0) (.op .llen [.va 0]) 1, .osl 2 (.ci 0) (.op .llen [.va 1]) 1, .osl 3 (.ci 0) (.op .llen [.va 2]) 1, .osl 4 (.ci 0) (.op .llen [.va 3]) 1], .arr 5 [.int .u8] (.va 0), .arr 5 [.int .u8] (.va 1), .arr 5 [.int .u8] (.va 2), .arr 5 [.int .u8] (.va 3)], 5, .op (.cmp .leq) [.op .llen [.op .lcat [.op .lcat [.op .lcat [.va 0, .va 1], .va 2], .va 3]], .ci 100000], .ous 5 (.op .llen [.va 1000]) 1, [some (.arr 5 [.int .u8] (.va 1000))], [.op .lcat [.op .lcat [.op .lcat [.va 0, .va 1], .va 2], .va 3]]⟩⟩
def h_fewRows : HC := ⟨22, 1, ⟨[.osl 0 (.ci 0) (.op .llen [.va 0]) 7], [.arr 4294967295 [.str, .int .i64, .int .i64, .int .i64, .int .i64, .int .i64, .int .i64] (.va 0)], 1, .op (.cmp .leq) [.op .llen [.va 0], .ci 1000], .obool (.va 1000), [], [.app 1 [.va 0]]⟩⟩
def h_few : HC := ⟨23, 1, ⟨[.osl 0 (.ci 0) (.op .llen [.va 0]) 3], [.arr 4294967295 [.str, .int .i64, .int .i64] (.va 0)], 1, .op (.cmp .leq) [.op .llen [.va 0], .ci 1000], .obool (.va 1000), [], [.app 2 [.va 0]]⟩⟩
def h_equalRows : HC := ⟨45, 2, ⟨[.osl 0 (.ci 0) (.op .llen [.va 0]) 7, .osl 1 (.ci 0) (.op .llen [.va 1]) 7], [.arr 4294967295 [.str, .int .i64, .int .i64, .int .i64, .int .i64, .int .i64, .int .i64] (.va 0), .arr 4294967295 [.str, .int .i64, .int .i64, .int .i64, .int .i64, .int .i64, .int .i64] (.va 1)], 2, .op (.cmp .leq) [.op .llen [.va 0], .ci 1000000], .obool (.va 1000), [], [.app 3 [.va 0, .va 1]]⟩⟩
def h_equalPanes : HC := ⟨46, 2, ⟨[.osl 0 (.ci 0) (.op .llen [.va 0]) 3, .osl 1 (.ci 0) (.op .llen [.va 1]) 3], [.arr 4294967295 [.str, .int .i64, .int .i64] (.va 0), .arr 4294967295 [.str, .int .i64, .int .i64] (.va 1)], 2, .op (.cmp .leq) [.op .llen [.va 0], .ci 1000000], .obool (.va 1000), [], [.app 11 [.va 0, .va 1]]⟩⟩
def h_sameBytes : HC := ⟨11, 2, ⟨[.osl 0 (.ci 0) (.op .llen [.va 0]) 1, .osl 1 (.ci 0) (.op .llen [.va 1]) 1], [.arr 4294967295 [.int .u8] (.va 0), .arr 4294967295 [.int .u8] (.va 1)], 2, .op (.cmp .leq) [.op .llen [.va 0], .ci 1000000], .obool (.va 1000), [], [.app 12 [.va 0, .va 1]]⟩⟩
def h_badRows : HC := ⟨35, 1, ⟨[.osl 0 (.ci 0) (.op .llen [.va 0]) 7, .func (.func 36) [] []], [.arr 4294967295 [.str, .int .i64, .int .i64, .int .i64, .int .i64, .int .i64, .int .i64] (.va 0)], 1, .op (.cmp .leq) [.op .llen [.va 0], .ci 1000], .obool (.va 1000), [], [.app 9 [.va 0]]⟩⟩
def h_badPanes : HC := ⟨40, 1, ⟨[.osl 0 (.ci 0) (.op .llen [.va 0]) 3, .func (.func 41) [] []], [.arr 4294967295 [.str, .int .i64, .int .i64] (.va 0)], 1, .op (.cmp .leq) [.op .llen [.va 0], .ci 1000], .obool (.va 1000), [], [.app 10 [.va 0]]⟩⟩
def h_u8 : HC := ⟨52, 2, ⟨[.ptr 1 0], [.arr 5 [.int .u8] (.va 0), .cells 143 0 [.osl 0 (.op .lget [.va 1, .ci 0, .ci 0]) (.op .lget [.va 1, .ci 0, .ci 1]) 1, .oint .i64 (.op .lget [.va 1, .ci 0, .ci 2])]], 1, .app 46 [.va 0, .va 1], .oint .u8 (.va 1000), [some (.cells 143 0 [.osl 0 (.va 1001) (.va 1002) 1, .oint .i64 (.va 1003)])], [.app 40 [.va 0, .va 1, .ci 1], .op .lget [.app 44 [.va 0, .va 1, .ci 1], .ci 0, .ci 0], .op .lget [.app 44 [.va 0, .va 1, .ci 1], .ci 0, .ci 1], .op .lget [.app 44 [.va 0, .va 1, .ci 1], .ci 0, .ci 2]]⟩⟩
def h_u16 : HC := ⟨118, 2, ⟨[.ptr 1 0], [.arr 5 [.int .u8] (.va 0), .cells 143 0 [.osl 0 (.op .lget [.va 1, .ci 0, .ci 0]) (.op .lget [.va 1, .ci 0, .ci 1]) 1, .oint .i64 (.op .lget [.va 1, .ci 0, .ci 2])]], 1, .app 46 [.va 0, .va 1], .oint .u16 (.va 1000), [some (.cells 143 0 [.osl 0 (.va 1001) (.va 1002) 1, .oint .i64 (.va 1003)])], [.app 40 [.va 0, .va 1, .ci 2], .op .lget [.app 44 [.va 0, .va 1, .ci 2], .ci 0, .ci 0], .op .lget [.app 44 [.va 0, .va 1, .ci 2], .ci 0, .ci 1], .op .lget [.app 44 [.va 0, .va 1, .ci 2], .ci 0, .ci 2]]⟩⟩
def h_u32 : HC := ⟨53, 2, ⟨[.ptr 1 0], [.arr 5 [.int .u8] (.va 0), .cells 143 0 [.osl 0 (.op .lget [.va 1, .ci 0, .ci 0]) (.op .lget [.va 1, .ci 0, .ci 1]) 1, .oint .i64 (.op .lget [.va 1, .ci 0, .ci 2])]], 1, .app 46 [.va 0, .va 1], .oint .u32 (.va 1000), [some (.cells 143 0 [.osl 0 (.va 1001) (.va 1002) 1, .oint .i64 (.va 1003)])], [.app 40 [.va 0, .va 1, .ci 4], .op .lget [.app 44 [.va 0, .va 1, .ci 4], .ci 0, .ci 0], .op .lget [.app 44 [.va 0, .va 1, .ci 4], .ci 0, .ci 1], .op .lget [.app 44 [.va 0, .va 1, .ci 4], .ci 0, .ci 2]]⟩⟩
def h_u64 : HC := ⟨116, 2, ⟨[.ptr 1 0], [.arr 5 [.int .u8] (.va 0), .cells 143 0 [.osl 0 (.op .lget [.va 1, .ci 0, .ci 0]) (.op .lget [.va 1, .ci 0, .ci 1]) 1, .oint .i64 (.op .lget [.va 1, .ci 0, .ci 2])]], 1, .app 46 [.va 0, .va 1], .oint .u64 (.va 1000), [some (.cells 143 0 [.osl 0 (.va 1001) (.va 1002) 1, .oint .i64 (.va 1003)])], [.app 40 [.va 0, .va 1, .ci 8], .op .lget [.app 44 [.va 0, .va 1, .ci 8], .ci 0, .ci 0], .op .lget [.app 44 [.va 0, .va 1, .ci 8], .ci 0, .ci 1], .op .lget [.app 44 [.va 0, .va 1, .ci 8], .ci 0, .ci 2]]⟩⟩
def L1 : List HC := [h_pkA, h_pkB, h_pkC, h_pkD, h_joinB, h_joinC, h_joinD, h_fewRows, h_few, h_equalRows, h_equalPanes, h_sameBytes, h_badRows, h_badPanes, h_u8, h_u16, h_u32, h_u64]
def h_putInt : HC := ⟨100, 1, ⟨[.oint .i64 (.va 0)], [], 0, .cb true, .ous 0 (.op .llen [.va 1000]) 1, [some (.arr 5 [.int .u8] (.va 1000))], [.app 20 [.op (.conv .u64) [.va 0], .ci 8]]⟩⟩
def h_putText : HC := ⟨103, 1, ⟨[.ostr (.va 0)], [], 0, .op (.cmp .leq) [.op .slen [.va 0], .ci 65535], .tup [.ous 0 (.op .llen [.va 1001]) 1, .oint .i64 (.va 1000)], [some (.arr 5 [.int .u8] (.va 1001))], [.ci 0, .app 21 [.va 0]]⟩⟩
def h_fewRep : HC := ⟨6, 12, ⟨[.agg [.oint .u8 (.va 0), .oint .u32 (.va 1), .oint .u16 (.va 2), .obool (.va 3), .oint .u64 (.va 4), .oint .u64 (.va 5), .oint .u64 (.va 6), .oint .u64 (.va 7), .oint .u64 (.va 8), .oint .u64 (.va 9), .osl 0 (.ci 0) (.op .llen [.va 10]) 7, .osl 1 (.ci 0) (.op .llen [.va 11]) 3]], [.arr 4294967295 [.str, .int .i64, .int .i64, .int .i64, .int .i64, .int .i64, .int .i64] (.va 10), .arr 4294967295 [.str, .int .i64, .int .i64] (.va 11)], 2, .cb true, .obool (.va 1000), [], [.app 8 [.va 0, .va 1, .va 2, .va 3, .va 4, .va 5, .va 6, .va 7, .va 8, .va 9, .va 10, .va 11]]⟩⟩
def h_same : HC := ⟨15, 24, ⟨[.agg [.oint .u8 (.va 0), .oint .u32 (.va 1), .oint .u16 (.va 2), .obool (.va 3), .oint .u64 (.va 4), .oint .u64 (.va 5), .oint .u64 (.va 6), .oint .u64 (.va 7), .oint .u64 (.va 8), .oint .u64 (.va 9), .osl 0 (.ci 0) (.op .llen [.va 10]) 7, .osl 1 (.ci 0) (.op .llen [.va 11]) 3], .agg [.oint .u8 (.va 12), .oint .u32 (.va 13), .oint .u16 (.va 14), .obool (.va 15), .oint .u64 (.va 16), .oint .u64 (.va 17), .oint .u64 (.va 18), .oint .u64 (.va 19), .oint .u64 (.va 20), .oint .u64 (.va 21), .osl 2 (.ci 0) (.op .llen [.va 22]) 7, .osl 3 (.ci 0) (.op .llen [.va 23]) 3]], [.arr 4294967295 [.str, .int .i64, .int .i64, .int .i64, .int .i64, .int .i64, .int .i64] (.va 10), .arr 4294967295 [.str, .int .i64, .int .i64] (.va 11), .arr 4294967295 [.str, .int .i64, .int .i64, .int .i64, .int .i64, .int .i64, .int .i64] (.va 22), .arr 4294967295 [.str, .int .i64, .int .i64] (.va 23)], 4, .op .and [.op (.cmp .leq) [.op .llen [.va 10], .ci 1000000], .op (.cmp .leq) [.op .llen [.va 11], .ci 1000000]], .obool (.va 1000), [], [.app 7 [.va 0, .va 1, .va 2, .va 3, .va 4, .va 5, .va 6, .va 7, .va 8, .va 9, .va 10, .va 11, .va 12, .va 13, .va 14, .va 15, .va 16, .va 17, .va 18, .va 19, .va 20, .va 21, .va 22, .va 23]]⟩⟩
def h_textP : HC := ⟨120, 2, ⟨[.ptr 1 0], [.arr 5 [.int .u8] (.va 0), .cells 143 0 [.osl 0 (.op .lget [.va 1, .ci 0, .ci 0]) (.op .lget [.va 1, .ci 0, .ci 1]) 1, .oint .i64 (.op .lget [.va 1, .ci 0, .ci 2])]], 1, .app 46 [.va 0, .va 1], .ostr (.va 1000), [some (.cells 143 0 [.osl 0 (.va 1001) (.va 1002) 1, .oint .i64 (.va 1003)])], [.app 70 [.va 0, .va 1], .op .lget [.app 71 [.va 0, .va 1], .ci 0, .ci 0], .op .lget [.app 71 [.va 0, .va 1], .ci 0, .ci 1], .op .lget [.app 71 [.va 0, .va 1], .ci 0, .ci 2]]⟩⟩
def L2 : List HC := [h_putInt, h_putText, h_fewRep, h_same, h_textP]
def h_right : HC := ⟨13, 12, ⟨[.agg [.oint .u8 (.va 0), .oint .u32 (.va 1), .oint .u16 (.va 2), .obool (.va 3), .oint .u64 (.va 4), .oint .u64 (.va 5), .oint .u64 (.va 6), .oint .u64 (.va 7), .oint .u64 (.va 8), .oint .u64 (.va 9), .osl 0 (.ci 0) (.op .llen [.va 10]) 7, .osl 1 (.ci 0) (.op .llen [.va 11]) 3]], [.arr 4294967295 [.str, .int .i64, .int .i64, .int .i64, .int .i64, .int .i64, .int .i64] (.va 10), .arr 4294967295 [.str, .int .i64, .int .i64] (.va 11)], 2, .op .and [.op (.cmp .leq) [.op .llen [.va 10], .ci 1000], .op (.cmp .leq) [.op .llen [.va 11], .ci 1000]], .obool (.va 1000), [], [.app 4 [.va 0, .va 1, .va 2, .va 3, .va 4, .va 5, .va 6, .va 7, .va 8, .va 9, .va 10, .va 11]]⟩⟩
def a_right0 : List AV := [.agg [.oint .u8 (.va 0), .oint .u32 (.va 1), .oint .u16 (.va 2), .obool (.va 3), .oint .u64 (.va 4), .oint .u64 (.va 5), .oint .u64 (.va 6), .oint .u64 (.va 7), .oint .u64 (.va 8), .oint .u64 (.va 9), .osl 0 (.ci 0) (.op .llen [.va 10]) 7, .osl 1 (.ci 0) (.op .llen [.va 11]) 3]]
def a_right1 : List AV := [.agg [.int .u8 1, .oint .u32 (.va 1), .oint .u16 (.va 2), .obool (.va 3), .oint .u64 (.va 4), .oint .u64 (.va 5), .oint .u64 (.va 6), .oint .u64 (.va 7), .oint .u64 (.va 8), .oint .u64 (.va 9), .osl 0 (.ci 0) (.op .llen [.va 10]) 7, .osl 1 (.ci 0) (.op .llen [.va 11]) 3]]
def a_right2 : List AV := [.agg [.int .u8 2, .oint .u32 (.va 1), .oint .u16 (.va 2), .obool (.va 3), .oint .u64 (.va 4), .oint .u64 (.va 5), .oint .u64 (.va 6), .oint .u64 (.va 7), .oint .u64 (.va 8), .oint .u64 (.va 9), .osl 0 (.ci 0) (.op .llen [.va 10]) 7, .osl 1 (.ci 0) (.op .llen [.va 11]) 3]]
def a_right3 : List AV := [.agg [.int .u8 3, .oint .u32 (.va 1), .oint .u16 (.va 2), .obool (.va 3), .oint .u64 (.va 4), .oint .u64 (.va 5), .oint .u64 (.va 6), .oint .u64 (.va 7), .oint .u64 (.va 8), .oint .u64 (.va 9), .osl 0 (.ci 0) (.op .llen [.va 10]) 7, .osl 1 (.ci 0) (.op .llen [.va 11]) 3]]
def a_right4 : List AV := [.agg [.int .u8 4, .oint .u32 (.va 1), .oint .u16 (.va 2), .obool (.va 3), .oint .u64 (.va 4), .oint .u64 (.va 5), .oint .u64 (.va 6), .oint .u64 (.va 7), .oint .u64 (.va 8), .oint .u64 (.va 9), .osl 0 (.ci 0) (.op .llen [.va 10]) 7, .osl 1 (.ci 0) (.op .llen [.va 11]) 3]]
def a_right5 : List AV := [.agg [.int .u8 5, .oint .u32 (.va 1), .oint .u16 (.va 2), .obool (.va 3), .oint .u64 (.va 4), .oint .u64 (.va 5), .oint .u64 (.va 6), .oint .u64 (.va 7), .oint .u64 (.va 8), .oint .u64 (.va 9), .osl 0 (.ci 0) (.op .llen [.va 10]) 7, .osl 1 (.ci 0) (.op .llen [.va 11]) 3]]
def a_right6 : List AV := [.agg [.int .u8 6, .oint .u32 (.va 1), .oint .u16 (.va 2), .obool (.va 3), .oint .u64 (.va 4), .oint .u64 (.va 5), .oint .u64 (.va 6), .oint .u64 (.va 7), .oint .u64 (.va 8), .oint .u64 (.va 9), .osl 0 (.ci 0) (.op .llen [.va 10]) 7, .osl 1 (.ci 0) (.op .llen [.va 11]) 3]]
def a_right7 : List AV := [.agg [.int .u8 7, .oint .u32 (.va 1), .oint .u16 (.va 2), .obool (.va 3), .oint .u64 (.va 4), .oint .u64 (.va 5), .oint .u64 (.va 6), .oint .u64 (.va 7), .oint .u64 (.va 8), .oint .u64 (.va 9), .osl 0 (.ci 0) (.op .llen [.va 10]) 7, .osl 1 (.ci 0) (.op .llen [.va 11]) 3]]
def h_paneP : HC := ⟨117, 3, ⟨[.ptr 1 0], [.arr 5 [.int .u8] (.va 0), .cells 106 0 [.ptr 2 0, .obool (.va 2)], .cells 143 0 [.osl 0 (.op .lget [.va 1, .ci 0, .ci 0]) (.op .lget [.va 1, .ci 0, .ci 1]) 1, .oint .i64 (.op .lget [.va 1, .ci 0, .ci 2])]], 2, .app 46 [.va 0, .va 1], .agg [.ostr (.va 1000), .oint .i64 (.va 1001), .oint .i64 (.va 1002)], [some (.cells 143 0 [.osl 0 (.va 1003) (.va 1004) 1, .oint .i64 (.va 1005)])], [.op .lget [.app 74 [.va 0, .va 1], .ci 0, .ci 0], .op .lget [.app 74 [.va 0, .va 1], .ci 0, .ci 1], .op .lget [.app 74 [.va 0, .va 1], .ci 0, .ci 2], .op .lget [.app 75 [.va 0, .va 1], .ci 0, .ci 0], .op .lget [.app 75 [.va 0, .va 1], .ci 0, .ci 1], .op .lget [.app 75 [.va 0, .va 1], .ci 0, .ci 2]]⟩⟩
def L3 : List HC := [h_right, h_paneP]
def h_put : HC := ⟨10, 12, ⟨[.agg [.oint .u8 (.va 0), .oint .u32 (.va 1), .oint .u16 (.va 2), .obool (.va 3), .oint .u64 (.va 4), .oint .u64 (.va 5), .oint .u64 (.va 6), .oint .u64 (.va 7), .oint .u64 (.va 8), .oint .u64 (.va 9), .osl 0 (.ci 0) (.op .llen [.va 10]) 7, .osl 1 (.ci 0) (.op .llen [.va 11]) 3]], [.arr 4294967295 [.str, .int .i64, .int .i64, .int .i64, .int .i64, .int .i64, .int .i64] (.va 10), .arr 4294967295 [.str, .int .i64, .int .i64] (.va 11)], 2, .app 8 [.va 0, .va 1, .va 2, .va 3, .va 4, .va 5, .va 6, .va 7, .va 8, .va 9, .va 10, .va 11], .tup [.ous 2 (.op .llen [.va 1001]) 1, .oint .i64 (.va 1000)], [some (.arr 5 [.int .u8] (.va 1001))], [.app 6 [.va 0, .va 1, .va 2, .va 3, .va 4, .va 5, .va 6, .va 7, .va 8, .va 9, .va 10, .va 11], .app 5 [.va 0, .va 1, .va 2, .va 3, .va 4, .va 5, .va 6, .va 7, .va 8, .va 9, .va 10, .va 11]]⟩⟩
def a_put0 : List AV := [.agg [.oint .u8 (.va 0), .oint .u32 (.va 1), .oint .u16 (.va 2), .obool (.va 3), .oint .u64 (.va 4), .oint .u64 (.va 5), .oint .u64 (.va 6), .oint .u64 (.va 7), .oint .u64 (.va 8), .oint .u64 (.va 9), .osl 0 (.ci 0) (.op .llen [.va 10]) 7, .osl 1 (.ci 0) (.op .llen [.va 11]) 3]]
def a_put1 : List AV := [.agg [.int .u8 1, .oint .u32 (.va 1), .oint .u16 (.va 2), .obool (.va 3), .oint .u64 (.va 4), .oint .u64 (.va 5), .oint .u64 (.va 6), .oint .u64 (.va 7), .oint .u64 (.va 8), .oint .u64 (.va 9), .osl 0 (.ci 0) (.op .llen [.va 10]) 7, .osl 1 (.ci 0) (.op .llen [.va 11]) 3]]
def a_put2 : List AV := [.agg [.int .u8 2, .oint .u32 (.va 1), .oint .u16 (.va 2), .obool (.va 3), .oint .u64 (.va 4), .oint .u64 (.va 5), .oint .u64 (.va 6), .oint .u64 (.va 7), .oint .u64 (.va 8), .oint .u64 (.va 9), .osl 0 (.ci 0) (.op .llen [.va 10]) 7, .osl 1 (.ci 0) (.op .llen [.va 11]) 3]]
def a_put3 : List AV := [.agg [.int .u8 3, .oint .u32 (.va 1), .oint .u16 (.va 2), .obool (.va 3), .oint .u64 (.va 4), .oint .u64 (.va 5), .oint .u64 (.va 6), .oint .u64 (.va 7), .oint .u64 (.va 8), .oint .u64 (.va 9), .osl 0 (.ci 0) (.op .llen [.va 10]) 7, .osl 1 (.ci 0) (.op .llen [.va 11]) 3]]
def a_put4 : List AV := [.agg [.int .u8 4, .oint .u32 (.va 1), .oint .u16 (.va 2), .obool (.va 3), .oint .u64 (.va 4), .oint .u64 (.va 5), .oint .u64 (.va 6), .oint .u64 (.va 7), .oint .u64 (.va 8), .oint .u64 (.va 9), .osl 0 (.ci 0) (.op .llen [.va 10]) 7, .osl 1 (.ci 0) (.op .llen [.va 11]) 3]]
def a_put5 : List AV := [.agg [.int .u8 5, .oint .u32 (.va 1), .oint .u16 (.va 2), .obool (.va 3), .oint .u64 (.va 4), .oint .u64 (.va 5), .oint .u64 (.va 6), .oint .u64 (.va 7), .oint .u64 (.va 8), .oint .u64 (.va 9), .osl 0 (.ci 0) (.op .llen [.va 10]) 7, .osl 1 (.ci 0) (.op .llen [.va 11]) 3]]
def a_put6 : List AV := [.agg [.int .u8 6, .oint .u32 (.va 1), .oint .u16 (.va 2), .obool (.va 3), .oint .u64 (.va 4), .oint .u64 (.va 5), .oint .u64 (.va 6), .oint .u64 (.va 7), .oint .u64 (.va 8), .oint .u64 (.va 9), .osl 0 (.ci 0) (.op .llen [.va 10]) 7, .osl 1 (.ci 0) (.op .llen [.va 11]) 3]]
def a_put7 : List AV := [.agg [.int .u8 7, .oint .u32 (.va 1), .oint .u16 (.va 2), .obool (.va 3), .oint .u64 (.va 4), .oint .u64 (.va 5), .oint .u64 (.va 6), .oint .u64 (.va 7), .oint .u64 (.va 8), .oint .u64 (.va 9), .osl 0 (.ci 0) (.op .llen [.va 10]) 7, .osl 1 (.ci 0) (.op .llen [.va 11]) 3]]
def L4 : List HC := [h_put]
def h_parse : HC := ⟨19, 1, ⟨[.osl 0 (.ci 0) (.op .llen [.va 0]) 1], [.arr 4294967295 [.int .u8] (.va 0)], 1, .op .and [.op (.cmp .leq) [.op .llen [.va 0], .ci 1000000], .op .bok [.va 0]], .tup [.agg [.oint .u8 (.va 1000), .oint .u32 (.va 1001), .oint .u16 (.va 1002), .obool (.va 1003), .oint .u64 (.va 1004), .oint .u64 (.va 1005), .oint .u64 (.va 1006), .oint .u64 (.va 1007), .oint .u64 (.va 1008), .oint .u64 (.va 1009), .ous 1 (.op .llen [.va 1011]) 7, .ous 2 (.op .llen [.va 1012]) 3], .oint .i64 (.va 1010)], [some (.arr 79 [.str, .int .i64, .int .i64, .int .i64, .int .i64, .int .i64, .int .i64] (.va 1011)), some (.arr 75 [.str, .int .i64, .int .i64] (.va 1012))], [.app 50 [.va 0], .app 51 [.va 0], .app 52 [.va 0], .app 53 [.va 0], .app 54 [.va 0], .app 55 [.va 0], .app 56 [.va 0], .app 57 [.va 0], .app 58 [.va 0], .app 59 [.va 0], .app 60 [.va 0], .app 61 [.va 0], .app 62 [.va 0]]⟩⟩
def L5 : List HC := [h_parse]
def h_replyBack : HC := ⟨5, 13, ⟨[.agg [.oint .u8 (.va 0), .oint .u32 (.va 1), .oint .u16 (.va 2), .obool (.va 3), .oint .u64 (.va 4), .oint .u64 (.va 5), .oint .u64 (.va 6), .oint .u64 (.va 7), .oint .u64 (.va 8), .oint .u64 (.va 9), .osl 0 (.ci 0) (.op .llen [.va 10]) 7, .osl 1 (.ci 0) (.op .llen [.va 11]) 3], .osl 2 (.ci 0) (.op .llen [.va 12]) 1], [.arr 4294967295 [.str, .int .i64, .int .i64, .int .i64, .int .i64, .int .i64, .int .i64] (.va 10), .arr 4294967295 [.str, .int .i64, .int .i64] (.va 11), .arr 4294967295 [.int .u8] (.va 12)], 3, .op .and [.op .and [.op .and [.op .and [.op .and [.op .and [.op .and [.op .and [.op .and [.op .and [.op .and [.op .bok [.va 12], .op .and [.op (.cmp .leq) [.ci 0, .va 0], .op (.cmp .lss) [.va 0, .ci 256]]], .op .and [.op (.cmp .leq) [.ci 0, .va 1], .op (.cmp .lss) [.va 1, .ci 4294967296]]], .op .and [.op (.cmp .leq) [.ci 0, .va 2], .op (.cmp .lss) [.va 2, .ci 65536]]], .op .and [.op (.cmp .leq) [.ci 0, .va 4], .op (.cmp .lss) [.va 4, .ci 18446744073709551616]]], .op .and [.op (.cmp .leq) [.ci 0, .va 5], .op (.cmp .lss) [.va 5, .ci 18446744073709551616]]], .op .and [.op (.cmp .leq) [.ci 0, .va 6], .op (.cmp .lss) [.va 6, .ci 18446744073709551616]]], .op .and [.op (.cmp .leq) [.ci 0, .va 7], .op (.cmp .lss) [.va 7, .ci 18446744073709551616]]], .op .and [.op (.cmp .leq) [.ci 0, .va 8], .op (.cmp .lss) [.va 8, .ci 18446744073709551616]]], .op .and [.op (.cmp .leq) [.ci 0, .va 9], .op (.cmp .lss) [.va 9, .ci 18446744073709551616]]], .app 63 [.va 10]], .app 64 [.va 11]], .obool (.va 1000), [], [.cb true]⟩⟩
def L6 : List HC := [h_replyBack]
theorem names : (Try.prog.funcs.toList.all fun fn => !(fn.name == "runtime.NumGoroutine")) = true := by kernel_rfl
theorem env0_ok (ω : Opq) (hω : ∀ t, ω.fix t = fixT Try.prog t) : env0.Ok ω := by
  refine ⟨hω, fun f fn h => ?_, fun f e h => ?_, fun _ _ _ _ h => (by cases h), fun _ _ _ h => (by cases h), fun _ _ _ h => (by cases h), fun _ _ _ _ _ h => (by cases h)⟩
  · have h1 := List.all_eq_true.1 names fn (by
      obtain ⟨h2, rfl⟩ := Array.getElem?_eq_some_iff.1 h
      exact Array.mem_toList_iff.2 (Array.getElem_mem h2))
    simpa using h1
  · cases h
theorem env_ok (ω : Opq) (hω : ∀ t, ω.fix t = fixT Try.prog t) : env.Ok ω :=
  let h := env0_ok ω hω
  ⟨h.fix, h.name, h.ext, h.bin, h.un, h.conv, h.blt⟩
theorem orders : Try.prog.follows .mixedOrders = true := by kernel_rfl
def KK (k : Int) : List HC := [h_kindP k]
noncomputable def H0 : List HC := []
noncomputable def H1 : List HC := L0 ++ H0
noncomputable def H2 : List HC := L1 ++ H1
noncomputable def H3 : List HC := L2 ++ H2
noncomputable def H4 : List HC := L3 ++ H3
noncomputable def H5 : List HC := L4 ++ H4
noncomputable def H6 : List HC := L5 ++ H5

theorem r_works : FC.run env0 1000000 h_works.f h_works.c h_works.c.args = T_works := by kernel_rfl
theorem r_pkA : FC.run (env.hooks H1) 1000000 h_pkA.f h_pkA.c h_pkA.c.args = T_pkA := by kernel_rfl
theorem r_pkB : FC.run (env.hooks H1) 1000000 h_pkB.f h_pkB.c h_pkB.c.args = T_pkB := by kernel_rfl
theorem r_pkC : FC.run (env.hooks H1) 1000000 h_pkC.f h_pkC.c h_pkC.c.args = T_pkC := by kernel_rfl
theorem r_pkD : FC.run (env.hooks H1) 1000000 h_pkD.f h_pkD.c h_pkD.c.args = T_pkD := by kernel_rfl
theorem r_joinB : FC.run (env.hooks H1) 1000000 h_joinB.f h_joinB.c h_joinB.c.args = T_joinB := by kernel_rfl
theorem r_joinC : FC.run (env.hooks H1) 1000000 h_joinC.f h_joinC.c h_joinC.c.args = T_joinC := by kernel_rfl
theorem r_joinD : FC.run (env.hooks H1) 1000000 h_joinD.f h_joinD.c h_joinD.c.args = T_joinD := by kernel_rfl
theorem r_fewRows : FC.run (env.hooks H1) 1000000 h_fewRows.f h_fewRows.c h_fewRows.c.args = T_fewRows := by kernel_rfl
theorem r_few : FC.run (env.hooks H1) 1000000 h_few.f h_few.c h_few.c.args = T_few := by kernel_rfl
theorem r_equalRows : FC.run (env.hooks H1) 1000000 h_equalRows.f h_equalRows.c h_equalRows.c.args = T_equalRows := by kernel_rfl
theorem r_equalPanes : FC.run (env.hooks H1) 1000000 h_equalPanes.f h_equalPanes.c h_equalPanes.c.args = T_equalPanes := by kernel_rfl
theorem r_sameBytes : FC.run (env.hooks H1) 1000000 h_sameBytes.f h_sameBytes.c h_sameBytes.c.args = T_sameBytes := by kernel_rfl
theorem r_badRows : FC.run (env.hooks H1) 1000000 h_badRows.f h_badRows.c h_badRows.c.args = T_badRows := by kernel_rfl
theorem r_badPanes : FC.run (env.hooks H1) 1000000 h_badPanes.f h_badPanes.c h_badPanes.c.args = T_badPanes := by kernel_rfl
theorem r_u8 : FC.run (env.hooks H1) 1000000 h_u8.f h_u8.c h_u8.c.args = T_u8 := by kernel_rfl
theorem r_u16 : FC.run (env.hooks H1) 1000000 h_u16.f h_u16.c h_u16.c.args = T_u16 := by kernel_rfl
theorem r_u32 : FC.run (env.hooks H1) 1000000 h_u32.f h_u32.c h_u32.c.args = T_u32 := by kernel_rfl
theorem r_u64 : FC.run (env.hooks H1) 1000000 h_u64.f h_u64.c h_u64.c.args = T_u64 := by kernel_rfl
theorem r_putInt : FC.run (env.hooks H2) 1000000 h_putInt.f h_putInt.c h_putInt.c.args = T_putInt := by kernel_rfl
theorem r_putText : FC.run (env.hooks H2) 1000000 h_putText.f h_putText.c h_putText.c.args = T_putText := by kernel_rfl
theorem r_fewRep : FC.run (env.hooks H2) 1000000 h_fewRep.f h_fewRep.c h_fewRep.c.args = T_fewRep := by kernel_rfl
theorem r_same : FC.run (env.hooks H2) 1000000 h_same.f h_same.c h_same.c.args = T_same := by kernel_rfl
theorem r_textP : FC.run (env.hooks H2) 1000000 h_textP.f h_textP.c h_textP.c.args = T_textP := by kernel_rfl
theorem r_right0 : FC.run (env.hooks H3) 1000000 h_right.f h_right.c a_right0 = T_right0 := by kernel_rfl
theorem r_right1 : FC.run (env.hooks H3) 1000000 h_right.f h_right.c a_right1 = T_right1 := by kernel_rfl
theorem r_right2 : FC.run (env.hooks H3) 1000000 h_right.f h_right.c a_right2 = T_right2 := by kernel_rfl
theorem r_right3 : FC.run (env.hooks H3) 1000000 h_right.f h_right.c a_right3 = T_right3 := by kernel_rfl
theorem r_right4 : FC.run (env.hooks H3) 1000000 h_right.f h_right.c a_right4 = T_right4 := by kernel_rfl
theorem r_right5 : FC.run (env.hooks H3) 1000000 h_right.f h_right.c a_right5 = T_right5 := by kernel_rfl
theorem r_right6 : FC.run (env.hooks H3) 1000000 h_right.f h_right.c a_right6 = T_right6 := by kernel_rfl
theorem r_right7 : FC.run (env.hooks H3) 1000000 h_right.f h_right.c a_right7 = T_right7 := by kernel_rfl
theorem r_paneP : FC.run (env.hooks H3) 1000000 h_paneP.f h_paneP.c h_paneP.c.args = T_paneP := by kernel_rfl
theorem r_put0 : FC.run (env.hooks H4) 1000000 h_put.f h_put.c a_put0 = T_put0 := by kernel_rfl
theorem r_put1 : FC.run (env.hooks H4) 1000000 h_put.f h_put.c a_put1 = T_put1 := by kernel_rfl
theorem r_put2 : FC.run (env.hooks H4) 1000000 h_put.f h_put.c a_put2 = T_put2 := by kernel_rfl
theorem r_put3 : FC.run (env.hooks H4) 1000000 h_put.f h_put.c a_put3 = T_put3 := by kernel_rfl
theorem r_put4 : FC.run (env.hooks H4) 1000000 h_put.f h_put.c a_put4 = T_put4 := by kernel_rfl
theorem r_put5 : FC.run (env.hooks H4) 1000000 h_put.f h_put.c a_put5 = T_put5 := by kernel_rfl
theorem r_put6 : FC.run (env.hooks H4) 1000000 h_put.f h_put.c a_put6 = T_put6 := by kernel_rfl
theorem r_put7 : FC.run (env.hooks H4) 1000000 h_put.f h_put.c a_put7 = T_put7 := by kernel_rfl
theorem r_parse1 : FC.run (env.hooks (KK 1 ++ H5)) 1000000 h_parse.f h_parse.c h_parse.c.args = T_parse1 := by kernel_rfl
theorem r_parse2 : FC.run (env.hooks (KK 2 ++ H5)) 1000000 h_parse.f h_parse.c h_parse.c.args = T_parse2 := by kernel_rfl
theorem r_parse3 : FC.run (env.hooks (KK 3 ++ H5)) 1000000 h_parse.f h_parse.c h_parse.c.args = T_parse3 := by kernel_rfl
theorem r_parse4 : FC.run (env.hooks (KK 4 ++ H5)) 1000000 h_parse.f h_parse.c h_parse.c.args = T_parse4 := by kernel_rfl
theorem r_parse5 : FC.run (env.hooks (KK 5 ++ H5)) 1000000 h_parse.f h_parse.c h_parse.c.args = T_parse5 := by kernel_rfl
theorem r_parse6 : FC.run (env.hooks (KK 6 ++ H5)) 1000000 h_parse.f h_parse.c h_parse.c.args = T_parse6 := by kernel_rfl
theorem r_parse7 : FC.run (env.hooks (KK 7 ++ H5)) 1000000 h_parse.f h_parse.c h_parse.c.args = T_parse7 := by kernel_rfl
theorem r_replyBack : FC.run (env.hooks H6) 1000000 h_replyBack.f h_replyBack.c h_replyBack.c.args = T_replyBack := by kernel_rfl


def Om (ω : Opq) : Prop := OmF F Try.prog ω
theorem om_upd (ω : Opq) (v0 : Nat) (l : List Val) (h : Om ω) : Om (ω.upd v0 l) := h
theorem om_f {ω : Opq} (h : Om ω) : ∀ i a, ω.f i a = F i a := fun i a => by rw [h.1]
theorem e_ok (ω : Opq) (h : Om ω) : env.Ok ω := env_ok ω h.2
theorem e0_ok (ω : Opq) (h : Om ω) : env0.Ok ω := env0_ok ω h.2
theorem VRs_kind {β : Bij} {ω : Opq} {us : List Value} {k : IntKind} {n : Nat} {i : Int} {r : List AV} (h : (ω.w n).toI = i) (hv : VRs β ω [.agg (.oint k (.va n) :: r)] us) : VRs β ω [.agg (.int k i :: r)] us := by
  obtain ⟨v, vr, e, ⟨xs, e2, u, ur, e3, p1, p2⟩, q⟩ := hv
  refine ⟨v, vr, e, ⟨xs, e2, u, ur, e3, ?_, p2⟩, q⟩
  show u = .int k i
  rw [← h]; exact p1
theorem h0_ok : ∀ x ∈ H0, HcOk env Om x := fun x hx => by cases hx
theorem r_kindP (k : Int) : FC.run env0 1000000 (h_kindP k).f (h_kindP k).c (h_kindP k).c.args = T_kindP := by kernel_rfl
theorem k_kindP (k : Int) : HcOk env Om (h_kindP k) :=
  hc_step (E := env0) (cs := []) om_upd e0_ok orders (fun x hx => by cases hx) (n := 1000000) (by kernel_rfl) (fcMath1 (T := T_kindP) (r_kindP k) fun ω hω hn => by
    have hn := hn
    simp only [h_kindP, dB, den, dens, prim, om_f hω, F39, F49, toB_vb, toI_vi, toL_vl, cmpI_leq, decide_eq_true_eq, Bool.and_eq_true, eqB_t] at hn
    exact (t_kindP hn.1 (by omega) hn.2.2).trans (by simp only [h_kindP, dens, den, prim, om_f hω, toI_vi, toL_vl]))
theorem kk_ok {H : List HC} (h : ∀ x ∈ H, HcOk env Om x) (k : Int) : ∀ x ∈ KK k ++ H, HcOk env Om x := hc_app h (hc_add (fun x hx => by cases hx) (k_kindP k))
theorem k_works : HcOk env Om h_works :=
  hc_step (E := env0) (cs := []) om_upd e0_ok orders (fun x hx => by cases hx) (n := 1000000) (by kernel_rfl) (fcMath1 (T := T_works) r_works fun ω hω hn => by
    exact rfl)
theorem l0_ok : ∀ x ∈ L0, HcOk env Om x := by
  exact hc_add (fun x hx => (by cases hx)) k_works
theorem h1_ok : ∀ x ∈ H1, HcOk env Om x := hc_app h0_ok l0_ok
theorem k_pkA : HcOk env Om h_pkA :=
  hc_step (E := env) (cs := H1) om_upd e_ok orders h1_ok (n := 1000000) (by kernel_rfl) (fcMath1 (T := T_pkA) r_pkA fun ω hω hn => by
    exact (t_pkA ).trans (by simp only [h_pkA, dens, den, prim, om_f hω, toI_vi, toL_vl]))
theorem k_pkB : HcOk env Om h_pkB :=
  hc_step (E := env) (cs := H1) om_upd e_ok orders h1_ok (n := 1000000) (by kernel_rfl) (fcMath1 (T := T_pkB) r_pkB fun ω hω hn => by
    exact (t_pkB ).trans (by simp only [h_pkB, dens, den, prim, om_f hω, toI_vi, toL_vl]))
theorem k_pkC : HcOk env Om h_pkC :=
  hc_step (E := env) (cs := H1) om_upd e_ok orders h1_ok (n := 1000000) (by kernel_rfl) (fcMath1 (T := T_pkC) r_pkC fun ω hω hn => by
    exact (t_pkC ).trans (by simp only [h_pkC, dens, den, prim, om_f hω, toI_vi, toL_vl]))
theorem k_pkD : HcOk env Om h_pkD :=
  hc_step (E := env) (cs := H1) om_upd e_ok orders h1_ok (n := 1000000) (by kernel_rfl) (fcMath1 (T := T_pkD) r_pkD fun ω hω hn => by
    exact (t_pkD ).trans (by simp only [h_pkD, dens, den, prim, om_f hω, toI_vi, toL_vl]))
theorem k_joinB : HcOk env Om h_joinB :=
  hc_step (E := env) (cs := H1) om_upd e_ok orders h1_ok (n := 1000000) (by kernel_rfl) (fcMath1 (T := T_joinB) r_joinB fun ω hω hn => by
    have hn := hn
    simp only [h_joinB, dB, den, dens, prim, toB_vb, toI_vi, toL_vl, toS_vs, cmpI_leq, cmpI_eql, cmpI_lss, decide_eq_true_eq, Bool.and_eq_true, List.length_append] at hn
    exact (t_joinB (by omega)).trans (by simp only [h_joinB, dens, den, prim, om_f hω, toI_vi, toL_vl]))
theorem k_joinC : HcOk env Om h_joinC :=
  hc_step (E := env) (cs := H1) om_upd e_ok orders h1_ok (n := 1000000) (by kernel_rfl) (fcMath1 (T := T_joinC) r_joinC fun ω hω hn => by
    have hn := hn
    simp only [h_joinC, dB, den, dens, prim, toB_vb, toI_vi, toL_vl, toS_vs, cmpI_leq, cmpI_eql, cmpI_lss, decide_eq_true_eq, Bool.and_eq_true, List.length_append] at hn
    exact (t_joinC (by omega)).trans (by simp only [h_joinC, dens, den, prim, om_f hω, toI_vi, toL_vl]))
theorem k_joinD : HcOk env Om h_joinD :=
  hc_step (E := env) (cs := H1) om_upd e_ok orders h1_ok (n := 1000000) (by kernel_rfl) (fcMath1 (T := T_joinD) r_joinD fun ω hω hn => by
    have hn := hn
    simp only [h_joinD, dB, den, dens, prim, toB_vb, toI_vi, toL_vl, toS_vs, cmpI_leq, cmpI_eql, cmpI_lss, decide_eq_true_eq, Bool.and_eq_true, List.length_append] at hn
    exact (t_joinD (by omega)).trans (by simp only [h_joinD, dens, den, prim, om_f hω, toI_vi, toL_vl]))
theorem k_fewRows : HcOk env Om h_fewRows :=
  hc_step (E := env) (cs := H1) om_upd e_ok orders h1_ok (n := 1000000) (by kernel_rfl) (fcMath1 (T := T_fewRows) r_fewRows fun ω hω hn => by
    have hn := hn
    simp only [h_fewRows, dB, den, dens, prim, toB_vb, toI_vi, toL_vl, toS_vs, cmpI_leq, cmpI_eql, cmpI_lss, decide_eq_true_eq, Bool.and_eq_true, List.length_append] at hn
    exact (t_fewRows (om_f hω) (by omega)).trans (by simp only [h_fewRows, dens, den, prim, om_f hω, toI_vi, toL_vl]))
theorem k_few : HcOk env Om h_few :=
  hc_step (E := env) (cs := H1) om_upd e_ok orders h1_ok (n := 1000000) (by kernel_rfl) (fcMath1 (T := T_few) r_few fun ω hω hn => by
    have hn := hn
    simp only [h_few, dB, den, dens, prim, toB_vb, toI_vi, toL_vl, toS_vs, cmpI_leq, cmpI_eql, cmpI_lss, decide_eq_true_eq, Bool.and_eq_true, List.length_append] at hn
    exact (t_few (om_f hω) (by omega)).trans (by simp only [h_few, dens, den, prim, om_f hω, toI_vi, toL_vl]))
theorem k_equalRows : HcOk env Om h_equalRows :=
  hc_step (E := env) (cs := H1) om_upd e_ok orders h1_ok (n := 1000000) (by kernel_rfl) (fcMath1 (T := T_equalRows) r_equalRows fun ω hω hn => by
    have hn := hn
    simp only [h_equalRows, dB, den, dens, prim, toB_vb, toI_vi, toL_vl, toS_vs, cmpI_leq, cmpI_eql, cmpI_lss, decide_eq_true_eq, Bool.and_eq_true, List.length_append] at hn
    exact (t_equalRows (om_f hω) (by omega)).trans (by simp only [h_equalRows, dens, den, prim, om_f hω, toI_vi, toL_vl]))
theorem k_equalPanes : HcOk env Om h_equalPanes :=
  hc_step (E := env) (cs := H1) om_upd e_ok orders h1_ok (n := 1000000) (by kernel_rfl) (fcMath1 (T := T_equalPanes) r_equalPanes fun ω hω hn => by
    have hn := hn
    simp only [h_equalPanes, dB, den, dens, prim, toB_vb, toI_vi, toL_vl, toS_vs, cmpI_leq, cmpI_eql, cmpI_lss, decide_eq_true_eq, Bool.and_eq_true, List.length_append] at hn
    exact (t_equalPanes (om_f hω) (by omega)).trans (by simp only [h_equalPanes, dens, den, prim, om_f hω, toI_vi, toL_vl]))
theorem k_sameBytes : HcOk env Om h_sameBytes :=
  hc_step (E := env) (cs := H1) om_upd e_ok orders h1_ok (n := 1000000) (by kernel_rfl) (fcMath1 (T := T_sameBytes) r_sameBytes fun ω hω hn => by
    have hn := hn
    simp only [h_sameBytes, dB, den, dens, prim, toB_vb, toI_vi, toL_vl, toS_vs, cmpI_leq, cmpI_eql, cmpI_lss, decide_eq_true_eq, Bool.and_eq_true, List.length_append] at hn
    exact (t_sameBytes (om_f hω) (by omega)).trans (by simp only [h_sameBytes, dens, den, prim, om_f hω, toI_vi, toL_vl]))
theorem k_badRows : HcOk env Om h_badRows :=
  hc_step (E := env) (cs := H1) om_upd e_ok orders h1_ok (n := 1000000) (by kernel_rfl) (fcMath1 (T := T_badRows) r_badRows fun ω hω hn => by
    have hn := hn
    simp only [h_badRows, dB, den, dens, prim, toB_vb, toI_vi, toL_vl, toS_vs, cmpI_leq, cmpI_eql, cmpI_lss, decide_eq_true_eq, Bool.and_eq_true, List.length_append] at hn
    exact (t_badRows (om_f hω) (by omega)).trans (by simp only [h_badRows, dens, den, prim, om_f hω, toI_vi, toL_vl]))
theorem k_badPanes : HcOk env Om h_badPanes :=
  hc_step (E := env) (cs := H1) om_upd e_ok orders h1_ok (n := 1000000) (by kernel_rfl) (fcMath1 (T := T_badPanes) r_badPanes fun ω hω hn => by
    have hn := hn
    simp only [h_badPanes, dB, den, dens, prim, toB_vb, toI_vi, toL_vl, toS_vs, cmpI_leq, cmpI_eql, cmpI_lss, decide_eq_true_eq, Bool.and_eq_true, List.length_append] at hn
    exact (t_badPanes (om_f hω) (by omega)).trans (by simp only [h_badPanes, dens, den, prim, om_f hω, toI_vi, toL_vl]))
theorem k_u8 : HcOk env Om h_u8 :=
  hc_step (E := env) (cs := H1) om_upd e_ok orders h1_ok (n := 1000000) (by kernel_rfl) (fcMath1 (T := T_u8) r_u8 fun ω hω hn => by
    have hn := hn
    simp only [h_u8, dB, den, dens, om_f hω, F46, toB_vb] at hn
    exact (t_u8 (om_f hω) hn).trans (by simp only [h_u8, dens, den, prim, om_f hω, toI_vi, toL_vl]))
theorem k_u16 : HcOk env Om h_u16 :=
  hc_step (E := env) (cs := H1) om_upd e_ok orders h1_ok (n := 1000000) (by kernel_rfl) (fcMath1 (T := T_u16) r_u16 fun ω hω hn => by
    have hn := hn
    simp only [h_u16, dB, den, dens, om_f hω, F46, toB_vb] at hn
    exact (t_u16 (om_f hω) hn).trans (by simp only [h_u16, dens, den, prim, om_f hω, toI_vi, toL_vl]))
theorem k_u32 : HcOk env Om h_u32 :=
  hc_step (E := env) (cs := H1) om_upd e_ok orders h1_ok (n := 1000000) (by kernel_rfl) (fcMath1 (T := T_u32) r_u32 fun ω hω hn => by
    have hn := hn
    simp only [h_u32, dB, den, dens, om_f hω, F46, toB_vb] at hn
    exact (t_u32 (om_f hω) hn).trans (by simp only [h_u32, dens, den, prim, om_f hω, toI_vi, toL_vl]))
theorem k_u64 : HcOk env Om h_u64 :=
  hc_step (E := env) (cs := H1) om_upd e_ok orders h1_ok (n := 1000000) (by kernel_rfl) (fcMath1 (T := T_u64) r_u64 fun ω hω hn => by
    have hn := hn
    simp only [h_u64, dB, den, dens, om_f hω, F46, toB_vb] at hn
    exact (t_u64 (om_f hω) hn).trans (by simp only [h_u64, dens, den, prim, om_f hω, toI_vi, toL_vl]))
theorem l1_ok : ∀ x ∈ L1, HcOk env Om x := by
  exact hc_add (hc_add (hc_add (hc_add (hc_add (hc_add (hc_add (hc_add (hc_add (hc_add (hc_add (hc_add (hc_add (hc_add (hc_add (hc_add (hc_add (hc_add (fun x hx => (by cases hx)) k_u64) k_u32) k_u16) k_u8) k_badPanes) k_badRows) k_sameBytes) k_equalPanes) k_equalRows) k_few) k_fewRows) k_joinD) k_joinC) k_joinB) k_pkD) k_pkC) k_pkB) k_pkA
theorem h2_ok : ∀ x ∈ H2, HcOk env Om x := hc_app h1_ok l1_ok
theorem k_putInt : HcOk env Om h_putInt :=
  hc_step (E := env) (cs := H2) om_upd e_ok orders h2_ok (n := 1000000) (by kernel_rfl) (fcMath1 (T := T_putInt) r_putInt fun ω hω hn => by
    exact (t_putInt (om_f hω)).trans (by simp only [h_putInt, dens, den, prim, om_f hω, toI_vi, toL_vl]))
theorem k_putText : HcOk env Om h_putText :=
  hc_step (E := env) (cs := H2) om_upd e_ok orders h2_ok (n := 1000000) (by kernel_rfl) (fcMath1 (T := T_putText) r_putText fun ω hω hn => by
    have hn := hn
    simp only [h_putText, dB, den, dens, prim, toB_vb, toI_vi, toL_vl, toS_vs, cmpI_leq, cmpI_eql, cmpI_lss, decide_eq_true_eq, Bool.and_eq_true, List.length_append] at hn
    exact (t_putText (om_f hω) (by omega)).trans (by simp only [h_putText, dens, den, prim, om_f hω, toI_vi, toL_vl]))
theorem k_fewRep : HcOk env Om h_fewRep :=
  hc_step (E := env) (cs := H2) om_upd e_ok orders h2_ok (n := 1000000) (by kernel_rfl) (fcMath1 (T := T_fewRep) r_fewRep fun ω hω hn => by
    exact (t_fewRep (om_f hω)).trans (by simp only [h_fewRep, dens, den, prim, om_f hω, toI_vi, toL_vl]))
theorem k_same : HcOk env Om h_same :=
  hc_step (E := env) (cs := H2) om_upd e_ok orders h2_ok (n := 1000000) (by kernel_rfl) (fcMath1 (T := T_same) r_same fun ω hω hn => by
    have hn := hn
    simp only [h_same, dB, den, dens, prim, toB_vb, toI_vi, toL_vl, toS_vs, cmpI_leq, cmpI_eql, cmpI_lss, decide_eq_true_eq, Bool.and_eq_true, List.length_append] at hn
    have h1 := hn.1
    have h2 := hn.2
    exact (t_same (om_f hω) (by omega) (by omega)).trans (by simp only [h_same, dens, den, prim, om_f hω, toI_vi, toL_vl]))
theorem k_textP : HcOk env Om h_textP :=
  hc_step (E := env) (cs := H2) om_upd e_ok orders h2_ok (n := 1000000) (by kernel_rfl) (fcMath1 (T := T_textP) r_textP fun ω hω hn => by
    have hn := hn
    simp only [h_textP, dB, den, dens, om_f hω, F46, toB_vb] at hn
    exact (t_textP (om_f hω) hn).trans (by simp only [h_textP, dens, den, prim, om_f hω, toI_vi, toL_vl]))
theorem l2_ok : ∀ x ∈ L2, HcOk env Om x := by
  exact hc_add (hc_add (hc_add (hc_add (hc_add (fun x hx => (by cases hx)) k_textP) k_same) k_fewRep) k_putText) k_putInt
theorem h3_ok : ∀ x ∈ H3, HcOk env Om x := hc_app h2_ok l2_ok
theorem k_right : HcOk env Om h_right :=
  hc_step (E := env) (cs := H3) om_upd e_ok orders h3_ok (n := 1000000) (by kernel_rfl) (fun ω hω hn => by
    have hf := om_f hω
    have hn := hn
    simp only [h_right, dB, den, dens, prim, toB_vb, toI_vi, toL_vl, toS_vs, cmpI_leq, cmpI_eql, cmpI_lss, decide_eq_true_eq, Bool.and_eq_true, List.length_append] at hn
    have q1 : (ω.w 10).toL.length ≤ 1000 := by omega
    have q2 : (ω.w 11).toL.length ≤ 1000 := by omega
    have fin : ∀ T : VT, evalT T ω = some (0, [F 4 [ω.w 0, ω.w 1, ω.w 2, ω.w 3, ω.w 4, ω.w 5, ω.w 6, ω.w 7, ω.w 8, ω.w 9, ω.w 10, ω.w 11]]) → evalT T ω = some (0, dens ω h_right.c.outs) := fun T e => e.trans (by simp only [h_right, dens, den, hf])
    by_cases hk : 1 ≤ (ω.w 0).toI ∧ (ω.w 0).toI ≤ 7
    · have : (ω.w 0).toI = 1 ∨ (ω.w 0).toI = 2 ∨ (ω.w 0).toI = 3 ∨ (ω.w 0).toI = 4 ∨ (ω.w 0).toI = 5 ∨ (ω.w 0).toI = 6 ∨ (ω.w 0).toI = 7 := by omega
      rcases this with e | e | e | e | e | e | e
      · exact ⟨a_right1, fun β us h => VRs_kind e h, by rw [r_right1]; exact fin _ (t_right1 hf e q1 q2)⟩
      · exact ⟨a_right2, fun β us h => VRs_kind e h, by rw [r_right2]; exact fin _ (t_right2 hf e q1 q2)⟩
      · exact ⟨a_right3, fun β us h => VRs_kind e h, by rw [r_right3]; exact fin _ (t_right3 hf e q1 q2)⟩
      · exact ⟨a_right4, fun β us h => VRs_kind e h, by rw [r_right4]; exact fin _ (t_right4 hf e q1 q2)⟩
      · exact ⟨a_right5, fun β us h => VRs_kind e h, by rw [r_right5]; exact fin _ (t_right5 hf e q1 q2)⟩
      · exact ⟨a_right6, fun β us h => VRs_kind e h, by rw [r_right6]; exact fin _ (t_right6 hf e q1 q2)⟩
      · exact ⟨a_right7, fun β us h => VRs_kind e h, by rw [r_right7]; exact fin _ (t_right7 hf e q1 q2)⟩
    · exact ⟨a_right0, fun β us h => h, by rw [r_right0]; exact fin _ (t_right0 hf hk)⟩)
theorem k_paneP : HcOk env Om h_paneP :=
  hc_step (E := env) (cs := H3) om_upd e_ok orders h3_ok (n := 1000000) (by kernel_rfl) (fcMath1 (T := T_paneP) r_paneP fun ω hω hn => by
    have hn := hn
    simp only [h_paneP, dB, den, dens, om_f hω, F46, toB_vb] at hn
    exact (t_paneP (om_f hω) hn).trans (by simp only [h_paneP, dens, den, prim, om_f hω, toI_vi, toL_vl]))
theorem l3_ok : ∀ x ∈ L3, HcOk env Om x := by
  exact hc_add (hc_add (fun x hx => (by cases hx)) k_paneP) k_right
theorem h4_ok : ∀ x ∈ H4, HcOk env Om x := hc_app h3_ok l3_ok
theorem k_put : HcOk env Om h_put :=
  hc_step (E := env) (cs := H4) om_upd e_ok orders h4_ok (n := 1000000) (by kernel_rfl) (fun ω hω hn => by
    have hf := om_f hω
    have hn := hn
    simp only [h_put, dB, den, dens, prim, toB_vb, toI_vi, toL_vl, toS_vs, cmpI_leq, cmpI_eql, cmpI_lss, decide_eq_true_eq, Bool.and_eq_true, List.length_append] at hn
    have hw : fewM [ω.w 0, ω.w 1, ω.w 2, ω.w 3, ω.w 4, ω.w 5, ω.w 6, ω.w 7, ω.w 8, ω.w 9, ω.w 10, ω.w 11] = true := by
      rw [hf] at hn
      exact hn
    have fin : ∀ T : VT, evalT T ω = some (0, [F 6 [ω.w 0, ω.w 1, ω.w 2, ω.w 3, ω.w 4, ω.w 5, ω.w 6, ω.w 7, ω.w 8, ω.w 9, ω.w 10, ω.w 11], F 5 [ω.w 0, ω.w 1, ω.w 2, ω.w 3, ω.w 4, ω.w 5, ω.w 6, ω.w 7, ω.w 8, ω.w 9, ω.w 10, ω.w 11]]) → evalT T ω = some (0, dens ω h_put.c.outs) := fun T e => e.trans (by simp only [h_put, dens, den, hf])
    by_cases hk : 1 ≤ (ω.w 0).toI ∧ (ω.w 0).toI ≤ 7
    · have : (ω.w 0).toI = 1 ∨ (ω.w 0).toI = 2 ∨ (ω.w 0).toI = 3 ∨ (ω.w 0).toI = 4 ∨ (ω.w 0).toI = 5 ∨ (ω.w 0).toI = 6 ∨ (ω.w 0).toI = 7 := by omega
      rcases this with e | e | e | e | e | e | e
      · exact ⟨a_put1, fun β us h => VRs_kind e h, by rw [r_put1]; exact fin _ (t_put1 hf e hw)⟩
      · exact ⟨a_put2, fun β us h => VRs_kind e h, by rw [r_put2]; exact fin _ (t_put2 hf e hw)⟩
      · exact ⟨a_put3, fun β us h => VRs_kind e h, by rw [r_put3]; exact fin _ (t_put3 hf e hw)⟩
      · exact ⟨a_put4, fun β us h => VRs_kind e h, by rw [r_put4]; exact fin _ (t_put4 hf e hw)⟩
      · exact ⟨a_put5, fun β us h => VRs_kind e h, by rw [r_put5]; exact fin _ (t_put5 hf e hw)⟩
      · exact ⟨a_put6, fun β us h => VRs_kind e h, by rw [r_put6]; exact fin _ (t_put6 hf e hw)⟩
      · exact ⟨a_put7, fun β us h => VRs_kind e h, by rw [r_put7]; exact fin _ (t_put7 hf e hw)⟩
    · exact ⟨a_put0, fun β us h => h, by rw [r_put0]; exact fin _ (t_put0 hf hk hw)⟩)
theorem l4_ok : ∀ x ∈ L4, HcOk env Om x := by
  exact hc_add (fun x hx => (by cases hx)) k_put
theorem h5_ok : ∀ x ∈ H5, HcOk env Om x := hc_app h4_ok l4_ok
theorem k_parse : HcOk env Om h_parse :=
  hc_stepX (E := env) om_upd (n := 1000000) (by kernel_rfl) (fun ω hω hn => by
    have hf := om_f hω
    have hn := hn
    simp only [h_parse, dB, den, dens, prim, bok_prim, toB_vb, toI_vi, toL_vl, cmpI_leq, decide_eq_true_eq, Bool.and_eq_true] at hn
    have hl : okL (ω.w 0).toL = true := by
      unfold okL; rw [show okBy (ω.w 0).toL = true from hn.2, decide_eq_true (by omega)]; rfl
    have fin : ∀ T : VT, evalT T ω = some (0, parseV (ω.w 0).toL) → evalT T ω = some (0, dens ω h_parse.c.outs) := fun T e => e.trans (by
      simp only [h_parse, dens, den, hf]
      exact congrArg (fun y => some (0, y)) (parse_eta _))
    by_cases h2 : bI (ω.w 0).toL 0 = 2
    · exact ⟨env.hooks (KK 2 ++ H5), rfl, body_hooks om_upd e_ok orders (kk_ok h5_ok 2) _ hω, h_parse.c.args, fun _ _ h => h, by rw [r_parse2]; exact fin _ (t_parse2 hf hl (by omega))⟩
    by_cases h3 : bI (ω.w 0).toL 0 = 3
    · exact ⟨env.hooks (KK 3 ++ H5), rfl, body_hooks om_upd e_ok orders (kk_ok h5_ok 3) _ hω, h_parse.c.args, fun _ _ h => h, by rw [r_parse3]; exact fin _ (t_parse3 hf hl (by omega))⟩
    by_cases h4 : bI (ω.w 0).toL 0 = 4
    · exact ⟨env.hooks (KK 4 ++ H5), rfl, body_hooks om_upd e_ok orders (kk_ok h5_ok 4) _ hω, h_parse.c.args, fun _ _ h => h, by rw [r_parse4]; exact fin _ (t_parse4 hf hl (by omega))⟩
    by_cases h5 : bI (ω.w 0).toL 0 = 5
    · exact ⟨env.hooks (KK 5 ++ H5), rfl, body_hooks om_upd e_ok orders (kk_ok h5_ok 5) _ hω, h_parse.c.args, fun _ _ h => h, by rw [r_parse5]; exact fin _ (t_parse5 hf hl (by omega))⟩
    by_cases h6 : bI (ω.w 0).toL 0 = 6
    · exact ⟨env.hooks (KK 6 ++ H5), rfl, body_hooks om_upd e_ok orders (kk_ok h5_ok 6) _ hω, h_parse.c.args, fun _ _ h => h, by rw [r_parse6]; exact fin _ (t_parse6 hf hl (by omega))⟩
    by_cases h7 : bI (ω.w 0).toL 0 = 7
    · exact ⟨env.hooks (KK 7 ++ H5), rfl, body_hooks om_upd e_ok orders (kk_ok h5_ok 7) _ hω, h_parse.c.args, fun _ _ h => h, by rw [r_parse7]; exact fin _ (t_parse7 hf hl (by omega))⟩
    exact ⟨env.hooks (KK 1 ++ H5), rfl, body_hooks om_upd e_ok orders (kk_ok h5_ok 1) _ hω, h_parse.c.args, fun _ _ h => h, by rw [r_parse1]; exact fin _ (t_parse1 hf hl (by omega))⟩)
theorem l5_ok : ∀ x ∈ L5, HcOk env Om x := by
  exact hc_add (fun x hx => (by cases hx)) k_parse
theorem h6_ok : ∀ x ∈ H6, HcOk env Om x := hc_app h5_ok l5_ok
end Go.Proofs.Ytcgkdegokfkgjaa.Ctr
