/- The contracts of the functions, in the seat's numbers; their runs. -/
import Derived.Test.YtcgkdegokfkgjaaRows
import Derived.Test.YtcgkdegokfkgjaaEN9
import Derived.ProofKit
set_option linter.unusedVariables false
set_option linter.unusedSimpArgs false
namespace Go.Proofs.Ytcgkdegokfkgjaa.Ctr
open Go Go.Ev

noncomputable def env0 : Env := ⟨Try.prog, fun f => none, fun _ => false, fun _ => false, fun _ _ _ => .bad, fun _ _ => none, fun _ _ _ _ => none⟩
noncomputable def loops (f : FuncId) (r : Nat) (a : Fr) (h : Heap) : Option LSpec := bif Nat.beq f 25 && Nat.beq r 3 then some (genL ⟨103, 2000, [5, 6, 7, 8, 9, 10, 11, 12, 13, 14, 15, 16, 17, 18, 19, 20, 21, 22, 23, 24, 25, 26], [(3, none, 88, [.str, .int .i64, .int .i64, .int .i64, .int .i64, .int .i64, .int .i64])], [3, 4], [], [0], [(.exit 0, [])]⟩ a h) else bif Nat.beq f 26 && Nat.beq r 3 then some (genL ⟨104, 2000, [5, 6, 7, 8, 9, 10, 11, 12, 13, 14, 15, 16, 17, 18], [(3, none, 85, [.str, .int .i64, .int .i64])], [3, 4], [], [0], [(.exit 0, [])]⟩ a h) else bif Nat.beq f 45 && Nat.beq r 4 then some (genL ⟨105, 2000, [5, 14, 15, 16, 17, 18, 19, 20, 21, 22, 23, 24, 25], [], [4, 13], [], [0, 1, 12], [(.exit 0, []), (.ret, [])]⟩ a h) else bif Nat.beq f 46 && Nat.beq r 4 then some (genL ⟨106, 2000, [5, 14, 15, 16, 17, 18, 19, 20, 21, 22, 23, 24, 25], [], [4, 13], [], [0, 1, 12], [(.exit 0, []), (.ret, [])]⟩ a h) else bif Nat.beq f 47 && Nat.beq r 4 then some (genL ⟨107, 2000, [11, 12, 13, 14, 15, 16, 17, 18, 19, 20, 21, 22, 23, 24, 25], [], [4, 5], [], [0, 1], [(.exit 0, []), (.ret, [])]⟩ a h) else bif Nat.beq f 11 && Nat.beq r 4 then some (genL ⟨108, 2000, [11, 12, 13, 14, 15, 16, 17, 18, 19, 20, 21, 22, 23, 24, 25], [], [4, 5], [], [0, 1], [(.exit 0, []), (.ret, [])]⟩ a h) else bif Nat.beq f 16 && Nat.beq r 4 then some (genL ⟨109, 2000, [21, 22, 23, 24, 25, 26, 27, 28, 29, 30, 31, 32, 33, 34, 35, 36, 37, 38], [], [4, 5], [], [2, 3], [(.exit 0, []), (.ret, [])]⟩ a h) else bif Nat.beq f 14 && Nat.beq r 4 then some (genL ⟨110, 2000, [4, 37, 38, 39, 40, 41, 42, 43, 44, 45, 46, 47, 48, 49, 50, 51, 52, 53, 54, 55, 56, 57, 58, 59, 60, 61, 62, 63, 64], [], [2, 3], [], [1], [(.exit 0, []), (.ret, [])]⟩ a h) else bif Nat.beq f 14 && Nat.beq r 10 then some (genL ⟨111, 2000, [65, 66, 67, 68, 69, 70, 71, 72, 73, 74, 75, 76, 77, 78], [], [2, 5], [], [1], [(.exit 2, []), (.ret, [])]⟩ a h) else bif Nat.beq f 64 && Nat.beq r 2 then some (genL ⟨112, 2000, [5, 9, 10, 11, 12, 13, 14, 15, 16, 17, 18], [], [4, 8], [], [0, 1, 7], [(.exit 0, []), (.ret, [])]⟩ a h) else bif Nat.beq f 66 && Nat.beq r 2 then some (genL ⟨113, 2000, [5, 9, 10, 11, 12, 13, 14, 15, 16, 17, 18], [], [4, 8], [], [0, 1, 7], [(.exit 0, []), (.ret, [])]⟩ a h) else bif Nat.beq f 114 && Nat.beq r 1 then some (genL ⟨119, 2000, [10, 11, 12, 13, 14, 15, 16, 17, 18, 19, 20, 21, 22, 23, 24, 25, 26, 27, 28, 29, 30, 31, 32, 33, 34, 35, 36, 37, 38, 39, 40, 41, 42, 43, 44, 45, 46, 47, 48, 49, 50, 51, 52], [(1, some (0), 79, [.str, .int .i64, .int .i64, .int .i64, .int .i64, .int .i64, .int .i64])], [4], [11001, 1000], [2000], [(.exit 0, [])]⟩ a h) else bif Nat.beq f 113 && Nat.beq r 1 then some (genL ⟨120, 2000, [10, 11, 12, 13, 14, 15, 16, 17, 18, 19, 20, 21, 22, 23, 24, 25, 26, 27, 28, 29, 30], [(1, some (0), 75, [.str, .int .i64, .int .i64])], [4], [11101, 1000], [2000], [(.exit 0, [])]⟩ a h) else bif Nat.beq f 49 && Nat.beq r 14 then some (genL ⟨121, 2000, [11, 12, 50, 51, 52, 53, 54, 55, 56, 57, 58, 59, 60, 61, 62, 63, 64, 65, 66, 67, 68, 69, 70, 71], [(3, some (10), 88, [.str, .int .i64, .int .i64, .int .i64, .int .i64, .int .i64, .int .i64])], [10], [11003, 10105, 10205], [9, 1005], [(.exit 1, [])]⟩ a h) else bif Nat.beq f 49 && Nat.beq r 23 then some (genL ⟨122, 2000, [14, 15, 81, 82, 83, 84, 85, 86, 87, 88, 89, 90, 91, 92, 93, 94, 95, 96, 97, 98, 99, 100, 101, 102], [(3, some (11), 85, [.str, .int .i64, .int .i64])], [13], [11103, 10105, 10205], [9, 1005], [(.exit 3, [])]⟩ a h) else bif Nat.beq f 20 && Nat.beq r 1 then some (genL ⟨123, 2000, [3, 4, 5, 6, 7, 8, 9, 10, 11, 12, 13], [], [2], [0], [0], [(.exit 0, [])]⟩ a h) else bif Nat.beq f 21 && Nat.beq r 1 then some (genL ⟨124, 2000, [3, 4, 5, 6, 7, 8, 9, 10, 11, 12], [], [2], [0], [0], [(.exit 0, [])]⟩ a h) else none
noncomputable def env : Env := { env0 with lspec := loops }
def h_kindP (k : Int) : HC := ⟨52, 1, ⟨[.ptr 1 0], [.arr 5 [.int .u8] (.va 0), .cells 143 0 [.ous 0 (.op .llen [.va 0]) 1, .int .i64 0]], 1, .op .and [.app 39 [.va 0], .op .and [.op (.cmp .leq) [.ci 1, .op .llen [.va 0]], .app 49 [.va 0, .ci k]]], .oint .u8 (.va 1000), [some (.cells 143 0 [.osl 0 (.va 1001) (.va 1002) 1, .oint .i64 (.va 1003)])], [.ci k, .op .lget [.app 44 [.va 0, .op .row [.op .row [.ci 0, .op .llen [.va 0], .ci 0]], .ci 1], .ci 0, .ci 0], .op .lget [.app 44 [.va 0, .op .row [.op .row [.ci 0, .op .llen [.va 0], .ci 0]], .ci 1], .ci 0, .ci 1], .op .lget [.app 44 [.va 0, .op .row [.op .row [.ci 0, .op .llen [.va 0], .ci 0]], .ci 1], .ci 0, .ci 2]]⟩⟩
def h_kindR (k : Int) : HC := ⟨48, 3, ⟨[.agg [.osl 0 (.va 1) (.va 2) 1, .int .i64 0, .bool false], .int .i64 1], [.arr 4294967295 [.int .u8] (.va 0)], 1, .op .and [.app 39 [.va 0], .op .and [.op .and [.op (.cmp .eql) [.va 1, .ci 0], .op (.cmp .eql) [.va 2, .op .llen [.va 0]]], .app 49 [.va 0, .ci k]]], .tup [.oint .u64 (.va 1000), .agg [.osl 0 (.va 1001) (.va 1002) 1, .oint .i64 (.va 1003), .obool (.va 1004)]], [], [.ci k, .va 1, .va 2, .op .lget [.app 45 [.va 0, .op .row [.op .row [.ci 0, .cb false]], .ci 1], .ci 0, .ci 0], .op .lget [.app 45 [.va 0, .op .row [.op .row [.ci 0, .cb false]], .ci 1], .ci 0, .ci 1]]⟩⟩
def h_works : HC := ⟨7, 0, ⟨[], [], 0, .cb true, .obool (.va 1000), [], [.cb true]⟩⟩
def L0 : List HC := [h_works]
def h_rows : HC := ⟨25, 1, ⟨[.osl 0 (.ci 0) (.op .llen [.va 0]) 7], [.arr 4294967295 [.str, .int .i64, .int .i64, .int .i64, .int .i64, .int .i64, .int .i64] (.va 0)], 1, .op (.cmp .leq) [.op .llen [.va 0], .ci 1000], .ous 1 (.op .llen [.va 1000]) 7, [some (.arr 88 [.str, .int .i64, .int .i64, .int .i64, .int .i64, .int .i64, .int .i64] (.va 1000))], [.app 30 [.va 0]]⟩⟩
def h_panes : HC := ⟨26, 1, ⟨[.osl 0 (.ci 0) (.op .llen [.va 0]) 3], [.arr 4294967295 [.str, .int .i64, .int .i64] (.va 0)], 1, .op (.cmp .leq) [.op .llen [.va 0], .ci 1000], .ous 1 (.op .llen [.va 1000]) 3, [some (.arr 85 [.str, .int .i64, .int .i64] (.va 1000))], [.app 31 [.va 0]]⟩⟩
def h_equalRows : HC := ⟨45, 2, ⟨[.osl 0 (.ci 0) (.op .llen [.va 0]) 7, .osl 1 (.ci 0) (.op .llen [.va 1]) 7], [.arr 4294967295 [.str, .int .i64, .int .i64, .int .i64, .int .i64, .int .i64, .int .i64] (.va 0), .arr 4294967295 [.str, .int .i64, .int .i64, .int .i64, .int .i64, .int .i64, .int .i64] (.va 1)], 2, .op (.cmp .leq) [.op .llen [.va 0], .ci 1000000], .obool (.va 1000), [], [.app 3 [.va 0, .va 1]]⟩⟩
def h_equalPanes : HC := ⟨46, 2, ⟨[.osl 0 (.ci 0) (.op .llen [.va 0]) 3, .osl 1 (.ci 0) (.op .llen [.va 1]) 3], [.arr 4294967295 [.str, .int .i64, .int .i64] (.va 0), .arr 4294967295 [.str, .int .i64, .int .i64] (.va 1)], 2, .op (.cmp .leq) [.op .llen [.va 0], .ci 1000000], .obool (.va 1000), [], [.app 11 [.va 0, .va 1]]⟩⟩
def h_sameV : HC := ⟨47, 2, ⟨[.osl 0 (.ci 0) (.op .llen [.va 0]) 7, .osl 1 (.ci 0) (.op .llen [.va 1]) 7], [.arr 4294967295 [.str, .int .i64, .int .i64, .int .i64, .int .i64, .int .i64, .int .i64] (.va 0), .arr 4294967295 [.str, .int .i64, .int .i64, .int .i64, .int .i64, .int .i64, .int .i64] (.va 1)], 2, .op (.cmp .leq) [.op .llen [.va 0], .ci 1000000], .obool (.va 1000), [], [.app 3 [.va 0, .va 1]]⟩⟩
def h_sameBytes : HC := ⟨11, 2, ⟨[.osl 0 (.ci 0) (.op .llen [.va 0]) 1, .osl 1 (.ci 0) (.op .llen [.va 1]) 1], [.arr 4294967295 [.int .u8] (.va 0), .arr 4294967295 [.int .u8] (.va 1)], 2, .op (.cmp .leq) [.op .llen [.va 0], .ci 1000000], .obool (.va 1000), [], [.app 12 [.va 0, .va 1]]⟩⟩
def h_spoilRows : HC := ⟨20, 2, ⟨[.ous 0 (.va 0) 7], [.arr 79 [.str, .int .i64, .int .i64, .int .i64, .int .i64, .int .i64, .int .i64] (.va 1)], 0, .op .and [.op (.cmp .eql) [.va 0, .op .llen [.va 1]], .op (.cmp .leq) [.op .llen [.va 1], .ci 1000000]], .tup [], [none], []⟩⟩
def h_spoilPanes : HC := ⟨21, 2, ⟨[.ous 0 (.va 0) 3], [.arr 75 [.str, .int .i64, .int .i64] (.va 1)], 0, .op .and [.op (.cmp .eql) [.va 0, .op .llen [.va 1]], .op (.cmp .leq) [.op .llen [.va 1], .ci 1000000]], .tup [], [none], []⟩⟩
def h_badRows : HC := ⟨35, 1, ⟨[.osl 0 (.ci 0) (.op .llen [.va 0]) 7, .func (.func 36) [] []], [.arr 4294967295 [.str, .int .i64, .int .i64, .int .i64, .int .i64, .int .i64, .int .i64] (.va 0)], 1, .op (.cmp .leq) [.op .llen [.va 0], .ci 1000], .obool (.va 1000), [], [.app 9 [.va 0]]⟩⟩
def h_badPanes : HC := ⟨40, 1, ⟨[.osl 0 (.ci 0) (.op .llen [.va 0]) 3, .func (.func 41) [] []], [.arr 4294967295 [.str, .int .i64, .int .i64] (.va 0)], 1, .op (.cmp .leq) [.op .llen [.va 0], .ci 1000], .obool (.va 1000), [], [.app 10 [.va 0]]⟩⟩
def h_u8 : HC := ⟨52, 2, ⟨[.ptr 1 0], [.arr 5 [.int .u8] (.va 0), .cells 143 0 [.osl 0 (.op .lget [.va 1, .ci 0, .ci 0]) (.op .lget [.va 1, .ci 0, .ci 1]) 1, .oint .i64 (.op .lget [.va 1, .ci 0, .ci 2])]], 1, .app 46 [.va 0, .va 1], .oint .u8 (.va 1000), [some (.cells 143 0 [.osl 0 (.va 1001) (.va 1002) 1, .oint .i64 (.va 1003)])], [.app 40 [.va 0, .va 1, .ci 1], .op .lget [.app 44 [.va 0, .va 1, .ci 1], .ci 0, .ci 0], .op .lget [.app 44 [.va 0, .va 1, .ci 1], .ci 0, .ci 1], .op .lget [.app 44 [.va 0, .va 1, .ci 1], .ci 0, .ci 2]]⟩⟩
def h_u16 : HC := ⟨118, 2, ⟨[.ptr 1 0], [.arr 5 [.int .u8] (.va 0), .cells 143 0 [.osl 0 (.op .lget [.va 1, .ci 0, .ci 0]) (.op .lget [.va 1, .ci 0, .ci 1]) 1, .oint .i64 (.op .lget [.va 1, .ci 0, .ci 2])]], 1, .app 46 [.va 0, .va 1], .oint .u16 (.va 1000), [some (.cells 143 0 [.osl 0 (.va 1001) (.va 1002) 1, .oint .i64 (.va 1003)])], [.app 40 [.va 0, .va 1, .ci 2], .op .lget [.app 44 [.va 0, .va 1, .ci 2], .ci 0, .ci 0], .op .lget [.app 44 [.va 0, .va 1, .ci 2], .ci 0, .ci 1], .op .lget [.app 44 [.va 0, .va 1, .ci 2], .ci 0, .ci 2]]⟩⟩
def h_u32 : HC := ⟨53, 2, ⟨[.ptr 1 0], [.arr 5 [.int .u8] (.va 0), .cells 143 0 [.osl 0 (.op .lget [.va 1, .ci 0, .ci 0]) (.op .lget [.va 1, .ci 0, .ci 1]) 1, .oint .i64 (.op .lget [.va 1, .ci 0, .ci 2])]], 1, .app 46 [.va 0, .va 1], .oint .u32 (.va 1000), [some (.cells 143 0 [.osl 0 (.va 1001) (.va 1002) 1, .oint .i64 (.va 1003)])], [.app 40 [.va 0, .va 1, .ci 4], .op .lget [.app 44 [.va 0, .va 1, .ci 4], .ci 0, .ci 0], .op .lget [.app 44 [.va 0, .va 1, .ci 4], .ci 0, .ci 1], .op .lget [.app 44 [.va 0, .va 1, .ci 4], .ci 0, .ci 2]]⟩⟩
def h_u64 : HC := ⟨116, 2, ⟨[.ptr 1 0], [.arr 5 [.int .u8] (.va 0), .cells 143 0 [.osl 0 (.op .lget [.va 1, .ci 0, .ci 0]) (.op .lget [.va 1, .ci 0, .ci 1]) 1, .oint .i64 (.op .lget [.va 1, .ci 0, .ci 2])]], 1, .app 46 [.va 0, .va 1], .oint .u64 (.va 1000), [some (.cells 143 0 [.osl 0 (.va 1001) (.va 1002) 1, .oint .i64 (.va 1003)])], [.app 40 [.va 0, .va 1, .ci 8], .op .lget [.app 44 [.va 0, .va 1, .ci 8], .ci 0, .ci 0], .op .lget [.app 44 [.va 0, .va 1, .ci 8], .ci 0, .ci 1], .op .lget [.app 44 [.va 0, .va 1, .ci 8], .ci 0, .ci 2]]⟩⟩
def h_takeA : HC := ⟨48, 4, ⟨[.agg [.osl 0 (.va 2) (.va 3) 1, .oint .i64 (.op .lget [.va 1, .ci 0, .ci 0]), .obool (.op .lget [.va 1, .ci 0, .ci 1])], .int .i64 1], [.arr 4294967295 [.int .u8] (.va 0)], 1, .app 47 [.va 0, .va 1, .va 2, .va 3], .tup [.oint .u64 (.va 1000), .agg [.osl 0 (.va 1001) (.va 1002) 1, .oint .i64 (.va 1003), .obool (.va 1004)]], [], [.app 48 [.va 0, .va 1, .ci 1], .va 2, .va 3, .op .lget [.app 45 [.va 0, .va 1, .ci 1], .ci 0, .ci 0], .op .lget [.app 45 [.va 0, .va 1, .ci 1], .ci 0, .ci 1]]⟩⟩
def h_takeB : HC := ⟨48, 4, ⟨[.agg [.osl 0 (.va 2) (.va 3) 1, .oint .i64 (.op .lget [.va 1, .ci 0, .ci 0]), .obool (.op .lget [.va 1, .ci 0, .ci 1])], .int .i64 2], [.arr 4294967295 [.int .u8] (.va 0)], 1, .app 47 [.va 0, .va 1, .va 2, .va 3], .tup [.oint .u64 (.va 1000), .agg [.osl 0 (.va 1001) (.va 1002) 1, .oint .i64 (.va 1003), .obool (.va 1004)]], [], [.app 48 [.va 0, .va 1, .ci 2], .va 2, .va 3, .op .lget [.app 45 [.va 0, .va 1, .ci 2], .ci 0, .ci 0], .op .lget [.app 45 [.va 0, .va 1, .ci 2], .ci 0, .ci 1]]⟩⟩
def h_takeC : HC := ⟨48, 4, ⟨[.agg [.osl 0 (.va 2) (.va 3) 1, .oint .i64 (.op .lget [.va 1, .ci 0, .ci 0]), .obool (.op .lget [.va 1, .ci 0, .ci 1])], .int .i64 4], [.arr 4294967295 [.int .u8] (.va 0)], 1, .app 47 [.va 0, .va 1, .va 2, .va 3], .tup [.oint .u64 (.va 1000), .agg [.osl 0 (.va 1001) (.va 1002) 1, .oint .i64 (.va 1003), .obool (.va 1004)]], [], [.app 48 [.va 0, .va 1, .ci 4], .va 2, .va 3, .op .lget [.app 45 [.va 0, .va 1, .ci 4], .ci 0, .ci 0], .op .lget [.app 45 [.va 0, .va 1, .ci 4], .ci 0, .ci 1]]⟩⟩
def h_takeD : HC := ⟨48, 4, ⟨[.agg [.osl 0 (.va 2) (.va 3) 1, .oint .i64 (.op .lget [.va 1, .ci 0, .ci 0]), .obool (.op .lget [.va 1, .ci 0, .ci 1])], .int .i64 8], [.arr 4294967295 [.int .u8] (.va 0)], 1, .app 47 [.va 0, .va 1, .va 2, .va 3], .tup [.oint .u64 (.va 1000), .agg [.osl 0 (.va 1001) (.va 1002) 1, .oint .i64 (.va 1003), .obool (.va 1004)]], [], [.app 48 [.va 0, .va 1, .ci 8], .va 2, .va 3, .op .lget [.app 45 [.va 0, .va 1, .ci 8], .ci 0, .ci 0], .op .lget [.app 45 [.va 0, .va 1, .ci 8], .ci 0, .ci 1]]⟩⟩
def L1 : List HC := [h_rows, h_panes, h_equalRows, h_equalPanes, h_sameV, h_sameBytes, h_spoilRows, h_spoilPanes, h_badRows, h_badPanes, h_u8, h_u16, h_u32, h_u64, h_takeA, h_takeB, h_takeC, h_takeD]
def h_same : HC := ⟨15, 24, ⟨[.agg [.oint .u8 (.va 0), .oint .u32 (.va 1), .oint .u16 (.va 2), .obool (.va 3), .oint .u64 (.va 4), .oint .u64 (.va 5), .oint .u64 (.va 6), .oint .u64 (.va 7), .oint .u64 (.va 8), .oint .u64 (.va 9), .osl 0 (.ci 0) (.op .llen [.va 10]) 7, .osl 1 (.ci 0) (.op .llen [.va 11]) 3], .agg [.oint .u8 (.va 12), .oint .u32 (.va 13), .oint .u16 (.va 14), .obool (.va 15), .oint .u64 (.va 16), .oint .u64 (.va 17), .oint .u64 (.va 18), .oint .u64 (.va 19), .oint .u64 (.va 20), .oint .u64 (.va 21), .osl 2 (.ci 0) (.op .llen [.va 22]) 7, .osl 3 (.ci 0) (.op .llen [.va 23]) 3]], [.arr 4294967295 [.str, .int .i64, .int .i64, .int .i64, .int .i64, .int .i64, .int .i64] (.va 10), .arr 4294967295 [.str, .int .i64, .int .i64] (.va 11), .arr 4294967295 [.str, .int .i64, .int .i64, .int .i64, .int .i64, .int .i64, .int .i64] (.va 22), .arr 4294967295 [.str, .int .i64, .int .i64] (.va 23)], 4, .op .and [.op (.cmp .leq) [.op .llen [.va 10], .ci 1000000], .op (.cmp .leq) [.op .llen [.va 11], .ci 1000000]], .obool (.va 1000), [], [.app 7 [.va 0, .va 1, .va 2, .va 3, .va 4, .va 5, .va 6, .va 7, .va 8, .va 9, .va 10, .va 11, .va 12, .va 13, .va 14, .va 15, .va 16, .va 17, .va 18, .va 19, .va 20, .va 21, .va 22, .va 23]]⟩⟩
def h_rep : HC := ⟨8, 12, ⟨[.agg [.oint .u8 (.va 0), .oint .u32 (.va 1), .oint .u16 (.va 2), .obool (.va 3), .oint .u64 (.va 4), .oint .u64 (.va 5), .oint .u64 (.va 6), .oint .u64 (.va 7), .oint .u64 (.va 8), .oint .u64 (.va 9), .osl 0 (.ci 0) (.op .llen [.va 10]) 7, .osl 1 (.ci 0) (.op .llen [.va 11]) 3]], [.arr 4294967295 [.str, .int .i64, .int .i64, .int .i64, .int .i64, .int .i64, .int .i64] (.va 10), .arr 4294967295 [.str, .int .i64, .int .i64] (.va 11)], 2, .op .and [.op (.cmp .leq) [.op .llen [.va 10], .ci 1000], .op (.cmp .leq) [.op .llen [.va 11], .ci 1000]], .agg [.oint .u8 (.va 1000), .oint .u32 (.va 1001), .oint .u16 (.va 1002), .obool (.va 1003), .oint .u64 (.va 1004), .oint .u64 (.va 1005), .oint .u64 (.va 1006), .oint .u64 (.va 1007), .oint .u64 (.va 1008), .oint .u64 (.va 1009), .ous 2 (.op .llen [.va 1010]) 7, .ous 3 (.op .llen [.va 1011]) 3], [some (.arr 88 [.str, .int .i64, .int .i64, .int .i64, .int .i64, .int .i64, .int .i64] (.va 1010)), some (.arr 85 [.str, .int .i64, .int .i64] (.va 1011))], [.va 0, .va 1, .va 2, .va 3, .va 4, .va 5, .va 6, .va 7, .va 8, .va 9, .app 30 [.va 10], .app 31 [.va 11]]⟩⟩
def h_sameR : HC := ⟨16, 24, ⟨[.agg [.oint .u8 (.va 0), .oint .u32 (.va 1), .oint .u16 (.va 2), .obool (.va 3), .oint .u64 (.va 4), .oint .u64 (.va 5), .oint .u64 (.va 6), .oint .u64 (.va 7), .oint .u64 (.va 8), .oint .u64 (.va 9), .osl 0 (.ci 0) (.op .llen [.va 10]) 7, .osl 1 (.ci 0) (.op .llen [.va 11]) 3], .agg [.oint .u8 (.va 12), .oint .u32 (.va 13), .oint .u16 (.va 14), .obool (.va 15), .oint .u64 (.va 16), .oint .u64 (.va 17), .oint .u64 (.va 18), .oint .u64 (.va 19), .oint .u64 (.va 20), .oint .u64 (.va 21), .osl 2 (.ci 0) (.op .llen [.va 22]) 7, .osl 3 (.ci 0) (.op .llen [.va 23]) 3]], [.arr 4294967295 [.str, .int .i64, .int .i64, .int .i64, .int .i64, .int .i64, .int .i64] (.va 10), .arr 4294967295 [.str, .int .i64, .int .i64] (.va 11), .arr 4294967295 [.str, .int .i64, .int .i64, .int .i64, .int .i64, .int .i64, .int .i64] (.va 22), .arr 4294967295 [.str, .int .i64, .int .i64] (.va 23)], 4, .op .and [.op (.cmp .leq) [.op .llen [.va 10], .ci 1000000], .op (.cmp .leq) [.op .llen [.va 11], .ci 1000000]], .obool (.va 1000), [], [.app 7 [.va 0, .va 1, .va 2, .va 3, .va 4, .va 5, .va 6, .va 7, .va 8, .va 9, .va 10, .va 11, .va 12, .va 13, .va 14, .va 15, .va 16, .va 17, .va 18, .va 19, .va 20, .va 21, .va 22, .va 23]]⟩⟩
def h_textP : HC := ⟨120, 2, ⟨[.ptr 1 0], [.arr 5 [.int .u8] (.va 0), .cells 143 0 [.osl 0 (.op .lget [.va 1, .ci 0, .ci 0]) (.op .lget [.va 1, .ci 0, .ci 1]) 1, .oint .i64 (.op .lget [.va 1, .ci 0, .ci 2])]], 1, .app 46 [.va 0, .va 1], .ostr (.va 1000), [some (.cells 143 0 [.osl 0 (.va 1001) (.va 1002) 1, .oint .i64 (.va 1003)])], [.app 70 [.va 0, .va 1], .op .lget [.app 71 [.va 0, .va 1], .ci 0, .ci 0], .op .lget [.app 71 [.va 0, .va 1], .ci 0, .ci 1], .op .lget [.app 71 [.va 0, .va 1], .ci 0, .ci 2]]⟩⟩
def h_textR : HC := ⟨75, 4, ⟨[.agg [.osl 0 (.va 2) (.va 3) 1, .oint .i64 (.op .lget [.va 1, .ci 0, .ci 0]), .obool (.op .lget [.va 1, .ci 0, .ci 1])]], [.arr 4294967295 [.int .u8] (.va 0)], 1, .app 47 [.va 0, .va 1, .va 2, .va 3], .tup [.ostr (.va 1000), .agg [.osl 0 (.va 1001) (.va 1002) 1, .oint .i64 (.va 1003), .obool (.va 1004)]], [], [.app 72 [.va 0, .va 1], .va 2, .va 3, .op .lget [.app 73 [.va 0, .va 1], .ci 0, .ci 0], .op .lget [.app 73 [.va 0, .va 1], .ci 0, .ci 1]]⟩⟩
def L2 : List HC := [h_same, h_rep, h_sameR, h_textP, h_textR]
def h_rightR : HC := ⟨14, 12, ⟨[.agg [.oint .u8 (.va 0), .oint .u32 (.va 1), .oint .u16 (.va 2), .obool (.va 3), .oint .u64 (.va 4), .oint .u64 (.va 5), .oint .u64 (.va 6), .oint .u64 (.va 7), .oint .u64 (.va 8), .oint .u64 (.va 9), .osl 0 (.ci 0) (.op .llen [.va 10]) 7, .osl 1 (.ci 0) (.op .llen [.va 11]) 3]], [.arr 4294967295 [.str, .int .i64, .int .i64, .int .i64, .int .i64, .int .i64, .int .i64] (.va 10), .arr 4294967295 [.str, .int .i64, .int .i64] (.va 11)], 2, .op .and [.op (.cmp .leq) [.op .llen [.va 10], .ci 1000], .op (.cmp .leq) [.op .llen [.va 11], .ci 1000]], .obool (.va 1000), [], [.app 4 [.va 0, .va 1, .va 2, .va 3, .va 4, .va 5, .va 6, .va 7, .va 8, .va 9, .va 10, .va 11]]⟩⟩
def a_rightR0 : List AV := [.agg [.oint .u8 (.va 0), .oint .u32 (.va 1), .oint .u16 (.va 2), .obool (.va 3), .oint .u64 (.va 4), .oint .u64 (.va 5), .oint .u64 (.va 6), .oint .u64 (.va 7), .oint .u64 (.va 8), .oint .u64 (.va 9), .osl 0 (.ci 0) (.op .llen [.va 10]) 7, .osl 1 (.ci 0) (.op .llen [.va 11]) 3]]
def a_rightR1 : List AV := [.agg [.int .u8 1, .oint .u32 (.va 1), .oint .u16 (.va 2), .obool (.va 3), .oint .u64 (.va 4), .oint .u64 (.va 5), .oint .u64 (.va 6), .oint .u64 (.va 7), .oint .u64 (.va 8), .oint .u64 (.va 9), .osl 0 (.ci 0) (.op .llen [.va 10]) 7, .osl 1 (.ci 0) (.op .llen [.va 11]) 3]]
def a_rightR2 : List AV := [.agg [.int .u8 2, .oint .u32 (.va 1), .oint .u16 (.va 2), .obool (.va 3), .oint .u64 (.va 4), .oint .u64 (.va 5), .oint .u64 (.va 6), .oint .u64 (.va 7), .oint .u64 (.va 8), .oint .u64 (.va 9), .osl 0 (.ci 0) (.op .llen [.va 10]) 7, .osl 1 (.ci 0) (.op .llen [.va 11]) 3]]
def a_rightR3 : List AV := [.agg [.int .u8 3, .oint .u32 (.va 1), .oint .u16 (.va 2), .obool (.va 3), .oint .u64 (.va 4), .oint .u64 (.va 5), .oint .u64 (.va 6), .oint .u64 (.va 7), .oint .u64 (.va 8), .oint .u64 (.va 9), .osl 0 (.ci 0) (.op .llen [.va 10]) 7, .osl 1 (.ci 0) (.op .llen [.va 11]) 3]]
def a_rightR4 : List AV := [.agg [.int .u8 4, .oint .u32 (.va 1), .oint .u16 (.va 2), .obool (.va 3), .oint .u64 (.va 4), .oint .u64 (.va 5), .oint .u64 (.va 6), .oint .u64 (.va 7), .oint .u64 (.va 8), .oint .u64 (.va 9), .osl 0 (.ci 0) (.op .llen [.va 10]) 7, .osl 1 (.ci 0) (.op .llen [.va 11]) 3]]
def a_rightR5 : List AV := [.agg [.int .u8 5, .oint .u32 (.va 1), .oint .u16 (.va 2), .obool (.va 3), .oint .u64 (.va 4), .oint .u64 (.va 5), .oint .u64 (.va 6), .oint .u64 (.va 7), .oint .u64 (.va 8), .oint .u64 (.va 9), .osl 0 (.ci 0) (.op .llen [.va 10]) 7, .osl 1 (.ci 0) (.op .llen [.va 11]) 3]]
def a_rightR6 : List AV := [.agg [.int .u8 6, .oint .u32 (.va 1), .oint .u16 (.va 2), .obool (.va 3), .oint .u64 (.va 4), .oint .u64 (.va 5), .oint .u64 (.va 6), .oint .u64 (.va 7), .oint .u64 (.va 8), .oint .u64 (.va 9), .osl 0 (.ci 0) (.op .llen [.va 10]) 7, .osl 1 (.ci 0) (.op .llen [.va 11]) 3]]
def a_rightR7 : List AV := [.agg [.int .u8 7, .oint .u32 (.va 1), .oint .u16 (.va 2), .obool (.va 3), .oint .u64 (.va 4), .oint .u64 (.va 5), .oint .u64 (.va 6), .oint .u64 (.va 7), .oint .u64 (.va 8), .oint .u64 (.va 9), .osl 0 (.ci 0) (.op .llen [.va 10]) 7, .osl 1 (.ci 0) (.op .llen [.va 11]) 3]]
def h_right : HC := ⟨13, 12, ⟨[.agg [.oint .u8 (.va 0), .oint .u32 (.va 1), .oint .u16 (.va 2), .obool (.va 3), .oint .u64 (.va 4), .oint .u64 (.va 5), .oint .u64 (.va 6), .oint .u64 (.va 7), .oint .u64 (.va 8), .oint .u64 (.va 9), .osl 0 (.ci 0) (.op .llen [.va 10]) 7, .osl 1 (.ci 0) (.op .llen [.va 11]) 3]], [.arr 4294967295 [.str, .int .i64, .int .i64, .int .i64, .int .i64, .int .i64, .int .i64] (.va 10), .arr 4294967295 [.str, .int .i64, .int .i64] (.va 11)], 2, .op .and [.op (.cmp .leq) [.op .llen [.va 10], .ci 1000], .op (.cmp .leq) [.op .llen [.va 11], .ci 1000]], .obool (.va 1000), [], [.app 4 [.va 0, .va 1, .va 2, .va 3, .va 4, .va 5, .va 6, .va 7, .va 8, .va 9, .va 10, .va 11]]⟩⟩
def a_right0 : List AV := [.agg [.oint .u8 (.va 0), .oint .u32 (.va 1), .oint .u16 (.va 2), .obool (.va 3), .oint .u64 (.va 4), .oint .u64 (.va 5), .oint .u64 (.va 6), .oint .u64 (.va 7), .oint .u64 (.va 8), .oint .u64 (.va 9), .osl 0 (.ci 0) (.op .llen [.va 10]) 7, .osl 1 (.ci 0) (.op .llen [.va 11]) 3]]
def a_right1 : List AV := [.agg [.int .u8 1, .oint .u32 (.va 1), .oint .u16 (.va 2), .obool (.va 3), .oint .u64 (.va 4), .oint .u64 (.va 5), .oint .u64 (.va 6), .oint .u64 (.va 7), .oint .u64 (.va 8), .oint .u64 (.va 9), .osl 0 (.ci 0) (.op .llen [.va 10]) 7, .osl 1 (.ci 0) (.op .llen [.va 11]) 3]]
def a_right2 : List AV := [.agg [.int .u8 2, .oint .u32 (.va 1), .oint .u16 (.va 2), .obool (.va 3), .oint .u64 (.va 4), .oint .u64 (.va 5), .oint .u64 (.va 6), .oint .u64 (.va 7), .oint .u64 (.va 8), .oint .u64 (.va 9), .osl 0 (.ci 0) (.op .llen [.va 10]) 7, .osl 1 (.ci 0) (.op .llen [.va 11]) 3]]
def a_right3 : List AV := [.agg [.int .u8 3, .oint .u32 (.va 1), .oint .u16 (.va 2), .obool (.va 3), .oint .u64 (.va 4), .oint .u64 (.va 5), .oint .u64 (.va 6), .oint .u64 (.va 7), .oint .u64 (.va 8), .oint .u64 (.va 9), .osl 0 (.ci 0) (.op .llen [.va 10]) 7, .osl 1 (.ci 0) (.op .llen [.va 11]) 3]]
def a_right4 : List AV := [.agg [.int .u8 4, .oint .u32 (.va 1), .oint .u16 (.va 2), .obool (.va 3), .oint .u64 (.va 4), .oint .u64 (.va 5), .oint .u64 (.va 6), .oint .u64 (.va 7), .oint .u64 (.va 8), .oint .u64 (.va 9), .osl 0 (.ci 0) (.op .llen [.va 10]) 7, .osl 1 (.ci 0) (.op .llen [.va 11]) 3]]
def a_right5 : List AV := [.agg [.int .u8 5, .oint .u32 (.va 1), .oint .u16 (.va 2), .obool (.va 3), .oint .u64 (.va 4), .oint .u64 (.va 5), .oint .u64 (.va 6), .oint .u64 (.va 7), .oint .u64 (.va 8), .oint .u64 (.va 9), .osl 0 (.ci 0) (.op .llen [.va 10]) 7, .osl 1 (.ci 0) (.op .llen [.va 11]) 3]]
def a_right6 : List AV := [.agg [.int .u8 6, .oint .u32 (.va 1), .oint .u16 (.va 2), .obool (.va 3), .oint .u64 (.va 4), .oint .u64 (.va 5), .oint .u64 (.va 6), .oint .u64 (.va 7), .oint .u64 (.va 8), .oint .u64 (.va 9), .osl 0 (.ci 0) (.op .llen [.va 10]) 7, .osl 1 (.ci 0) (.op .llen [.va 11]) 3]]
def a_right7 : List AV := [.agg [.int .u8 7, .oint .u32 (.va 1), .oint .u16 (.va 2), .obool (.va 3), .oint .u64 (.va 4), .oint .u64 (.va 5), .oint .u64 (.va 6), .oint .u64 (.va 7), .oint .u64 (.va 8), .oint .u64 (.va 9), .osl 0 (.ci 0) (.op .llen [.va 10]) 7, .osl 1 (.ci 0) (.op .llen [.va 11]) 3]]
def h_paneP : HC := ⟨117, 3, ⟨[.ptr 1 0], [.arr 5 [.int .u8] (.va 0), .cells 106 0 [.ptr 2 0, .obool (.va 2)], .cells 143 0 [.osl 0 (.op .lget [.va 1, .ci 0, .ci 0]) (.op .lget [.va 1, .ci 0, .ci 1]) 1, .oint .i64 (.op .lget [.va 1, .ci 0, .ci 2])]], 2, .app 46 [.va 0, .va 1], .agg [.ostr (.va 1000), .oint .i64 (.va 1001), .oint .i64 (.va 1002)], [some (.cells 143 0 [.osl 0 (.va 1003) (.va 1004) 1, .oint .i64 (.va 1005)])], [.op .lget [.app 74 [.va 0, .va 1], .ci 0, .ci 0], .op .lget [.app 74 [.va 0, .va 1], .ci 0, .ci 1], .op .lget [.app 74 [.va 0, .va 1], .ci 0, .ci 2], .op .lget [.app 75 [.va 0, .va 1], .ci 0, .ci 0], .op .lget [.app 75 [.va 0, .va 1], .ci 0, .ci 1], .op .lget [.app 75 [.va 0, .va 1], .ci 0, .ci 2]]⟩⟩
def h_paneR : HC := ⟨68, 4, ⟨[.agg [.osl 0 (.va 2) (.va 3) 1, .oint .i64 (.op .lget [.va 1, .ci 0, .ci 0]), .obool (.op .lget [.va 1, .ci 0, .ci 1])]], [.arr 4294967295 [.int .u8] (.va 0)], 1, .app 47 [.va 0, .va 1, .va 2, .va 3], .tup [.agg [.ostr (.va 1000), .oint .i64 (.va 1001), .oint .i64 (.va 1002)], .agg [.osl 0 (.va 1003) (.va 1004) 1, .oint .i64 (.va 1005), .obool (.va 1006)]], [], [.op .lget [.app 76 [.va 0, .va 1], .ci 0, .ci 0], .op .lget [.app 76 [.va 0, .va 1], .ci 0, .ci 1], .op .lget [.app 76 [.va 0, .va 1], .ci 0, .ci 2], .va 2, .va 3, .op .lget [.app 77 [.va 0, .va 1], .ci 0, .ci 0], .op .lget [.app 77 [.va 0, .va 1], .ci 0, .ci 1]]⟩⟩
def L3 : List HC := [h_rightR, h_right, h_paneP, h_paneR]
def h_rowR : HC := ⟨67, 4, ⟨[.agg [.osl 0 (.va 2) (.va 3) 1, .oint .i64 (.op .lget [.va 1, .ci 0, .ci 0]), .obool (.op .lget [.va 1, .ci 0, .ci 1])]], [.arr 4294967295 [.int .u8] (.va 0)], 1, .app 47 [.va 0, .va 1, .va 2, .va 3], .tup [.agg [.ostr (.va 1000), .oint .i64 (.va 1001), .oint .i64 (.va 1002), .oint .i64 (.va 1003), .oint .i64 (.va 1004), .oint .i64 (.va 1005), .oint .i64 (.va 1006)], .agg [.osl 0 (.va 1007) (.va 1008) 1, .oint .i64 (.va 1009), .obool (.va 1010)]], [], [.op .lget [.app 78 [.va 0, .va 1], .ci 0, .ci 0], .op .lget [.app 78 [.va 0, .va 1], .ci 0, .ci 1], .op .lget [.app 78 [.va 0, .va 1], .ci 0, .ci 2], .op .lget [.app 78 [.va 0, .va 1], .ci 0, .ci 3], .op .lget [.app 78 [.va 0, .va 1], .ci 0, .ci 4], .op .lget [.app 78 [.va 0, .va 1], .ci 0, .ci 5], .op .lget [.app 78 [.va 0, .va 1], .ci 0, .ci 6], .va 2, .va 3, .op .lget [.app 79 [.va 0, .va 1], .ci 0, .ci 0], .op .lget [.app 79 [.va 0, .va 1], .ci 0, .ci 1]]⟩⟩
def L4 : List HC := [h_rowR]
def h_parse : HC := ⟨19, 1, ⟨[.osl 0 (.ci 0) (.op .llen [.va 0]) 1], [.arr 4294967295 [.int .u8] (.va 0)], 1, .op .and [.op (.cmp .leq) [.op .llen [.va 0], .ci 1000000], .op .bok [.va 0]], .tup [.agg [.oint .u8 (.va 1000), .oint .u32 (.va 1001), .oint .u16 (.va 1002), .obool (.va 1003), .oint .u64 (.va 1004), .oint .u64 (.va 1005), .oint .u64 (.va 1006), .oint .u64 (.va 1007), .oint .u64 (.va 1008), .oint .u64 (.va 1009), .ous 1 (.op .llen [.va 1011]) 7, .ous 2 (.op .llen [.va 1012]) 3], .oint .i64 (.va 1010)], [some (.arr 79 [.str, .int .i64, .int .i64, .int .i64, .int .i64, .int .i64, .int .i64] (.va 1011)), some (.arr 75 [.str, .int .i64, .int .i64] (.va 1012))], [.app 50 [.va 0], .app 51 [.va 0], .app 52 [.va 0], .app 53 [.va 0], .app 54 [.va 0], .app 55 [.va 0], .app 56 [.va 0], .app 57 [.va 0], .app 58 [.va 0], .app 59 [.va 0], .app 60 [.va 0], .app 61 [.va 0], .app 62 [.va 0]]⟩⟩
def L5 : List HC := [h_parse]
def h_parseR : HC := ⟨18, 1, ⟨[.osl 0 (.ci 0) (.op .llen [.va 0]) 1], [.arr 4294967295 [.int .u8] (.va 0)], 1, .op .and [.op (.cmp .leq) [.op .llen [.va 0], .ci 1000000], .op .bok [.va 0]], .tup [.agg [.oint .u8 (.va 1000), .oint .u32 (.va 1001), .oint .u16 (.va 1002), .obool (.va 1003), .oint .u64 (.va 1004), .oint .u64 (.va 1005), .oint .u64 (.va 1006), .oint .u64 (.va 1007), .oint .u64 (.va 1008), .oint .u64 (.va 1009), .ous 1 (.op .llen [.va 1011]) 7, .ous 2 (.op .llen [.va 1012]) 3], .oint .i64 (.va 1010)], [some (.arr 88 [.str, .int .i64, .int .i64, .int .i64, .int .i64, .int .i64, .int .i64] (.va 1011)), some (.arr 85 [.str, .int .i64, .int .i64] (.va 1012))], [.app 50 [.va 0], .app 51 [.va 0], .app 52 [.va 0], .app 53 [.va 0], .app 54 [.va 0], .app 55 [.va 0], .app 56 [.va 0], .app 57 [.va 0], .app 58 [.va 0], .app 59 [.va 0], .app 60 [.va 0], .app 61 [.va 0], .app 62 [.va 0]]⟩⟩
def L6 : List HC := [h_parseR]
def h_replyReads : HC := ⟨4, 1, ⟨[.osl 0 (.ci 0) (.op .llen [.va 0]) 1], [.arr 4294967295 [.int .u8] (.va 0)], 1, .op .bok [.va 0], .obool (.va 1000), [], [.cb true]⟩⟩
def L7 : List HC := [h_replyReads]
theorem names : (Try.prog.funcs.toList.all fun fn => !(fn.name == "runtime.NumGoroutine")) = true := by kernel_rfl
theorem env0_ok (ω : Opq) (hω : ∀ t, ω.fix t = fixT Try.prog t) : env0.Ok ω := by
  refine ⟨hω, fun f fn h => ?_, fun f e h => ?_, fun _ _ _ _ h => (by cases h), fun _ _ _ h => (by cases h), fun _ _ _ h => (by cases h), fun _ _ _ _ _ h => (by cases h)⟩
  · have h1 := List.all_eq_true.1 names fn (by
      obtain ⟨h2, rfl⟩ := Array.getElem?_eq_some_iff.1 h
      exact Array.mem_toList_iff.2 (Array.getElem_mem h2))
    simpa using h1
  · cases h
theorem env_ok (ω : Opq) (hω : ∀ t, ω.fix t = fixT Try.prog t) : env.Ok ω :=
  let h := env0_ok ω hω
  ⟨h.fix, h.name, h.ext, h.bin, h.un, h.conv, h.blt⟩
theorem orders : Try.prog.follows .mixedOrders = true := by kernel_rfl
def KK (k : Int) : List HC := [h_kindP k, h_kindR k]
noncomputable def H0 : List HC := []
noncomputable def H1 : List HC := L0 ++ H0
noncomputable def H2 : List HC := L1 ++ H1
noncomputable def H3 : List HC := L2 ++ H2
noncomputable def H4 : List HC := L3 ++ H3
noncomputable def H5 : List HC := L4 ++ H4
noncomputable def H6 : List HC := L5 ++ H5
noncomputable def H7 : List HC := L6 ++ H6

theorem r_works : FC.run env0 1000000 h_works.f h_works.c h_works.c.args = T_works := by kernel_rfl
theorem r_rows : FC.run (env.hooks H1) 1000000 h_rows.f h_rows.c h_rows.c.args = T_rows := by kernel_rfl
theorem r_panes : FC.run (env.hooks H1) 1000000 h_panes.f h_panes.c h_panes.c.args = T_panes := by kernel_rfl
theorem r_equalRows : FC.run (env.hooks H1) 1000000 h_equalRows.f h_equalRows.c h_equalRows.c.args = T_equalRows := by kernel_rfl
theorem r_equalPanes : FC.run (env.hooks H1) 1000000 h_equalPanes.f h_equalPanes.c h_equalPanes.c.args = T_equalPanes := by kernel_rfl
theorem r_sameV : FC.run (env.hooks H1) 1000000 h_sameV.f h_sameV.c h_sameV.c.args = T_sameV := by kernel_rfl
theorem r_sameBytes : FC.run (env.hooks H1) 1000000 h_sameBytes.f h_sameBytes.c h_sameBytes.c.args = T_sameBytes := by kernel_rfl
theorem r_spoilRows : FC.run (env.hooks H1) 1000000 h_spoilRows.f h_spoilRows.c h_spoilRows.c.args = T_spoilRows := by kernel_rfl
theorem r_spoilPanes : FC.run (env.hooks H1) 1000000 h_spoilPanes.f h_spoilPanes.c h_spoilPanes.c.args = T_spoilPanes := by kernel_rfl
theorem r_badRows : FC.run (env.hooks H1) 1000000 h_badRows.f h_badRows.c h_badRows.c.args = T_badRows := by kernel_rfl
theorem r_badPanes : FC.run (env.hooks H1) 1000000 h_badPanes.f h_badPanes.c h_badPanes.c.args = T_badPanes := by kernel_rfl
theorem r_u8 : FC.run (env.hooks H1) 1000000 h_u8.f h_u8.c h_u8.c.args = T_u8 := by kernel_rfl
theorem r_u16 : FC.run (env.hooks H1) 1000000 h_u16.f h_u16.c h_u16.c.args = T_u16 := by kernel_rfl
theorem r_u32 : FC.run (env.hooks H1) 1000000 h_u32.f h_u32.c h_u32.c.args = T_u32 := by kernel_rfl
theorem r_u64 : FC.run (env.hooks H1) 1000000 h_u64.f h_u64.c h_u64.c.args = T_u64 := by kernel_rfl
theorem r_takeA : FC.run (env.hooks H1) 1000000 h_takeA.f h_takeA.c h_takeA.c.args = T_takeA := by kernel_rfl
theorem r_takeB : FC.run (env.hooks H1) 1000000 h_takeB.f h_takeB.c h_takeB.c.args = T_takeB := by kernel_rfl
theorem r_takeC : FC.run (env.hooks H1) 1000000 h_takeC.f h_takeC.c h_takeC.c.args = T_takeC := by kernel_rfl
theorem r_takeD : FC.run (env.hooks H1) 1000000 h_takeD.f h_takeD.c h_takeD.c.args = T_takeD := by kernel_rfl
theorem r_same : FC.run (env.hooks H2) 1000000 h_same.f h_same.c h_same.c.args = T_same := by kernel_rfl
theorem r_rep : FC.run (env.hooks H2) 1000000 h_rep.f h_rep.c h_rep.c.args = T_rep := by kernel_rfl
theorem r_sameR : FC.run (env.hooks H2) 1000000 h_sameR.f h_sameR.c h_sameR.c.args = T_sameR := by kernel_rfl
theorem r_textP : FC.run (env.hooks H2) 1000000 h_textP.f h_textP.c h_textP.c.args = T_textP := by kernel_rfl
theorem r_textR : FC.run (env.hooks H2) 1000000 h_textR.f h_textR.c h_textR.c.args = T_textR := by kernel_rfl
theorem r_rightR0 : FC.run (env.hooks H3) 1000000 h_rightR.f h_rightR.c a_rightR0 = T_rightR0 := by kernel_rfl
theorem r_rightR1 : FC.run (env.hooks H3) 1000000 h_rightR.f h_rightR.c a_rightR1 = T_rightR1 := by kernel_rfl
theorem r_rightR2 : FC.run (env.hooks H3) 1000000 h_rightR.f h_rightR.c a_rightR2 = T_rightR2 := by kernel_rfl
theorem r_rightR3 : FC.run (env.hooks H3) 1000000 h_rightR.f h_rightR.c a_rightR3 = T_rightR3 := by kernel_rfl
theorem r_rightR4 : FC.run (env.hooks H3) 1000000 h_rightR.f h_rightR.c a_rightR4 = T_rightR4 := by kernel_rfl
theorem r_rightR5 : FC.run (env.hooks H3) 1000000 h_rightR.f h_rightR.c a_rightR5 = T_rightR5 := by kernel_rfl
theorem r_rightR6 : FC.run (env.hooks H3) 1000000 h_rightR.f h_rightR.c a_rightR6 = T_rightR6 := by kernel_rfl
theorem r_rightR7 : FC.run (env.hooks H3) 1000000 h_rightR.f h_rightR.c a_rightR7 = T_rightR7 := by kernel_rfl
theorem r_right0 : FC.run (env.hooks H3) 1000000 h_right.f h_right.c a_right0 = T_right0 := by kernel_rfl
theorem r_right1 : FC.run (env.hooks H3) 1000000 h_right.f h_right.c a_right1 = T_right1 := by kernel_rfl
theorem r_right2 : FC.run (env.hooks H3) 1000000 h_right.f h_right.c a_right2 = T_right2 := by kernel_rfl
theorem r_right3 : FC.run (env.hooks H3) 1000000 h_right.f h_right.c a_right3 = T_right3 := by kernel_rfl
theorem r_right4 : FC.run (env.hooks H3) 1000000 h_right.f h_right.c a_right4 = T_right4 := by kernel_rfl
theorem r_right5 : FC.run (env.hooks H3) 1000000 h_right.f h_right.c a_right5 = T_right5 := by kernel_rfl
theorem r_right6 : FC.run (env.hooks H3) 1000000 h_right.f h_right.c a_right6 = T_right6 := by kernel_rfl
theorem r_right7 : FC.run (env.hooks H3) 1000000 h_right.f h_right.c a_right7 = T_right7 := by kernel_rfl
theorem r_paneP : FC.run (env.hooks H3) 1000000 h_paneP.f h_paneP.c h_paneP.c.args = T_paneP := by kernel_rfl
theorem r_paneR : FC.run (env.hooks H3) 1000000 h_paneR.f h_paneR.c h_paneR.c.args = T_paneR := by kernel_rfl
theorem r_rowR : FC.run (env.hooks H4) 1000000 h_rowR.f h_rowR.c h_rowR.c.args = T_rowR := by kernel_rfl
theorem r_parse1 : FC.run (env.hooks (KK 1 ++ H5)) 1000000 h_parse.f h_parse.c h_parse.c.args = T_parse1 := by kernel_rfl
theorem r_parse2 : FC.run (env.hooks (KK 2 ++ H5)) 1000000 h_parse.f h_parse.c h_parse.c.args = T_parse2 := by kernel_rfl
theorem r_parse3 : FC.run (env.hooks (KK 3 ++ H5)) 1000000 h_parse.f h_parse.c h_parse.c.args = T_parse3 := by kernel_rfl
theorem r_parse4 : FC.run (env.hooks (KK 4 ++ H5)) 1000000 h_parse.f h_parse.c h_parse.c.args = T_parse4 := by kernel_rfl
theorem r_parse5 : FC.run (env.hooks (KK 5 ++ H5)) 1000000 h_parse.f h_parse.c h_parse.c.args = T_parse5 := by kernel_rfl
theorem r_parse6 : FC.run (env.hooks (KK 6 ++ H5)) 1000000 h_parse.f h_parse.c h_parse.c.args = T_parse6 := by kernel_rfl
theorem r_parse7 : FC.run (env.hooks (KK 7 ++ H5)) 1000000 h_parse.f h_parse.c h_parse.c.args = T_parse7 := by kernel_rfl
theorem r_parseR0 : FC.run (env.hooks (KK 0 ++ H6)) 1000000 h_parseR.f h_parseR.c h_parseR.c.args = T_parseR0 := by kernel_rfl
theorem r_parseR1 : FC.run (env.hooks (KK 1 ++ H6)) 1000000 h_parseR.f h_parseR.c h_parseR.c.args = T_parseR1 := by kernel_rfl
theorem r_parseR2 : FC.run (env.hooks (KK 2 ++ H6)) 1000000 h_parseR.f h_parseR.c h_parseR.c.args = T_parseR2 := by kernel_rfl
theorem r_parseR3 : FC.run (env.hooks (KK 3 ++ H6)) 1000000 h_parseR.f h_parseR.c h_parseR.c.args = T_parseR3 := by kernel_rfl
theorem r_parseR4 : FC.run (env.hooks (KK 4 ++ H6)) 1000000 h_parseR.f h_parseR.c h_parseR.c.args = T_parseR4 := by kernel_rfl
theorem r_parseR5 : FC.run (env.hooks (KK 5 ++ H6)) 1000000 h_parseR.f h_parseR.c h_parseR.c.args = T_parseR5 := by kernel_rfl
theorem r_parseR6 : FC.run (env.hooks (KK 6 ++ H6)) 1000000 h_parseR.f h_parseR.c h_parseR.c.args = T_parseR6 := by kernel_rfl
theorem r_parseR7 : FC.run (env.hooks (KK 7 ++ H6)) 1000000 h_parseR.f h_parseR.c h_parseR.c.args = T_parseR7 := by kernel_rfl
theorem r_replyReads : FC.run (env.hooks H7) 1000000 h_replyReads.f h_replyReads.c h_replyReads.c.args = T_replyReads := by kernel_rfl


def Om (ω : Opq) : Prop := OmF F Try.prog ω
theorem om_upd (ω : Opq) (v0 : Nat) (l : List Val) (h : Om ω) : Om (ω.upd v0 l) := h
theorem om_f {ω : Opq} (h : Om ω) : ∀ i a, ω.f i a = F i a := fun i a => by rw [h.1]
theorem e_ok (ω : Opq) (h : Om ω) : env.Ok ω := env_ok ω h.2
theorem e0_ok (ω : Opq) (h : Om ω) : env0.Ok ω := env0_ok ω h.2
theorem VRs_kind {β : Bij} {ω : Opq} {us : List Value} {k : IntKind} {n : Nat} {i : Int} {r : List AV} (h : (ω.w n).toI = i) (hv : VRs β ω [.agg (.oint k (.va n) :: r)] us) : VRs β ω [.agg (.int k i :: r)] us := by
  obtain ⟨v, vr, e, ⟨xs, e2, u, ur, e3, p1, p2⟩, q⟩ := hv
  refine ⟨v, vr, e, ⟨xs, e2, u, ur, e3, ?_, p2⟩, q⟩
  show u = .int k i
  rw [← h]; exact p1
theorem h0_ok : ∀ x ∈ H0, HcOk env Om x := fun x hx => by cases hx
theorem r_kindP (k : Int) : FC.run env0 1000000 (h_kindP k).f (h_kindP k).c (h_kindP k).c.args = T_kindP := by kernel_rfl
theorem r_kindR (k : Int) : FC.run env0 1000000 (h_kindR k).f (h_kindR k).c (h_kindR k).c.args = T_kindR := by kernel_rfl
theorem k_kindP (k : Int) : HcOk env Om (h_kindP k) :=
  hc_step (E := env0) (cs := []) om_upd e0_ok orders (fun x hx => by cases hx) (n := 1000000) (by kernel_rfl) (fcMath1 (T := T_kindP) (r_kindP k) fun ω hω hn => by
    have hn := hn
    simp only [h_kindP, dB, den, dens, prim, om_f hω, F39, F49, toB_vb, toI_vi, toL_vl, cmpI_leq, decide_eq_true_eq, Bool.and_eq_true, eqB_t] at hn
    exact (t_kindP hn.1 (by omega) hn.2.2).trans (by simp only [h_kindP, dens, den, prim, om_f hω, toI_vi, toL_vl]))
theorem k_kindR (k : Int) : HcOk env Om (h_kindR k) :=
  hc_step (E := env0) (cs := []) om_upd e0_ok orders (fun x hx => by cases hx) (n := 1000000) (by kernel_rfl) (fcMath1 (T := T_kindR) (r_kindR k) fun ω hω hn => by
    have hn := hn
    simp only [h_kindR, dB, den, dens, prim, om_f hω, F39, F49, toB_vb, toI_vi, toL_vl, cmpI_eql, decide_eq_true_eq, Bool.and_eq_true, eqB_t] at hn
    exact (t_kindR hn.1 hn.2.1.1 hn.2.1.2 hn.2.2).trans (by simp only [h_kindR, dens, den, prim, om_f hω, toI_vi, toL_vl]))
theorem kk_ok {H : List HC} (h : ∀ x ∈ H, HcOk env Om x) (k : Int) : ∀ x ∈ KK k ++ H, HcOk env Om x := hc_app h (hc_add (hc_add (fun x hx => by cases hx) (k_kindR k)) (k_kindP k))
theorem k_works : HcOk env Om h_works :=
  hc_step (E := env0) (cs := []) om_upd e0_ok orders (fun x hx => by cases hx) (n := 1000000) (by kernel_rfl) (fcMath1 (T := T_works) r_works fun ω hω hn => by
    exact rfl)
theorem l0_ok : ∀ x ∈ L0, HcOk env Om x := by
  exact hc_add (fun x hx => (by cases hx)) k_works
theorem h1_ok : ∀ x ∈ H1, HcOk env Om x := hc_app h0_ok l0_ok
theorem k_rows : HcOk env Om h_rows :=
  hc_step (E := env) (cs := H1) om_upd e_ok orders h1_ok (n := 1000000) (by kernel_rfl) (fcMath1 (T := T_rows) r_rows fun ω hω hn => by
    have hn := hn
    simp only [h_rows, dB, den, dens, prim, toB_vb, toI_vi, toL_vl, toS_vs, cmpI_leq, cmpI_eql, cmpI_lss, decide_eq_true_eq, Bool.and_eq_true, List.length_append] at hn
    exact (t_rows (om_f hω) (by omega)).trans (by simp only [h_rows, dens, den, prim, om_f hω, toI_vi, toL_vl]))
theorem k_panes : HcOk env Om h_panes :=
  hc_step (E := env) (cs := H1) om_upd e_ok orders h1_ok (n := 1000000) (by kernel_rfl) (fcMath1 (T := T_panes) r_panes fun ω hω hn => by
    have hn := hn
    simp only [h_panes, dB, den, dens, prim, toB_vb, toI_vi, toL_vl, toS_vs, cmpI_leq, cmpI_eql, cmpI_lss, decide_eq_true_eq, Bool.and_eq_true, List.length_append] at hn
    exact (t_panes (om_f hω) (by omega)).trans (by simp only [h_panes, dens, den, prim, om_f hω, toI_vi, toL_vl]))
theorem k_equalRows : HcOk env Om h_equalRows :=
  hc_step (E := env) (cs := H1) om_upd e_ok orders h1_ok (n := 1000000) (by kernel_rfl) (fcMath1 (T := T_equalRows) r_equalRows fun ω hω hn => by
    have hn := hn
    simp only [h_equalRows, dB, den, dens, prim, toB_vb, toI_vi, toL_vl, toS_vs, cmpI_leq, cmpI_eql, cmpI_lss, decide_eq_true_eq, Bool.and_eq_true, List.length_append] at hn
    exact (t_equalRows (om_f hω) (by omega)).trans (by simp only [h_equalRows, dens, den, prim, om_f hω, toI_vi, toL_vl]))
theorem k_equalPanes : HcOk env Om h_equalPanes :=
  hc_step (E := env) (cs := H1) om_upd e_ok orders h1_ok (n := 1000000) (by kernel_rfl) (fcMath1 (T := T_equalPanes) r_equalPanes fun ω hω hn => by
    have hn := hn
    simp only [h_equalPanes, dB, den, dens, prim, toB_vb, toI_vi, toL_vl, toS_vs, cmpI_leq, cmpI_eql, cmpI_lss, decide_eq_true_eq, Bool.and_eq_true, List.length_append] at hn
    exact (t_equalPanes (om_f hω) (by omega)).trans (by simp only [h_equalPanes, dens, den, prim, om_f hω, toI_vi, toL_vl]))
theorem k_sameV : HcOk env Om h_sameV :=
  hc_step (E := env) (cs := H1) om_upd e_ok orders h1_ok (n := 1000000) (by kernel_rfl) (fcMath1 (T := T_sameV) r_sameV fun ω hω hn => by
    have hn := hn
    simp only [h_sameV, dB, den, dens, prim, toB_vb, toI_vi, toL_vl, toS_vs, cmpI_leq, cmpI_eql, cmpI_lss, decide_eq_true_eq, Bool.and_eq_true, List.length_append] at hn
    exact (t_sameV (om_f hω) (by omega)).trans (by simp only [h_sameV, dens, den, prim, om_f hω, toI_vi, toL_vl]))
theorem k_sameBytes : HcOk env Om h_sameBytes :=
  hc_step (E := env) (cs := H1) om_upd e_ok orders h1_ok (n := 1000000) (by kernel_rfl) (fcMath1 (T := T_sameBytes) r_sameBytes fun ω hω hn => by
    have hn := hn
    simp only [h_sameBytes, dB, den, dens, prim, toB_vb, toI_vi, toL_vl, toS_vs, cmpI_leq, cmpI_eql, cmpI_lss, decide_eq_true_eq, Bool.and_eq_true, List.length_append] at hn
    exact (t_sameBytes (om_f hω) (by omega)).trans (by simp only [h_sameBytes, dens, den, prim, om_f hω, toI_vi, toL_vl]))
theorem k_spoilRows : HcOk env Om h_spoilRows :=
  hc_step (E := env) (cs := H1) om_upd e_ok orders h1_ok (n := 1000000) (by kernel_rfl) (fcMath1 (T := T_spoilRows) r_spoilRows fun ω hω hn => by
    have hn := hn
    simp only [h_spoilRows, dB, den, dens, prim, toB_vb, toI_vi, toL_vl, toS_vs, cmpI_leq, cmpI_eql, cmpI_lss, decide_eq_true_eq, Bool.and_eq_true, List.length_append] at hn
    have h1 := hn.1
    have h2 := hn.2
    exact t_spoilRows (om_f hω) h1 (by omega))
theorem k_spoilPanes : HcOk env Om h_spoilPanes :=
  hc_step (E := env) (cs := H1) om_upd e_ok orders h1_ok (n := 1000000) (by kernel_rfl) (fcMath1 (T := T_spoilPanes) r_spoilPanes fun ω hω hn => by
    have hn := hn
    simp only [h_spoilPanes, dB, den, dens, prim, toB_vb, toI_vi, toL_vl, toS_vs, cmpI_leq, cmpI_eql, cmpI_lss, decide_eq_true_eq, Bool.and_eq_true, List.length_append] at hn
    have h1 := hn.1
    have h2 := hn.2
    exact t_spoilPanes (om_f hω) h1 (by omega))
theorem k_badRows : HcOk env Om h_badRows :=
  hc_step (E := env) (cs := H1) om_upd e_ok orders h1_ok (n := 1000000) (by kernel_rfl) (fcMath1 (T := T_badRows) r_badRows fun ω hω hn => by
    have hn := hn
    simp only [h_badRows, dB, den, dens, prim, toB_vb, toI_vi, toL_vl, toS_vs, cmpI_leq, cmpI_eql, cmpI_lss, decide_eq_true_eq, Bool.and_eq_true, List.length_append] at hn
    exact (t_badRows (om_f hω) (by omega)).trans (by simp only [h_badRows, dens, den, prim, om_f hω, toI_vi, toL_vl]))
theorem k_badPanes : HcOk env Om h_badPanes :=
  hc_step (E := env) (cs := H1) om_upd e_ok orders h1_ok (n := 1000000) (by kernel_rfl) (fcMath1 (T := T_badPanes) r_badPanes fun ω hω hn => by
    have hn := hn
    simp only [h_badPanes, dB, den, dens, prim, toB_vb, toI_vi, toL_vl, toS_vs, cmpI_leq, cmpI_eql, cmpI_lss, decide_eq_true_eq, Bool.and_eq_true, List.length_append] at hn
    exact (t_badPanes (om_f hω) (by omega)).trans (by simp only [h_badPanes, dens, den, prim, om_f hω, toI_vi, toL_vl]))
theorem k_u8 : HcOk env Om h_u8 :=
  hc_step (E := env) (cs := H1) om_upd e_ok orders h1_ok (n := 1000000) (by kernel_rfl) (fcMath1 (T := T_u8) r_u8 fun ω hω hn => by
    have hn := hn
    simp only [h_u8, dB, den, dens, om_f hω, F46, toB_vb] at hn
    exact (t_u8 (om_f hω) hn).trans (by simp only [h_u8, dens, den, prim, om_f hω, toI_vi, toL_vl]))
theorem k_u16 : HcOk env Om h_u16 :=
  hc_step (E := env) (cs := H1) om_upd e_ok orders h1_ok (n := 1000000) (by kernel_rfl) (fcMath1 (T := T_u16) r_u16 fun ω hω hn => by
    have hn := hn
    simp only [h_u16, dB, den, dens, om_f hω, F46, toB_vb] at hn
    exact (t_u16 (om_f hω) hn).trans (by simp only [h_u16, dens, den, prim, om_f hω, toI_vi, toL_vl]))
theorem k_u32 : HcOk env Om h_u32 :=
  hc_step (E := env) (cs := H1) om_upd e_ok orders h1_ok (n := 1000000) (by kernel_rfl) (fcMath1 (T := T_u32) r_u32 fun ω hω hn => by
    have hn := hn
    simp only [h_u32, dB, den, dens, om_f hω, F46, toB_vb] at hn
    exact (t_u32 (om_f hω) hn).trans (by simp only [h_u32, dens, den, prim, om_f hω, toI_vi, toL_vl]))
theorem k_u64 : HcOk env Om h_u64 :=
  hc_step (E := env) (cs := H1) om_upd e_ok orders h1_ok (n := 1000000) (by kernel_rfl) (fcMath1 (T := T_u64) r_u64 fun ω hω hn => by
    have hn := hn
    simp only [h_u64, dB, den, dens, om_f hω, F46, toB_vb] at hn
    exact (t_u64 (om_f hω) hn).trans (by simp only [h_u64, dens, den, prim, om_f hω, toI_vi, toL_vl]))
theorem k_takeA : HcOk env Om h_takeA :=
  hc_step (E := env) (cs := H1) om_upd e_ok orders h1_ok (n := 1000000) (by kernel_rfl) (fcMath1 (T := T_takeA) r_takeA fun ω hω hn => by
    have hn := hn
    simp only [h_takeA, dB, den, dens, om_f hω, F47, toB_vb] at hn
    exact (t_takeA (om_f hω) hn).trans (by simp only [h_takeA, dens, den, prim, om_f hω, toI_vi, toL_vl]))
theorem k_takeB : HcOk env Om h_takeB :=
  hc_step (E := env) (cs := H1) om_upd e_ok orders h1_ok (n := 1000000) (by kernel_rfl) (fcMath1 (T := T_takeB) r_takeB fun ω hω hn => by
    have hn := hn
    simp only [h_takeB, dB, den, dens, om_f hω, F47, toB_vb] at hn
    exact (t_takeB (om_f hω) hn).trans (by simp only [h_takeB, dens, den, prim, om_f hω, toI_vi, toL_vl]))
theorem k_takeC : HcOk env Om h_takeC :=
  hc_step (E := env) (cs := H1) om_upd e_ok orders h1_ok (n := 1000000) (by kernel_rfl) (fcMath1 (T := T_takeC) r_takeC fun ω hω hn => by
    have hn := hn
    simp only [h_takeC, dB, den, dens, om_f hω, F47, toB_vb] at hn
    exact (t_takeC (om_f hω) hn).trans (by simp only [h_takeC, dens, den, prim, om_f hω, toI_vi, toL_vl]))
theorem k_takeD : HcOk env Om h_takeD :=
  hc_step (E := env) (cs := H1) om_upd e_ok orders h1_ok (n := 1000000) (by kernel_rfl) (fcMath1 (T := T_takeD) r_takeD fun ω hω hn => by
    have hn := hn
    simp only [h_takeD, dB, den, dens, om_f hω, F47, toB_vb] at hn
    exact (t_takeD (om_f hω) hn).trans (by simp only [h_takeD, dens, den, prim, om_f hω, toI_vi, toL_vl]))
theorem l1_ok : ∀ x ∈ L1, HcOk env Om x := by
  exact hc_add (hc_add (hc_add (hc_add (hc_add (hc_add (hc_add (hc_add (hc_add (hc_add (hc_add (hc_add (hc_add (hc_add (hc_add (hc_add (hc_add (hc_add (fun x hx => (by cases hx)) k_takeD) k_takeC) k_takeB) k_takeA) k_u64) k_u32) k_u16) k_u8) k_badPanes) k_badRows) k_spoilPanes) k_spoilRows) k_sameBytes) k_sameV) k_equalPanes) k_equalRows) k_panes) k_rows
theorem h2_ok : ∀ x ∈ H2, HcOk env Om x := hc_app h1_ok l1_ok
theorem k_same : HcOk env Om h_same :=
  hc_step (E := env) (cs := H2) om_upd e_ok orders h2_ok (n := 1000000) (by kernel_rfl) (fcMath1 (T := T_same) r_same fun ω hω hn => by
    have hn := hn
    simp only [h_same, dB, den, dens, prim, toB_vb, toI_vi, toL_vl, toS_vs, cmpI_leq, cmpI_eql, cmpI_lss, decide_eq_true_eq, Bool.and_eq_true, List.length_append] at hn
    have h1 := hn.1
    have h2 := hn.2
    exact (t_same (om_f hω) (by omega) (by omega)).trans (by simp only [h_same, dens, den, prim, om_f hω, toI_vi, toL_vl]))
theorem k_rep : HcOk env Om h_rep :=
  hc_step (E := env) (cs := H2) om_upd e_ok orders h2_ok (n := 1000000) (by kernel_rfl) (fcMath1 (T := T_rep) r_rep fun ω hω hn => by
    have hn := hn
    simp only [h_rep, dB, den, dens, prim, toB_vb, toI_vi, toL_vl, toS_vs, cmpI_leq, cmpI_eql, cmpI_lss, decide_eq_true_eq, Bool.and_eq_true, List.length_append] at hn
    have h1 := hn.1
    have h2 := hn.2
    exact (t_rep (om_f hω) (by omega) (by omega)).trans (by simp only [h_rep, dens, den, prim, om_f hω, toI_vi, toL_vl]))
theorem k_sameR : HcOk env Om h_sameR :=
  hc_step (E := env) (cs := H2) om_upd e_ok orders h2_ok (n := 1000000) (by kernel_rfl) (fcMath1 (T := T_sameR) r_sameR fun ω hω hn => by
    have hn := hn
    simp only [h_sameR, dB, den, dens, prim, toB_vb, toI_vi, toL_vl, toS_vs, cmpI_leq, cmpI_eql, cmpI_lss, decide_eq_true_eq, Bool.and_eq_true, List.length_append] at hn
    have h1 := hn.1
    have h2 := hn.2
    exact (t_sameR (om_f hω) (by omega) (by omega)).trans (by simp only [h_sameR, dens, den, prim, om_f hω, toI_vi, toL_vl]))
theorem k_textP : HcOk env Om h_textP :=
  hc_step (E := env) (cs := H2) om_upd e_ok orders h2_ok (n := 1000000) (by kernel_rfl) (fcMath1 (T := T_textP) r_textP fun ω hω hn => by
    have hn := hn
    simp only [h_textP, dB, den, dens, om_f hω, F46, toB_vb] at hn
    exact (t_textP (om_f hω) hn).trans (by simp only [h_textP, dens, den, prim, om_f hω, toI_vi, toL_vl]))
theorem k_textR : HcOk env Om h_textR :=
  hc_step (E := env) (cs := H2) om_upd e_ok orders h2_ok (n := 1000000) (by kernel_rfl) (fcMath1 (T := T_textR) r_textR fun ω hω hn => by
    have hn := hn
    simp only [h_textR, dB, den, dens, om_f hω, F47, toB_vb] at hn
    exact (t_textR (om_f hω) hn).trans (by simp only [h_textR, dens, den, prim, om_f hω, toI_vi, toL_vl]))
theorem l2_ok : ∀ x ∈ L2, HcOk env Om x := by
  exact hc_add (hc_add (hc_add (hc_add (hc_add (fun x hx => (by cases hx)) k_textR) k_textP) k_sameR) k_rep) k_same
theorem h3_ok : ∀ x ∈ H3, HcOk env Om x := hc_app h2_ok l2_ok
theorem k_rightR : HcOk env Om h_rightR :=
  hc_step (E := env) (cs := H3) om_upd e_ok orders h3_ok (n := 1000000) (by kernel_rfl) (fun ω hω hn => by
    have hf := om_f hω
    have hn := hn
    simp only [h_rightR, dB, den, dens, prim, toB_vb, toI_vi, toL_vl, toS_vs, cmpI_leq, cmpI_eql, cmpI_lss, decide_eq_true_eq, Bool.and_eq_true, List.length_append] at hn
    have q1 : (ω.w 10).toL.length ≤ 1000 := by omega
    have q2 : (ω.w 11).toL.length ≤ 1000 := by omega
    have fin : ∀ T : VT, evalT T ω = some (0, [F 4 [ω.w 0, ω.w 1, ω.w 2, ω.w 3, ω.w 4, ω.w 5, ω.w 6, ω.w 7, ω.w 8, ω.w 9, ω.w 10, ω.w 11]]) → evalT T ω = some (0, dens ω h_rightR.c.outs) := fun T e => e.trans (by simp only [h_rightR, dens, den, hf])
    by_cases hk : 1 ≤ (ω.w 0).toI ∧ (ω.w 0).toI ≤ 7
    · have : (ω.w 0).toI = 1 ∨ (ω.w 0).toI = 2 ∨ (ω.w 0).toI = 3 ∨ (ω.w 0).toI = 4 ∨ (ω.w 0).toI = 5 ∨ (ω.w 0).toI = 6 ∨ (ω.w 0).toI = 7 := by omega
      rcases this with e | e | e | e | e | e | e
      · exact ⟨a_rightR1, fun β us h => VRs_kind e h, by rw [r_rightR1]; exact fin _ (t_rightR1 hf e q1 q2)⟩
      · exact ⟨a_rightR2, fun β us h => VRs_kind e h, by rw [r_rightR2]; exact fin _ (t_rightR2 hf e q1 q2)⟩
      · exact ⟨a_rightR3, fun β us h => VRs_kind e h, by rw [r_rightR3]; exact fin _ (t_rightR3 hf e q1 q2)⟩
      · exact ⟨a_rightR4, fun β us h => VRs_kind e h, by rw [r_rightR4]; exact fin _ (t_rightR4 hf e q1 q2)⟩
      · exact ⟨a_rightR5, fun β us h => VRs_kind e h, by rw [r_rightR5]; exact fin _ (t_rightR5 hf e q1 q2)⟩
      · exact ⟨a_rightR6, fun β us h => VRs_kind e h, by rw [r_rightR6]; exact fin _ (t_rightR6 hf e q1 q2)⟩
      · exact ⟨a_rightR7, fun β us h => VRs_kind e h, by rw [r_rightR7]; exact fin _ (t_rightR7 hf e q1 q2)⟩
    · exact ⟨a_rightR0, fun β us h => h, by rw [r_rightR0]; exact fin _ (t_rightR0 hf hk)⟩)
theorem k_right : HcOk env Om h_right :=
  hc_step (E := env) (cs := H3) om_upd e_ok orders h3_ok (n := 1000000) (by kernel_rfl) (fun ω hω hn => by
    have hf := om_f hω
    have hn := hn
    simp only [h_right, dB, den, dens, prim, toB_vb, toI_vi, toL_vl, toS_vs, cmpI_leq, cmpI_eql, cmpI_lss, decide_eq_true_eq, Bool.and_eq_true, List.length_append] at hn
    have q1 : (ω.w 10).toL.length ≤ 1000 := by omega
    have q2 : (ω.w 11).toL.length ≤ 1000 := by omega
    have fin : ∀ T : VT, evalT T ω = some (0, [F 4 [ω.w 0, ω.w 1, ω.w 2, ω.w 3, ω.w 4, ω.w 5, ω.w 6, ω.w 7, ω.w 8, ω.w 9, ω.w 10, ω.w 11]]) → evalT T ω = some (0, dens ω h_right.c.outs) := fun T e => e.trans (by simp only [h_right, dens, den, hf])
    by_cases hk : 1 ≤ (ω.w 0).toI ∧ (ω.w 0).toI ≤ 7
    · have : (ω.w 0).toI = 1 ∨ (ω.w 0).toI = 2 ∨ (ω.w 0).toI = 3 ∨ (ω.w 0).toI = 4 ∨ (ω.w 0).toI = 5 ∨ (ω.w 0).toI = 6 ∨ (ω.w 0).toI = 7 := by omega
      rcases this with e | e | e | e | e | e | e
      · exact ⟨a_right1, fun β us h => VRs_kind e h, by rw [r_right1]; exact fin _ (t_right1 hf e q1 q2)⟩
      · exact ⟨a_right2, fun β us h => VRs_kind e h, by rw [r_right2]; exact fin _ (t_right2 hf e q1 q2)⟩
      · exact ⟨a_right3, fun β us h => VRs_kind e h, by rw [r_right3]; exact fin _ (t_right3 hf e q1 q2)⟩
      · exact ⟨a_right4, fun β us h => VRs_kind e h, by rw [r_right4]; exact fin _ (t_right4 hf e q1 q2)⟩
      · exact ⟨a_right5, fun β us h => VRs_kind e h, by rw [r_right5]; exact fin _ (t_right5 hf e q1 q2)⟩
      · exact ⟨a_right6, fun β us h => VRs_kind e h, by rw [r_right6]; exact fin _ (t_right6 hf e q1 q2)⟩
      · exact ⟨a_right7, fun β us h => VRs_kind e h, by rw [r_right7]; exact fin _ (t_right7 hf e q1 q2)⟩
    · exact ⟨a_right0, fun β us h => h, by rw [r_right0]; exact fin _ (t_right0 hf hk)⟩)
theorem k_paneP : HcOk env Om h_paneP :=
  hc_step (E := env) (cs := H3) om_upd e_ok orders h3_ok (n := 1000000) (by kernel_rfl) (fcMath1 (T := T_paneP) r_paneP fun ω hω hn => by
    have hn := hn
    simp only [h_paneP, dB, den, dens, om_f hω, F46, toB_vb] at hn
    exact (t_paneP (om_f hω) hn).trans (by simp only [h_paneP, dens, den, prim, om_f hω, toI_vi, toL_vl]))
theorem k_paneR : HcOk env Om h_paneR :=
  hc_step (E := env) (cs := H3) om_upd e_ok orders h3_ok (n := 1000000) (by kernel_rfl) (fcMath1 (T := T_paneR) r_paneR fun ω hω hn => by
    have hn := hn
    simp only [h_paneR, dB, den, dens, om_f hω, F47, toB_vb] at hn
    exact (t_paneR (om_f hω) hn).trans (by simp only [h_paneR, dens, den, prim, om_f hω, toI_vi, toL_vl]))
theorem l3_ok : ∀ x ∈ L3, HcOk env Om x := by
  exact hc_add (hc_add (hc_add (hc_add (fun x hx => (by cases hx)) k_paneR) k_paneP) k_right) k_rightR
theorem h4_ok : ∀ x ∈ H4, HcOk env Om x := hc_app h3_ok l3_ok
theorem k_rowR : HcOk env Om h_rowR :=
  hc_step (E := env) (cs := H4) om_upd e_ok orders h4_ok (n := 1000000) (by kernel_rfl) (fcMath1 (T := T_rowR) r_rowR fun ω hω hn => by
    have hn := hn
    simp only [h_rowR, dB, den, dens, om_f hω, F47, toB_vb] at hn
    exact (t_rowR (om_f hω) hn).trans (by simp only [h_rowR, dens, den, prim, om_f hω, toI_vi, toL_vl]))
theorem l4_ok : ∀ x ∈ L4, HcOk env Om x := by
  exact hc_add (fun x hx => (by cases hx)) k_rowR
theorem h5_ok : ∀ x ∈ H5, HcOk env Om x := hc_app h4_ok l4_ok
theorem k_parse : HcOk env Om h_parse :=
  hc_stepX (E := env) om_upd (n := 1000000) (by kernel_rfl) (fun ω hω hn => by
    have hf := om_f hω
    have hn := hn
    simp only [h_parse, dB, den, dens, prim, bok_prim, toB_vb, toI_vi, toL_vl, cmpI_leq, decide_eq_true_eq, Bool.and_eq_true] at hn
    have hl : okL (ω.w 0).toL = true := by
      unfold okL; rw [show okBy (ω.w 0).toL = true from hn.2, decide_eq_true (by omega)]; rfl
    have fin : ∀ T : VT, evalT T ω = some (0, parseV (ω.w 0).toL) → evalT T ω = some (0, dens ω h_parse.c.outs) := fun T e => e.trans (by
      simp only [h_parse, dens, den, hf]
      exact congrArg (fun y => some (0, y)) (parse_eta _))
    by_cases h2 : bI (ω.w 0).toL 0 = 2
    · exact ⟨env.hooks (KK 2 ++ H5), rfl, body_hooks om_upd e_ok orders (kk_ok h5_ok 2) _ hω, h_parse.c.args, fun _ _ h => h, by rw [r_parse2]; exact fin _ (t_parse2 hf hl (by omega))⟩
    by_cases h3 : bI (ω.w 0).toL 0 = 3
    · exact ⟨env.hooks (KK 3 ++ H5), rfl, body_hooks om_upd e_ok orders (kk_ok h5_ok 3) _ hω, h_parse.c.args, fun _ _ h => h, by rw [r_parse3]; exact fin _ (t_parse3 hf hl (by omega))⟩
    by_cases h4 : bI (ω.w 0).toL 0 = 4
    · exact ⟨env.hooks (KK 4 ++ H5), rfl, body_hooks om_upd e_ok orders (kk_ok h5_ok 4) _ hω, h_parse.c.args, fun _ _ h => h, by rw [r_parse4]; exact fin _ (t_parse4 hf hl (by omega))⟩
    by_cases h5 : bI (ω.w 0).toL 0 = 5
    · exact ⟨env.hooks (KK 5 ++ H5), rfl, body_hooks om_upd e_ok orders (kk_ok h5_ok 5) _ hω, h_parse.c.args, fun _ _ h => h, by rw [r_parse5]; exact fin _ (t_parse5 hf hl (by omega))⟩
    by_cases h6 : bI (ω.w 0).toL 0 = 6
    · exact ⟨env.hooks (KK 6 ++ H5), rfl, body_hooks om_upd e_ok orders (kk_ok h5_ok 6) _ hω, h_parse.c.args, fun _ _ h => h, by rw [r_parse6]; exact fin _ (t_parse6 hf hl (by omega))⟩
    by_cases h7 : bI (ω.w 0).toL 0 = 7
    · exact ⟨env.hooks (KK 7 ++ H5), rfl, body_hooks om_upd e_ok orders (kk_ok h5_ok 7) _ hω, h_parse.c.args, fun _ _ h => h, by rw [r_parse7]; exact fin _ (t_parse7 hf hl (by omega))⟩
    exact ⟨env.hooks (KK 1 ++ H5), rfl, body_hooks om_upd e_ok orders (kk_ok h5_ok 1) _ hω, h_parse.c.args, fun _ _ h => h, by rw [r_parse1]; exact fin _ (t_parse1 hf hl (by omega))⟩)
theorem l5_ok : ∀ x ∈ L5, HcOk env Om x := by
  exact hc_add (fun x hx => (by cases hx)) k_parse
theorem h6_ok : ∀ x ∈ H6, HcOk env Om x := hc_app h5_ok l5_ok
theorem k_parseR : HcOk env Om h_parseR :=
  hc_stepX (E := env) om_upd (n := 1000000) (by kernel_rfl) (fun ω hω hn => by
    have hf := om_f hω
    have hn := hn
    simp only [h_parseR, dB, den, dens, prim, bok_prim, toB_vb, toI_vi, toL_vl, cmpI_leq, decide_eq_true_eq, Bool.and_eq_true] at hn
    have hl : okL (ω.w 0).toL = true := by
      unfold okL; rw [show okBy (ω.w 0).toL = true from hn.2, decide_eq_true (by omega)]; rfl
    have fin : ∀ T : VT, evalT T ω = some (0, parseV (ω.w 0).toL) → evalT T ω = some (0, dens ω h_parseR.c.outs) := fun T e => e.trans (by
      simp only [h_parseR, dens, den, hf]
      exact congrArg (fun y => some (0, y)) (parse_eta _))
    by_cases h0 : (ω.w 0).toL.length = 0
    · exact ⟨env.hooks (KK 0 ++ H6), rfl, body_hooks om_upd e_ok orders (kk_ok h6_ok 0) _ hω, h_parseR.c.args, fun _ _ h => h, by rw [r_parseR0]; exact fin _ (t_parseR0 hf hl h0)⟩
    by_cases h2 : bI (ω.w 0).toL 0 = 2
    · exact ⟨env.hooks (KK 2 ++ H6), rfl, body_hooks om_upd e_ok orders (kk_ok h6_ok 2) _ hω, h_parseR.c.args, fun _ _ h => h, by rw [r_parseR2]; exact fin _ (t_parseR2 hf hl h0 (by omega))⟩
    by_cases h3 : bI (ω.w 0).toL 0 = 3
    · exact ⟨env.hooks (KK 3 ++ H6), rfl, body_hooks om_upd e_ok orders (kk_ok h6_ok 3) _ hω, h_parseR.c.args, fun _ _ h => h, by rw [r_parseR3]; exact fin _ (t_parseR3 hf hl h0 (by omega))⟩
    by_cases h4 : bI (ω.w 0).toL 0 = 4
    · exact ⟨env.hooks (KK 4 ++ H6), rfl, body_hooks om_upd e_ok orders (kk_ok h6_ok 4) _ hω, h_parseR.c.args, fun _ _ h => h, by rw [r_parseR4]; exact fin _ (t_parseR4 hf hl h0 (by omega))⟩
    by_cases h5 : bI (ω.w 0).toL 0 = 5
    · exact ⟨env.hooks (KK 5 ++ H6), rfl, body_hooks om_upd e_ok orders (kk_ok h6_ok 5) _ hω, h_parseR.c.args, fun _ _ h => h, by rw [r_parseR5]; exact fin _ (t_parseR5 hf hl h0 (by omega))⟩
    by_cases h6 : bI (ω.w 0).toL 0 = 6
    · exact ⟨env.hooks (KK 6 ++ H6), rfl, body_hooks om_upd e_ok orders (kk_ok h6_ok 6) _ hω, h_parseR.c.args, fun _ _ h => h, by rw [r_parseR6]; exact fin _ (t_parseR6 hf hl h0 (by omega))⟩
    by_cases h7 : bI (ω.w 0).toL 0 = 7
    · exact ⟨env.hooks (KK 7 ++ H6), rfl, body_hooks om_upd e_ok orders (kk_ok h6_ok 7) _ hω, h_parseR.c.args, fun _ _ h => h, by rw [r_parseR7]; exact fin _ (t_parseR7 hf hl h0 (by omega))⟩
    exact ⟨env.hooks (KK 1 ++ H6), rfl, body_hooks om_upd e_ok orders (kk_ok h6_ok 1) _ hω, h_parseR.c.args, fun _ _ h => h, by rw [r_parseR1]; exact fin _ (t_parseR1 hf hl h0 (by omega))⟩)
theorem l6_ok : ∀ x ∈ L6, HcOk env Om x := by
  exact hc_add (fun x hx => (by cases hx)) k_parseR
theorem h7_ok : ∀ x ∈ H7, HcOk env Om x := hc_app h6_ok l6_ok
end Go.Proofs.Ytcgkdegokfkgjaa.Ctr
