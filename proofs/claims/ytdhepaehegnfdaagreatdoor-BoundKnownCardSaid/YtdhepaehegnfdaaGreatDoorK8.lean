import Derived.Test.YtdhepaehegnfdaaGreatDoorRows
import Derived.Test.YtdhepaehegnfdaaGreatDoorEB8
import Derived.Test.YtdhepaehegnfdaaGreatDoorE42
import Derived.ProofKit
set_option linter.unusedVariables false
set_option linter.unusedSimpArgs false
namespace Go.Proofs.YtdhepaehegnfdaaGreatDoor.Ctr
open Go Go.Ev
noncomputable def env0 : Env := ⟨Tryz.prog, fun f => bif Nat.beq f 98 then some (.count) else bif Nat.beq f 108 then some (.indexByte) else bif Nat.beq f 71 then some (.ident) else bif Nat.beq f 103 then some (.makeNoZero 38) else none, fun f => false, fun f => false, fun _ _ _ => .bad, fun _ _ => none, fun _ _ _ _ => none⟩
noncomputable def loops (f : FuncId) (r : Nat) (a : Fr) (h : Heap) : Option LSpec := bif Nat.beq f 72 && Nat.beq r 13 then some (aZ1 ⟨320, 2000, [12, 54, 55, 56, 57, 58, 59, 60, 61, 62, 63, 64, 65, 66, 67, 68, 69, 70, 71, 72, 73], [(10, some (1), 5, [.int .u8])], [11, 53], [10], [0, 1, 2, 10, 52], [(.exit 0, [])], [], []⟩ a h) else bif Nat.beq f 63 && Nat.beq r 2 then some (aZ1 ⟨313, 2000, [5, 9, 10, 11, 12, 13, 14, 15, 16, 17, 18], [], [4, 8], [], [0, 1, 7], [(.exit 0, []), (.ret, [])], [], []⟩ a h) else bif Nat.beq f 48 && Nat.beq r 5 then some (aZ1 ⟨314, 2000, [7, 16, 17, 18, 19, 20, 21, 22, 23, 24, 25, 26, 27, 28, 29, 30, 31, 32, 33, 34, 35], [], [5, 6], [0], [0, 1], [(.exit 0, [])], [], []⟩ a h) else bif Nat.beq f 11 && Nat.beq r 5 then some (aZ1 ⟨315, 2000, [16, 17, 18, 19, 20, 21, 22, 23, 24, 25, 26, 27, 28, 29, 30, 31, 32, 33, 34, 35, 36, 37], [(5, none, 47, [.str, .int .i64, .int .i64])], [4, 5, 6], [], [1, 2], [(.exit 0, []), (.ret, [])], [], []⟩ a h) else bif Nat.beq f 11 && Nat.beq r 18 then some (aZ1 ⟨316, 2000, [54, 55, 56, 57, 58, 59, 60, 61, 62, 63, 64, 65, 66, 67, 68, 69, 70, 71, 72, 73], [], [4, 10], [9], [1, 2, 5, 7, 8, 9], [(.exit 4, []), (.ret, [])], [], []⟩ a h) else bif Nat.beq f 11 && Nat.beq r 24 then some (aZ1 ⟨317, 2000, [74, 75, 76, 77, 78, 79, 80, 81, 82, 83, 84, 85, 86, 87, 88, 89], [], [4, 11], [], [1, 5], [(.exit 6, []), (.ret, [])], [], []⟩ a h) else bif Nat.beq f 29 && Nat.beq r 3 then some (aZ1 ⟨318, 2000, [7, 8, 9, 10, 11, 12, 13, 14, 15, 16, 17, 18, 19, 20, 21, 22, 23, 24, 25, 26, 27, 28, 29, 30, 31, 32, 33, 34, 35, 36, 37, 38, 39, 40, 41, 42, 43, 44, 45, 46, 47, 48, 49, 50, 51, 52, 53, 54, 55, 56, 57, 58, 59, 60, 61, 62, 63, 64, 65], [(5, none, 47, [.str, .int .i64, .int .i64])], [5, 6], [], [1, 2], [(.exit 0, [])], [], []⟩ a h) else bif Nat.beq f 29 && Nat.beq r 8 then some (aZ1 ⟨319, 3000, [31, 32, 33, 34, 35, 36, 37, 38, 39, 40, 41, 42, 43, 44, 45, 46, 47, 48, 49, 50, 51, 52, 53, 54, 55, 56, 57, 58, 59, 60, 61, 62, 63, 64, 65], [], [7], [5], [1, 2, 5, 6], [(.exit 2, [])], [], []⟩ a h) else bif Nat.beq f 57 && Nat.beq r 2 then some (aZ1 ⟨340, 2000, [7, 8, 9, 10, 11, 12, 13, 14, 15, 16, 17, 18, 19, 20, 21, 22, 23], [(4, none, 5, [.int .u8])], [4], [], [], [(.exit 0, [])], [], []⟩ a h) else bif Nat.beq f 68 && Nat.beq r 3 && cC2 5 0 a h then some (aZ1 ⟨362, 2000, [7, 8, 9, 10, 11, 12, 13, 14, 15, 16, 17, 18, 19, 20, 21, 22, 23, 24, 25, 26, 27, 28, 29, 30, 31, 32, 33, 34, 35, 36, 37, 38, 39], [(5, some (1), 5, [.int .u8])], [3, 4, 6], [5, 2], [0, 2, 5], [(.exit 0, []), (.ret, [])], [], [.ret]⟩ a h) else bif Nat.beq f 58 && Nat.beq r 9 then some (aZ1 ⟨363, 2000, [30, 31, 32, 33, 34, 35, 36, 37, 38, 39, 40, 41, 42, 43, 44, 45, 46, 47, 48, 49, 50, 51], [(4, none, 5, [.int .u8])], [4, 5], [], [1], [(.exit 0, [])], [], []⟩ a h) else bif Nat.beq f 70 && Nat.beq r 12 then some (aZ1 ⟨364, 2000, [31, 32, 33, 34, 35, 36, 37, 38, 39, 40, 41, 42, 43, 44, 45, 46, 47, 48, 49, 50, 51, 52, 53, 54, 55, 56, 57, 58, 59, 60, 61, 62, 63, 64, 65], [(8, none, 5, [.int .u8])], [5, 8, 9], [4], [0, 4], [(.exit 2, []), (.ret, [])], [], []⟩ a h) else bif Nat.beq f 39 && Nat.beq r 2 then some (aZ1 ⟨365, 2000, [7, 8, 9, 10, 11, 12, 13, 14, 15, 16, 17], [], [4], [], [0], [(.exit 0, [])], [], []⟩ a h) else bif Nat.beq f 3 && Nat.beq r 4 then some (aZ1 ⟨381, 2000, [4, 5, 6, 7, 8, 12, 13, 14, 15, 16, 17, 18, 19, 20, 21, 22, 23, 24, 25, 26, 27, 28, 29, 30, 31, 32, 33, 34, 35, 36, 37, 38, 39, 40, 41, 42, 43, 44, 45, 46, 47, 48, 49, 50, 51, 52, 53, 54, 55, 56, 57, 58, 59, 60, 61, 62, 63, 64, 65, 66, 67, 68, 69, 70, 71, 72, 73, 74, 75, 76, 77, 78, 79, 80, 81, 82, 83, 84, 85, 86, 87, 88, 89, 90, 91, 92, 93, 94, 95, 96, 97, 98, 99, 100, 101, 102, 103, 104, 105, 106, 107, 108, 109, 110, 111, 112, 113, 114, 115, 116, 117, 118, 119, 120, 121, 122, 123, 124, 125, 126, 127, 128, 129, 130, 131, 132, 133, 134, 135, 136, 137, 138, 139, 140, 141, 142, 143, 144, 145, 146, 147, 148, 149, 150, 151, 152, 153, 154, 155, 156, 157, 158, 159, 160, 161, 162, 163, 164, 165, 166, 167, 168, 169, 170, 171, 172, 173, 174, 175, 176, 177], [(1, none, 9, [.str]), (2, none, 2, [.int .i64])], [0, 3], [], [1, 2], [(.exit 0, []), (.ret, [])], [], []⟩ a h) else bif Nat.beq f 3 && Nat.beq r 7 then some (aZ1 ⟨382, 3000, [5, 6, 7, 8, 18, 19, 20, 21, 22, 23, 24, 25, 26, 27, 28, 29, 30, 31, 32, 33, 34, 35, 36, 37, 38, 39, 40, 41, 42, 43, 44, 45, 46, 47, 48, 49, 50, 51, 52, 53, 54, 55, 56, 57, 58, 59, 60, 61, 62, 63, 64, 65, 66, 67, 68, 69, 70, 71, 72, 73, 74, 75, 76, 77, 78, 79, 80, 81, 82, 83, 84, 85, 86, 87, 88, 89, 90, 91, 92, 93, 94, 95, 96, 97, 98, 99, 100, 101, 102, 103, 104, 105, 106, 107, 108, 109, 110, 111, 112, 113, 114, 115, 116, 117, 118, 119, 120, 121, 122, 123, 124, 125, 126, 127, 128, 129, 130, 131, 132, 133, 134, 135, 136, 137, 138, 139, 140, 141, 142, 143, 144, 145, 146, 147, 148, 149, 150, 151, 152, 153, 154, 155, 156, 157, 158, 159, 160, 161, 162, 163, 164, 165, 166, 167, 168, 169, 170, 171, 172, 173, 174, 175, 176, 177], [], [0, 4], [], [1, 2, 3], [(.exit 2, []), (.ret, [])], [], []⟩ a h) else bif Nat.beq f 3 && Nat.beq r 10 then some (aZ1 ⟨383, 4000, [6, 7, 8, 24, 25, 26, 27, 28, 29, 30, 31, 32, 33, 34, 35, 36, 37, 38, 39, 40, 41, 42, 43, 44, 45, 46, 47, 48, 49, 50, 51, 52, 53, 54, 55, 56, 57, 58, 59, 60, 61, 62, 63, 64, 65, 66, 67, 68, 69, 70, 71, 72, 73, 74, 75, 76, 77, 78, 79, 80, 81, 82, 83, 84, 85, 86, 87, 88, 89, 90, 91, 92, 93, 94, 95, 96, 97, 98, 99, 100, 101, 102, 103, 104, 105, 106, 107, 108, 109, 110, 111, 112, 113, 114, 115, 116, 117, 118, 119, 120, 121, 122, 123, 124, 125, 126, 127, 128, 129, 130, 131, 132, 133, 134, 135, 136, 137, 138, 139, 140, 141, 142, 143, 144, 145, 146, 147, 148, 149, 150, 151, 152, 153, 154, 155, 156, 157, 158, 159, 160, 161, 162, 163, 164, 165, 166, 167, 168, 169, 170, 171, 172, 173, 174, 175, 176, 177], [], [0, 5], [], [1, 2, 3, 4], [(.exit 4, []), (.ret, [])], [], []⟩ a h) else none
noncomputable def env : Env := { env0 with lspec := loops }
def h_works : HC := ⟨13, 0, ⟨[], [], 0, .cb true, .obool (.va 1000), [], [.cb true]⟩⟩
def L0 : List HC := [h_works]
def h_numP : HC := ⟨67, 1, ⟨[.ostr (.va 0)], [], 0, .op (.cmp .leq) [.op .slen [.va 0], .ci 1000], .tup [.agg [.oint .u8 (.va 1000), .oint .i64 (.va 1001), .ostr (.va 1002)], .ostr (.va 1003), .obool (.va 1004)], [], [.app 350 [.va 0], .app 351 [.va 0], .cs [], .app 352 [.va 0], .app 353 [.va 0]]⟩⟩
def h_textP : HC := ⟨68, 1, ⟨[.ostr (.va 0)], [], 0, .op (.cmp .leq) [.op .slen [.va 0], .ci 1000], .tup [.agg [.oint .u8 (.va 1000), .oint .i64 (.va 1001), .ostr (.va 1002)], .ostr (.va 1003), .obool (.va 1004)], [], [.app 354 [.va 0], .ci 0, .app 355 [.va 0], .app 356 [.va 0], .app 357 [.va 0]]⟩⟩
def h_partG : HC := ⟨58, 3, ⟨[.agg [.oint .u8 (.va 0), .oint .i64 (.va 1), .ostr (.va 2)]], [], 0, .op (.cmp .leq) [.op .slen [.va 2], .ci 1000], .ostr (.va 1000), [], [.app 366 [.va 0, .va 1, .va 2]]⟩⟩
def h_firstI : HC := ⟨70, 1, ⟨[.ostr (.va 0), .int .u8 1], [], 0, .op (.cmp .leq) [.op .slen [.va 0], .ci 1000], .tup [.agg [.oint .u8 (.va 1000), .oint .i64 (.va 1001), .ostr (.va 1002)], .oint .i64 (.va 1003)], [], [.app 350 [.va 0], .app 351 [.va 0], .cs [], .app 358 [.va 0]]⟩⟩
def h_firstT : HC := ⟨70, 1, ⟨[.ostr (.va 0), .int .u8 2], [], 0, .op (.cmp .leq) [.op .slen [.va 0], .ci 1000], .tup [.agg [.oint .u8 (.va 1000), .oint .i64 (.va 1001), .ostr (.va 1002)], .oint .i64 (.va 1003)], [], [.app 359 [.va 0], .ci 0, .app 360 [.va 0], .app 361 [.va 0]]⟩⟩
def h_afterR : HC := ⟨39, 1, ⟨[.ostr (.va 0)], [], 0, .op (.cmp .leq) [.op .slen [.va 0], .ci 1000], .tup [.ostr (.va 1000), .obool (.va 1001)], [], [.app 331 [.va 0], .app 332 [.va 0]]⟩⟩
def h_rightR : HC := ⟨24, 5, ⟨[.agg [.oint .u8 (.va 0), .ostr (.va 1), .ostr (.va 2), .oint .i64 (.va 3), .oint .i64 (.va 4)]], [], 0, .cb true, .obool (.va 1000), [], [.app 330 [.va 0, .va 1, .va 2, .va 3, .va 4]]⟩⟩
def h_repl : HC := ⟨61, 1, ⟨[.ostr (.va 0), .str [0], .str [0, 255]], [], 0, .op (.cmp .leq) [.op .slen [.va 0], .ci 1000], .ostr (.va 1000), [], [.app 300 [.va 0]]⟩⟩
def h_partI : HC := ⟨45, 1, ⟨[.agg [.int .u8 1, .oint .i64 (.va 0), .str []]], [], 0, .cb true, .ostr (.va 1000), [], [.app 302 [.va 0]]⟩⟩
def h_right : HC := ⟨18, 5, ⟨[.agg [.oint .u8 (.va 0), .ostr (.va 1), .ostr (.va 2), .oint .i64 (.va 3), .oint .i64 (.va 4)]], [], 0, .cb true, .obool (.va 1000), [], [.app 330 [.va 0, .va 1, .va 2, .va 3, .va 4]]⟩⟩
def h_after : HC := ⟨57, 1, ⟨[.ostr (.va 0)], [], 0, .op (.cmp .leq) [.op .slen [.va 0], .ci 1000], .tup [.ostr (.va 1000), .obool (.va 1001)], [], [.app 331 [.va 0], .app 332 [.va 0]]⟩⟩
def h_has : HC := ⟨19, 8, ⟨[.agg [.oint .u8 (.va 0), .ostr (.va 1), .ostr (.va 2), .oint .i64 (.va 3), .oint .i64 (.va 4)], .agg [.ostr (.va 5), .oint .i64 (.va 6), .oint .i64 (.va 7)]], [], 0, .cb true, .obool (.va 1000), [], [.app 304 [.va 0, .va 1, .va 2, .va 3, .va 4, .va 5, .va 6, .va 7]]⟩⟩
def h_hasR : HC := ⟨26, 8, ⟨[.agg [.oint .u8 (.va 0), .ostr (.va 1), .ostr (.va 2), .oint .i64 (.va 3), .oint .i64 (.va 4)], .agg [.ostr (.va 5), .oint .i64 (.va 6), .oint .i64 (.va 7)]], [], 0, .cb true, .obool (.va 1000), [], [.app 304 [.va 0, .va 1, .va 2, .va 3, .va 4, .va 5, .va 6, .va 7]]⟩⟩
def h_clone : HC := ⟨49, 1, ⟨[.osl 0 (.ci 0) (.op .llen [.va 0]) 3], [.arr 4294967295 [.str, .int .i64, .int .i64] (.va 0)], 1, .op .and [.op (.cmp .leq) [.op .llen [.va 0], .ci 100], .app 303 [.va 0]], .ous 1 (.op .llen [.va 1000]) 3, [some (.arr 25 [.str, .int .i64, .int .i64] (.va 1000))], [.va 0]⟩⟩
def h_lessS : HC := ⟨47, 7, ⟨[.agg [.ostr (.va 0), .oint .i64 (.va 1), .oint .i64 (.va 2)], .agg [.ostr (.va 3), .oint .i64 (.va 4), .oint .i64 (.va 5)], .obool (.va 6)], [], 0, .cb true, .obool (.va 1000), [], [.app 305 [.va 0, .va 1, .va 2, .va 3, .va 4, .va 5, .va 6]]⟩⟩
def L1 : List HC := [h_numP, h_textP, h_partG, h_firstI, h_firstT, h_afterR, h_rightR, h_repl, h_partI, h_right, h_after, h_has, h_hasR, h_clone, h_lessS]
def h_partT : HC := ⟨45, 1, ⟨[.agg [.int .u8 2, .int .i64 0, .ostr (.va 0)]], [], 0, .op (.cmp .leq) [.op .slen [.va 0], .ci 1000], .ostr (.va 1000), [], [.app 301 [.va 0]]⟩⟩
def h_ofPri : HC := ⟨32, 1, ⟨[.ostr (.va 0)], [], 0, .op (.cmp .leq) [.op .slen [.va 0], .ci 1000], .tup [.agg [.ostr (.va 1000), .oint .i64 (.va 1001), .oint .i64 (.va 1002)], .obool (.va 1003)], [], [.app 370 [.va 0], .app 371 [.va 0], .app 372 [.va 0], .app 373 [.va 0]]⟩⟩
def h_ofSec : HC := ⟨31, 1, ⟨[.ostr (.va 0)], [], 0, .op (.cmp .leq) [.op .slen [.va 0], .ci 1000], .tup [.agg [.ostr (.va 1000), .oint .i64 (.va 1001), .oint .i64 (.va 1002)], .obool (.va 1003)], [], [.app 374 [.va 0], .app 375 [.va 0], .app 376 [.va 0], .app 377 [.va 0]]⟩⟩
def h_ofPriR : HC := ⟨41, 1, ⟨[.ostr (.va 0)], [], 0, .op (.cmp .leq) [.op .slen [.va 0], .ci 1000], .tup [.agg [.ostr (.va 1000), .oint .i64 (.va 1001), .oint .i64 (.va 1002)], .obool (.va 1003)], [], [.app 370 [.va 0], .app 371 [.va 0], .app 372 [.va 0], .app 373 [.va 0]]⟩⟩
def h_ofSecR : HC := ⟨40, 1, ⟨[.ostr (.va 0)], [], 0, .op (.cmp .leq) [.op .slen [.va 0], .ci 1000], .tup [.agg [.ostr (.va 1000), .oint .i64 (.va 1001), .oint .i64 (.va 1002)], .obool (.va 1003)], [], [.app 374 [.va 0], .app 375 [.va 0], .app 376 [.va 0], .app 377 [.va 0]]⟩⟩
def h_primR : HC := ⟨43, 3, ⟨[.agg [.ostr (.va 0), .oint .i64 (.va 1), .oint .i64 (.va 2)]], [], 0, .op (.cmp .leq) [.op .slen [.va 0], .ci 1000], .ostr (.va 1000), [], [.app 306 [.va 0, .va 1, .va 2]]⟩⟩
def h_secR : HC := ⟨42, 3, ⟨[.agg [.ostr (.va 0), .oint .i64 (.va 1), .oint .i64 (.va 2)]], [], 0, .op (.cmp .leq) [.op .slen [.va 0], .ci 1000], .ostr (.va 1000), [], [.app 307 [.va 0, .va 1, .va 2]]⟩⟩
def h_boundsR : HC := ⟨22, 5, ⟨[.agg [.oint .u8 (.va 0), .ostr (.va 1), .ostr (.va 2), .oint .i64 (.va 3), .oint .i64 (.va 4)]], [], 0, .op .and [.op (.cmp .leq) [.op .slen [.va 1], .ci 1000], .op (.cmp .leq) [.op .slen [.va 2], .ci 1000]], .tup [.ostr (.va 1000), .ostr (.va 1001)], [], [.app 333 [.va 0, .va 1, .va 2, .va 3, .va 4], .app 334 [.va 0, .va 1, .va 2, .va 3, .va 4]]⟩⟩
def L2 : List HC := [h_partT, h_ofPri, h_ofSec, h_ofPriR, h_ofSecR, h_primR, h_secR, h_boundsR]
def h_prim : HC := ⟨9, 3, ⟨[.agg [.ostr (.va 0), .oint .i64 (.va 1), .oint .i64 (.va 2)]], [], 0, .op (.cmp .leq) [.op .slen [.va 0], .ci 1000], .ostr (.va 1000), [], [.app 306 [.va 0, .va 1, .va 2]]⟩⟩
def h_sec : HC := ⟨10, 3, ⟨[.agg [.ostr (.va 0), .oint .i64 (.va 1), .oint .i64 (.va 2)]], [], 0, .op (.cmp .leq) [.op .slen [.va 0], .ci 1000], .ostr (.va 1000), [], [.app 307 [.va 0, .va 1, .va 2]]⟩⟩
def h_bounds : HC := ⟨17, 5, ⟨[.agg [.oint .u8 (.va 0), .ostr (.va 1), .ostr (.va 2), .oint .i64 (.va 3), .oint .i64 (.va 4)]], [], 0, .op .and [.op (.cmp .leq) [.op .slen [.va 1], .ci 1000], .op (.cmp .leq) [.op .slen [.va 2], .ci 1000]], .tup [.ostr (.va 1000), .ostr (.va 1001)], [], [.app 333 [.va 0, .va 1, .va 2, .va 3, .va 4], .app 334 [.va 0, .va 1, .va 2, .va 3, .va 4]]⟩⟩
def a_bounds0 : List AV := [.agg [.oint .u8 (.va 0), .ostr (.va 1), .ostr (.va 2), .oint .i64 (.va 3), .oint .i64 (.va 4)]]
def a_bounds1 : List AV := [.agg [.int .u8 1, .ostr (.va 1), .ostr (.va 2), .oint .i64 (.va 3), .oint .i64 (.va 4)]]
def a_bounds2 : List AV := [.agg [.int .u8 2, .ostr (.va 1), .ostr (.va 2), .oint .i64 (.va 3), .oint .i64 (.va 4)]]
def a_bounds3 : List AV := [.agg [.int .u8 3, .ostr (.va 1), .ostr (.va 2), .oint .i64 (.va 3), .oint .i64 (.va 4)]]
def L3 : List HC := [h_prim, h_sec, h_bounds]
def h_cmpF : HC := ⟨52, 11, ⟨[.agg [.ostr (.va 0), .oint .i64 (.va 1), .oint .i64 (.va 2)], .agg [.ostr (.va 3), .oint .i64 (.va 4), .oint .i64 (.va 5)], .ptr 0 0], [.cells 27 0 [.oint .u8 (.va 6), .ostr (.va 7), .ostr (.va 8), .oint .i64 (.va 9), .oint .i64 (.va 10)]], 1, .op .and [.op (.cmp .leq) [.op .slen [.va 0], .ci 1000], .op (.cmp .leq) [.op .slen [.va 3], .ci 1000]], .oint .i64 (.va 1000), [], [.app 308 [.va 0, .va 1, .va 2, .va 3, .va 4, .va 5, .va 6, .va 7, .va 8, .va 9, .va 10]]⟩⟩
def h_tells : HC := ⟨8, 9, ⟨[.agg [.oint .u8 (.va 0), .ostr (.va 1), .ostr (.va 2), .oint .i64 (.va 3), .oint .i64 (.va 4)], .agg [.ostr (.va 5), .oint .i64 (.va 6), .oint .i64 (.va 7)], .ostr (.va 8)], [], 0, .cb true, .obool (.va 1000), [], [.cb true]⟩⟩
def h_fits : HC := ⟨7, 8, ⟨[.agg [.oint .u8 (.va 0), .ostr (.va 1), .ostr (.va 2), .oint .i64 (.va 3), .oint .i64 (.va 4)], .agg [.ostr (.va 5), .oint .i64 (.va 6), .oint .i64 (.va 7)]], [], 0, .op .and [.op .and [.op .and [.op (.cmp .leq) [.ci (-9223372036854775808), .va 3], .op (.cmp .lss) [.va 3, .ci 9223372036854775808]], .op .and [.op (.cmp .leq) [.ci (-9223372036854775808), .va 4], .op (.cmp .lss) [.va 4, .ci 9223372036854775808]]], .op .and [.op .and [.op (.cmp .leq) [.ci (-9223372036854775808), .va 6], .op (.cmp .lss) [.va 6, .ci 9223372036854775808]], .op .and [.op (.cmp .leq) [.ci (-9223372036854775808), .va 7], .op (.cmp .lss) [.va 7, .ci 9223372036854775808]]]], .obool (.va 1000), [], [.cb true]⟩⟩
def h_makes : HC := ⟨12, 4, ⟨[.ostr (.va 0), .ostr (.va 1), .oint .i64 (.va 2), .oint .i64 (.va 3)], [], 0, .cb true, .obool (.va 1000), [], [.cb true]⟩⟩
def L4 : List HC := [h_cmpF, h_tells, h_fits, h_makes]
def h_SORT : HC := ⟨51, 6, ⟨[.ous 1 (.op .llen [.va 5]) 3, .func (.func 52) [] [.ptr 0 0]], [.cells 27 0 [.oint .u8 (.va 0), .ostr (.va 1), .ostr (.va 2), .oint .i64 (.va 3), .oint .i64 (.va 4)], .arr 25 [.str, .int .i64, .int .i64] (.va 5)], 1, .op .and [.op (.cmp .leq) [.op .llen [.va 5], .ci 1000000], .app 310 [.va 5]], .tup [], [some (.arr 25 [.str, .int .i64, .int .i64] (.va 1000))], [.app 311 [.va 0, .va 1, .va 2, .va 3, .va 4, .va 5]]⟩⟩
def L5 : List HC := [h_SORT]
def h_sort : HC := ⟨30, 6, ⟨[.agg [.oint .u8 (.va 0), .ostr (.va 1), .ostr (.va 2), .oint .i64 (.va 3), .oint .i64 (.va 4)], .osl 0 (.ci 0) (.op .llen [.va 5]) 3], [.arr 4294967295 [.str, .int .i64, .int .i64] (.va 5)], 1, .op .and [.op (.cmp .leq) [.op .llen [.va 5], .ci 100], .app 310 [.va 5]], .ous 1 (.op .llen [.va 1000]) 3, [some (.arr 25 [.str, .int .i64, .int .i64] (.va 1000))], [.app 312 [.va 0, .va 1, .va 2, .va 3, .va 4, .va 5]]⟩⟩
def h_sortR : HC := ⟨29, 6, ⟨[.agg [.oint .u8 (.va 0), .ostr (.va 1), .ostr (.va 2), .oint .i64 (.va 3), .oint .i64 (.va 4)], .osl 0 (.ci 0) (.op .llen [.va 5]) 3], [.arr 4294967295 [.str, .int .i64, .int .i64] (.va 5)], 1, .op .and [.op (.cmp .leq) [.op .llen [.va 5], .ci 100], .app 310 [.va 5]], .ous 1 (.op .llen [.va 1000]) 3, [some (.arr 47 [.str, .int .i64, .int .i64] (.va 1000))], [.app 312 [.va 0, .va 1, .va 2, .va 3, .va 4, .va 5]]⟩⟩
def L6 : List HC := [h_sort, h_sortR]
def h_boundSorts : HC := ⟨11, 6, ⟨[.agg [.oint .u8 (.va 0), .ostr (.va 1), .ostr (.va 2), .oint .i64 (.va 3), .oint .i64 (.va 4)], .osl 0 (.ci 0) (.op .llen [.va 5]) 3], [.arr 4294967295 [.str, .int .i64, .int .i64] (.va 5)], 1, .app 309 [.va 5], .obool (.va 1000), [], [.cb true]⟩⟩
def L7 : List HC := [h_boundSorts]
def h_boundKnown : HC := ⟨3, 0, ⟨[], [], 0, .cb true, .obool (.va 1000), [], [.cb true]⟩⟩
def L8 : List HC := [h_boundKnown]theorem names : (Tryz.prog.funcs.toList.all fun fn => !(fn.name == "runtime.NumGoroutine")) = true := by kernel_rfl
theorem ext98 : ∃ fn : Func, Tryz.prog.funcs[98]? = some fn ∧ fn.body = none ∧ Extern.findNext fn = none ∧ Extern.find fn = some (Ext.count).model :=
 ⟨_, Tryz.func98, by kernel_rfl, by kernel_rfl, by kernel_rfl⟩
theorem ext108 : ∃ fn : Func, Tryz.prog.funcs[108]? = some fn ∧ fn.body = none ∧ Extern.findNext fn = none ∧ Extern.find fn = some (Ext.indexByte).model :=
 ⟨_, Tryz.func108, by kernel_rfl, by kernel_rfl, by kernel_rfl⟩
theorem ext71 : ∃ fn : Func, Tryz.prog.funcs[71]? = some fn ∧ fn.body = none ∧ Extern.findNext fn = none ∧ Extern.find fn = some (Ext.ident).model :=
 ⟨_, Tryz.func71, by kernel_rfl, by kernel_rfl, by kernel_rfl⟩
theorem ext103 : ∃ fn : Func, Tryz.prog.funcs[103]? = some fn ∧ fn.body = none ∧ Extern.findNext fn = none ∧ Extern.find fn = some ((Ext.makeNoZero 38)).model :=
 ⟨_, Tryz.func103, by kernel_rfl, by kernel_rfl, by kernel_rfl⟩
theorem env0_ok (ω : Opq) (hω : ∀ t, ω.fix t = aa9 Tryz.prog t) : env0.Ok ω := by
 refine ⟨hω, fun f fn h => ?_, fun f e h => ?_, fun _ _ _ _ h => (by cases h), fun _ _ _ h => (by cases h), fun _ _ _ h => (by cases h), fun _ _ _ _ _ h => (by cases h)⟩
 · have h1 := List.all_eq_true.1 names fn (by
    obtain ⟨h2, rfl⟩ := Array.getElem?_eq_some_iff.1 h
    exact Array.mem_toList_iff.2 (Array.getElem_mem h2))
   simpa using h1
 · have h : (bif Nat.beq f 98 then some (.count) else bif Nat.beq f 108 then some (.indexByte) else bif Nat.beq f 71 then some (.ident) else bif Nat.beq f 103 then some (.makeNoZero 38) else none : Option Ext) = some e := h
   cases hf98 : Nat.beq f 98 with
   | true =>
     rw [hf98] at h
     obtain rfl : f = 98 := by simpa using hf98
     cases h
     exact ext98
   | false =>
     rw [hf98] at h
     simp only [cond_false] at h
     cases hf108 : Nat.beq f 108 with
     | true =>
       rw [hf108] at h
       obtain rfl : f = 108 := by simpa using hf108
       cases h
       exact ext108
     | false =>
       rw [hf108] at h
       simp only [cond_false] at h
       cases hf71 : Nat.beq f 71 with
       | true =>
         rw [hf71] at h
         obtain rfl : f = 71 := by simpa using hf71
         cases h
         exact ext71
       | false =>
         rw [hf71] at h
         simp only [cond_false] at h
         cases hf103 : Nat.beq f 103 with
         | true =>
           rw [hf103] at h
           obtain rfl : f = 103 := by simpa using hf103
           cases h
           exact ext103
         | false =>
           rw [hf103] at h
           simp only [cond_false] at h
           cases h
theorem env_ok (ω : Opq) (hω : ∀ t, ω.fix t = aa9 Tryz.prog t) : env.Ok ω :=
 let h := env0_ok ω hω
 ⟨h.fix, h.name, h.ext, h.bin, h.un, h.conv, h.blt⟩
theorem orders : Tryz.prog.follows .mixedOrders = true := by kernel_rfl
noncomputable def H0 : List HC := []
noncomputable def H1 : List HC := L0 ++ H0
noncomputable def H2 : List HC := L1 ++ H1
noncomputable def H3 : List HC := L2 ++ H2
noncomputable def H4 : List HC := L3 ++ H3
noncomputable def H5 : List HC := L4 ++ H4
noncomputable def H6 : List HC := L5 ++ H5
noncomputable def H7 : List HC := L6 ++ H6
noncomputable def H8 : List HC := L7 ++ H7
theorem r_works : FC.run env0 1000000 h_works.f h_works.c h_works.c.args = bI4 := by kernel_rfl
theorem r_numP : FC.run (env.hooks H1) 1000000 h_numP.f h_numP.c h_numP.c.args = bh9 := by kernel_rfl
theorem r_textP : FC.run (env.hooks H1) 1000000 h_textP.f h_textP.c h_textP.c.args = aL3 := by kernel_rfl
theorem r_partG : FC.run (env.hooks H1) 1000000 h_partG.f h_partG.c h_partG.c.args = aL4 := by kernel_rfl
theorem r_firstI : FC.run (env.hooks H1) 1000000 h_firstI.f h_firstI.c h_firstI.c.args = ai9 := by kernel_rfl
theorem r_firstT : FC.run (env.hooks H1) 1000000 h_firstT.f h_firstT.c h_firstT.c.args = aj0 := by kernel_rfl
theorem r_afterR : FC.run (env.hooks H1) 1000000 h_afterR.f h_afterR.c h_afterR.c.args = aj2 := by kernel_rfl
theorem r_rightR : FC.run (env.hooks H1) 1000000 h_rightR.f h_rightR.c h_rightR.c.args = aj3 := by kernel_rfl
theorem r_repl : FC.run (env.hooks H1) 1000000 h_repl.f h_repl.c h_repl.c.args = bh0 := by kernel_rfl
theorem r_partI : FC.run (env.hooks H1) 1000000 h_partI.f h_partI.c h_partI.c.args = aK6 := by kernel_rfl
theorem r_right : FC.run (env.hooks H1) 1000000 h_right.f h_right.c h_right.c.args = aK7 := by kernel_rfl
theorem r_after : FC.run (env.hooks H1) 1000000 h_after.f h_after.c h_after.c.args = aK8 := by kernel_rfl
theorem r_has : FC.run (env.hooks H1) 1000000 h_has.f h_has.c h_has.c.args = bY4 := by kernel_rfl
theorem r_hasR : FC.run (env.hooks H1) 1000000 h_hasR.f h_hasR.c h_hasR.c.args = bJ0 := by kernel_rfl
theorem r_clone : FC.run (env.hooks H1) 1000000 h_clone.f h_clone.c h_clone.c.args = aL0 := by kernel_rfl
theorem r_lessS : FC.run (env.hooks H1) 1000000 h_lessS.f h_lessS.c h_lessS.c.args = aL1 := by kernel_rfl
theorem r_partT : FC.run (env.hooks H2) 1000000 h_partT.f h_partT.c h_partT.c.args = aK9 := by kernel_rfl
theorem r_ofPri : FC.run (env.hooks H2) 1000000 h_ofPri.f h_ofPri.c h_ofPri.c.args = aL8 := by kernel_rfl
theorem r_ofSec : FC.run (env.hooks H2) 1000000 h_ofSec.f h_ofSec.c h_ofSec.c.args = aL9 := by kernel_rfl
theorem r_ofPriR : FC.run (env.hooks H2) 1000000 h_ofPriR.f h_ofPriR.c h_ofPriR.c.args = aj5 := by kernel_rfl
theorem r_ofSecR : FC.run (env.hooks H2) 1000000 h_ofSecR.f h_ofSecR.c h_ofSecR.c.args = aj7 := by kernel_rfl
theorem r_primR : FC.run (env.hooks H2) 1000000 h_primR.f h_primR.c h_primR.c.args = aM8 := by kernel_rfl
theorem r_secR : FC.run (env.hooks H2) 1000000 h_secR.f h_secR.c h_secR.c.args = bi2 := by kernel_rfl
theorem r_boundsR : FC.run (env.hooks H2) 1000000 h_boundsR.f h_boundsR.c h_boundsR.c.args = a93 := by kernel_rfl
theorem r_prim : FC.run (env.hooks H3) 1000000 h_prim.f h_prim.c h_prim.c.args = bh3 := by kernel_rfl
theorem r_sec : FC.run (env.hooks H3) 1000000 h_sec.f h_sec.c h_sec.c.args = bY7 := by kernel_rfl
theorem r_bounds0 : FC.run (env.hooks H3) 1000000 h_bounds.f h_bounds.c a_bounds0 = at6 := by kernel_rfl
theorem r_bounds1 : FC.run (env.hooks H3) 1000000 h_bounds.f h_bounds.c a_bounds1 = at7 := by kernel_rfl
theorem r_bounds2 : FC.run (env.hooks H3) 1000000 h_bounds.f h_bounds.c a_bounds2 = at8 := by kernel_rfl
theorem r_bounds3 : FC.run (env.hooks H3) 1000000 h_bounds.f h_bounds.c a_bounds3 = at9 := by kernel_rfl
theorem r_cmpF : FC.run (env.hooks H4) 1000000 h_cmpF.f h_cmpF.c h_cmpF.c.args = bh4 := by kernel_rfl
theorem r_tells : FC.run (env.hooks H4) 1000000 h_tells.f h_tells.c h_tells.c.args = aM9 := by kernel_rfl
theorem r_fits : FC.run (env.hooks H4) 1000000 h_fits.f h_fits.c h_fits.c.args = bi5 := by kernel_rfl
theorem r_makes : FC.run (env.hooks H4) 1000000 h_makes.f h_makes.c h_makes.c.args = bL1 := by kernel_rfl
theorem r_sort : FC.run (env.hooks H6) 1000000 h_sort.f h_sort.c h_sort.c.args = bh8 := by kernel_rfl
theorem r_sortR : FC.run (env.hooks H6) 1000000 h_sortR.f h_sortR.c h_sortR.c.args = aL2 := by kernel_rfl
theorem r_boundSorts : FC.run (env.hooks H7) 1000000 h_boundSorts.f h_boundSorts.c h_boundSorts.c.args = P5 := by kernel_rfl
theorem r_boundKnown : FC.run (env.hooks H8) 1000000 h_boundKnown.f h_boundKnown.c h_boundKnown.c.args = P8 := by kernel_rfl
open Go Go.Ev Go.Shelf
def Om (ω : Opq) : Prop := OmF F Tryz.prog ω
theorem om_upd (ω : Opq) (v0 : Nat) (l : List Val) (h : Om ω) : Om (ω.upd v0 l) := h
theorem om_f {ω : Opq} (h : Om ω) : ∀ i a, ω.f i a = F i a := fun i a => by rw [h.1]
theorem e_ok (ω : Opq) (h : Om ω) : env.Ok ω := env_ok ω h.2
theorem e0_ok (ω : Opq) (h : Om ω) : env0.Ok ω := env0_ok ω h.2
theorem VRs_kind {β : Bij} {ω : Opq} {us : List Value} {k : IntKind} {n : Nat} {i : Int} {r : List AV} (h : (ω.w n).toI = i) (hv : VRs β ω [.agg (.oint k (.va n) :: r)] us) : VRs β ω [.agg (.int k i :: r)] us := by
 obtain ⟨v, vr, e, ⟨xs, e2, u, ur, e3, p1, p2⟩, q⟩ := hv
 refine ⟨v, vr, e, ⟨xs, e2, u, ur, e3, ?_, p2⟩, q⟩
 show u = .int k i
 rw [← h]; exact p1
theorem h0_ok : ∀ x ∈ H0, C5 env Om x := fun x hx => by cases hx
theorem k_works : C5 env Om h_works :=
 n8 (E := env0) (cs := []) om_upd e0_ok orders (fun x hx => by cases hx) (n := 1000000) (by kernel_rfl) (o9 (T := bI4) r_works fun ω hω hn => by
   exact rfl)
theorem l0_ok : ∀ x ∈ L0, C5 env Om x := by
 exact s9 (fun x hx => (by cases hx)) k_works
theorem h1_ok : ∀ x ∈ H1, C5 env Om x := af3 h0_ok l0_ok
theorem k_numP : C5 env Om h_numP :=
 n8 (E := env) (cs := H1) om_upd e_ok orders h1_ok (n := 1000000) (by kernel_rfl) (o9 (T := bh9) r_numP fun ω hω hn => by
   have hn := hn
   simp only [h_numP, dB, den, k5, A1, p9, j1, j4, w9, l9, p5, l4, decide_eq_true_eq, Bool.and_eq_true, List.length_append] at hn
   exact (ct8 (by omega)).trans (by simp only [h_numP, k5, den, A1, om_f hω, j1, j4]))
theorem k_textP : C5 env Om h_textP :=
 n8 (E := env) (cs := H1) om_upd e_ok orders h1_ok (n := 1000000) (by kernel_rfl) (o9 (T := aL3) r_textP fun ω hω hn => by
   have hn := hn
   simp only [h_textP, dB, den, k5, A1, p9, j1, j4, w9, l9, p5, l4, decide_eq_true_eq, Bool.and_eq_true, List.length_append] at hn
   exact (ch5 (om_f hω) (by omega)).trans (by simp only [h_textP, k5, den, A1, om_f hω, j1, j4]))
theorem k_partG : C5 env Om h_partG :=
 n8 (E := env) (cs := H1) om_upd e_ok orders h1_ok (n := 1000000) (by kernel_rfl) (o9 (T := aL4) r_partG fun ω hω hn => by
   have hn := hn
   simp only [h_partG, dB, den, k5, A1, p9, j1, j4, w9, l9, p5, l4, decide_eq_true_eq, Bool.and_eq_true, List.length_append] at hn
   exact (ci4 (om_f hω) (by omega)).trans (by simp only [h_partG, k5, den, A1, om_f hω, j1, j4]))
theorem k_firstI : C5 env Om h_firstI :=
 n8 (E := env) (cs := H1) om_upd e_ok orders h1_ok (n := 1000000) (by kernel_rfl) (o9 (T := ai9) r_firstI fun ω hω hn => by
   have hn := hn
   simp only [h_firstI, dB, den, k5, A1, p9, j1, j4, w9, l9, p5, l4, decide_eq_true_eq, Bool.and_eq_true, List.length_append] at hn
   exact (bZ8 (by omega)).trans (by simp only [h_firstI, k5, den, A1, om_f hω, j1, j4]))
theorem k_firstT : C5 env Om h_firstT :=
 n8 (E := env) (cs := H1) om_upd e_ok orders h1_ok (n := 1000000) (by kernel_rfl) (o9 (T := aj0) r_firstT fun ω hω hn => by
   have hn := hn
   simp only [h_firstT, dB, den, k5, A1, p9, j1, j4, w9, l9, p5, l4, decide_eq_true_eq, Bool.and_eq_true, List.length_append] at hn
   exact (bZ9 (om_f hω) (by omega)).trans (by simp only [h_firstT, k5, den, A1, om_f hω, j1, j4]))
theorem k_afterR : C5 env Om h_afterR :=
 n8 (E := env) (cs := H1) om_upd e_ok orders h1_ok (n := 1000000) (by kernel_rfl) (o9 (T := aj2) r_afterR fun ω hω hn => by
   have hn := hn
   simp only [h_afterR, dB, den, k5, A1, p9, j1, j4, w9, l9, p5, l4, decide_eq_true_eq, Bool.and_eq_true, List.length_append] at hn
   exact (c00 (om_f hω) (by omega)).trans (by simp only [h_afterR, k5, den, A1, om_f hω, j1, j4]))
theorem k_rightR : C5 env Om h_rightR :=
 n8 (E := env) (cs := H1) om_upd e_ok orders h1_ok (n := 1000000) (by kernel_rfl) (o9 (T := aj3) r_rightR fun ω hω hn => by
   exact (c01 (om_f hω)).trans (by simp only [h_rightR, k5, den, A1, om_f hω, j1, j4]))
theorem k_repl : C5 env Om h_repl :=
 n8 (E := env) (cs := H1) om_upd e_ok orders h1_ok (n := 1000000) (by kernel_rfl) (o9 (T := bh0) r_repl fun ω hω hn => by
   have hn := hn
   simp only [h_repl, dB, den, k5, A1, p9, j1, j4, w9, l9, p5, l4, decide_eq_true_eq, Bool.and_eq_true, List.length_append] at hn
   exact (cs5 (om_f hω) (by omega)).trans (by simp only [h_repl, k5, den, A1, om_f hω, j1, j4]))
theorem k_partI : C5 env Om h_partI :=
 n8 (E := env) (cs := H1) om_upd e_ok orders h1_ok (n := 1000000) (by kernel_rfl) (o9 (T := aK6) r_partI fun ω hω hn => by
   exact (cf5 (om_f hω)).trans (by simp only [h_partI, k5, den, A1, om_f hω, j1, j4]))
theorem k_right : C5 env Om h_right :=
 n8 (E := env) (cs := H1) om_upd e_ok orders h1_ok (n := 1000000) (by kernel_rfl) (o9 (T := aK7) r_right fun ω hω hn => by
   exact (cf7 (om_f hω)).trans (by simp only [h_right, k5, den, A1, om_f hω, j1, j4]))
theorem k_after : C5 env Om h_after :=
 n8 (E := env) (cs := H1) om_upd e_ok orders h1_ok (n := 1000000) (by kernel_rfl) (o9 (T := aK8) r_after fun ω hω hn => by
   have hn := hn
   simp only [h_after, dB, den, k5, A1, p9, j1, j4, w9, l9, p5, l4, decide_eq_true_eq, Bool.and_eq_true, List.length_append] at hn
   exact (cf8 (om_f hω) (by omega)).trans (by simp only [h_after, k5, den, A1, om_f hω, j1, j4]))
theorem k_has : C5 env Om h_has :=
 n8 (E := env) (cs := H1) om_upd e_ok orders h1_ok (n := 1000000) (by kernel_rfl) (o9 (T := bY4) r_has fun ω hω hn => by
   exact (ct0 ).trans (by simp only [h_has, k5, den, A1, om_f hω, j1, j4]))
theorem k_hasR : C5 env Om h_hasR :=
 n8 (E := env) (cs := H1) om_upd e_ok orders h1_ok (n := 1000000) (by kernel_rfl) (o9 (T := bJ0) r_hasR fun ω hω hn => by
   exact (ct1 ).trans (by simp only [h_hasR, k5, den, A1, om_f hω, j1, j4]))
theorem k_clone : C5 env Om h_clone :=
 n8 (E := env) (cs := H1) om_upd e_ok orders h1_ok (n := 1000000) (by kernel_rfl) (o9 (T := aL0) r_clone fun ω hω hn => by
   have hn : (decide (((ω.w 0).toL.length : Int) ≤ 100) && (ω.f 303 [ω.w 0]).toB) = true := hn
   obtain ⟨h1, h2⟩ := g9 hn
   rw [om_f hω] at h2
   exact (cg2 (by have := of_decide_eq_true h1; omega) h2).trans (by simp only [h_clone, k5, den]))
theorem k_lessS : C5 env Om h_lessS :=
 n8 (E := env) (cs := H1) om_upd e_ok orders h1_ok (n := 1000000) (by kernel_rfl) (o9 (T := aL1) r_lessS fun ω hω hn => by
   exact (cg3 ).trans (by simp only [h_lessS, k5, den, A1, om_f hω, j1, j4]))
theorem l1_ok : ∀ x ∈ L1, C5 env Om x := by
 exact s9 (s9 (s9 (s9 (s9 (s9 (s9 (s9 (s9 (s9 (s9 (s9 (s9 (s9 (s9 (fun x hx => (by cases hx)) k_lessS) k_clone) k_hasR) k_has) k_after) k_right) k_partI) k_repl) k_rightR) k_afterR) k_firstT) k_firstI) k_partG) k_textP) k_numP
theorem h2_ok : ∀ x ∈ H2, C5 env Om x := af3 h1_ok l1_ok
theorem k_partT : C5 env Om h_partT :=
 n8 (E := env) (cs := H2) om_upd e_ok orders h2_ok (n := 1000000) (by kernel_rfl) (o9 (T := aK9) r_partT fun ω hω hn => by
   have hn := hn
   simp only [h_partT, dB, den, k5, A1, p9, j1, j4, w9, l9, p5, l4, decide_eq_true_eq, Bool.and_eq_true, List.length_append] at hn
   exact (cf6 (om_f hω) (by omega)).trans (by simp only [h_partT, k5, den, A1, om_f hω, j1, j4]))
theorem k_ofPri : C5 env Om h_ofPri :=
 n8 (E := env) (cs := H2) om_upd e_ok orders h2_ok (n := 1000000) (by kernel_rfl) (o9 (T := aL8) r_ofPri fun ω hω hn => by
   have hn := hn
   simp only [h_ofPri, dB, den, k5, A1, p9, j1, j4, w9, l9, p5, l4, decide_eq_true_eq, Bool.and_eq_true, List.length_append] at hn
   exact (ci6 (om_f hω) (by omega)).trans (by simp only [h_ofPri, k5, den, A1, om_f hω, j1, j4]))
theorem k_ofSec : C5 env Om h_ofSec :=
 n8 (E := env) (cs := H2) om_upd e_ok orders h2_ok (n := 1000000) (by kernel_rfl) (o9 (T := aL9) r_ofSec fun ω hω hn => by
   have hn := hn
   simp only [h_ofSec, dB, den, k5, A1, p9, j1, j4, w9, l9, p5, l4, decide_eq_true_eq, Bool.and_eq_true, List.length_append] at hn
   exact (ci7 (om_f hω) (by omega)).trans (by simp only [h_ofSec, k5, den, A1, om_f hω, j1, j4]))
theorem k_ofPriR : C5 env Om h_ofPriR :=
 n8 (E := env) (cs := H2) om_upd e_ok orders h2_ok (n := 1000000) (by kernel_rfl) (o9 (T := aj5) r_ofPriR fun ω hω hn => by
   have hn := hn
   simp only [h_ofPriR, dB, den, k5, A1, p9, j1, j4, w9, l9, p5, l4, decide_eq_true_eq, Bool.and_eq_true, List.length_append] at hn
   exact (c06 (om_f hω) (by omega)).trans (by simp only [h_ofPriR, k5, den, A1, om_f hω, j1, j4]))
theorem k_ofSecR : C5 env Om h_ofSecR :=
 n8 (E := env) (cs := H2) om_upd e_ok orders h2_ok (n := 1000000) (by kernel_rfl) (o9 (T := aj7) r_ofSecR fun ω hω hn => by
   have hn := hn
   simp only [h_ofSecR, dB, den, k5, A1, p9, j1, j4, w9, l9, p5, l4, decide_eq_true_eq, Bool.and_eq_true, List.length_append] at hn
   exact (c07 (om_f hω) (by omega)).trans (by simp only [h_ofSecR, k5, den, A1, om_f hω, j1, j4]))
theorem k_primR : C5 env Om h_primR :=
 n8 (E := env) (cs := H2) om_upd e_ok orders h2_ok (n := 1000000) (by kernel_rfl) (o9 (T := aM8) r_primR fun ω hω hn => by
   have hn := hn
   simp only [h_primR, dB, den, k5, A1, p9, j1, j4, w9, l9, p5, l4, decide_eq_true_eq, Bool.and_eq_true, List.length_append] at hn
   exact (ci5 (om_f hω) (by omega)).trans (by simp only [h_primR, k5, den, A1, om_f hω, j1, j4]))
theorem k_secR : C5 env Om h_secR :=
 n8 (E := env) (cs := H2) om_upd e_ok orders h2_ok (n := 1000000) (by kernel_rfl) (o9 (T := bi2) r_secR fun ω hω hn => by
   have hn := hn
   simp only [h_secR, dB, den, k5, A1, p9, j1, j4, w9, l9, p5, l4, decide_eq_true_eq, Bool.and_eq_true, List.length_append] at hn
   exact (cu0 (om_f hω) (by omega)).trans (by simp only [h_secR, k5, den, A1, om_f hω, j1, j4]))
theorem k_boundsR : C5 env Om h_boundsR :=
 n8 (E := env) (cs := H2) om_upd e_ok orders h2_ok (n := 1000000) (by kernel_rfl) (o9 (T := a93) r_boundsR fun ω hω hn => by
   exact (bN9 (om_f hω)).trans (by simp only [h_boundsR, k5, den, A1, om_f hω, j1, j4]))
theorem l2_ok : ∀ x ∈ L2, C5 env Om x := by
 exact s9 (s9 (s9 (s9 (s9 (s9 (s9 (s9 (fun x hx => (by cases hx)) k_boundsR) k_secR) k_primR) k_ofSecR) k_ofPriR) k_ofSec) k_ofPri) k_partT
theorem h3_ok : ∀ x ∈ H3, C5 env Om x := af3 h2_ok l2_ok
theorem k_prim : C5 env Om h_prim :=
 n8 (E := env) (cs := H3) om_upd e_ok orders h3_ok (n := 1000000) (by kernel_rfl) (o9 (T := bh3) r_prim fun ω hω hn => by
   have hn := hn
   simp only [h_prim, dB, den, k5, A1, p9, j1, j4, w9, l9, p5, l4, decide_eq_true_eq, Bool.and_eq_true, List.length_append] at hn
   exact (ct2 (om_f hω) (by omega)).trans (by simp only [h_prim, k5, den, A1, om_f hω, j1, j4]))
theorem k_sec : C5 env Om h_sec :=
 n8 (E := env) (cs := H3) om_upd e_ok orders h3_ok (n := 1000000) (by kernel_rfl) (o9 (T := bY7) r_sec fun ω hω hn => by
   have hn := hn
   simp only [h_sec, dB, den, k5, A1, p9, j1, j4, w9, l9, p5, l4, decide_eq_true_eq, Bool.and_eq_true, List.length_append] at hn
   exact (cD5 (om_f hω) (by omega)).trans (by simp only [h_sec, k5, den, A1, om_f hω, j1, j4]))
theorem k_bounds : C5 env Om h_bounds :=
 n8 (E := env) (cs := H3) om_upd e_ok orders h3_ok (n := 1000000) (by kernel_rfl) (fun ω hω hn => by
   have hf := om_f hω
   have fin : ∀ T : VT, j3 T ω = some (0, [F 333 [ω.w 0, ω.w 1, ω.w 2, ω.w 3, ω.w 4], F 334 [ω.w 0, ω.w 1, ω.w 2, ω.w 3, ω.w 4]]) → j3 T ω = some (0, k5 ω h_bounds.c.outs) := fun T e => e.trans (by simp only [h_bounds, k5, den, hf])
   by_cases hk : (ω.w 0).toI = 1 ∨ (ω.w 0).toI = 2 ∨ (ω.w 0).toI = 3
   · rcases hk with e | e | e
     · exact ⟨a_bounds1, fun β us h => VRs_kind e h, by rw [r_bounds1]; exact fin _ (bL7 hf e)⟩
     · exact ⟨a_bounds2, fun β us h => VRs_kind e h, by rw [r_bounds2]; exact fin _ (bL8 hf e)⟩
     · exact ⟨a_bounds3, fun β us h => VRs_kind e h, by rw [r_bounds3]; exact fin _ (bL9 hf e)⟩
   · exact ⟨a_bounds0, fun β us h => h, by rw [r_bounds0]; exact fin _ (bL6 hf hk)⟩)
theorem l3_ok : ∀ x ∈ L3, C5 env Om x := by
 exact s9 (s9 (s9 (fun x hx => (by cases hx)) k_bounds) k_sec) k_prim
theorem h4_ok : ∀ x ∈ H4, C5 env Om x := af3 h3_ok l3_ok
theorem k_cmpF : C5 env Om h_cmpF :=
 n8 (E := env) (cs := H4) om_upd e_ok orders h4_ok (n := 1000000) (by kernel_rfl) (o9 (T := bh4) r_cmpF fun ω hω hn => by
   have hn := hn
   simp only [h_cmpF, dB, den, k5, A1, p9, j1, j4, w9, l9, p5, l4, decide_eq_true_eq, Bool.and_eq_true, List.length_append] at hn
   have h1 := hn.1
   have h2 := hn.2
   exact (ct3 (om_f hω) (by omega) (by omega)).trans (by simp only [h_cmpF, k5, den, A1, om_f hω, j1, j4]))
theorem k_tells : C5 env Om h_tells :=
 n8 (E := env) (cs := H4) om_upd e_ok orders h4_ok (n := 1000000) (by kernel_rfl) (o9 (T := aM9) r_tells fun ω hω hn => by
   exact (ci9 ).trans (by simp only [h_tells, k5, den, A1, om_f hω, j1, j4]))
theorem k_fits : C5 env Om h_fits :=
 n8 (E := env) (cs := H4) om_upd e_ok orders h4_ok (n := 1000000) (by kernel_rfl) (o9 (T := bi5) r_fits fun ω hω hn => by
   have hn := hn
   simp only [h_fits, dB, den, k5, A1, p9, j1, l9, l4, decide_eq_true_eq, Bool.and_eq_true] at hn
   exact (cu7 (om_f hω) ⟨hn.1.1.1, hn.1.1.2⟩ ⟨hn.1.2.1, hn.1.2.2⟩ ⟨hn.2.1.1, hn.2.1.2⟩ ⟨hn.2.2.1, hn.2.2.2⟩).trans (by simp only [h_fits, k5, den]))
theorem k_makes : C5 env Om h_makes :=
 n8 (E := env) (cs := H4) om_upd e_ok orders h4_ok (n := 1000000) (by kernel_rfl) (o9 (T := bL1) r_makes fun ω hω hn => by
   exact rfl)
theorem l4_ok : ∀ x ∈ L4, C5 env Om x := by
 exact s9 (s9 (s9 (s9 (fun x hx => (by cases hx)) k_makes) k_fits) k_tells) k_cmpF
theorem h5_ok : ∀ x ∈ H5, C5 env Om x := af3 h4_ok l4_ok
def sortRen : Go.Shelf.Ren := ⟨fun | 6 => 51 | 15 => 65 | 14 => 64 | 28 => 82 | 29 => 83 | 20 => 74 | 21 => 75 | 22 => 76 | 23 => 77 | 24 => 78 | 25 => 79 | 26 => 80 | 27 => 81 | 46 => 91 | 47 => 92 | 48 => 93 | 49 => 94 | 50 => 95 | 57 => 102 | n => n, fun | 22 => 36 | 24 => 25 | 25 => 86 | 3 => 3 | 39 => 97 | 0 => 0 | 53 => 122 | 55 => 96 | 4 => 4 | 46 => 115 | 45 => 114 | 50 => 119 | 5 => 5 | 9 => 9 | 66 => 130 | 70 => 134 | 76 => 138 | 77 => 139 | n => n, fun | n => n⟩
theorem sortLays : Go.Proofs.SlLaysF0.n6 Tryz.prog sortRen := {
 mixed := by kernel_rfl
 f6 := ⟨Tryz.f51.name, by decide, Tryz.func51.trans (congrArg some (by kernel_rfl))⟩
 f14 := ⟨Tryz.f64.name, by decide, Tryz.func64.trans (congrArg some (by kernel_rfl))⟩
 f15 := Tryz.func65.trans (congrArg some (by kernel_rfl))
 f20 := ⟨Tryz.f74.name, by decide, Tryz.func74.trans (congrArg some (by kernel_rfl))⟩
 f21 := ⟨Tryz.f75.name, by decide, Tryz.func75.trans (congrArg some (by kernel_rfl))⟩
 f22 := ⟨Tryz.f76.name, by decide, Tryz.func76.trans (congrArg some (by kernel_rfl))⟩
 f23 := ⟨Tryz.f77.name, by decide, Tryz.func77.trans (congrArg some (by kernel_rfl))⟩
 f24 := ⟨Tryz.f78.name, by decide, Tryz.func78.trans (congrArg some (by kernel_rfl))⟩
 f25 := ⟨Tryz.f79.name, by decide, Tryz.func79.trans (congrArg some (by kernel_rfl))⟩
 f26 := ⟨Tryz.f80.name, by decide, Tryz.func80.trans (congrArg some (by kernel_rfl))⟩
 f27 := ⟨Tryz.f81.name, by decide, Tryz.func81.trans (congrArg some (by kernel_rfl))⟩
 f28 := Tryz.func82.trans (congrArg some (by kernel_rfl))
 f29 := Tryz.func83.trans (congrArg some (by kernel_rfl))
 f46 := ⟨Tryz.f91.name, by decide, Tryz.func91.trans (congrArg some (by kernel_rfl))⟩
 f47 := Tryz.func92.trans (congrArg some (by kernel_rfl))
 f48 := Tryz.func93.trans (congrArg some (by kernel_rfl))
 f49 := ⟨Tryz.f94.name, by decide, Tryz.func94.trans (congrArg some (by kernel_rfl))⟩
 f50 := ⟨Tryz.f95.name, by decide, Tryz.func95.trans (congrArg some (by kernel_rfl))⟩
 f57 := ⟨Tryz.f102.name, by decide, Tryz.func102.trans (congrArg some (by kernel_rfl))⟩
 t0 := Tryz.underlying0
 a0 := Tryz.isAgg0
 z0 := Tryz.sizeOf0
 v0 := Tryz.zeroValue0
 t3 := Tryz.underlying3
 a3 := Tryz.isAgg3
 z3 := Tryz.sizeOf3
 v3 := Tryz.zeroValue3
 t4 := Tryz.underlying4
 a4 := Tryz.isAgg4
 z4 := Tryz.sizeOf4
 v4 := Tryz.zeroValue4
 t5 := Tryz.underlying5
 a5 := Tryz.isAgg5
 z5 := Tryz.sizeOf5
 v5 := Tryz.zeroValue5
 t9 := Tryz.underlying9
 a9 := Tryz.isAgg9
 z9 := Tryz.sizeOf9
 v9 := Tryz.zeroValue9
 t22 := Tryz.underlying36
 a22 := Tryz.isAgg36
 z22 := Tryz.sizeOf36
 v22 := Tryz.zeroValue36
 t25 := Tryz.underlying86
 a25 := Tryz.isAgg86
 z25 := Tryz.sizeOf86
 v25 := Tryz.zeroValue86
 t39 := Tryz.underlying97
 a39 := Tryz.isAgg97
 z39 := Tryz.sizeOf97
 v39 := Tryz.zeroValue97
 t45 := Tryz.underlying114
 a45 := Tryz.isAgg114
 z45 := Tryz.sizeOf114
 v45 := Tryz.zeroValue114
 t46 := Tryz.underlying115
 a46 := Tryz.isAgg115
 z46 := Tryz.sizeOf115
 v46 := Tryz.zeroValue115
 t50 := Tryz.underlying119
 a50 := Tryz.isAgg119
 z50 := Tryz.sizeOf119
 v50 := Tryz.zeroValue119
 t53 := Tryz.underlying122
 a53 := Tryz.isAgg122
 z53 := Tryz.sizeOf122
 v53 := Tryz.zeroValue122
 t55 := Tryz.underlying96
 a55 := Tryz.isAgg96
 z55 := Tryz.sizeOf96
 v55 := Tryz.zeroValue96
 t66 := Tryz.underlying130
 a66 := Tryz.isAgg130
 z66 := Tryz.sizeOf130
 v66 := Tryz.zeroValue130
 t70 := Tryz.underlying134
 a70 := Tryz.isAgg134
 z70 := Tryz.sizeOf134
 v70 := Tryz.zeroValue134
 t76 := Tryz.underlying138
 a76 := Tryz.isAgg138
 z76 := Tryz.sizeOf138
 v76 := Tryz.zeroValue138
 t77 := Tryz.underlying139
 a77 := Tryz.isAgg139
 z77 := Tryz.sizeOf139
 v77 := Tryz.zeroValue139 }
theorem swo_cf (sec : Bool) : Go.Sort.SWO (Go.Proofs.ltOf fun a b : Sub (fun v => okP v = true) => cfP sec a.1 b.1) where
 irrefl x := (a37 sec x.1 x.1).trans (E2 _)
 trans x y z h1 h2 := (a37 sec x.1 z.1).trans (X5 ((a37 sec x.1 y.1).symm.trans h1) ((a37 sec y.1 z.1).symm.trans h2))
 ntrans x y z h1 h2 := (a37 sec x.1 z.1).trans (bq7 ((a37 sec x.1 y.1).symm.trans h1) ((a37 sec y.1 z.1).symm.trans h2))
theorem c_ans : ad0 (K1 h_cmpF.c h_cmpF.nv h_cmpF.c.args h_cmpF.c.heap) = some (h_cmpF.c.need, .oint .i64 (.app 308 [.va 0, .va 1, .va 2, .va 3, .va 4, .va 5, .va 6, .va 7, .va 8, .va 9, .va 10])) := by kernel_rfl
theorem k_cmp (ω : Opq) (hω : Om ω) (β : Bij) (L : Go.Ev.Loc) (w : World) (hb : L.blk < w.heap.size) (hbr : BR β ω L w.heap[L.blk]? (.cells 27 0 (ah8 [.int .u8, .str, .str, .int .i64, .int .i64] 0))) : bg8 Tryz.prog 52 #[.pointer (some ⟨L.blk, L.off, none⟩)] [.str, .int .i64, .int .i64] (fun v => okP v = true) (cfP (V2 (fil ω))) L.blk w :=
 ce7 (E := env) om_upd hω (g := 52) (nv := 11) (c := h_cmpF.c) k_cmpF (by kernel_rfl) (sig := [.str, .int .i64, .int .i64]) (cs := [.int .u8, .str, .str, .int .i64, .int .i64]) (ec := 27) rfl rfl rfl c_ans (fun ω' hω' a b qa qb ha hb hc => by
   have a0 : ω'.w 0 = a.toL.getD 0 default := ha 0 (by decide)
   have a1 : ω'.w 1 = a.toL.getD 1 default := ha 1 (by decide)
   have a2 : ω'.w 2 = a.toL.getD 2 default := ha 2 (by decide)
   have b0 : ω'.w 3 = b.toL.getD 0 default := hb 0 (by decide)
   have b1 : ω'.w 4 = b.toL.getD 1 default := hb 1 (by decide)
   have b2 : ω'.w 5 = b.toL.getD 2 default := hb 2 (by decide)
   have c0 : ω'.w 6 = ω.w 0 := hc 0 (by decide)
   refine ⟨?_, ?_⟩
   · show (decide (((ω'.w 0).toS.length : Int) ≤ 1000) && decide (((ω'.w 3).toS.length : Int) ≤ 1000)) = true
     rw [a0, b0]
     have h1 : (a.toL.getD 0 default).toS.length ≤ 1000 := (aE4 qa).2
     have h2 : (b.toL.getD 0 default).toS.length ≤ 1000 := (aE4 qb).2
     exact a10 (decide_eq_true (by omega)) (decide_eq_true (by omega))
   · show (ω'.f 308 [ω'.w 0, ω'.w 1, ω'.w 2, ω'.w 3, ω'.w 4, ω'.w 5, ω'.w 6, ω'.w 7, ω'.w 8, ω'.w 9, ω'.w 10]).toI = _
     rw [om_f hω', a0, a1, a2, b0, b1, b2, c0]; rfl) hb hbr
theorem k_SORT : C5 env Om h_SORT :=
 (haveI : Inhabited (Sub fun v => okP v = true) := ⟨⟨aO2, by decide⟩⟩
  ce6 (E := env) om_upd (nv := 6) (by kernel_rfl) (bY2 (E := env) sortLays (f := 51) rfl (g := 52) (sig := [.str, .int .i64, .int .i64]) (cs := [.int .u8, .str, .str, .int .i64, .int .i64]) (e := 25) (ec := 27) (id := 311) (need := .app 310 [.va 5]) (Q := fun v => okP v = true) (cf := fun ω => cfP (V2 (fil ω))) Tryz.isAgg25 Tryz.sizeOf25 (fun ω => swo_cf _) (enters_of Tryz.func52 (by kernel_rfl) rfl) k_cmp
   (fun ω hω hn => by
    have h2 : (ω.f 310 [ω.w 5]).toB = true := hn
    rw [om_f hω] at h2
    exact fun v hv => aX7 (g9 h2).2 hv)
   (fun ω hω hn l hp hs => by
    have h2 : (ω.f 310 [ω.w 5]).toB = true := hn
    rw [om_f hω] at h2
    show (ω.f 311 [ω.w 0, ω.w 1, ω.w 2, ω.w 3, ω.w 4, ω.w 5]).toL = l
    rw [om_f hω]
    exact bZ3 (fun v hv => (aE4 (aX7 (g9 h2).2 hv)).1) hp hs) (by kernel_rfl)) : C5 env Om ⟨51, 6, aD5 52 25 [.str, .int .i64, .int .i64] 27 [.int .u8, .str, .str, .int .i64, .int .i64] (.app 310 [.va 5]) 311⟩)
theorem l5_ok : ∀ x ∈ L5, C5 env Om x := by
 exact s9 (fun x hx => (by cases hx)) k_SORT
theorem h6_ok : ∀ x ∈ H6, C5 env Om x := af3 h5_ok l5_ok
theorem k_sort : C5 env Om h_sort :=
 n8 (E := env) (cs := H6) om_upd e_ok orders h6_ok (n := 1000000) (by kernel_rfl) (o9 (T := bh8) r_sort fun ω hω hn => by
   have hn : (decide (((ω.w 5).toL.length : Int) ≤ 100) && (ω.f 310 [ω.w 5]).toB) = true := hn
   obtain ⟨h1, h2⟩ := g9 hn
   rw [om_f hω] at h2
   exact (ct5 (om_f hω) (by have := of_decide_eq_true h1; omega) h2).trans (by simp only [h_sort, k5, den, om_f hω]))
theorem k_sortR : C5 env Om h_sortR :=
 n8 (E := env) (cs := H6) om_upd e_ok orders h6_ok (n := 1000000) (by kernel_rfl) (o9 (T := aL2) r_sortR fun ω hω hn => by
   have hn : (decide (((ω.w 5).toL.length : Int) ≤ 100) && (ω.f 310 [ω.w 5]).toB) = true := hn
   obtain ⟨h1, h2⟩ := g9 hn
   rw [om_f hω] at h2
   exact (ch0 (om_f hω) (by have := of_decide_eq_true h1; omega) h2).trans (by simp only [h_sortR, k5, den, om_f hω]))
theorem l6_ok : ∀ x ∈ L6, C5 env Om x := by
 exact s9 (s9 (fun x hx => (by cases hx)) k_sortR) k_sort
theorem h7_ok : ∀ x ∈ H7, C5 env Om x := af3 h6_ok l6_ok
theorem k_boundSorts : C5 env Om h_boundSorts :=
 n8 (E := env) (cs := H7) om_upd e_ok orders h7_ok (n := 1000000) (by kernel_rfl) (o9 (T := P5) r_boundSorts fun ω hω hn => by
   have hn : (ω.f 309 [ω.w 5]).toB = true := hn
   rw [om_f hω] at hn
   exact (aY0 (om_f hω) hn).trans (by simp only [h_boundSorts, k5, den]))
theorem l7_ok : ∀ x ∈ L7, C5 env Om x := by
 exact s9 (fun x hx => (by cases hx)) k_boundSorts
theorem h8_ok : ∀ x ∈ H8, C5 env Om x := af3 h7_ok l7_ok
end Go.Proofs.YtdhepaehegnfdaaGreatDoor.Ctr
