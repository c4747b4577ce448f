import Derived.Test.YthdedeijapoihaaGreatDoorRows
import Derived.Test.YthdedeijapoihaaGreatDoorEC3
import Derived.Test.YthdedeijapoihaaGreatDoorE42
import Derived.ProofKit
set_option linter.unusedVariables false
set_option linter.unusedSimpArgs false
namespace Go.Proofs.YthdedeijapoihaaGreatDoor.Ctr
open Go Go.Ev
noncomputable def env0 : Env := ⟨Tryz.prog, fun f => bif Nat.beq f 134 then some (.count) else bif Nat.beq f 143 then some (.indexByte) else bif Nat.beq f 127 then some (.ident) else bif Nat.beq f 138 then some (.makeNoZero 161) else none, fun f => Nat.beq f 11, fun f => false, fun _ _ _ => .bad, fun _ _ => none, fun _ _ _ _ => none⟩
noncomputable def loops (f : FuncId) (r : Nat) (a : Fr) (h : Heap) : Option LSpec := bif Nat.beq f 128 && Nat.beq r 13 then some (O2 ⟨320, 2000, [12, 54, 55, 56, 57, 58, 59, 60, 61, 62, 63, 64, 65, 66, 67, 68, 69, 70, 71, 72, 73], [(10, some (1), 5, [.int .u8])], [11, 53], [10], [0, 1, 2, 10, 52], [(.exit 0, [])], [], []⟩ a h) else bif Nat.beq f 36 && Nat.beq r 2 then some (O2 ⟨101, 2000, [4, 5, 6, 7, 8, 9, 10, 11, 12, 13, 14, 15, 16, 17], [], [2, 3], [], [0], [(.exit 0, []), (.ret, [])], [], []⟩ a h) else bif Nat.beq f 62 && Nat.beq r 3 then some (O2 ⟨103, 2000, [5, 6, 7, 8, 9, 10, 11, 12, 13, 14, 15, 16, 17, 18, 19, 20, 21, 22, 23, 24, 25, 26], [(3, none, 128, [.str, .int .i64, .int .i64, .int .i64, .int .i64, .int .i64, .int .i64])], [3, 4], [], [0], [(.exit 0, [])], [], []⟩ a h) else bif Nat.beq f 64 && Nat.beq r 4 then some (O2 ⟨107, 2000, [11, 12, 13, 14, 15, 16, 17, 18, 19, 20, 21, 22, 23, 24, 25], [], [4, 5], [], [0, 1], [(.exit 0, []), (.ret, [])], [], []⟩ a h) else bif Nat.beq f 19 && Nat.beq r 3 then some (O2 ⟨130, 2000, [5, 6, 7, 8, 9, 10, 11, 12, 13, 14, 15, 16, 17, 18, 19, 20, 21, 22, 23, 24, 25, 26, 27, 28, 29, 30, 31], [(3, none, 101, [.str, .int .i64, .int .i64, .bool, .int .i64, .int .i64, .int .i64, .int .i64])], [3, 4], [], [0], [(.exit 0, [])], [], []⟩ a h) else bif Nat.beq f 23 && Nat.beq r 4 then some (O2 ⟨131, 2000, [11, 12, 13, 14, 15, 16, 17, 18, 19, 20, 21, 22, 23, 24, 25], [], [4, 5], [], [0, 1], [(.exit 0, []), (.ret, [])], [], []⟩ a h) else bif Nat.beq f 24 && Nat.beq r 1 then some (O2 ⟨132, 2000, [3, 4, 5, 6, 7, 8, 9, 10, 11, 12, 13], [], [2], [0], [0], [(.exit 0, [])], [], []⟩ a h) else bif Nat.beq f 84 && Nat.beq r 2 then some (O2 ⟨133, 2000, [4, 5, 6, 7, 8, 9, 10, 11, 12, 13, 14, 15, 16, 17, 18, 19, 20, 21, 22, 23, 24, 25, 26, 27, 28, 29, 30, 31, 32, 33], [], [2, 3], [], [0], [(.exit 0, []), (.ret, [])], [], []⟩ a h) else bif Nat.beq f 84 && Nat.beq r 7 then some (O2 ⟨134, 3000, [18, 19, 20, 21, 22, 23, 24, 25, 26, 27, 28, 29, 30, 31, 32, 33], [], [2, 4], [], [0, 3], [(.exit 2, []), (.ret, [])], [], []⟩ a h) else bif Nat.beq f 85 && Nat.beq r 2 then some (O2 ⟨135, 2000, [7, 8, 9, 10, 11, 12, 13, 14, 15, 16, 17, 18, 19, 20, 21, 22, 23, 24], [], [5, 6], [4], [0, 3, 4], [(.exit 0, []), (.ret, [])], [], []⟩ a h) else bif Nat.beq f 86 && Nat.beq r 3 then some (O2 ⟨136, 2000, [5, 6, 7, 8, 9, 10, 11, 12, 13, 14, 15, 16, 17, 18, 19, 20, 21, 22, 23, 24, 25, 26, 27, 28, 29, 30, 31, 32, 33, 34, 35, 36, 37, 38, 39, 40, 41, 42, 43, 44, 45, 46, 47, 48, 49, 50, 51, 52, 53], [(3, none, 101, [.str, .int .i64, .int .i64, .bool, .int .i64, .int .i64, .int .i64, .int .i64])], [3, 4], [], [0], [(.exit 0, [])], [], []⟩ a h) else bif Nat.beq f 86 && Nat.beq r 7 then some (O2 ⟨137, 3000, [20, 21, 22, 23, 24, 25, 26, 27, 28, 29, 30, 31, 32, 33, 34, 35, 36, 37, 38, 39, 40, 41, 42, 43, 44, 45, 46, 47, 48, 49, 50, 51, 52, 53], [], [5], [3], [0, 3, 4], [(.exit 2, [])], [], []⟩ a h) else bif Nat.beq f 38 && Nat.beq r 3 then some (O2 ⟨140, 2000, [6, 7, 8, 13, 14, 15, 16, 17, 18, 19, 20, 21, 22, 23, 24, 25, 26, 27, 28, 29, 30, 31, 32, 33, 34, 35, 36, 37, 38, 39, 40], [], [12], [4], [4, 10, 11], [(.exit 0, []), (.ret, [])], [(4, [.str, .int .i64, .int .i64], [.int .i64, .int .i64, .int .i64, .int .i64])], []⟩ a h) else bif Nat.beq f 9 && Nat.beq r 7 then some (O2 ⟨141, 2000, [12, 13, 14, 38, 39, 40, 41, 42, 43, 44, 45, 46, 47, 48, 49, 50, 51, 52, 53, 54, 55, 56], [(10, none, 59, [.str, .int .i64, .int .i64, .bool, .int .i64, .int .i64, .int .i64, .int .i64])], [10, 37], [], [1, 6, 8, 35, 36], [(.exit 0, [])], [], []⟩ a h) else bif Nat.beq f 9 && Nat.beq r 14 then some (O2 ⟨142, 2000, [16, 17, 18, 60, 61, 62, 63, 64, 65, 66, 67, 68, 69, 70, 71, 72, 73, 74, 75, 76, 77, 78, 79, 80, 81, 82, 83, 84, 85, 86], [(10, none, 59, [.str, .int .i64, .int .i64, .bool, .int .i64, .int .i64, .int .i64, .int .i64])], [10, 59], [], [6, 57, 58], [(.exit 2, [])], [], []⟩ a h) else bif Nat.beq f 63 && Nat.beq r 5 then some (O2 ⟨143, 2000, [8, 9, 21, 22, 23, 24, 25, 26, 27, 28, 29, 30, 31, 32, 33, 34, 35, 36, 37, 38, 39, 40, 41, 42, 43, 44, 45, 46, 47], [(6, none, 101, [.str, .int .i64, .int .i64, .bool, .int .i64, .int .i64, .int .i64, .int .i64])], [6, 7], [], [0, 1], [(.exit 0, [])], [], []⟩ a h) else bif Nat.beq f 63 && Nat.beq r 11 then some (O2 ⟨144, 2000, [11, 12, 48, 49, 50, 51, 52, 53, 54, 55, 56, 57, 58, 59, 60, 61, 62, 63, 64, 65, 66, 67, 68, 69, 70, 71, 72, 73, 74, 75, 76, 77, 78, 79, 80, 81, 82, 83, 84, 85, 86, 87, 88], [(6, none, 101, [.str, .int .i64, .int .i64, .bool, .int .i64, .int .i64, .int .i64, .int .i64])], [6, 10], [], [0, 1], [(.exit 2, [])], [], []⟩ a h) else bif Nat.beq f 18 && Nat.beq r 2 then some (O2 ⟨450, 2000, [4, 5, 6, 7, 8, 9, 10, 11, 12, 13, 14, 15, 16, 17], [], [2, 3], [], [0], [(.exit 0, []), (.ret, [])], [], []⟩ a h) else bif Nat.beq f 57 && Nat.beq r 4 then some (O2 ⟨451, 2000, [5, 14, 15, 16, 17, 18, 19, 20, 21, 22, 23, 24, 25], [], [4, 13], [], [0, 1, 12], [(.exit 0, []), (.ret, [])], [], []⟩ a h) else bif Nat.beq f 123 && Nat.beq r 1 then some (O2 ⟨452, 2000, [11, 12, 13, 14, 15, 16, 17, 18, 19, 20, 21, 22, 23, 24, 25, 26, 27, 28, 29, 30, 31, 32, 33, 34, 35, 36, 37], [], [10], [0], [0, 1, 2, 3], [(.exit 0, [])], [], []⟩ a h) else bif Nat.beq f 25 && Nat.beq r 2 then some (O2 ⟨453, 2000, [5, 9, 10, 11, 12, 13, 14, 15, 16, 17, 18, 19, 20, 21, 22, 23, 24, 25, 26, 27], [(2, none, 61, [.str, .int .i64, .int .i64, .int .i64, .int .i64, .int .i64, .int .i64]), (3, none, 55, [.str, .int .i64, .int .i64])], [2, 3, 8], [], [6, 7], [(.exit 0, [])], [], []⟩ a h) else bif Nat.beq f 26 && Nat.beq r 3 then some (O2 ⟨454, 2000, [7, 13, 14, 15, 16, 17, 18, 19, 20, 21, 22, 23, 24], [(5, none, 59, [.str, .int .i64, .int .i64, .bool, .int .i64, .int .i64, .int .i64, .int .i64])], [5, 12], [], [1, 10, 11], [(.exit 0, [])], [], []⟩ a h) else bif Nat.beq f 26 && Nat.beq r 8 then some (O2 ⟨455, 3000, [9, 28, 29, 30, 31, 32, 33, 34, 35, 36], [(5, none, 59, [.str, .int .i64, .int .i64, .bool, .int .i64, .int .i64, .int .i64, .int .i64])], [5, 27], [], [25, 26], [(.exit 2, [])], [], []⟩ a h) else bif Nat.beq f 27 && Nat.beq r 1 then some (O2 ⟨456, 2000, [3, 4, 5, 6, 7, 8, 9, 10, 11, 12, 13], [], [2], [0], [0], [(.exit 0, [])], [], []⟩ a h) else bif Nat.beq f 28 && Nat.beq r 1 then some (O2 ⟨457, 2000, [3, 4, 5, 6, 7, 8, 9, 10, 11, 12], [], [2], [0], [0], [(.exit 0, [])], [], []⟩ a h) else bif Nat.beq f 111 && Nat.beq r 2 then some (O2 ⟨458, 2000, [18, 19, 20, 21, 22, 23, 24, 25, 26, 27, 28, 29, 30, 31, 32, 33, 34, 35, 36, 37, 38, 39, 40, 41, 42, 43, 44, 45, 46, 47, 48, 49], [], [10, 11], [0], [0, 2, 4], [(.exit 0, [])], [], []⟩ a h) else bif Nat.beq f 94 && Nat.beq r 1 then some (O2 ⟨460, 2000, [9, 12, 13, 14, 15, 16, 17, 18, 19, 20, 21, 22, 23, 24, 25, 26, 27, 28, 29, 30, 31, 32, 33, 34, 35, 36, 37, 38, 39, 40, 41, 42, 43, 44, 45, 46, 47, 48, 49, 50, 51, 52], [], [8], [0], [0, 1, 2, 3], [(.exit 0, [])], [], []⟩ a h) else bif Nat.beq f 94 && Nat.beq r 4 then some (O2 ⟨461, 3000, [18, 19, 20, 21, 22, 23, 24, 25, 26, 27, 28, 29, 30, 31, 32, 33, 34, 35, 36, 37, 38, 39, 40, 41, 42, 43, 44, 45, 46, 47, 48, 49, 50, 51, 52], [], [9], [0], [0, 1, 2, 3, 8], [(.exit 2, [])], [], []⟩ a h) else bif Nat.beq f 95 && Nat.beq r 3 then some (O2 ⟨462, 2000, [12, 31, 32, 33, 34, 35, 36, 37, 38, 39, 40, 41, 42, 43, 44, 45, 46, 47, 48, 49, 50, 51, 52, 53], [], [10, 11], [], [0, 1, 4], [(.exit 0, [])], [], []⟩ a h) else bif Nat.beq f 95 && Nat.beq r 9 then some (O2 ⟨463, 3000, [55, 56, 57, 58, 59, 60, 61, 62, 63, 64, 65, 66, 67, 68, 69, 70, 71, 72, 73, 74, 75, 76], [], [13], [0], [0, 10], [(.exit 2, [])], [], []⟩ a h) else bif Nat.beq f 95 && Nat.beq r 15 then some (O2 ⟨464, 2000, [16, 83, 84, 85, 86, 87, 88, 89, 90, 91, 92, 93, 94, 95, 96, 97, 98, 99, 100, 101, 102, 103, 104, 105, 106], [], [14, 15], [], [0, 2, 4], [(.exit 4, [])], [], []⟩ a h) else bif Nat.beq f 95 && Nat.beq r 21 then some (O2 ⟨465, 3000, [108, 109, 110, 111, 112, 113, 114, 115, 116, 117, 118, 119, 120, 121, 122, 123, 124, 125, 126, 127, 128], [], [17], [0], [0, 14], [(.exit 6, [])], [], []⟩ a h) else bif Nat.beq f 95 && Nat.beq r 33 then some (O2 ⟨466, 2000, [23, 149, 150, 151, 152, 153, 154, 155, 156, 157, 158, 159, 160, 161, 162, 163, 164, 165, 166, 167, 168, 169, 170, 171, 172, 173, 174], [], [20, 21], [], [0, 1, 2, 3, 4, 18, 19, 22], [(.exit 8, [])], [], []⟩ a h) else bif Nat.beq f 76 && Nat.beq r 2 then some (O2 ⟨467, 2000, [11, 12, 13, 14, 15, 16, 17, 18, 19, 20, 21, 22], [], [7, 8], [0], [0, 1, 2, 6], [(.exit 0, [])], [], []⟩ a h) else bif Nat.beq f 76 && Nat.beq r 7 then some (O2 ⟨468, 3000, [7, 8, 9, 28, 29, 30, 31, 32, 33, 34, 35, 36, 37, 38, 39, 40, 41, 42, 43, 44, 45, 46, 47, 48, 49, 50, 51, 52, 53, 54, 55, 56, 57, 58, 59, 60, 61, 62], [], [6], [0], [0, 1, 2], [(.exit 2, [])], [], []⟩ a h) else bif Nat.beq f 76 && Nat.beq r 9 then some (O2 ⟨469, 4000, [33, 34, 35, 36, 37, 38, 39, 40, 41, 42, 43, 44, 45, 46, 47, 48], [], [7, 8], [0], [0, 1, 2, 6], [(.exit 4, [])], [], []⟩ a h) else bif Nat.beq f 72 && Nat.beq r 2 then some (O2 ⟨470, 2000, [5, 9, 10, 11, 12, 13, 14, 15, 16, 17, 18], [], [4, 8], [], [0, 1, 7], [(.exit 0, []), (.ret, [])], [], []⟩ a h) else bif Nat.beq f 50 && Nat.beq r 5 then some (O2 ⟨471, 2000, [7, 16, 17, 18, 19, 20, 21, 22, 23, 24, 25, 26, 27, 28, 29, 30, 31, 32, 33, 34, 35], [], [5, 6], [0], [0, 1], [(.exit 0, [])], [], []⟩ a h) else bif Nat.beq f 21 && Nat.beq r 3 then some (O2 ⟨472, 2000, [7, 8, 9, 10, 11, 12, 13, 14, 15, 16, 17, 18, 19, 20, 21, 22, 23, 24, 25, 26, 27, 28, 29, 30, 31, 32, 33, 34, 35, 36, 37, 38, 39, 40, 41, 42, 43, 44, 45, 46, 47, 48, 49, 50, 51, 52, 53, 54, 55, 56, 57, 58, 59, 60, 61, 62, 63, 64, 65, 66, 67, 68], [(5, none, 101, [.str, .int .i64, .int .i64, .bool, .int .i64, .int .i64, .int .i64, .int .i64])], [5, 6], [], [1, 2], [(.exit 0, [])], [], []⟩ a h) else bif Nat.beq f 21 && Nat.beq r 8 then some (O2 ⟨473, 3000, [32, 33, 34, 35, 36, 37, 38, 39, 40, 41, 42, 43, 44, 45, 46, 47, 48, 49, 50, 51, 52, 53, 54, 55, 56, 57, 58, 59, 60, 61, 62, 63, 64, 65, 66, 67, 68], [], [7], [5], [1, 2, 5, 6], [(.exit 2, [])], [], []⟩ a h) else bif Nat.beq f 4 && Nat.beq r 11 then some (O2 ⟨474, 2000, [65, 66, 67, 68, 69, 70, 71, 72, 73, 74, 75, 76, 77, 78, 79, 80, 81, 82, 83, 84, 85, 86, 87, 88, 89, 90, 91, 92, 93, 94, 95, 96, 97, 98, 99, 100, 101, 102, 103, 104, 105, 106, 107, 108, 109, 110, 111, 112, 113, 114, 115, 116, 117], [], [6, 11, 12, 13], [], [1, 7, 9, 10], [(.exit 0, []), (.ret, [])], [], []⟩ a h) else bif Nat.beq f 4 && Nat.beq r 24 then some (O2 ⟨475, 3000, [138, 139, 140, 141, 142, 143, 144, 145, 146, 147, 148, 149, 150, 151, 152, 153, 154, 155, 156, 157, 158, 159, 160, 161, 162, 163, 164, 165, 166, 167, 168, 169, 170, 171, 172, 173, 174, 175, 176, 177, 178, 179, 180, 181, 182, 183], [], [6, 15], [], [1, 7, 9, 10, 11, 14], [(.exit 2, []), (.ret, [])], [], []⟩ a h) else none
noncomputable def env : Env := { env0 with lspec := loops }
def h_works : HC := ⟨8, 0, ⟨[], [], 0, .cb true, .obool (.va 1000), [], [.cb true]⟩⟩
def L0 : List HC := [h_works]
def h_repl : HC := ⟨125, 1, ⟨[.ostr (.va 0), .str [0], .str [0, 255]], [], 0, .op (.cmp .leq) [.op .slen [.va 0], .ci 1000], .ostr (.va 1000), [], [.app 300 [.va 0]]⟩⟩
def h_partI : HC := ⟨113, 1, ⟨[.agg [.int .u8 1, .oint .i64 (.va 0), .str []]], [], 0, .cb true, .ostr (.va 1000), [], [.app 302 [.va 0]]⟩⟩
def h_has : HC := ⟨49, 8, ⟨[.agg [.oint .u8 (.va 0), .ostr (.va 1), .ostr (.va 2), .oint .i64 (.va 3), .oint .i64 (.va 4)], .agg [.ostr (.va 5), .oint .i64 (.va 6), .oint .i64 (.va 7)]], [], 0, .cb true, .obool (.va 1000), [], [.app 304 [.va 0, .va 1, .va 2, .va 3, .va 4, .va 5, .va 6, .va 7]]⟩⟩
def h_hasR : HC := ⟨60, 8, ⟨[.agg [.oint .u8 (.va 0), .ostr (.va 1), .ostr (.va 2), .oint .i64 (.va 3), .oint .i64 (.va 4)], .agg [.ostr (.va 5), .oint .i64 (.va 6), .oint .i64 (.va 7)]], [], 0, .cb true, .obool (.va 1000), [], [.app 304 [.va 0, .va 1, .va 2, .va 3, .va 4, .va 5, .va 6, .va 7]]⟩⟩
def h_lessS : HC := ⟨61, 7, ⟨[.agg [.ostr (.va 0), .oint .i64 (.va 1), .oint .i64 (.va 2)], .agg [.ostr (.va 3), .oint .i64 (.va 4), .oint .i64 (.va 5)], .obool (.va 6)], [], 0, .cb true, .obool (.va 1000), [], [.app 305 [.va 0, .va 1, .va 2, .va 3, .va 4, .va 5, .va 6]]⟩⟩
def h_changes : HC := ⟨19, 1, ⟨[.osl 0 (.ci 0) (.op .llen [.va 0]) 8], [.arr 4294967295 [.str, .int .i64, .int .i64, .bool, .int .i64, .int .i64, .int .i64, .int .i64] (.va 0)], 1, .op (.cmp .leq) [.op .llen [.va 0], .ci 1000], .ous 1 (.op .llen [.va 1000]) 8, [some (.arr 101 [.str, .int .i64, .int .i64, .bool, .int .i64, .int .i64, .int .i64, .int .i64] (.va 1000))], [.app 200 [.va 0]]⟩⟩
def h_sameC : HC := ⟨23, 2, ⟨[.osl 0 (.ci 0) (.op .llen [.va 0]) 8, .osl 1 (.ci 0) (.op .llen [.va 1]) 8], [.arr 4294967295 [.str, .int .i64, .int .i64, .bool, .int .i64, .int .i64, .int .i64, .int .i64] (.va 0), .arr 4294967295 [.str, .int .i64, .int .i64, .bool, .int .i64, .int .i64, .int .i64, .int .i64] (.va 1)], 2, .op (.cmp .leq) [.op .llen [.va 0], .ci 1000000], .obool (.va 1000), [], [.app 201 [.va 0, .va 1]]⟩⟩
def h_spoilC : HC := ⟨24, 2, ⟨[.ous 0 (.va 0) 8], [.arr 59 [.str, .int .i64, .int .i64, .bool, .int .i64, .int .i64, .int .i64, .int .i64] (.va 1)], 0, .op .and [.op (.cmp .eql) [.va 0, .op .llen [.va 1]], .op (.cmp .leq) [.op .llen [.va 1], .ci 1000000]], .tup [], [none], []⟩⟩
def h_fewChg : HC := ⟨18, 1, ⟨[.osl 0 (.ci 0) (.op .llen [.va 0]) 8], [.arr 4294967295 [.str, .int .i64, .int .i64, .bool, .int .i64, .int .i64, .int .i64, .int .i64] (.va 0)], 1, .op (.cmp .leq) [.op .llen [.va 0], .ci 9223372036854775807], .obool (.va 1000), [], [.app 1 [.va 0]]⟩⟩
def h_equalC : HC := ⟨57, 2, ⟨[.osl 0 (.ci 0) (.op .llen [.va 0]) 8, .osl 1 (.ci 0) (.op .llen [.va 1]) 8], [.arr 4294967295 [.str, .int .i64, .int .i64, .bool, .int .i64, .int .i64, .int .i64, .int .i64] (.va 0), .arr 4294967295 [.str, .int .i64, .int .i64, .bool, .int .i64, .int .i64, .int .i64, .int .i64] (.va 1)], 2, .op (.cmp .leq) [.op .llen [.va 0], .ci 1000000], .obool (.va 1000), [], [.app 201 [.va 0, .va 1]]⟩⟩
def h_cloneC : HC := ⟨51, 1, ⟨[.osl 0 (.ci 0) (.op .llen [.va 0]) 8], [.arr 4294967295 [.str, .int .i64, .int .i64, .bool, .int .i64, .int .i64, .int .i64, .int .i64] (.va 0)], 1, .op .and [.op (.cmp .leq) [.op .llen [.va 0], .ci 100], .app 431 [.va 0]], .ous 1 (.op .llen [.va 1000]) 8, [some (.arr 59 [.str, .int .i64, .int .i64, .bool, .int .i64, .int .i64, .int .i64, .int .i64] (.va 1000))], [.va 0]⟩⟩
def h_swapR : HC := ⟨123, 10, ⟨[.ous 1 (.va 6) 8, .oint .i64 (.va 7), .oint .i64 (.va 8), .oint .i64 (.va 9), .func (.func 54) [] [.ptr 0 0]], [.cells 24 0 [.oint .u8 (.va 0), .ostr (.va 1), .ostr (.va 2), .oint .i64 (.va 3), .oint .i64 (.va 4)], .arr 59 [.str, .int .i64, .int .i64, .bool, .int .i64, .int .i64, .int .i64, .int .i64] (.va 5)], 1, .app 420 [.va 5, .va 6, .va 7, .va 8, .va 9], .tup [], [some (.arr 59 [.str, .int .i64, .int .i64, .bool, .int .i64, .int .i64, .int .i64, .int .i64] (.va 1000))], [.app 421 [.va 5, .va 7, .va 8, .va 9]]⟩⟩
def h_split : HC := ⟨25, 1, ⟨[.osl 0 (.ci 0) (.op .llen [.va 0]) 8], [.arr 4294967295 [.str, .int .i64, .int .i64, .bool, .int .i64, .int .i64, .int .i64, .int .i64] (.va 0)], 1, .op (.cmp .leq) [.op .llen [.va 0], .ci 100], .tup [.ous 1 (.op .llen [.va 1000]) 7, .ous 2 (.op .llen [.va 1001]) 3], [some (.arr 61 [.str, .int .i64, .int .i64, .int .i64, .int .i64, .int .i64, .int .i64] (.va 1000)), some (.arr 55 [.str, .int .i64, .int .i64] (.va 1001))], [.app 440 [.va 0], .app 441 [.va 0]]⟩⟩
def h_merge : HC := ⟨26, 2, ⟨[.osl 0 (.ci 0) (.op .llen [.va 0]) 7, .osl 1 (.ci 0) (.op .llen [.va 1]) 3], [.arr 4294967295 [.str, .int .i64, .int .i64, .int .i64, .int .i64, .int .i64, .int .i64] (.va 0), .arr 4294967295 [.str, .int .i64, .int .i64] (.va 1)], 2, .op .and [.op (.cmp .leq) [.op .llen [.va 0], .ci 100], .op (.cmp .leq) [.op .llen [.va 1], .ci 100]], .ous 2 (.op .llen [.va 1000]) 8, [some (.arr 59 [.str, .int .i64, .int .i64, .bool, .int .i64, .int .i64, .int .i64, .int .i64] (.va 1000))], [.app 442 [.va 0, .va 1]]⟩⟩
def h_spoilRs : HC := ⟨27, 2, ⟨[.ous 0 (.va 0) 7], [.arr 61 [.str, .int .i64, .int .i64, .int .i64, .int .i64, .int .i64, .int .i64] (.va 1)], 0, .op .and [.op (.cmp .eql) [.va 0, .op .llen [.va 1]], .op (.cmp .leq) [.op .llen [.va 1], .ci 1000000]], .tup [], [none], []⟩⟩
def h_spoilPs : HC := ⟨28, 2, ⟨[.ous 0 (.va 0) 3], [.arr 55 [.str, .int .i64, .int .i64] (.va 1)], 0, .op .and [.op (.cmp .eql) [.va 0, .op .llen [.va 1]], .op (.cmp .leq) [.op .llen [.va 1], .ci 1000000]], .tup [], [none], []⟩⟩
def L1 : List HC := [h_repl, h_partI, h_has, h_hasR, h_lessS, h_changes, h_sameC, h_spoilC, h_fewChg, h_equalC, h_cloneC, h_swapR, h_split, h_merge, h_spoilRs, h_spoilPs]
def h_partT : HC := ⟨113, 1, ⟨[.agg [.int .u8 2, .int .i64 0, .ostr (.va 0)]], [], 0, .op (.cmp .leq) [.op .slen [.va 0], .ci 1000], .ostr (.va 1000), [], [.app 301 [.va 0]]⟩⟩
def h_rotC : HC := ⟨111, 10, ⟨[.ous 1 (.va 6) 8, .oint .i64 (.va 7), .oint .i64 (.va 8), .oint .i64 (.va 9), .func (.func 54) [] [.ptr 0 0]], [.cells 24 0 [.oint .u8 (.va 0), .ostr (.va 1), .ostr (.va 2), .oint .i64 (.va 3), .oint .i64 (.va 4)], .arr 59 [.str, .int .i64, .int .i64, .bool, .int .i64, .int .i64, .int .i64, .int .i64] (.va 5)], 1, .app 422 [.va 5, .va 6, .va 7, .va 8, .va 9], .tup [], [some (.arr 59 [.str, .int .i64, .int .i64, .bool, .int .i64, .int .i64, .int .i64, .int .i64] (.va 1000))], [.app 423 [.va 5, .va 7, .va 8, .va 9]]⟩⟩
def L2 : List HC := [h_partT, h_rotC]
def h_prim : HC := ⟨80, 3, ⟨[.agg [.ostr (.va 0), .oint .i64 (.va 1), .oint .i64 (.va 2)]], [], 0, .op (.cmp .leq) [.op .slen [.va 0], .ci 1000], .ostr (.va 1000), [], [.app 306 [.va 0, .va 1, .va 2]]⟩⟩
def h_sec : HC := ⟨79, 3, ⟨[.agg [.ostr (.va 0), .oint .i64 (.va 1), .oint .i64 (.va 2)]], [], 0, .op (.cmp .leq) [.op .slen [.va 0], .ci 1000], .ostr (.va 1000), [], [.app 307 [.va 0, .va 1, .va 2]]⟩⟩
def L3 : List HC := [h_prim, h_sec]
def h_cmpC : HC := ⟨54, 21, ⟨[.agg [.ostr (.va 0), .oint .i64 (.va 1), .oint .i64 (.va 2), .obool (.va 3), .oint .i64 (.va 4), .oint .i64 (.va 5), .oint .i64 (.va 6), .oint .i64 (.va 7)], .agg [.ostr (.va 8), .oint .i64 (.va 9), .oint .i64 (.va 10), .obool (.va 11), .oint .i64 (.va 12), .oint .i64 (.va 13), .oint .i64 (.va 14), .oint .i64 (.va 15)], .ptr 0 0], [.cells 24 0 [.oint .u8 (.va 16), .ostr (.va 17), .ostr (.va 18), .oint .i64 (.va 19), .oint .i64 (.va 20)]], 1, .op .and [.op (.cmp .leq) [.op .slen [.va 0], .ci 1000], .op (.cmp .leq) [.op .slen [.va 8], .ci 1000]], .oint .i64 (.va 1000), [], [.app 308 [.va 0, .va 1, .va 2, .va 8, .va 9, .va 10, .va 16, .va 17, .va 18, .va 19, .va 20]]⟩⟩
def L4 : List HC := [h_cmpC]
def h_insC : HC := ⟨94, 9, ⟨[.ous 1 (.va 6) 8, .oint .i64 (.va 7), .oint .i64 (.va 8), .func (.func 54) [] [.ptr 0 0]], [.cells 24 0 [.oint .u8 (.va 0), .ostr (.va 1), .ostr (.va 2), .oint .i64 (.va 3), .oint .i64 (.va 4)], .arr 59 [.str, .int .i64, .int .i64, .bool, .int .i64, .int .i64, .int .i64, .int .i64] (.va 5)], 1, .app 424 [.va 5, .va 6, .va 7, .va 8], .tup [], [some (.arr 59 [.str, .int .i64, .int .i64, .bool, .int .i64, .int .i64, .int .i64, .int .i64] (.va 1000))], [.app 425 [.va 0, .va 1, .va 2, .va 3, .va 4, .va 5, .va 7, .va 8]]⟩⟩
def h_sym0 : HC := ⟨95, 10, ⟨[.ous 1 (.va 6) 8, .oint .i64 (.va 7), .oint .i64 (.va 8), .oint .i64 (.va 9), .func (.func 54) [] [.ptr 0 0]], [.cells 24 0 [.oint .u8 (.va 0), .ostr (.va 1), .ostr (.va 2), .oint .i64 (.va 3), .oint .i64 (.va 4)], .arr 59 [.str, .int .i64, .int .i64, .bool, .int .i64, .int .i64, .int .i64, .int .i64] (.va 5)], 1, .app 426 [.va 0, .va 1, .va 2, .va 3, .va 4, .va 5, .va 6, .va 7, .va 8, .va 9, .ci 1], .tup [], [some (.arr 59 [.str, .int .i64, .int .i64, .bool, .int .i64, .int .i64, .int .i64, .int .i64] (.va 1000))], [.app 425 [.va 0, .va 1, .va 2, .va 3, .va 4, .va 5, .va 7, .va 9]]⟩⟩
def L5 : List HC := [h_insC, h_sym0]
def h_sym1 : HC := ⟨95, 10, ⟨[.ous 1 (.va 6) 8, .oint .i64 (.va 7), .oint .i64 (.va 8), .oint .i64 (.va 9), .func (.func 54) [] [.ptr 0 0]], [.cells 24 0 [.oint .u8 (.va 0), .ostr (.va 1), .ostr (.va 2), .oint .i64 (.va 3), .oint .i64 (.va 4)], .arr 59 [.str, .int .i64, .int .i64, .bool, .int .i64, .int .i64, .int .i64, .int .i64] (.va 5)], 1, .app 426 [.va 0, .va 1, .va 2, .va 3, .va 4, .va 5, .va 6, .va 7, .va 8, .va 9, .ci 2], .tup [], [some (.arr 59 [.str, .int .i64, .int .i64, .bool, .int .i64, .int .i64, .int .i64, .int .i64] (.va 1000))], [.app 425 [.va 0, .va 1, .va 2, .va 3, .va 4, .va 5, .va 7, .va 9]]⟩⟩
def L6 : List HC := [h_sym1]
def h_sym2 : HC := ⟨95, 10, ⟨[.ous 1 (.va 6) 8, .oint .i64 (.va 7), .oint .i64 (.va 8), .oint .i64 (.va 9), .func (.func 54) [] [.ptr 0 0]], [.cells 24 0 [.oint .u8 (.va 0), .ostr (.va 1), .ostr (.va 2), .oint .i64 (.va 3), .oint .i64 (.va 4)], .arr 59 [.str, .int .i64, .int .i64, .bool, .int .i64, .int .i64, .int .i64, .int .i64] (.va 5)], 1, .app 426 [.va 0, .va 1, .va 2, .va 3, .va 4, .va 5, .va 6, .va 7, .va 8, .va 9, .ci 4], .tup [], [some (.arr 59 [.str, .int .i64, .int .i64, .bool, .int .i64, .int .i64, .int .i64, .int .i64] (.va 1000))], [.app 425 [.va 0, .va 1, .va 2, .va 3, .va 4, .va 5, .va 7, .va 9]]⟩⟩
def L7 : List HC := [h_sym2]
def h_sym3 : HC := ⟨95, 10, ⟨[.ous 1 (.va 6) 8, .oint .i64 (.va 7), .oint .i64 (.va 8), .oint .i64 (.va 9), .func (.func 54) [] [.ptr 0 0]], [.cells 24 0 [.oint .u8 (.va 0), .ostr (.va 1), .ostr (.va 2), .oint .i64 (.va 3), .oint .i64 (.va 4)], .arr 59 [.str, .int .i64, .int .i64, .bool, .int .i64, .int .i64, .int .i64, .int .i64] (.va 5)], 1, .app 426 [.va 0, .va 1, .va 2, .va 3, .va 4, .va 5, .va 6, .va 7, .va 8, .va 9, .ci 8], .tup [], [some (.arr 59 [.str, .int .i64, .int .i64, .bool, .int .i64, .int .i64, .int .i64, .int .i64] (.va 1000))], [.app 425 [.va 0, .va 1, .va 2, .va 3, .va 4, .va 5, .va 7, .va 9]]⟩⟩
def L8 : List HC := [h_sym3]
def h_sym4 : HC := ⟨95, 10, ⟨[.ous 1 (.va 6) 8, .oint .i64 (.va 7), .oint .i64 (.va 8), .oint .i64 (.va 9), .func (.func 54) [] [.ptr 0 0]], [.cells 24 0 [.oint .u8 (.va 0), .ostr (.va 1), .ostr (.va 2), .oint .i64 (.va 3), .oint .i64 (.va 4)], .arr 59 [.str, .int .i64, .int .i64, .bool, .int .i64, .int .i64, .int .i64, .int .i64] (.va 5)], 1, .app 426 [.va 0, .va 1, .va 2, .va 3, .va 4, .va 5, .va 6, .va 7, .va 8, .va 9, .ci 16], .tup [], [some (.arr 59 [.str, .int .i64, .int .i64, .bool, .int .i64, .int .i64, .int .i64, .int .i64] (.va 1000))], [.app 425 [.va 0, .va 1, .va 2, .va 3, .va 4, .va 5, .va 7, .va 9]]⟩⟩
def L9 : List HC := [h_sym4]
def h_sym5 : HC := ⟨95, 10, ⟨[.ous 1 (.va 6) 8, .oint .i64 (.va 7), .oint .i64 (.va 8), .oint .i64 (.va 9), .func (.func 54) [] [.ptr 0 0]], [.cells 24 0 [.oint .u8 (.va 0), .ostr (.va 1), .ostr (.va 2), .oint .i64 (.va 3), .oint .i64 (.va 4)], .arr 59 [.str, .int .i64, .int .i64, .bool, .int .i64, .int .i64, .int .i64, .int .i64] (.va 5)], 1, .app 426 [.va 0, .va 1, .va 2, .va 3, .va 4, .va 5, .va 6, .va 7, .va 8, .va 9, .ci 32], .tup [], [some (.arr 59 [.str, .int .i64, .int .i64, .bool, .int .i64, .int .i64, .int .i64, .int .i64] (.va 1000))], [.app 425 [.va 0, .va 1, .va 2, .va 3, .va 4, .va 5, .va 7, .va 9]]⟩⟩
def L10 : List HC := [h_sym5]
def h_stab : HC := ⟨76, 8, ⟨[.ous 1 (.va 6) 8, .oint .i64 (.va 7), .func (.func 54) [] [.ptr 0 0]], [.cells 24 0 [.oint .u8 (.va 0), .ostr (.va 1), .ostr (.va 2), .oint .i64 (.va 3), .oint .i64 (.va 4)], .arr 59 [.str, .int .i64, .int .i64, .bool, .int .i64, .int .i64, .int .i64, .int .i64] (.va 5)], 1, .app 428 [.va 5, .va 6, .va 7], .tup [], [some (.arr 59 [.str, .int .i64, .int .i64, .bool, .int .i64, .int .i64, .int .i64, .int .i64] (.va 1000))], [.app 425 [.va 0, .va 1, .va 2, .va 3, .va 4, .va 5, .ci 0, .va 7]]⟩⟩
def L11 : List HC := [h_stab]
def h_sstab : HC := ⟨53, 6, ⟨[.ous 1 (.op .llen [.va 5]) 8, .func (.func 54) [] [.ptr 0 0]], [.cells 24 0 [.oint .u8 (.va 0), .ostr (.va 1), .ostr (.va 2), .oint .i64 (.va 3), .oint .i64 (.va 4)], .arr 59 [.str, .int .i64, .int .i64, .bool, .int .i64, .int .i64, .int .i64, .int .i64] (.va 5)], 1, .op .and [.op (.cmp .leq) [.op .llen [.va 5], .ci 30], .app 431 [.va 5]], .tup [], [some (.arr 59 [.str, .int .i64, .int .i64, .bool, .int .i64, .int .i64, .int .i64, .int .i64] (.va 1000))], [.app 425 [.va 0, .va 1, .va 2, .va 3, .va 4, .va 5, .ci 0, .op .llen [.va 5]]]⟩⟩
def L12 : List HC := [h_sstab]
def h_of : HC := ⟨15, 6, ⟨[.agg [.oint .u8 (.va 0), .ostr (.va 1), .ostr (.va 2), .oint .i64 (.va 3), .oint .i64 (.va 4)], .osl 0 (.ci 0) (.op .llen [.va 5]) 8], [.arr 4294967295 [.str, .int .i64, .int .i64, .bool, .int .i64, .int .i64, .int .i64, .int .i64] (.va 5)], 1, .op .and [.op (.cmp .leq) [.op .llen [.va 5], .ci 30], .app 431 [.va 5]], .ous 1 (.op .llen [.va 1000]) 8, [some (.arr 59 [.str, .int .i64, .int .i64, .bool, .int .i64, .int .i64, .int .i64, .int .i64] (.va 1000))], [.app 430 [.va 0, .va 1, .va 2, .va 3, .va 4, .va 5]]⟩⟩
def h_ofR : HC := ⟨21, 6, ⟨[.agg [.oint .u8 (.va 0), .ostr (.va 1), .ostr (.va 2), .oint .i64 (.va 3), .oint .i64 (.va 4)], .osl 0 (.ci 0) (.op .llen [.va 5]) 8], [.arr 4294967295 [.str, .int .i64, .int .i64, .bool, .int .i64, .int .i64, .int .i64, .int .i64] (.va 5)], 1, .op .and [.op (.cmp .leq) [.op .llen [.va 5], .ci 30], .app 431 [.va 5]], .ous 1 (.op .llen [.va 1000]) 8, [some (.arr 101 [.str, .int .i64, .int .i64, .bool, .int .i64, .int .i64, .int .i64, .int .i64] (.va 1000))], [.app 430 [.va 0, .va 1, .va 2, .va 3, .va 4, .va 5]]⟩⟩
def L13 : List HC := [h_of, h_ofR]
def h_deltaParts : HC := ⟨4, 7, ⟨[.agg [.oint .u8 (.va 0), .ostr (.va 1), .ostr (.va 2), .oint .i64 (.va 3), .oint .i64 (.va 4)], .osl 0 (.ci 0) (.op .llen [.va 5]) 8, .osl 1 (.ci 0) (.op .llen [.va 6]) 8], [.arr 4294967295 [.str, .int .i64, .int .i64, .bool, .int .i64, .int .i64, .int .i64, .int .i64] (.va 5), .arr 4294967295 [.str, .int .i64, .int .i64, .bool, .int .i64, .int .i64, .int .i64, .int .i64] (.va 6)], 2, .op .and [.app 432 [.va 5], .app 432 [.va 6]], .obool (.va 1000), [], [.cb true]⟩⟩
def L14 : List HC := [h_deltaParts]theorem names : (Tryz.prog.funcs.toList.all fun fn => !(fn.name == "runtime.NumGoroutine")) = true := by kernel_rfl
theorem ext134 : ∃ fn : Func, Tryz.prog.funcs[134]? = some fn ∧ fn.body = none ∧ Extern.findNext fn = none ∧ Extern.find fn = some (Ext.count).model :=
 ⟨_, Tryz.func134, by kernel_rfl, by kernel_rfl, by kernel_rfl⟩
theorem ext143 : ∃ fn : Func, Tryz.prog.funcs[143]? = some fn ∧ fn.body = none ∧ Extern.findNext fn = none ∧ Extern.find fn = some (Ext.indexByte).model :=
 ⟨_, Tryz.func143, by kernel_rfl, by kernel_rfl, by kernel_rfl⟩
theorem ext127 : ∃ fn : Func, Tryz.prog.funcs[127]? = some fn ∧ fn.body = none ∧ Extern.findNext fn = none ∧ Extern.find fn = some (Ext.ident).model :=
 ⟨_, Tryz.func127, by kernel_rfl, by kernel_rfl, by kernel_rfl⟩
theorem ext138 : ∃ fn : Func, Tryz.prog.funcs[138]? = some fn ∧ fn.body = none ∧ Extern.findNext fn = none ∧ Extern.find fn = some ((Ext.makeNoZero 161)).model :=
 ⟨_, Tryz.func138, by kernel_rfl, by kernel_rfl, by kernel_rfl⟩
theorem env0_ok (ω : Opq) (hω : ∀ t, ω.fix t = a47 Tryz.prog t) : env0.Ok ω := by
 refine ⟨hω, fun f fn h => ?_, fun f e h => ?_, fun _ _ _ _ h => (by cases h), fun _ _ _ h => (by cases h), fun _ _ _ h => (by cases h), fun _ _ _ _ _ h => (by cases h)⟩
 · have h1 := List.all_eq_true.1 names fn (by
    obtain ⟨h2, rfl⟩ := Array.getElem?_eq_some_iff.1 h
    exact Array.mem_toList_iff.2 (Array.getElem_mem h2))
   simpa using h1
 · have h : (bif Nat.beq f 134 then some (.count) else bif Nat.beq f 143 then some (.indexByte) else bif Nat.beq f 127 then some (.ident) else bif Nat.beq f 138 then some (.makeNoZero 161) else none : Option Ext) = some e := h
   cases hf134 : Nat.beq f 134 with
   | true =>
     rw [hf134] at h
     obtain rfl : f = 134 := by simpa using hf134
     cases h
     exact ext134
   | false =>
     rw [hf134] at h
     simp only [cond_false] at h
     cases hf143 : Nat.beq f 143 with
     | true =>
       rw [hf143] at h
       obtain rfl : f = 143 := by simpa using hf143
       cases h
       exact ext143
     | false =>
       rw [hf143] at h
       simp only [cond_false] at h
       cases hf127 : Nat.beq f 127 with
       | true =>
         rw [hf127] at h
         obtain rfl : f = 127 := by simpa using hf127
         cases h
         exact ext127
       | false =>
         rw [hf127] at h
         simp only [cond_false] at h
         cases hf138 : Nat.beq f 138 with
         | true =>
           rw [hf138] at h
           obtain rfl : f = 138 := by simpa using hf138
           cases h
           exact ext138
         | false =>
           rw [hf138] at h
           simp only [cond_false] at h
           cases h
theorem env_ok (ω : Opq) (hω : ∀ t, ω.fix t = a47 Tryz.prog t) : env.Ok ω :=
 let h := env0_ok ω hω
 ⟨h.fix, h.name, h.ext, h.bin, h.un, h.conv, h.blt⟩
theorem orders : Tryz.prog.follows .mixedOrders = true := by kernel_rfl
noncomputable def H0 : List HC := []
noncomputable def H1 : List HC := L0 ++ H0
noncomputable def H2 : List HC := L1 ++ H1
noncomputable def H3 : List HC := L2 ++ H2
noncomputable def H4 : List HC := L3 ++ H3
noncomputable def H5 : List HC := L4 ++ H4
noncomputable def H6 : List HC := L5 ++ H5
noncomputable def H7 : List HC := L6 ++ H6
noncomputable def H8 : List HC := L7 ++ H7
noncomputable def H9 : List HC := L8 ++ H8
noncomputable def H10 : List HC := L9 ++ H9
noncomputable def H11 : List HC := L10 ++ H10
noncomputable def H12 : List HC := L11 ++ H11
noncomputable def H13 : List HC := L12 ++ H12
noncomputable def H14 : List HC := L13 ++ H13
theorem r_works : FC.run env0 1000000 h_works.f h_works.c h_works.c.args = bv5 := by kernel_rfl
theorem r_repl : FC.run (env.hooks H1) 1000000 h_repl.f h_repl.c h_repl.c.args = b48 := by kernel_rfl
theorem r_partI : FC.run (env.hooks H1) 1000000 h_partI.f h_partI.c h_partI.c.args = aB1 := by kernel_rfl
theorem r_has : FC.run (env.hooks H1) 1000000 h_has.f h_has.c h_has.c.args = bL3 := by kernel_rfl
theorem r_hasR : FC.run (env.hooks H1) 1000000 h_hasR.f h_hasR.c h_hasR.c.args = bw0 := by kernel_rfl
theorem r_lessS : FC.run (env.hooks H1) 1000000 h_lessS.f h_lessS.c h_lessS.c.args = aB3 := by kernel_rfl
theorem r_changes : FC.run (env.hooks H1) 1000000 h_changes.f h_changes.c h_changes.c.args = a27 := by kernel_rfl
theorem r_sameC : FC.run (env.hooks H1) 1000000 h_sameC.f h_sameC.c h_sameC.c.args = al7 := by kernel_rfl
theorem r_spoilC : FC.run (env.hooks H1) 1000000 h_spoilC.f h_spoilC.c h_spoilC.c.args = ab7 := by kernel_rfl
theorem r_fewChg : FC.run (env.hooks H1) 1000000 h_fewChg.f h_fewChg.c h_fewChg.c.args = ab8 := by kernel_rfl
theorem r_equalC : FC.run (env.hooks H1) 1000000 h_equalC.f h_equalC.c h_equalC.c.args = ab9 := by kernel_rfl
theorem r_cloneC : FC.run (env.hooks H1) 1000000 h_cloneC.f h_cloneC.c h_cloneC.c.args = ac0 := by kernel_rfl
theorem r_swapR : FC.run (env.hooks H1) 1000000 h_swapR.f h_swapR.c h_swapR.c.args = aB5 := by kernel_rfl
theorem r_split : FC.run (env.hooks H1) 1000000 h_split.f h_split.c h_split.c.args = aB6 := by kernel_rfl
theorem r_merge : FC.run (env.hooks H1) 1000000 h_merge.f h_merge.c h_merge.c.args = aB7 := by kernel_rfl
theorem r_spoilRs : FC.run (env.hooks H1) 1000000 h_spoilRs.f h_spoilRs.c h_spoilRs.c.args = a28 := by kernel_rfl
theorem r_spoilPs : FC.run (env.hooks H1) 1000000 h_spoilPs.f h_spoilPs.c h_spoilPs.c.args = a29 := by kernel_rfl
theorem r_partT : FC.run (env.hooks H2) 1000000 h_partT.f h_partT.c h_partT.c.args = aB2 := by kernel_rfl
theorem r_rotC : FC.run (env.hooks H2) 1000000 h_rotC.f h_rotC.c h_rotC.c.args = b52 := by kernel_rfl
theorem r_prim : FC.run (env.hooks H3) 1000000 h_prim.f h_prim.c h_prim.c.args = b51 := by kernel_rfl
theorem r_sec : FC.run (env.hooks H3) 1000000 h_sec.f h_sec.c h_sec.c.args = bL6 := by kernel_rfl
theorem r_cmpC : FC.run (env.hooks H4) 1000000 h_cmpC.f h_cmpC.c h_cmpC.c.args = b53 := by kernel_rfl
theorem r_insC : FC.run (env.hooks H5) 1000000 h_insC.f h_insC.c h_insC.c.args = b54 := by kernel_rfl
theorem r_sym1 : FC.run (env.hooks H6) 1000000 h_sym1.f h_sym1.c h_sym1.c.args = aa1 1 := by kernel_rfl
theorem r_sym2 : FC.run (env.hooks H7) 1000000 h_sym2.f h_sym2.c h_sym2.c.args = aa1 2 := by kernel_rfl
theorem r_sym3 : FC.run (env.hooks H8) 1000000 h_sym3.f h_sym3.c h_sym3.c.args = aa1 4 := by kernel_rfl
theorem r_sym4 : FC.run (env.hooks H9) 1000000 h_sym4.f h_sym4.c h_sym4.c.args = aa1 8 := by kernel_rfl
theorem r_sym5 : FC.run (env.hooks H10) 1000000 h_sym5.f h_sym5.c h_sym5.c.args = aa1 16 := by kernel_rfl
theorem r_stab : FC.run (env.hooks H11) 1000000 h_stab.f h_stab.c h_stab.c.args = b60 := by kernel_rfl
theorem r_sstab : FC.run (env.hooks H12) 1000000 h_sstab.f h_sstab.c h_sstab.c.args = aB8 := by kernel_rfl
theorem r_of : FC.run (env.hooks H13) 1000000 h_of.f h_of.c h_of.c.args = co6 := by kernel_rfl
theorem r_ofR : FC.run (env.hooks H13) 1000000 h_ofR.f h_ofR.c h_ofR.c.args = bL7 := by kernel_rfl
theorem r_deltaParts : FC.run (env.hooks H14) 1000000 h_deltaParts.f h_deltaParts.c h_deltaParts.c.args = N5 := by kernel_rfl
def Om (ω : Opq) : Prop := OmF F Tryz.prog ω
theorem om_upd (ω : Opq) (v0 : Nat) (l : List Val) (h : Om ω) : Om (ω.upd v0 l) := h
theorem om_f {ω : Opq} (h : Om ω) : ∀ i a, ω.f i a = F i a := fun i a => by rw [h.1]
theorem e_ok (ω : Opq) (h : Om ω) : env.Ok ω := env_ok ω h.2
theorem e0_ok (ω : Opq) (h : Om ω) : env0.Ok ω := env0_ok ω h.2
theorem VRs_kind {β : Bij} {ω : Opq} {us : List Value} {k : IntKind} {n : Nat} {i : Int} {r : List AV} (h : (ω.w n).toI = i) (hv : VRs β ω [.agg (.oint k (.va n) :: r)] us) : VRs β ω [.agg (.int k i :: r)] us := by
 obtain ⟨v, vr, e, ⟨xs, e2, u, ur, e3, p1, p2⟩, q⟩ := hv
 refine ⟨v, vr, e, ⟨xs, e2, u, ur, e3, ?_, p2⟩, q⟩
 show u = .int k i
 rw [← h]; exact p1
theorem h0_ok : ∀ x ∈ H0, y8 env Om x := fun x hx => by cases hx
theorem k_works : y8 env Om h_works :=
 n7 (E := env0) (cs := []) om_upd e0_ok orders (fun x hx => by cases hx) (n := 1000000) (by kernel_rfl) (n9 (T := bv5) r_works fun ω hω hn => by
   exact rfl)
theorem l0_ok : ∀ x ∈ L0, y8 env Om x := by
 exact s6 (fun x hx => (by cases hx)) k_works
theorem h1_ok : ∀ x ∈ H1, y8 env Om x := N3 h0_ok l0_ok
theorem k_repl : y8 env Om h_repl :=
 n7 (E := env) (cs := H1) om_upd e_ok orders h1_ok (n := 1000000) (by kernel_rfl) (n9 (T := b48) r_repl fun ω hω hn => by
   have hn := hn
   simp only [h_repl, dB, den, j3, z9, p7, g9, j5, G2, l7, r5, k9, decide_eq_true_eq, Bool.and_eq_true, List.length_append] at hn
   exact (ci3 (om_f hω) (by omega)).trans (by simp only [h_repl, j3, den, z9, om_f hω, g9, j5]))
theorem k_partI : y8 env Om h_partI :=
 n7 (E := env) (cs := H1) om_upd e_ok orders h1_ok (n := 1000000) (by kernel_rfl) (n9 (T := aB1) r_partI fun ω hω hn => by
   exact (c38 (om_f hω)).trans (by simp only [h_partI, j3, den, z9, om_f hω, g9, j5]))
theorem k_has : y8 env Om h_has :=
 n7 (E := env) (cs := H1) om_upd e_ok orders h1_ok (n := 1000000) (by kernel_rfl) (n9 (T := bL3) r_has fun ω hω hn => by
   exact (cj4 ).trans (by simp only [h_has, j3, den, z9, om_f hω, g9, j5]))
theorem k_hasR : y8 env Om h_hasR :=
 n7 (E := env) (cs := H1) om_upd e_ok orders h1_ok (n := 1000000) (by kernel_rfl) (n9 (T := bw0) r_hasR fun ω hω hn => by
   exact (cj5 ).trans (by simp only [h_hasR, j3, den, z9, om_f hω, g9, j5]))
theorem k_lessS : y8 env Om h_lessS :=
 n7 (E := env) (cs := H1) om_upd e_ok orders h1_ok (n := 1000000) (by kernel_rfl) (n9 (T := aB3) r_lessS fun ω hω hn => by
   exact (c48 ).trans (by simp only [h_lessS, j3, den, z9, om_f hω, g9, j5]))
theorem k_changes : y8 env Om h_changes :=
 n7 (E := env) (cs := H1) om_upd e_ok orders h1_ok (n := 1000000) (by kernel_rfl) (n9 (T := a27) r_changes fun ω hω hn => by
   have hn := hn
   simp only [h_changes, dB, den, j3, z9, p7, g9, j5, G2, l7, r5, k9, decide_eq_true_eq, Bool.and_eq_true, List.length_append] at hn
   exact (bz2 (om_f hω) (by omega)).trans (by simp only [h_changes, j3, den, z9, om_f hω, g9, j5]))
theorem k_sameC : y8 env Om h_sameC :=
 n7 (E := env) (cs := H1) om_upd e_ok orders h1_ok (n := 1000000) (by kernel_rfl) (n9 (T := al7) r_sameC fun ω hω hn => by
   have hn := hn
   simp only [h_sameC, dB, den, j3, z9, p7, g9, j5, G2, l7, r5, k9, decide_eq_true_eq, Bool.and_eq_true, List.length_append] at hn
   exact (c53 (om_f hω) (by omega)).trans (by simp only [h_sameC, j3, den, z9, om_f hω, g9, j5]))
theorem k_spoilC : y8 env Om h_spoilC :=
 n7 (E := env) (cs := H1) om_upd e_ok orders h1_ok (n := 1000000) (by kernel_rfl) (n9 (T := ab7) r_spoilC fun ω hω hn => by
   have hn := hn
   simp only [h_spoilC, dB, den, j3, z9, p7, g9, j5, G2, l7, r5, k9, decide_eq_true_eq, Bool.and_eq_true, List.length_append] at hn
   have h1 := hn.1
   have h2 := hn.2
   exact bN0 (om_f hω) h1 (by omega))
theorem k_fewChg : y8 env Om h_fewChg :=
 n7 (E := env) (cs := H1) om_upd e_ok orders h1_ok (n := 1000000) (by kernel_rfl) (n9 (T := ab8) r_fewChg fun ω hω hn => by
   have hn := hn
   simp only [h_fewChg, dB, den, j3, z9, p7, g9, j5, G2, l7, r5, k9, decide_eq_true_eq, Bool.and_eq_true, List.length_append] at hn
   exact (bM9 (om_f hω) (by omega)).trans (by simp only [h_fewChg, j3, den, z9, om_f hω, g9, j5]))
theorem k_equalC : y8 env Om h_equalC :=
 n7 (E := env) (cs := H1) om_upd e_ok orders h1_ok (n := 1000000) (by kernel_rfl) (n9 (T := ab9) r_equalC fun ω hω hn => by
   have hn := hn
   simp only [h_equalC, dB, den, j3, z9, p7, g9, j5, G2, l7, r5, k9, decide_eq_true_eq, Bool.and_eq_true, List.length_append] at hn
   exact (bM8 (om_f hω) (by omega)).trans (by simp only [h_equalC, j3, den, z9, om_f hω, g9, j5]))
theorem k_cloneC : y8 env Om h_cloneC :=
 n7 (E := env) (cs := H1) om_upd e_ok orders h1_ok (n := 1000000) (by kernel_rfl) (n9 (T := ac0) r_cloneC fun ω hω hn => by
   have hn : (decide (((ω.w 0).toL.length : Int) ≤ 100) && (ω.f 431 [ω.w 0]).toB) = true := hn
   obtain ⟨h1, h2⟩ := a9 hn
   rw [om_f hω] at h2
   exact (bN1 (by have := of_decide_eq_true h1; omega) (a9 h2).1).trans (by simp only [h_cloneC, j3, den]))
theorem k_swapR : y8 env Om h_swapR :=
 n7 (E := env) (cs := H1) om_upd e_ok orders h1_ok (n := 1000000) (by kernel_rfl) (n9 (T := aB5) r_swapR fun ω hω hn => by
   have hn : (ω.f 420 [ω.w 5, ω.w 6, ω.w 7, ω.w 8, ω.w 9]).toB = true := hn
   rw [om_f hω] at hn
   exact (c57 (om_f hω) hn).trans (by simp only [h_swapR, j3, den, om_f hω]))
theorem k_split : y8 env Om h_split :=
 n7 (E := env) (cs := H1) om_upd e_ok orders h1_ok (n := 1000000) (by kernel_rfl) (n9 (T := aB6) r_split fun ω hω hn => by
   have hn := hn
   simp only [h_split, dB, den, j3, z9, p7, g9, j5, G2, l7, r5, k9, decide_eq_true_eq, Bool.and_eq_true, List.length_append] at hn
   exact (c78 (om_f hω) (by omega)).trans (by simp only [h_split, j3, den, z9, om_f hω, g9, j5]))
theorem k_merge : y8 env Om h_merge :=
 n7 (E := env) (cs := H1) om_upd e_ok orders h1_ok (n := 1000000) (by kernel_rfl) (n9 (T := aB7) r_merge fun ω hω hn => by
   have hn := hn
   simp only [h_merge, dB, den, j3, z9, p7, g9, j5, G2, l7, r5, k9, decide_eq_true_eq, Bool.and_eq_true, List.length_append] at hn
   have h1 := hn.1
   have h2 := hn.2
   exact (c81 (om_f hω) (by omega) (by omega)).trans (by simp only [h_merge, j3, den, z9, om_f hω, g9, j5]))
theorem k_spoilRs : y8 env Om h_spoilRs :=
 n7 (E := env) (cs := H1) om_upd e_ok orders h1_ok (n := 1000000) (by kernel_rfl) (n9 (T := a28) r_spoilRs fun ω hω hn => by
   have hn := hn
   simp only [h_spoilRs, dB, den, j3, z9, p7, g9, j5, G2, l7, r5, k9, decide_eq_true_eq, Bool.and_eq_true, List.length_append] at hn
   have h1 := hn.1
   have h2 := hn.2
   exact bz3 (om_f hω) h1 (by omega))
theorem k_spoilPs : y8 env Om h_spoilPs :=
 n7 (E := env) (cs := H1) om_upd e_ok orders h1_ok (n := 1000000) (by kernel_rfl) (n9 (T := a29) r_spoilPs fun ω hω hn => by
   have hn := hn
   simp only [h_spoilPs, dB, den, j3, z9, p7, g9, j5, G2, l7, r5, k9, decide_eq_true_eq, Bool.and_eq_true, List.length_append] at hn
   have h1 := hn.1
   have h2 := hn.2
   exact bz4 (om_f hω) h1 (by omega))
theorem l1_ok : ∀ x ∈ L1, y8 env Om x := by
 exact s6 (s6 (s6 (s6 (s6 (s6 (s6 (s6 (s6 (s6 (s6 (s6 (s6 (s6 (s6 (s6 (fun x hx => (by cases hx)) k_spoilPs) k_spoilRs) k_merge) k_split) k_swapR) k_cloneC) k_equalC) k_fewChg) k_spoilC) k_sameC) k_changes) k_lessS) k_hasR) k_has) k_partI) k_repl
theorem h2_ok : ∀ x ∈ H2, y8 env Om x := N3 h1_ok l1_ok
theorem k_partT : y8 env Om h_partT :=
 n7 (E := env) (cs := H2) om_upd e_ok orders h2_ok (n := 1000000) (by kernel_rfl) (n9 (T := aB2) r_partT fun ω hω hn => by
   have hn := hn
   simp only [h_partT, dB, den, j3, z9, p7, g9, j5, G2, l7, r5, k9, decide_eq_true_eq, Bool.and_eq_true, List.length_append] at hn
   exact (c39 (om_f hω) (by omega)).trans (by simp only [h_partT, j3, den, z9, om_f hω, g9, j5]))
theorem k_rotC : y8 env Om h_rotC :=
 n7 (E := env) (cs := H2) om_upd e_ok orders h2_ok (n := 1000000) (by kernel_rfl) (n9 (T := b52) r_rotC fun ω hω hn => by
   have hn : (ω.f 422 [ω.w 5, ω.w 6, ω.w 7, ω.w 8, ω.w 9]).toB = true := hn
   rw [om_f hω] at hn
   exact (ck0 (om_f hω) hn).trans (by simp only [h_rotC, j3, den, om_f hω]))
theorem l2_ok : ∀ x ∈ L2, y8 env Om x := by
 exact s6 (s6 (fun x hx => (by cases hx)) k_rotC) k_partT
theorem h3_ok : ∀ x ∈ H3, y8 env Om x := N3 h2_ok l2_ok
theorem k_prim : y8 env Om h_prim :=
 n7 (E := env) (cs := H3) om_upd e_ok orders h3_ok (n := 1000000) (by kernel_rfl) (n9 (T := b51) r_prim fun ω hω hn => by
   have hn := hn
   simp only [h_prim, dB, den, j3, z9, p7, g9, j5, G2, l7, r5, k9, decide_eq_true_eq, Bool.and_eq_true, List.length_append] at hn
   exact (cj6 (om_f hω) (by omega)).trans (by simp only [h_prim, j3, den, z9, om_f hω, g9, j5]))
theorem k_sec : y8 env Om h_sec :=
 n7 (E := env) (cs := H3) om_upd e_ok orders h3_ok (n := 1000000) (by kernel_rfl) (n9 (T := bL6) r_sec fun ω hω hn => by
   have hn := hn
   simp only [h_sec, dB, den, j3, z9, p7, g9, j5, G2, l7, r5, k9, decide_eq_true_eq, Bool.and_eq_true, List.length_append] at hn
   exact (cu1 (om_f hω) (by omega)).trans (by simp only [h_sec, j3, den, z9, om_f hω, g9, j5]))
theorem l3_ok : ∀ x ∈ L3, y8 env Om x := by
 exact s6 (s6 (fun x hx => (by cases hx)) k_sec) k_prim
theorem h4_ok : ∀ x ∈ H4, y8 env Om x := N3 h3_ok l3_ok
theorem k_cmpC : y8 env Om h_cmpC :=
 n7 (E := env) (cs := H4) om_upd e_ok orders h4_ok (n := 1000000) (by kernel_rfl) (n9 (T := b53) r_cmpC fun ω hω hn => by
   have hn := hn
   simp only [h_cmpC, dB, den, j3, z9, p7, g9, j5, G2, l7, r5, k9, decide_eq_true_eq, Bool.and_eq_true, List.length_append] at hn
   have h1 := hn.1
   have h2 := hn.2
   exact (cj9 (om_f hω) (by omega) (by omega)).trans (by simp only [h_cmpC, j3, den, z9, om_f hω, g9, j5]))
theorem l4_ok : ∀ x ∈ L4, y8 env Om x := by
 exact s6 (fun x hx => (by cases hx)) k_cmpC
theorem h5_ok : ∀ x ∈ H5, y8 env Om x := N3 h4_ok l4_ok
theorem k_insC : y8 env Om h_insC :=
 n7 (E := env) (cs := H5) om_upd e_ok orders h5_ok (n := 1000000) (by kernel_rfl) (n9 (T := b54) r_insC fun ω hω hn => by
   have hn : (ω.f 424 [ω.w 5, ω.w 6, ω.w 7, ω.w 8]).toB = true := hn
   rw [om_f hω] at hn
   exact (ck2 (om_f hω) hn).trans (by simp only [h_insC, j3, den, om_f hω]))
theorem k_sym0 : y8 env Om h_sym0 :=
 n7 (E := env) (cs := H5) om_upd e_ok orders h5_ok (n := 1000000) (by kernel_rfl) (fun ω hω hn => by
   have hn : (ω.f 426 [ω.w 0, ω.w 1, ω.w 2, ω.w 3, ω.w 4, ω.w 5, ω.w 6, ω.w 7, ω.w 8, ω.w 9, .vi 1]).toB = true := hn
   rw [om_f hω] at hn
   exact (c68 hn).elim)
theorem l5_ok : ∀ x ∈ L5, y8 env Om x := by
 exact s6 (s6 (fun x hx => (by cases hx)) k_sym0) k_insC
theorem h6_ok : ∀ x ∈ H6, y8 env Om x := N3 h5_ok l5_ok
theorem k_sym1 : y8 env Om h_sym1 :=
 n7 (E := env) (cs := H6) om_upd e_ok orders h6_ok (n := 1000000) (by kernel_rfl) (n9 (T := aa1 1) r_sym1 fun ω hω hn => by
   have hn : (ω.f 426 [ω.w 0, ω.w 1, ω.w 2, ω.w 3, ω.w 4, ω.w 5, ω.w 6, ω.w 7, ω.w 8, ω.w 9, .vi 2]).toB = true := hn
   rw [om_f hω] at hn
   exact (bA3 (B := 1) (om_f hω) hn).trans (by simp only [h_sym1, j3, den, om_f hω]))
theorem l6_ok : ∀ x ∈ L6, y8 env Om x := by
 exact s6 (fun x hx => (by cases hx)) k_sym1
theorem h7_ok : ∀ x ∈ H7, y8 env Om x := N3 h6_ok l6_ok
theorem k_sym2 : y8 env Om h_sym2 :=
 n7 (E := env) (cs := H7) om_upd e_ok orders h7_ok (n := 1000000) (by kernel_rfl) (n9 (T := aa1 2) r_sym2 fun ω hω hn => by
   have hn : (ω.f 426 [ω.w 0, ω.w 1, ω.w 2, ω.w 3, ω.w 4, ω.w 5, ω.w 6, ω.w 7, ω.w 8, ω.w 9, .vi 4]).toB = true := hn
   rw [om_f hω] at hn
   exact (bA3 (B := 2) (om_f hω) hn).trans (by simp only [h_sym2, j3, den, om_f hω]))
theorem l7_ok : ∀ x ∈ L7, y8 env Om x := by
 exact s6 (fun x hx => (by cases hx)) k_sym2
theorem h8_ok : ∀ x ∈ H8, y8 env Om x := N3 h7_ok l7_ok
theorem k_sym3 : y8 env Om h_sym3 :=
 n7 (E := env) (cs := H8) om_upd e_ok orders h8_ok (n := 1000000) (by kernel_rfl) (n9 (T := aa1 4) r_sym3 fun ω hω hn => by
   have hn : (ω.f 426 [ω.w 0, ω.w 1, ω.w 2, ω.w 3, ω.w 4, ω.w 5, ω.w 6, ω.w 7, ω.w 8, ω.w 9, .vi 8]).toB = true := hn
   rw [om_f hω] at hn
   exact (bA3 (B := 4) (om_f hω) hn).trans (by simp only [h_sym3, j3, den, om_f hω]))
theorem l8_ok : ∀ x ∈ L8, y8 env Om x := by
 exact s6 (fun x hx => (by cases hx)) k_sym3
theorem h9_ok : ∀ x ∈ H9, y8 env Om x := N3 h8_ok l8_ok
theorem k_sym4 : y8 env Om h_sym4 :=
 n7 (E := env) (cs := H9) om_upd e_ok orders h9_ok (n := 1000000) (by kernel_rfl) (n9 (T := aa1 8) r_sym4 fun ω hω hn => by
   have hn : (ω.f 426 [ω.w 0, ω.w 1, ω.w 2, ω.w 3, ω.w 4, ω.w 5, ω.w 6, ω.w 7, ω.w 8, ω.w 9, .vi 16]).toB = true := hn
   rw [om_f hω] at hn
   exact (bA3 (B := 8) (om_f hω) hn).trans (by simp only [h_sym4, j3, den, om_f hω]))
theorem l9_ok : ∀ x ∈ L9, y8 env Om x := by
 exact s6 (fun x hx => (by cases hx)) k_sym4
theorem h10_ok : ∀ x ∈ H10, y8 env Om x := N3 h9_ok l9_ok
theorem k_sym5 : y8 env Om h_sym5 :=
 n7 (E := env) (cs := H10) om_upd e_ok orders h10_ok (n := 1000000) (by kernel_rfl) (n9 (T := aa1 16) r_sym5 fun ω hω hn => by
   have hn : (ω.f 426 [ω.w 0, ω.w 1, ω.w 2, ω.w 3, ω.w 4, ω.w 5, ω.w 6, ω.w 7, ω.w 8, ω.w 9, .vi 32]).toB = true := hn
   rw [om_f hω] at hn
   exact (bA3 (B := 16) (om_f hω) hn).trans (by simp only [h_sym5, j3, den, om_f hω]))
theorem l10_ok : ∀ x ∈ L10, y8 env Om x := by
 exact s6 (fun x hx => (by cases hx)) k_sym5
theorem h11_ok : ∀ x ∈ H11, y8 env Om x := N3 h10_ok l10_ok
theorem k_stab : y8 env Om h_stab :=
 n7 (E := env) (cs := H11) om_upd e_ok orders h11_ok (n := 1000000) (by kernel_rfl) (n9 (T := b60) r_stab fun ω hω hn => by
   have hn : (ω.f 428 [ω.w 5, ω.w 6, ω.w 7]).toB = true := hn
   rw [om_f hω] at hn
   exact (ck6 (om_f hω) hn).trans (by simp only [h_stab, j3, den, om_f hω]))
theorem l11_ok : ∀ x ∈ L11, y8 env Om x := by
 exact s6 (fun x hx => (by cases hx)) k_stab
theorem h12_ok : ∀ x ∈ H12, y8 env Om x := N3 h11_ok l11_ok
theorem k_sstab : y8 env Om h_sstab :=
 n7 (E := env) (cs := H12) om_upd e_ok orders h12_ok (n := 1000000) (by kernel_rfl) (n9 (T := aB8) r_sstab fun ω hω hn => by
   have hn : (decide (((ω.w 5).toL.length : Int) ≤ 30) && (ω.f 431 [ω.w 5]).toB) = true := hn
   obtain ⟨h1, h2⟩ := a9 hn
   rw [om_f hω] at h2
   exact (c74 (om_f hω) (by have := of_decide_eq_true h1; omega) h2).trans (by simp only [h_sstab, j3, den, z9, om_f hω]))
theorem l12_ok : ∀ x ∈ L12, y8 env Om x := by
 exact s6 (fun x hx => (by cases hx)) k_sstab
theorem h13_ok : ∀ x ∈ H13, y8 env Om x := N3 h12_ok l12_ok
theorem k_of : y8 env Om h_of :=
 n7 (E := env) (cs := H13) om_upd e_ok orders h13_ok (n := 1000000) (by kernel_rfl) (n9 (T := co6) r_of fun ω hω hn => by
   have hn : (decide (((ω.w 5).toL.length : Int) ≤ 30) && (ω.f 431 [ω.w 5]).toB) = true := hn
   obtain ⟨h1, h2⟩ := a9 hn
   rw [om_f hω] at h2
   exact (cz6 (om_f hω) (by have := of_decide_eq_true h1; omega) h2).trans (by simp only [h_of, j3, den, om_f hω]))
theorem k_ofR : y8 env Om h_ofR :=
 n7 (E := env) (cs := H13) om_upd e_ok orders h13_ok (n := 1000000) (by kernel_rfl) (n9 (T := bL7) r_ofR fun ω hω hn => by
   have hn : (decide (((ω.w 5).toL.length : Int) ≤ 30) && (ω.f 431 [ω.w 5]).toB) = true := hn
   obtain ⟨h1, h2⟩ := a9 hn
   rw [om_f hω] at h2
   exact (cu9 (om_f hω) (by have := of_decide_eq_true h1; omega) h2).trans (by simp only [h_ofR, j3, den, om_f hω]))
theorem l13_ok : ∀ x ∈ L13, y8 env Om x := by
 exact s6 (s6 (fun x hx => (by cases hx)) k_ofR) k_of
theorem h14_ok : ∀ x ∈ H14, y8 env Om x := N3 h13_ok l13_ok
end Go.Proofs.YthdedeijapoihaaGreatDoor.Ctr
