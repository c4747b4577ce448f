/- The trees of the contracts of chapters 4, 10 and 26. -/
import Derived.Test.YthgndhfpfblphabGreatDoorE42
namespace Go.Ev
open Go

def T_works : VT := .ret 0 [.cb true]
def L320 : VT := .ite (.op (.cmp .lss) [.va 2001, .op .scnt [.va 0, .ci 0]]) (.need (.op .and [.op (.cmp .leq) [.ci 0, .va 2000], .op (.cmp .leq) [.va 2000, .op .slen [.va 0]]]) (.ite (.op (.scmp .eql) [.cs [0], .op .ssub [.va 0, .va 2000, .op .slen [.va 0]]]) (.need (.op .and [.op (.cmp .leq) [.va 2000, .op (.ar .add .i64) [.va 2000, .ci 0]], .op (.cmp .leq) [.op (.ar .add .i64) [.va 2000, .ci 0], .op .slen [.va 0]]]) (.need (.op .and [.op (.cmp .eql) [.va 2002, .op .llen [.va 2003]], .op (.cmp .leq) [.op .llen [.op .lcat [.va 2003, .op .sbytes [.op .ssub [.va 0, .va 2000, .op (.ar .add .i64) [.va 2000, .ci 0]]]]], .ci 1000000]]) (.need (.op (.cmp .leq) [.op .llen [.op .lcat [.op .lcat [.va 2003, .op .sbytes [.op .ssub [.va 0, .va 2000, .op (.ar .add .i64) [.va 2000, .ci 0]]]], .op .sbytes [.cs [0, 255]]]], .ci 1000000]) (.ret 0 [.op (.ar .add .i64) [.op (.ar .add .i64) [.va 2000, .ci 0], .ci 1], .op (.ar .add .i64) [.va 2001, .ci 1], .op .llen [.op .lcat [.op .lcat [.va 2003, .op .sbytes [.op .ssub [.va 0, .va 2000, .op (.ar .add .i64) [.va 2000, .ci 0]]]], .op .sbytes [.cs [0, 255]]]], .op .lcat [.op .lcat [.va 2003, .op .sbytes [.op .ssub [.va 0, .va 2000, .op (.ar .add .i64) [.va 2000, .ci 0]]]], .op .sbytes [.cs [0, 255]]]])))) (.need (.op .and [.op (.cmp .leq) [.va 2000, .op (.ar .add .i64) [.va 2000, .op .sidx [.op .ssub [.va 0, .va 2000, .op .slen [.va 0]], .ci 0]]], .op (.cmp .leq) [.op (.ar .add .i64) [.va 2000, .op .sidx [.op .ssub [.va 0, .va 2000, .op .slen [.va 0]], .ci 0]], .op .slen [.va 0]]]) (.need (.op .and [.op (.cmp .eql) [.va 2002, .op .llen [.va 2003]], .op (.cmp .leq) [.op .llen [.op .lcat [.va 2003, .op .sbytes [.op .ssub [.va 0, .va 2000, .op (.ar .add .i64) [.va 2000, .op .sidx [.op .ssub [.va 0, .va 2000, .op .slen [.va 0]], .ci 0]]]]]], .ci 1000000]]) (.need (.op (.cmp .leq) [.op .llen [.op .lcat [.op .lcat [.va 2003, .op .sbytes [.op .ssub [.va 0, .va 2000, .op (.ar .add .i64) [.va 2000, .op .sidx [.op .ssub [.va 0, .va 2000, .op .slen [.va 0]], .ci 0]]]]], .op .sbytes [.cs [0, 255]]]], .ci 1000000]) (.ret 0 [.op (.ar .add .i64) [.op (.ar .add .i64) [.va 2000, .op .sidx [.op .ssub [.va 0, .va 2000, .op .slen [.va 0]], .ci 0]], .ci 1], .op (.ar .add .i64) [.va 2001, .ci 1], .op .llen [.op .lcat [.op .lcat [.va 2003, .op .sbytes [.op .ssub [.va 0, .va 2000, .op (.ar .add .i64) [.va 2000, .op .sidx [.op .ssub [.va 0, .va 2000, .op .slen [.va 0]], .ci 0]]]]], .op .sbytes [.cs [0, 255]]]], .op .lcat [.op .lcat [.va 2003, .op .sbytes [.op .ssub [.va 0, .va 2000, .op (.ar .add .i64) [.va 2000, .op .sidx [.op .ssub [.va 0, .va 2000, .op .slen [.va 0]], .ci 0]]]]], .op .sbytes [.cs [0, 255]]]])))))) (.ret 1 [.va 2000, .va 2001, .va 2002, .va 2003])
def repl_0 : SX := .op (.ar .add .i64) [.op .slen [.va 0], .op (.ar .mul .i64) [.op .scnt [.va 0, .ci 0], .ci 1]]
def repl_1 : SX := .op (.ar .add .i64) [.ci 0, repl_0]
def repl_2 : SX := .app 320 [.ci 0, .ci 0, .op .llen [.op .row []], .op .row [], .va 0, .op .llen [.op .row []], .op .llen [.op .row []], .op .row [], .op .scnt [.va 0, .ci 0]]
def repl_3 : SX := .op .lget [repl_2, .ci 1, .ci 0]
def repl_4 : SX := .op .and [.op (.cmp .leq) [.ci 0, repl_3], .op (.cmp .leq) [repl_3, .op .slen [.va 0]]]
def repl_5 : SX := .op .lget [repl_2, .ci 1, .ci 3]
def repl_6 : SX := .op .lcat [repl_5, .op .sbytes [.op .ssub [.va 0, repl_3, .op .slen [.va 0]]]]
def repl_7 : SX := .op .and [.op (.cmp .eql) [.op .lget [repl_2, .ci 1, .ci 2], .op .llen [repl_5]], .op (.cmp .leq) [.op .llen [repl_6], .ci 1000000]]
def repl_8 : SX := .op (.cmp .lss) [.ci 0, .op .llen [repl_6]]
def repl_9 : SX := .op .and [.op (.cmp .leq) [.op .llen [repl_6], .op .llen [repl_6]], .op .bok [repl_6]]
def T_repl : VT := .ite (.op (.cmp .eql) [.op .scnt [.va 0, .ci 0], .ci 0]) (.ret 0 [.va 0]) (.ite (.op (.cmp .lss) [repl_0, .ci 0]) (.bad) (.ite (.op (.cmp .lss) [.ci 0, repl_0]) (.need (.op .and [.op (.cmp .leq) [.ci 0, repl_1], .op (.cmp .leq) [repl_1, .ci 281474976710656]]) (.need (.op (.cmp .leq) [.ci 0, .ci 0]) (.loop ⟨320, [.ci 0, .ci 0, .op .llen [.op .row []], .op .row []], 2000, [.va 0, .op .llen [.op .row []], .op .llen [.op .row []], .op .row [], .op .scnt [.va 0, .ci 0]]⟩ L320 [.need (repl_4) (.need (repl_7) (.need (repl_8) (.need (repl_9) (.ret 0 [.op .bstr [repl_6]]))))]))) (.loop ⟨320, [.ci 0, .ci 0, .op .llen [.op .row []], .op .row []], 2000, [.va 0, .op .llen [.op .row []], .op .llen [.op .row []], .op .row [], .op .scnt [.va 0, .ci 0]]⟩ L320 [.need (repl_4) (.need (repl_7) (.need (repl_8) (.need (repl_9) (.ret 0 [.op .bstr [repl_6]]))))])))
def partI_0 : SX := .op (.ar .xor .u64) [.op (.conv .u64) [.va 0], .ci 9223372036854775808]
def partI_1 : SX := .op (.ar .shr .u64) [partI_0, .ci 8]
def partI_2 : SX := .op (.ar .shr .u64) [partI_1, .ci 8]
def partI_3 : SX := .op (.ar .shr .u64) [partI_2, .ci 8]
def partI_4 : SX := .op (.ar .shr .u64) [partI_3, .ci 8]
def partI_5 : SX := .op (.ar .shr .u64) [partI_4, .ci 8]
def partI_6 : SX := .op (.ar .shr .u64) [partI_5, .ci 8]
def partI_7 : SX := .op .row [.op .row [.op (.conv .u8) [.op (.ar .shr .u64) [partI_6, .ci 8]]], .op .row [.op (.conv .u8) [partI_6]], .op .row [.op (.conv .u8) [partI_5]], .op .row [.op (.conv .u8) [partI_4]], .op .row [.op (.conv .u8) [partI_3]], .op .row [.op (.conv .u8) [partI_2]], .op .row [.op (.conv .u8) [partI_1]], .op .row [.op (.conv .u8) [partI_0]]]
def T_partI : VT := .need (.op .bok [partI_7]) (.ret 0 [.op .bstr [partI_7]])
def right_0 : SX := .op (.scmp .eql) [.va 1, .va 1]
def right_1 : SX := .op (.scmp .eql) [.va 2, .cs []]
def right_2 : SX := .op (.cmp .eql) [.va 3, .va 3]
def right_3 : SX := .op (.cmp .eql) [.va 4, .ci 0]
def right_4 : SX := .op (.cmp .eql) [.va 0, .ci 2]
def right_5 : SX := .op (.cmp .eql) [.va 0, .ci 3]
def T_right : VT := .ite (.op (.cmp .gtr) [.op .slen [.va 1], .ci 32]) (.ret 0 [.cb false]) (.ite (.op (.cmp .gtr) [.op .slen [.va 2], .ci 32]) (.ret 0 [.cb false]) (.ite (.op (.cmp .eql) [.va 0, .ci 1]) (.ite (.op .and [right_0, .op .and [right_1, .op .and [right_2, right_3]]]) (.ret 0 [.op (.scmp .neq) [.va 1, .cs []]]) (.ret 0 [.cb false])) (.ite (right_4) (.ret 0 [.op .and [right_4, .op .and [right_0, .op .and [.op (.scmp .eql) [.va 2, .va 2], .op .and [.op (.cmp .eql) [.va 3, .ci 0], right_3]]]]]) (.ite (right_5) (.ret 0 [.op .and [right_5, .op .and [.op (.scmp .eql) [.va 1, .cs []], .op .and [right_1, .op .and [right_2, .op (.cmp .eql) [.va 4, .va 4]]]]]]) (.ret 0 [.cb false])))))
def L340 : VT := .need (.op (.cmp .leq) [.ci 0, .va 2000]) (.ite (.op (.cmp .gtr) [.va 2000, .ci 0]) (.need (.op .and [.op (.cmp .leq) [.ci 0, .op (.ar .sub .i64) [.va 2000, .ci 1]], .op (.cmp .lss) [.op (.ar .sub .i64) [.va 2000, .ci 1], .va 2000]]) (.need (.op (.cmp .lss) [.op (.ar .sub .i64) [.va 2000, .ci 1], .op .llen [.va 2001]]) (.ite (.op (.cmp .eql) [.op .lget [.va 2001, .op (.ar .sub .i64) [.va 2000, .ci 1], .ci 0], .ci 255]) (.need (.op (.cmp .leq) [.op (.ar .sub .i64) [.va 2000, .ci 1], .va 2000]) (.ret 0 [.op (.ar .sub .i64) [.va 2000, .ci 1], .va 2001])) (.ret 1 [.va 2000, .va 2001])))) (.ret 1 [.va 2000, .va 2001]))
def after_0 : SX := .op .llen [.op .sbytes [.va 0]]
def after_1 : SX := .app 340 [after_0, .op .sbytes [.va 0]]
def after_2 : SX := .op .lget [after_1, .ci 1, .ci 0]
def after_3 : SX := .op (.cmp .leq) [.ci 0, after_2]
def after_4 : SX := .op (.ar .sub .i64) [after_2, .ci 1]
def after_5 : SX := .op .lget [after_1, .ci 1, .ci 1]
def after_6 : SX := .op .iadd [.ci 0, after_2]
def after_7 : SX := .op .lset [after_5, after_4, .op .row [.op (.ar .add .u8) [.op .lget [after_5, after_4, .ci 0], .ci 1]]]
def after_8 : SX := .op .lsub [after_7, .ci 0, after_6]
def T_after : VT := .loop ⟨340, [after_0, .op .sbytes [.va 0]], 2000, []⟩ L340 [.need (after_3) (.ite (.op (.cmp .eql) [after_2, .ci 0]) (.ret 0 [.cs [], .cb false]) (.need (.op .and [.op (.cmp .leq) [.ci 0, after_4], .op (.cmp .lss) [after_4, after_2]]) (.need (.op (.cmp .lss) [after_4, .op .llen [after_5]]) (.need (.op .and [.op .and [.op (.cmp .leq) [.ci 0, .ci 0], after_3], .op .and [.op (.cmp .leq) [after_6, .op .llen [after_7]], .op .bok [after_8]]]) (.ret 0 [.op .bstr [after_8], .cb true])))))]
def T_partT : VT := .need (.op (.cmp .leq) [.op .slen [.va 0], .ci 1000]) (.need (.op (.cmp .lss) [.op .iadd [.op .slen [.app 300 [.va 0]], .op .slen [.cs [0, 0]]], .ci 4294967296]) (.ret 0 [.op .cat [.app 300 [.va 0], .cs [0, 0]]]))
def T_bounds0 : VT := .ite (.op .not [.app 330 [.va 0, .va 1, .va 2, .va 3, .va 4]]) (.ret 0 [.cs [0], .cs [0]]) (.bad)
def bounds1_0 : SX := .op .sbytes [.app 301 [.va 1]]
def bounds1_1 : SX := .op .sbytes [.app 302 [.va 3]]
def bounds1_2 : SX := .op .cat [.op .bstr [bounds1_0], .op .bstr [bounds1_1]]
def T_bounds1 : VT := .ite (.op .not [.app 330 [.ci 1, .va 1, .va 2, .va 3, .va 4]]) (.ret 0 [.cs [0], .cs [0]]) (.need (.op (.cmp .leq) [.op .slen [.va 1], .ci 1000]) (.need (.op (.cmp .leq) [.op .llen [bounds1_0], .ci 1000000]) (.need (.op (.cmp .lss) [.ci 0, .op .llen [bounds1_0]]) (.need (.op .and [.op (.cmp .leq) [.op .llen [bounds1_0], .op .llen [bounds1_0]], .op .bok [bounds1_0]]) (.need (.op (.cmp .leq) [.op .llen [bounds1_1], .ci 1000000]) (.need (.op (.cmp .lss) [.ci 0, .op .llen [bounds1_1]]) (.need (.op .and [.op (.cmp .leq) [.op .llen [bounds1_1], .op .llen [bounds1_1]], .op .bok [bounds1_1]]) (.need (.op (.cmp .lss) [.op .iadd [.op .slen [.op .bstr [bounds1_0]], .op .slen [.op .bstr [bounds1_1]]], .ci 4294967296]) (.need (.op (.cmp .leq) [.op .slen [bounds1_2], .ci 1000]) (.ret 0 [bounds1_2, .app 331 [bounds1_2]]))))))))))
def bounds2_0 : SX := .op .sbytes [.app 301 [.va 2]]
def bounds2_1 : SX := .op (.cmp .leq) [.op .slen [.va 1], .ci 1000]
def bounds2_2 : SX := .op .sbytes [.app 301 [.va 1]]
def bounds2_3 : SX := .op (.cmp .leq) [.op .llen [bounds2_2], .ci 1000000]
def bounds2_4 : SX := .op (.cmp .lss) [.ci 0, .op .llen [bounds2_2]]
def bounds2_5 : SX := .op .and [.op (.cmp .leq) [.op .llen [bounds2_2], .op .llen [bounds2_2]], .op .bok [bounds2_2]]
def T_bounds2 : VT := .ite (.op .not [.app 330 [.ci 2, .va 1, .va 2, .va 3, .va 4]]) (.ret 0 [.cs [0], .cs [0]]) (.ite (.op (.scmp .neq) [.va 2, .cs []]) (.need (.op (.cmp .leq) [.op .slen [.va 2], .ci 1000]) (.need (.op (.cmp .leq) [.op .llen [bounds2_0], .ci 1000000]) (.need (.op (.cmp .lss) [.ci 0, .op .llen [bounds2_0]]) (.need (.op .and [.op (.cmp .leq) [.op .llen [bounds2_0], .op .llen [bounds2_0]], .op .bok [bounds2_0]]) (.need (bounds2_1) (.need (bounds2_3) (.need (bounds2_4) (.need (bounds2_5) (.ret 0 [.op .bstr [bounds2_2], .op .bstr [bounds2_0]]))))))))) (.need (bounds2_1) (.need (bounds2_3) (.need (bounds2_4) (.need (bounds2_5) (.ret 0 [.op .bstr [bounds2_2], .cs []]))))))
def bounds3_0 : SX := .op .sbytes [.app 302 [.va 3]]
def bounds3_1 : SX := .op .sbytes [.app 302 [.va 4]]
def T_bounds3 : VT := .ite (.op .not [.app 330 [.ci 3, .va 1, .va 2, .va 3, .va 4]]) (.ret 0 [.cs [0], .cs [0]]) (.need (.op (.cmp .leq) [.op .llen [bounds3_0], .ci 1000000]) (.need (.op (.cmp .lss) [.ci 0, .op .llen [bounds3_0]]) (.need (.op .and [.op (.cmp .leq) [.op .llen [bounds3_0], .op .llen [bounds3_0]], .op .bok [bounds3_0]]) (.need (.op (.cmp .leq) [.op .llen [bounds3_1], .ci 1000000]) (.need (.op (.cmp .lss) [.ci 0, .op .llen [bounds3_1]]) (.need (.op .and [.op (.cmp .leq) [.op .llen [bounds3_1], .op .llen [bounds3_1]], .op .bok [bounds3_1]]) (.ret 0 [.op .bstr [bounds3_0], .op .bstr [bounds3_1]])))))))
def T_cursorNone : VT := .ite (.op (.cmp .leq) [.op .slen [.va 1], .ci 60]) (.ite (.op .not [.op (.cmp .leq) [.op .slen [.va 2], .ci 60]]) (.ret 0 [.cb true]) (.ite (.op .not [.app 330 [.va 0, .va 1, .va 2, .va 3, .va 4]]) (.ret 0 [.cb true]) (.ite (.op (.cmp .gtr) [.va 5, .va 6]) (.ret 0 [.cb true]) (.need (.op .and [.op (.cmp .leq) [.op .slen [.va 1], .ci 1000], .op (.cmp .leq) [.op .slen [.va 2], .ci 1000]]) (.ret 0 [.cb true]))))) (.ret 0 [.cb true])
end Go.Ev
