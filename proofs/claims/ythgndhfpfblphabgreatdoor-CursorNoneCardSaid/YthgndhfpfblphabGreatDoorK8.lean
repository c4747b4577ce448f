/- The contracts of the functions, in the seat's numbers; their runs. -/
import Derived.Test.YthgndhfpfblphabGreatDoorRows
import Derived.Test.YthgndhfpfblphabGreatDoorEB1
import Derived.Test.YthgndhfpfblphabGreatDoorE42
import Derived.ProofKit
set_option linter.unusedVariables false
set_option linter.unusedSimpArgs false
namespace Go.Proofs.YthgndhfpfblphabGreatDoor.Ctr
open Go Go.Ev

noncomputable def env0 : Env := ⟨Tryz.prog, fun f => bif Nat.beq f 118 then some (.count) else bif Nat.beq f 127 then some (.indexByte) else bif Nat.beq f 101 then some (.ident) else bif Nat.beq f 122 then some (.makeNoZero 134) else bif Nat.beq f 85 then some (.overlaps 120 4) else bif Nat.beq f 83 then some (.overlaps 118 4) else bif Nat.beq f 87 then some (.overlaps 119 4) else none, fun f => false, fun f => Nat.beq f 66 || Nat.beq f 65 || Nat.beq f 67, fun _ _ _ => .bad, fun _ _ => none, fun _ _ _ _ => none⟩
noncomputable def loops (f : FuncId) (r : Nat) (a : Fr) (h : Heap) : Option LSpec := bif Nat.beq f 102 && Nat.beq r 13 then some (genL ⟨320, 2000, [12, 54, 55, 56, 57, 58, 59, 60, 61, 62, 63, 64, 65, 66, 67, 68, 69, 70, 71, 72, 73], [(10, some (1), 5, [.int .u8])], [11, 53], [10], [0, 1, 2, 10, 52], [(.exit 0, [])], []⟩ a h) else bif Nat.beq f 51 && Nat.beq r 2 then some (genL ⟨340, 2000, [7, 8, 9, 10, 11, 12, 13, 14, 15, 16, 17, 18, 19, 20, 21, 22, 23], [(4, none, 5, [.int .u8])], [4], [], [], [(.exit 0, [])], []⟩ a h) else none
noncomputable def env : Env := { env0 with lspec := loops }
def h_works : HC := ⟨5, 0, ⟨[], [], 0, .cb true, .obool (.va 1000), [], [.cb true]⟩⟩
def L0 : List HC := [h_works]
def h_repl : HC := ⟨90, 1, ⟨[.ostr (.va 0), .str [0], .str [0, 255]], [], 0, .op (.cmp .leq) [.op .slen [.va 0], .ci 1000], .ostr (.va 1000), [], [.app 300 [.va 0]]⟩⟩
def h_partI : HC := ⟨70, 1, ⟨[.agg [.int .u8 1, .oint .i64 (.va 0), .str []]], [], 0, .cb true, .ostr (.va 1000), [], [.app 302 [.va 0]]⟩⟩
def h_right : HC := ⟨18, 5, ⟨[.agg [.oint .u8 (.va 0), .ostr (.va 1), .ostr (.va 2), .oint .i64 (.va 3), .oint .i64 (.va 4)]], [], 0, .cb true, .obool (.va 1000), [], [.app 330 [.va 0, .va 1, .va 2, .va 3, .va 4]]⟩⟩
def h_after : HC := ⟨51, 1, ⟨[.ostr (.va 0)], [], 0, .op (.cmp .leq) [.op .slen [.va 0], .ci 1000], .tup [.ostr (.va 1000), .obool (.va 1001)], [], [.app 331 [.va 0], .app 332 [.va 0]]⟩⟩
def L1 : List HC := [h_repl, h_partI, h_right, h_after]
def h_partT : HC := ⟨70, 1, ⟨[.agg [.int .u8 2, .int .i64 0, .ostr (.va 0)]], [], 0, .op (.cmp .leq) [.op .slen [.va 0], .ci 1000], .ostr (.va 1000), [], [.app 301 [.va 0]]⟩⟩
def L2 : List HC := [h_partT]
def h_bounds : HC := ⟨19, 5, ⟨[.agg [.oint .u8 (.va 0), .ostr (.va 1), .ostr (.va 2), .oint .i64 (.va 3), .oint .i64 (.va 4)]], [], 0, .op .and [.op (.cmp .leq) [.op .slen [.va 1], .ci 1000], .op (.cmp .leq) [.op .slen [.va 2], .ci 1000]], .tup [.ostr (.va 1000), .ostr (.va 1001)], [], [.app 333 [.va 0, .va 1, .va 2, .va 3, .va 4], .app 334 [.va 0, .va 1, .va 2, .va 3, .va 4]]⟩⟩
def a_bounds0 : List AV := [.agg [.oint .u8 (.va 0), .ostr (.va 1), .ostr (.va 2), .oint .i64 (.va 3), .oint .i64 (.va 4)]]
def a_bounds1 : List AV := [.agg [.int .u8 1, .ostr (.va 1), .ostr (.va 2), .oint .i64 (.va 3), .oint .i64 (.va 4)]]
def a_bounds2 : List AV := [.agg [.int .u8 2, .ostr (.va 1), .ostr (.va 2), .oint .i64 (.va 3), .oint .i64 (.va 4)]]
def a_bounds3 : List AV := [.agg [.int .u8 3, .ostr (.va 1), .ostr (.va 2), .oint .i64 (.va 3), .oint .i64 (.va 4)]]
def L3 : List HC := [h_bounds]
def h_cursorNone : HC := ⟨3, 7, ⟨[.agg [.oint .u8 (.va 0), .ostr (.va 1), .ostr (.va 2), .oint .i64 (.va 3), .oint .i64 (.va 4)], .oint .u64 (.va 5), .oint .u64 (.va 6)], [], 0, .cb true, .obool (.va 1000), [], [.cb true]⟩⟩
def L4 : List HC := [h_cursorNone]theorem names : (Tryz.prog.funcs.toList.all fun fn => !(fn.name == "runtime.NumGoroutine")) = true := by kernel_rfl
theorem ext118 : ∃ fn : Func, Tryz.prog.funcs[118]? = some fn ∧ fn.body = none ∧ Extern.findNext fn = none ∧ Extern.find fn = some (Ext.count).model :=
  ⟨_, Tryz.func118, by kernel_rfl, by kernel_rfl, by kernel_rfl⟩
theorem ext127 : ∃ fn : Func, Tryz.prog.funcs[127]? = some fn ∧ fn.body = none ∧ Extern.findNext fn = none ∧ Extern.find fn = some (Ext.indexByte).model :=
  ⟨_, Tryz.func127, by kernel_rfl, by kernel_rfl, by kernel_rfl⟩
theorem ext101 : ∃ fn : Func, Tryz.prog.funcs[101]? = some fn ∧ fn.body = none ∧ Extern.findNext fn = none ∧ Extern.find fn = some (Ext.ident).model :=
  ⟨_, Tryz.func101, by kernel_rfl, by kernel_rfl, by kernel_rfl⟩
theorem ext122 : ∃ fn : Func, Tryz.prog.funcs[122]? = some fn ∧ fn.body = none ∧ Extern.findNext fn = none ∧ Extern.find fn = some ((Ext.makeNoZero 134)).model :=
  ⟨_, Tryz.func122, by kernel_rfl, by kernel_rfl, by kernel_rfl⟩
theorem ext85 : ∃ fn : Func, Tryz.prog.funcs[85]? = some fn ∧ fn.body = none ∧ Extern.findNext fn = none ∧ Extern.find fn = some ((Ext.overlaps 120 4)).model :=
  ⟨_, Tryz.func85, by kernel_rfl, by kernel_rfl, by kernel_rfl⟩
theorem ext83 : ∃ fn : Func, Tryz.prog.funcs[83]? = some fn ∧ fn.body = none ∧ Extern.findNext fn = none ∧ Extern.find fn = some ((Ext.overlaps 118 4)).model :=
  ⟨_, Tryz.func83, by kernel_rfl, by kernel_rfl, by kernel_rfl⟩
theorem ext87 : ∃ fn : Func, Tryz.prog.funcs[87]? = some fn ∧ fn.body = none ∧ Extern.findNext fn = none ∧ Extern.find fn = some ((Ext.overlaps 119 4)).model :=
  ⟨_, Tryz.func87, by kernel_rfl, by kernel_rfl, by kernel_rfl⟩
theorem env0_ok (ω : Opq) (hω : ∀ t, ω.fix t = fixT Tryz.prog t) : env0.Ok ω := by
  refine ⟨hω, fun f fn h => ?_, fun f e h => ?_, fun _ _ _ _ h => (by cases h), fun _ _ _ h => (by cases h), fun _ _ _ h => (by cases h), fun _ _ _ _ _ h => (by cases h)⟩
  · have h1 := List.all_eq_true.1 names fn (by
      obtain ⟨h2, rfl⟩ := Array.getElem?_eq_some_iff.1 h
      exact Array.mem_toList_iff.2 (Array.getElem_mem h2))
    simpa using h1
  · have h : (bif Nat.beq f 118 then some (.count) else bif Nat.beq f 127 then some (.indexByte) else bif Nat.beq f 101 then some (.ident) else bif Nat.beq f 122 then some (.makeNoZero 134) else bif Nat.beq f 85 then some (.overlaps 120 4) else bif Nat.beq f 83 then some (.overlaps 118 4) else bif Nat.beq f 87 then some (.overlaps 119 4) else none : Option Ext) = some e := h
    cases hf118 : Nat.beq f 118 with
    | true =>
      rw [hf118] at h
      obtain rfl : f = 118 := by simpa using hf118
      cases h
      exact ext118
    | false =>
      rw [hf118] at h
      simp only [cond_false] at h
      cases hf127 : Nat.beq f 127 with
      | true =>
        rw [hf127] at h
        obtain rfl : f = 127 := by simpa using hf127
        cases h
        exact ext127
      | false =>
        rw [hf127] at h
        simp only [cond_false] at h
        cases hf101 : Nat.beq f 101 with
        | true =>
          rw [hf101] at h
          obtain rfl : f = 101 := by simpa using hf101
          cases h
          exact ext101
        | false =>
          rw [hf101] at h
          simp only [cond_false] at h
          cases hf122 : Nat.beq f 122 with
          | true =>
            rw [hf122] at h
            obtain rfl : f = 122 := by simpa using hf122
            cases h
            exact ext122
          | false =>
            rw [hf122] at h
            simp only [cond_false] at h
            cases hf85 : Nat.beq f 85 with
            | true =>
              rw [hf85] at h
              obtain rfl : f = 85 := by simpa using hf85
              cases h
              exact ext85
            | false =>
              rw [hf85] at h
              simp only [cond_false] at h
              cases hf83 : Nat.beq f 83 with
              | true =>
                rw [hf83] at h
                obtain rfl : f = 83 := by simpa using hf83
                cases h
                exact ext83
              | false =>
                rw [hf83] at h
                simp only [cond_false] at h
                cases hf87 : Nat.beq f 87 with
                | true =>
                  rw [hf87] at h
                  obtain rfl : f = 87 := by simpa using hf87
                  cases h
                  exact ext87
                | false =>
                  rw [hf87] at h
                  simp only [cond_false] at h
                  cases h
theorem env_ok (ω : Opq) (hω : ∀ t, ω.fix t = fixT Tryz.prog t) : env.Ok ω :=
  let h := env0_ok ω hω
  ⟨h.fix, h.name, h.ext, h.bin, h.un, h.conv, h.blt⟩
theorem orders : Tryz.prog.follows .mixedOrders = true := by kernel_rfl
noncomputable def H0 : List HC := []
noncomputable def H1 : List HC := L0 ++ H0
noncomputable def H2 : List HC := L1 ++ H1
noncomputable def H3 : List HC := L2 ++ H2
noncomputable def H4 : List HC := L3 ++ H3

theorem r_works : FC.run env0 1000000 h_works.f h_works.c h_works.c.args = T_works := by kernel_rfl
theorem r_repl : FC.run (env.hooks H1) 1000000 h_repl.f h_repl.c h_repl.c.args = T_repl := by kernel_rfl
theorem r_partI : FC.run (env.hooks H1) 1000000 h_partI.f h_partI.c h_partI.c.args = T_partI := by kernel_rfl
theorem r_right : FC.run (env.hooks H1) 1000000 h_right.f h_right.c h_right.c.args = T_right := by kernel_rfl
theorem r_after : FC.run (env.hooks H1) 1000000 h_after.f h_after.c h_after.c.args = T_after := by kernel_rfl
theorem r_partT : FC.run (env.hooks H2) 1000000 h_partT.f h_partT.c h_partT.c.args = T_partT := by kernel_rfl
theorem r_bounds0 : FC.run (env.hooks H3) 1000000 h_bounds.f h_bounds.c a_bounds0 = T_bounds0 := by kernel_rfl
theorem r_bounds1 : FC.run (env.hooks H3) 1000000 h_bounds.f h_bounds.c a_bounds1 = T_bounds1 := by kernel_rfl
theorem r_bounds2 : FC.run (env.hooks H3) 1000000 h_bounds.f h_bounds.c a_bounds2 = T_bounds2 := by kernel_rfl
theorem r_bounds3 : FC.run (env.hooks H3) 1000000 h_bounds.f h_bounds.c a_bounds3 = T_bounds3 := by kernel_rfl
theorem r_cursorNone : FC.run (env.hooks H4) 1000000 h_cursorNone.f h_cursorNone.c h_cursorNone.c.args = T_cursorNone := by kernel_rfl


def Om (ω : Opq) : Prop := OmF F Tryz.prog ω
theorem om_upd (ω : Opq) (v0 : Nat) (l : List Val) (h : Om ω) : Om (ω.upd v0 l) := h
theorem om_f {ω : Opq} (h : Om ω) : ∀ i a, ω.f i a = F i a := fun i a => by rw [h.1]
theorem e_ok (ω : Opq) (h : Om ω) : env.Ok ω := env_ok ω h.2
theorem e0_ok (ω : Opq) (h : Om ω) : env0.Ok ω := env0_ok ω h.2
theorem VRs_kind {β : Bij} {ω : Opq} {us : List Value} {k : IntKind} {n : Nat} {i : Int} {r : List AV} (h : (ω.w n).toI = i) (hv : VRs β ω [.agg (.oint k (.va n) :: r)] us) : VRs β ω [.agg (.int k i :: r)] us := by
  obtain ⟨v, vr, e, ⟨xs, e2, u, ur, e3, p1, p2⟩, q⟩ := hv
  refine ⟨v, vr, e, ⟨xs, e2, u, ur, e3, ?_, p2⟩, q⟩
  show u = .int k i
  rw [← h]; exact p1
theorem h0_ok : ∀ x ∈ H0, HcOk env Om x := fun x hx => by cases hx
theorem k_works : HcOk env Om h_works :=
  hc_step (E := env0) (cs := []) om_upd e0_ok orders (fun x hx => by cases hx) (n := 1000000) (by kernel_rfl) (fcMath1 (T := T_works) r_works fun ω hω hn => by
    exact rfl)
theorem l0_ok : ∀ x ∈ L0, HcOk env Om x := by
  exact hc_add (fun x hx => (by cases hx)) k_works
theorem h1_ok : ∀ x ∈ H1, HcOk env Om x := hc_app h0_ok l0_ok
theorem k_repl : HcOk env Om h_repl :=
  hc_step (E := env) (cs := H1) om_upd e_ok orders h1_ok (n := 1000000) (by kernel_rfl) (fcMath1 (T := T_repl) r_repl fun ω hω hn => by
    have hn := hn
    simp only [h_repl, dB, den, dens, prim, toB_vb, toI_vi, toL_vl, toS_vs, cmpI_leq, cmpI_eql, cmpI_lss, decide_eq_true_eq, Bool.and_eq_true, List.length_append] at hn
    exact (t_repl (om_f hω) (by omega)).trans (by simp only [h_repl, dens, den, prim, om_f hω, toI_vi, toL_vl]))
theorem k_partI : HcOk env Om h_partI :=
  hc_step (E := env) (cs := H1) om_upd e_ok orders h1_ok (n := 1000000) (by kernel_rfl) (fcMath1 (T := T_partI) r_partI fun ω hω hn => by
    exact (t_partI (om_f hω)).trans (by simp only [h_partI, dens, den, prim, om_f hω, toI_vi, toL_vl]))
theorem k_right : HcOk env Om h_right :=
  hc_step (E := env) (cs := H1) om_upd e_ok orders h1_ok (n := 1000000) (by kernel_rfl) (fcMath1 (T := T_right) r_right fun ω hω hn => by
    exact (t_right (om_f hω)).trans (by simp only [h_right, dens, den, prim, om_f hω, toI_vi, toL_vl]))
theorem k_after : HcOk env Om h_after :=
  hc_step (E := env) (cs := H1) om_upd e_ok orders h1_ok (n := 1000000) (by kernel_rfl) (fcMath1 (T := T_after) r_after fun ω hω hn => by
    have hn := hn
    simp only [h_after, dB, den, dens, prim, toB_vb, toI_vi, toL_vl, toS_vs, cmpI_leq, cmpI_eql, cmpI_lss, decide_eq_true_eq, Bool.and_eq_true, List.length_append] at hn
    exact (t_after (om_f hω) (by omega)).trans (by simp only [h_after, dens, den, prim, om_f hω, toI_vi, toL_vl]))
theorem l1_ok : ∀ x ∈ L1, HcOk env Om x := by
  exact hc_add (hc_add (hc_add (hc_add (fun x hx => (by cases hx)) k_after) k_right) k_partI) k_repl
theorem h2_ok : ∀ x ∈ H2, HcOk env Om x := hc_app h1_ok l1_ok
theorem k_partT : HcOk env Om h_partT :=
  hc_step (E := env) (cs := H2) om_upd e_ok orders h2_ok (n := 1000000) (by kernel_rfl) (fcMath1 (T := T_partT) r_partT fun ω hω hn => by
    have hn := hn
    simp only [h_partT, dB, den, dens, prim, toB_vb, toI_vi, toL_vl, toS_vs, cmpI_leq, cmpI_eql, cmpI_lss, decide_eq_true_eq, Bool.and_eq_true, List.length_append] at hn
    exact (t_partT (om_f hω) (by omega)).trans (by simp only [h_partT, dens, den, prim, om_f hω, toI_vi, toL_vl]))
theorem l2_ok : ∀ x ∈ L2, HcOk env Om x := by
  exact hc_add (fun x hx => (by cases hx)) k_partT
theorem h3_ok : ∀ x ∈ H3, HcOk env Om x := hc_app h2_ok l2_ok
theorem k_bounds : HcOk env Om h_bounds :=
  hc_step (E := env) (cs := H3) om_upd e_ok orders h3_ok (n := 1000000) (by kernel_rfl) (fun ω hω hn => by
    have hf := om_f hω
    have fin : ∀ T : VT, evalT T ω = some (0, [F 333 [ω.w 0, ω.w 1, ω.w 2, ω.w 3, ω.w 4], F 334 [ω.w 0, ω.w 1, ω.w 2, ω.w 3, ω.w 4]]) → evalT T ω = some (0, dens ω h_bounds.c.outs) := fun T e => e.trans (by simp only [h_bounds, dens, den, hf])
    by_cases hk : (ω.w 0).toI = 1 ∨ (ω.w 0).toI = 2 ∨ (ω.w 0).toI = 3
    · rcases hk with e | e | e
      · exact ⟨a_bounds1, fun β us h => VRs_kind e h, by rw [r_bounds1]; exact fin _ (t_bounds1 hf e)⟩
      · exact ⟨a_bounds2, fun β us h => VRs_kind e h, by rw [r_bounds2]; exact fin _ (t_bounds2 hf e)⟩
      · exact ⟨a_bounds3, fun β us h => VRs_kind e h, by rw [r_bounds3]; exact fin _ (t_bounds3 hf e)⟩
    · exact ⟨a_bounds0, fun β us h => h, by rw [r_bounds0]; exact fin _ (t_bounds0 hf hk)⟩)
theorem l3_ok : ∀ x ∈ L3, HcOk env Om x := by
  exact hc_add (fun x hx => (by cases hx)) k_bounds
theorem h4_ok : ∀ x ∈ H4, HcOk env Om x := hc_app h3_ok l3_ok
end Go.Proofs.YthgndhfpfblphabGreatDoor.Ctr
