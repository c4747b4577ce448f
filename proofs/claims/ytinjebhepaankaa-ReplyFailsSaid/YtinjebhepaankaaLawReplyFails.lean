/- The law ReplyFails answers true at every input, and leaves its arguments as they were. No condition of its own. -/
import Derived.Test.YtinjebhepaankaaRows
import Derived.Test.YtinjebhepaankaaE33
import Derived.ProofKit
set_option linter.unusedVariables false
namespace Go.Proofs.Ytinjebhepaankaa.lawReplyFails
open Go Go.Ev Go.ChangeShapes Go.WideShapes Go.ChangeAt Go.RowKit

theorem own : ownKnob Try.prog.godebug = none := by kernel_rfl
noncomputable def env0 : Env := ⟨Try.prog, fun f => none, fun f => false, fun f => false, fun _ _ _ => none, fun _ _ => none, fun _ _ => none⟩
def nil? (l : List AV) : Bool := match l with
  | [] => true
  | _ => false
noncomputable def env : Env := { env0 with hook := fun f args h => bif Nat.beq f 9 && nil? args then some (.bool true, h) else none }
theorem names : (Try.prog.funcs.toList.all fun fn => !(fn.name == "runtime.NumGoroutine")) = true := by kernel_rfl
theorem env0_ok (ω : Opq) (hω : ∀ t, ω.fix t = fixT Try.prog t) : env0.Ok ω := by
  refine ⟨hω, fun f fn h => ?_, fun f e h => ?_, fun _ _ _ _ h => (by cases h), fun _ _ _ h => (by cases h), fun _ _ _ h => (by cases h), fun _ _ _ _ _ h => (by cases h)⟩
  · have h1 := List.all_eq_true.1 names fn (by
      obtain ⟨h2, rfl⟩ := Array.getElem?_eq_some_iff.1 h
      exact Array.mem_toList_iff.2 (Array.getElem_mem h2))
    simpa using h1
  · cases h
theorem env_ok (ω : Opq) (hω : ∀ t, ω.fix t = fixT Try.prog t) : env.Ok ω :=
  let h := env0_ok ω hω
  ⟨h.fix, h.name, h.ext, h.bin, h.un, h.conv, h.blt⟩
theorem orders : Try.prog.follows .mixedOrders = true := by kernel_rfl
theorem hook0_ok (ω : Opq) : HookOk env0 ω := fun _ _ _ _ _ h => by cases h
theorem ranW : runTrue env0 1000000 9 [] = true := by kernel_rfl
set_option maxRecDepth 100000 in
theorem works (w : World) : Calls Try.prog 9 #[] w (fun e w' => e = .returned (.bool true) ∧ Below w.heap.size w w') :=
  runTrue_ok (E := env0) (ω := opqOf Try.prog []) env0_ok (fun ω _ => hook0_ok ω) (fun _ => rfl) orders ranW w (us := []) rfl
theorem hook_ok (ω : Opq) : HookOk env ω := hookTrue_ok (W := 9) works (fun f args h r e => by
  have e : (bif Nat.beq f 9 && nil? args then some (AV.bool true, h) else none) = some r := e
  cases hc : (Nat.beq f 9 && nil? args) with
  | false => rw [hc] at e; cases e
  | true =>
    rw [hc] at e
    obtain ⟨h1, h2⟩ := and_t hc
    simp only [cond_true, Option.some.injEq] at e
    refine ⟨by simpa using h1, ?_, e.symm⟩
    cases args with
    | nil => rfl
    | cons a l => cases h2)
def vcs : List VC := [⟨[(.op (.cmp .eql) [.ci (2), .op (.conv .u16) [.va 1]], false), (.op .ite [.op (.cmp .geq) [.va 1, .ci (1)], .op (.cmp .leq) [.va 1, .ci (65535)], .cb false], true), (.op (.cmp .lss) [.va 1, .ci (1)], false), (.op (.cmp .lss) [.ci (65535), .va 1], false), (.op .ite [.op (.cmp .lss) [.va 1, .ci (1)], .cb true, .op (.cmp .gtr) [.va 1, .ci (65535)]], true), (.op (.cmp .lss) [.va 1, .ci (1)], false)], .cb false⟩,
  ⟨[(.op (.cmp .eql) [.op (.conv .u16) [.va 1], .ci (0)], true), (.op .ite [.op (.cmp .lss) [.va 1, .ci (1)], .cb true, .op (.cmp .gtr) [.va 1, .ci (65535)]], false), (.op (.cmp .lss) [.va 1, .ci (1)], false), (.op (.cmp .lss) [.ci (65535), .va 1], false), (.op (.cmp .lss) [.va 1, .ci (1)], false)], .cb false⟩]
set_option linter.unusedSimpArgs false in
theorem vcs_ok (ω : Opq) : ∀ v ∈ vcs, v.Ok ω := by
  intro v hv
  simp only [vcs, List.mem_cons, List.not_mem_nil, or_false] at hv
  rcases hv with rfl | rfl <;> intro h <;>
    simp only [PcOk_cons, lss_t, lss_f, leq_t, leq_f, gtr_t, gtr_f, geq_t, geq_f, eql_t, eql_f, ite_t, ite_f, cb_t, dI_ci, dI_conv] at h
  · exfalso; omega
  · obtain ⟨h0, _, h1, h2, _⟩ := h
    rw [wrap_u16 (by omega) (by omega)] at h0
    exfalso; omega

theorem ran : runVC env 1000000 3 (argsOf Try.prog [22, 3, 23] 0) = some vcs := by kernel_rfl
set_option maxRecDepth 100000 in
theorem walk (us : List Value) (w W : World) (r : Reach) (b0 : Nat) (hl : ([22, 3, 23] : List TypeId).length = us.length) (h : ∀ (j : Nat) t v, ([22, 3, 23] : List TypeId)[j]? = some t → us[j]? = some v → Value.okWide Try.prog w r b0 t v) :
    Calls Try.prog 3 us.toArray W fun e w' => e = .returned (.bool true) ∧ Below W.heap.size W w' := by
  obtain ⟨xs, hx⟩ := argsOf_ok (P := Try.prog) (ts := [22, 3, 23]) (vs := us) (w := w) (r := r) (b0 := b0) hl h []
  exact runVC_ok (E := env) env_ok (fun ω _ => hook_ok ω) (fun _ => rfl) orders ran (fun v hv => vcs_ok _ v hv) W (hx _ [])
theorem laid : laidOutB Try.prog = true := by kernel_rfl

set_option maxRecDepth 100000 in
theorem lifted (os : Os) (started : os.Started) (H : Type) (enc : TypeId × Value → H) :
    ReturnsInHanded {} Try.checked os 3 .any (Rows.replyFailsSpec.pre6 enc Try.prog Try.f3 Rows.replyFailsRow.domain false) (Rows.replyFailsSpec.post enc Try.prog Try.f3 false true false false) := by
  refine returnsInHanded_of_change (C := Try.checked) own started (by kernel_rfl) Try.func3
    (ChangeSpec.witness6 (enc := enc) (C := Try.checked) false ⟨#[], #[.int .u32 0, .int .i64 0, .int .u64 0], []⟩ 8 (by kernel_rfl) (by kernel_rfl) (by kernel_rfl) (by kernel_rfl)) ?_
  intro W base args ds gs before hval0 hW hcnd _
  have hval : ∀ (j : Nat) t v, Try.f3.params[j]? = some t → args[j]? = some v → Value.okWide Try.prog W .any base t v := hval0
  have hW' := hW
  obtain ⟨p, q, hA0, hV, rfl, hfz, hnd⟩ := hW
  have hA : DataW.TrodAll enc Try.prog W 0 (fun _ => true) true Try.f3.params.toList args.toList ds p := hA0
  obtain ⟨rfl, rfl⟩ := trodVars_none hV
  rw [Try.params3] at hA hval
  have hlen := (trodAll_length hA).1
  refine (walk args.toList W W .any base hlen (fun j t v h1 h2 => hval j t v (by simpa using h1) (by simpa using h2))).mono fun e W' ⟨he, hb⟩ => ?_
  subst he
  obtain ⟨v0, vs0, d0, ds0, p0, q0, e0, rfl, rfl, h0, r0⟩ := trodAll_cons hA
  obtain ⟨v1, vs1, d1, ds1, p1, q1, e1, rfl, rfl, h1, r1⟩ := trodAll_cons r0
  obtain ⟨v2, vs2, d2, ds2, p2, q2, e2, rfl, rfl, h2, r2⟩ := trodAll_cons r1
  obtain ⟨e3, rfl, rfl⟩ := trodAll_nil r2
  exact ⟨_, rfl, post_law hW' rfl rfl laid (by rw [Try.params3]; kernel_rfl) hb Try.underlying4 (by kernel_rfl)⟩

theorem over : Rows.replyFailsRow.holds Try.pinned (OpenSpec.ofChange Rows.replyFailsSpec) :=
  OpenClaim.holds_of_wide 3 Try.f3 rfl rfl rfl rfl rfl rfl rfl ⟨rfl, rfl, rfl, rfl, rfl⟩ rfl rfl rfl rfl rfl (by kernel_rfl) Try.func3 (by kernel_rfl)
    (of_decide_eq_true (by kernel_rfl)) (by unfold Func.isWrapper; first | (rw [if_pos (by decide +kernel)]; kernel_rfl) | (rw [if_neg (by decide +kernel)]; exact ⟨rfl, rfl⟩))
    (fun os started H enc _ => lifted os started H enc)

/-- The statement. -/
theorem proved : Rows.ReplyFailsSaid := over
#print axioms proved
end Go.Proofs.Ytinjebhepaankaa.lawReplyFails
