/- The law ReplyKnown answers true at every input, and leaves its arguments as they were. No condition of its own. -/
import Derived.Test.YtagmhdcpfhpmfaaGreatK8
import Derived.Test.YtagmhdcpfhpmfaaGreatE42
import Derived.ProofKit
set_option linter.unusedVariables false
namespace Go.Proofs.YtagmhdcpfhpmfaaGreat.lawReplyKnown
open Go Go.Ev Go.ChangeShapes Go.WideShapes Go.ChangeAt Go.RowKit Go.Proofs.YtagmhdcpfhpmfaaGreat.Ctr
theorem own:ownKnob Tryz.prog.godebug=none:=by kernel_rfl
theorem k_law:S7 env Om h_replyKnown:=
 K6 (E:=env) (cs:=HookL8) om_upd e_ok orders h8_ok (n:=1000000) (by kernel_rfl) (K8 (T:=a93) r_replyKnown fun ω hω _=>
   (Kn.t_replyKnown (om_f hω)).trans (by simp only[h_replyKnown,I9,den]))
theorem ans:br8 (a89 h_replyKnown.c h_replyKnown.nv h_replyKnown.c.args h_replyKnown.c.heap)=some (h_replyKnown.c.need,.obool (.cb true)):=by kernel_rfl
set_option maxRecDepth 100000 in
theorem walk{H:Type}{enc:TypeId×Value→H}{W:World}{base:Nat}{args:Array Value}{ds:List (DataW H)}{p:List MemPlace}(hA:DataW.TrodAll enc Tryz.prog W 0 (fun _=>true) true (#[]:Array TypeId).toList args.toList ds p)(hthaw:dx8 W p)
 (hval: ∀(j:Nat) t v,(#[]:Array TypeId)[j]? =some t→args.toList[j]? =some v→Value.okWide Tryz.prog W .any base t v):
 Calls Tryz.prog 3 args W fun e W'=>e= .returned (.bool true)∧Below W.heap.size W W':=by
 obtain⟨e0,rfl,rfl⟩:=trodAll_nil hA
 have hu:args=([]:List Value).toArray:=by rw[←e0]
 rw[hu]
 exact d13 (x:=h_replyKnown) (F:=F) k_law (by kernel_rfl) (L:=[]) (cells:=[]) rfl (by kernel_rfl) (by kernel_rfl) (fun β ω hv=>hv) ans rfl
theorem laid:laidOutB Tryz.prog=true:=by kernel_rfl
set_option maxRecDepth 100000 in
theorem lifted(os:Os)(started:os.Started)(H:Type)(enc:TypeId×Value→H):
 ReturnsInHanded {} Tryz.checked os 3 .any (Rows.replyKnownSpec.pre6 enc Tryz.prog Tryz.f3 Rows.replyKnownRow.domain false) (Rows.replyKnownSpec.post enc Tryz.prog Tryz.f3 false true false false):=by
 refine returnsInHanded_of_change (C:=Tryz.checked) own started (by kernel_rfl) Tryz.func3
   (ChangeSpec.witness6 (enc:=enc) (C:=Tryz.checked) false ⟨#[],#[],[]⟩ 8 (by kernel_rfl) (by kernel_rfl) (by kernel_rfl) (by kernel_rfl)) ?_
 intro W base args ds gs before hval0 hW hcnd _
 have hval: ∀(j:Nat) t v,Tryz.f3.params[j]? =some t→args[j]? =some v→Value.okWide Tryz.prog W .any base t v:=hval0
 have hW':=hW
 obtain⟨p,q,hA0,hV,rfl,hfz,hnd⟩:=hW
 have hA:DataW.TrodAll enc Tryz.prog W 0 (fun _=>true) true Tryz.f3.params.toList args.toList ds p:=hA0
 obtain⟨rfl,rfl⟩:=trodVars_none hV
 rw[Tryz.params3]at hA hval
 have hthaw:dx8 W p:=fun b off hm=>hfz b off (by simpa using hm)
 refine(walk hA hthaw (fun j t v h1 h2=>hval j t v (by simp at h1) (by simp at h1))).mono fun e W' ⟨he,hb⟩=> ?_
 subst he
 obtain⟨e0,rfl,rfl⟩:=trodAll_nil hA
 exact⟨_,rfl,cG9 hW' rfl rfl laid (by rw[Tryz.params3];kernel_rfl) hb Tryz.underlying4 (by kernel_rfl)⟩
theorem over:Rows.replyKnownRow.holds Tryz.pinned (OpenSpec.ofChange Rows.replyKnownSpec):=
 OpenClaim.holds_of_wide 3 Tryz.f3 rfl rfl rfl rfl rfl rfl rfl ⟨rfl,rfl,rfl,rfl,rfl⟩ rfl rfl rfl rfl rfl (by kernel_rfl) Tryz.func3 (by kernel_rfl)
   (of_decide_eq_true (by kernel_rfl)) (by unfold Func.isWrapper;first|(rw[if_pos (by decide+kernel)];kernel_rfl)|(rw[if_neg (by decide+kernel)];exact⟨rfl,rfl⟩))
   (fun os started H enc _=>lifted os started H enc)
theorem proved:Rows.ReplyKnownSaid:=over
#print axioms proved
end Go.Proofs.YtagmhdcpfhpmfaaGreat.lawReplyKnown
