/- The law TableKnown answers true at every input, and leaves its arguments as they were. No condition of its own. -/
import Derived.Test.YtcmjiepodnicoaaGreatK8
import Derived.ProofKit
set_option linter.unusedVariables false
namespace Go.Proofs.YtcmjiepodnicoaaGreat.lawTableKnown
open Go Go.Ev Go.ChangeShapes Go.WideShapes Go.ChangeAt Go.RowKit Go.Proofs.YtcmjiepodnicoaaGreat.Ctr
theorem own:ownKnob Tryz.prog.godebug=none:=by kernel_rfl
theorem ans:Lx (kH eh.c eh.nv eh.c.args eh.c.heap)=some (eh.c.need,.obool (.cb true)):=by kernel_rfl
set_option maxRecDepth 100000 in
theorem walk{H:Type}{enc:TypeId×Value->H}{W:World}{base:Nat}{args:Array Value}{ds:List (DataW H)}{p:List MemPlace}(hA:DataW.TrodAll enc Tryz.prog W 0 (λ_=>true) true (#[]:Array TypeId).toList args.toList ds p)(hthaw:Wl W p)
 (hval: ∀(j:Nat) t v,(#[]:Array TypeId)[j]? =some t->args.toList[j]? =some v->Value.okWide Tryz.prog W .any base t v):
 Calls Tryz.prog 3 args W λe W'=>e= .returned (.bool true)/\Below W.heap.size W W':=by
 obtain⟨e0,rfl,rfl⟩:=trodAll_nil hA;have hu:args=([]:List Value).toArray:=by rw[<-e0]
 rw[hu];exact da9 (x:=eh) (F:=F) GJ (by kernel_rfl) (L:=[]) (cells:=[]) rfl (by kernel_rfl) (by kernel_rfl) (λO I hv=>hv) ans rfl
theorem Vn:laidOutB Tryz.prog=true:=by kernel_rfl
set_option maxRecDepth 100000 in
theorem lifted(os:Os)(started:os.Started)(H:Type)(enc:TypeId×Value->H):
 ReturnsInHanded {} Tryz.checked os 3 .any (Rows.tableKnownSpec.pre6 enc Tryz.prog Tryz.f3 Rows.tableKnownRow.domain false) (Rows.tableKnownSpec.post enc Tryz.prog Tryz.f3 false true false false):=by
 refine returnsInHanded_of_change (C:=Tryz.checked) own started (by kernel_rfl) Tryz.func3
  (ChangeSpec.witness6 (enc:=enc) (C:=Tryz.checked) false ⟨#[],#[],[]⟩ 8 (by kernel_rfl) (by kernel_rfl) (by kernel_rfl) (by kernel_rfl)) ?_
 intro W base args ds gs before hval0 hW hcnd _;have hval: ∀(j:Nat) t v,Tryz.f3.params[j]? =some t->args[j]? =some v->Value.okWide Tryz.prog W .any base t v:=hval0;have hW':=hW;obtain⟨p,q,hA0,hV,rfl,hfz,hnd⟩:=hW;have hA:DataW.TrodAll enc Tryz.prog W 0 (λ_=>true) true Tryz.f3.params.toList args.toList ds p:=hA0;obtain⟨rfl,rfl⟩:=trodVars_none hV;rw[Tryz.params3]at hA hval;have hthaw:Wl W p:=λb off hm=>hfz b off (by simpa using hm)
 refine(walk hA hthaw (λj t v h1 h2=>hval j t v (by simp at h1) (by simp at h1))).mono λe W' ⟨he,hb⟩=> ?_
 subst he;obtain⟨e0,rfl,rfl⟩:=trodAll_nil hA;exact⟨_,rfl,cJ3 hW' rfl rfl Vn (by rw[Tryz.params3];kernel_rfl) hb Tryz.underlying4 (by kernel_rfl)⟩
theorem over:Rows.tableKnownRow.holds Tryz.pinned (OpenSpec.ofChange Rows.tableKnownSpec):=
 OpenClaim.holds_of_wide 3 Tryz.f3 rfl rfl rfl rfl rfl rfl rfl ⟨rfl,rfl,rfl,rfl,rfl⟩ rfl rfl rfl rfl rfl (by kernel_rfl) Tryz.func3 (by kernel_rfl)
  (of_decide_eq_true (by kernel_rfl)) (by unfold Func.isWrapper;first|(rw[if_pos (by decide+kernel)];kernel_rfl)|(rw[if_neg (by decide+kernel)];exact⟨rfl,rfl⟩))
  (λos started H enc _=>lifted os started H enc)
theorem proved:Rows.TableKnownSaid:=over
#print axioms proved
end Go.Proofs.YtcmjiepodnicoaaGreat.lawTableKnown
