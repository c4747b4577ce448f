/- The law TableOrder answers true at every input, and leaves its arguments as they were. No condition of its own. -/
import Derived.Test.YtdbiooidpgafaaaGreatK8
import Derived.Test.YtdbiooidpgafaaaGreatE42
import Derived.ProofKit
set_option linter.unusedVariables false
namespace Go.Proofs.YtdbiooidpgafaaaGreat.lawTableOrder
open Go Go.Ev Go.ChangeShapes Go.WideShapes Go.ChangeAt Go.RowKit Go.Proofs.YtdbiooidpgafaaaGreat.Ctr
theorem own:ownKnob Tryz.prog.godebug=none:=by kernel_rfl
theorem sliceVal{P:Program}{w:World}{r:Reach}{b:Nat}{t:TypeId}{v:Value}(h:aJ7 P t=true)(hv:Value.okWide P w r b t v):v.cells.toList=[v]:=by
 obtain⟨e,he⟩:=aM2 h
 unfold Value.okWide at hv
 simp only[he]at hv
 unfold Cell.okWide at hv
 simp only[he]at hv
 unfold Cell.ok at hv
 simp only[he]at hv
 cases v<;>first|rfl|(exfalso;simp at hv)
theorem intVal{P:Program}{w:World}{r:Reach}{b:Nat}{t:TypeId}{v:Value}(h:P.underlying t=some (.int .i64))(hv:Value.okWide P w r b t v):v.cells.toList=[v]:=by
 unfold Value.okWide at hv
 simp only[h]at hv
 unfold Cell.okWide at hv
 simp only[h]at hv
 unfold Cell.ok at hv
 simp only[h]at hv
 cases v<;>first|rfl|(exfalso;simp at hv)
section
variable{w:World}
theorem sym_at{L:List Sh}{cells:List Value}{i:Nat}{s:Sh}(hfit:a41 (bi9 w) L cells)(h:L[i]? =some s): ∃v,bi9 w s v∧ca2 w (L.getD i (.col .bool)) (cells.getD i (.bool false))=ca2 w s v:=by
 have hl:=ac6 hfit
 have hi:=(m9.1 h).1
 refine⟨_,b63 hfit h (j8 (show i<cells.length by omega)),?_⟩
 rw[i6,h,i6,j8 (show i<cells.length by omega)];rfl
theorem sym_vi{L:List Sh}{cells:List Value}{i:Nat}{k:IntKind}(hfit:a41 (bi9 w) L cells)(h:L[i]? =some (.col (.int k))):S9.isVi (ca2 w (L.getD i (.col .bool)) (cells.getD i (.bool false)))=true:=by
 obtain⟨v,hf,e⟩:=sym_at hfit h
 rw[e]
 obtain⟨n,rfl,_⟩:=hf
 rfl
theorem q_op(vs:List Value)(h:cv1 [.int .u8,.str,.int .i64,.int .i64] vs):S9.opOk (.vl (vs.map cV2))=true:=by
 obtain⟨v0,r,rfl,⟨n0,rfl,_⟩,v1,r,rfl,⟨s1,rfl⟩,v2,r,rfl,⟨n2,rfl,_⟩,v3,r,rfl,⟨n3,rfl,m1,m2⟩,h⟩:=h
 have h:r=[]:=h
 subst h
 show(decide (-9223372036854775808≤n3)&&decide (n3<9223372036854775808))=true
 have m1: -9223372036854775808≤n3:=m1
 have m2:n3≤9223372036854775807:=m2
 rw[decide_eq_true m1,decide_eq_true (by omega)];rfl
theorem sym_ops{L:List Sh}{cells:List Value}{i:Nat}(hfit:a41 (bi9 w) L cells)(h:L[i]? =some (.sl [.int .u8,.str,.int .i64,.int .i64])):S9.opsOk (ca2 w (L.getD i (.col .bool)) (cells.getD i (.bool false)))=true:=by
 obtain⟨v,hf,e⟩:=sym_at hfit h
 rw[e]
 rcases hf with rfl|⟨a,len,cap,rfl,_,_,hi,_⟩
 ·rfl
 ·show(aV3 w 4 a len).all S9.opOk=true
  rw[j5]
  intro r hr
  obtain⟨i,h1,rfl⟩:=j6.1 hr
  obtain⟨vs,h2,h3⟩:=hi i (s9.1 h1)
  have h2:w.cells? 0 (a.add (i*4)) 4=some vs:=h2
  rw[h2]
  exact q_op vs h3
theorem and6{a b c d e f:Bool}(h1:a=true)(h2:b=true)(h3:c=true)(h4:d=true)(h5:e=true)(h6:f=true):(a&&(b&&(c&&(d&&(e&&f)))))=true:=by
 subst h1 h2 h3 h4 h5 h6;rfl
end
def shW:List Sh:=[.col (.int .u8),.col (.int .i64),.col (.int .i64),.col (.int .i64)]
def shO:List Sh:=[.sl [.int .u8,.str,.int .i64,.int .i64]]
def shI:List Sh:=[.col (.int .i64)]
theorem ans:b65 (a42 h_order.c h_order.nv h_order.c.args h_order.c.heap)=some (h_order.c.need,.obool (.cb true)):=by kernel_rfl
theorem opq_f(P:Program)(w:World)(L:List Sh)(cells:List Value):(bj1 F P w L cells).f=F:=rfl
set_option maxRecDepth 100000 in
theorem walk{H:Type}{enc:TypeId×Value→H}{W:World}{base:Nat}{args:Array Value}{ds:List (DataW H)}{p:List MemPlace}(hA:DataW.TrodAll enc Tryz.prog W 0 (fun _=>true) true (#[23,24,3]:Array TypeId).toList args.toList ds p)(hthaw:d51 W p)
 (hval: ∀(j:Nat) t v,(#[23,24,3]:Array TypeId)[j]? =some t→args.toList[j]? =some v→Value.okWide Tryz.prog W .any base t v):
 Calls Tryz.prog 3 args W fun e W'=>e= .returned (.bool true)∧Below W.heap.size W W':=by
 obtain⟨v0,vs0,d0,ds0,p0,q0,e0,rfl,rfl,h0,r0⟩:=trodAll_cons hA
 obtain⟨v1,vs1,d1,ds1,p1,q1,e1,rfl,rfl,h1,r1⟩:=trodAll_cons r0
 obtain⟨v2,vs2,d2,ds2,p2,q2,e2,rfl,rfl,h2,r2⟩:=trodAll_cons r1
 obtain⟨e3,rfl,rfl⟩:=trodAll_nil r2
 have hs0:=hval 0 _ v0 rfl (by rw[e0];rfl)
 have hs1:=hval 1 _ v1 rfl (by rw[e0,e1];rfl)
 have hs2:=hval 2 _ v2 rfl (by rw[e0,e1,e2];rfl)
 obtain⟨n0,t0⟩:=h0
 obtain⟨n1,t1⟩:=h1
 obtain⟨n2,t2⟩:=h2
 have f0:a41 (bi9 W) shW v0.cells.toList:=b62 (m:=20) (by kernel_rfl) t0 (fun b off hm=>hthaw b off (by simp[hm]))
 have f1:a41 (bi9 W) shO v1.cells.toList:=b62 (m:=20) (by kernel_rfl) t1 (fun b off hm=>hthaw b off (by simp[hm]))
 have f2:a41 (bi9 W) shI v2.cells.toList:=b62 (m:=20) (by kernel_rfl) t2 (fun b off hm=>hthaw b off (by simp[hm]))
 obtain⟨c0,rfl⟩:=ca5 (by kernel_rfl) hs0
 rw[sliceVal (by kernel_rfl) hs1]at f1
 rw[intVal (by kernel_rfl) hs2]at f2
 have g0:=ac6 f0
 have hfit:=aw8 f0 (aw8 f1 f2)
 have hu:args=[Value.agg c0,v1,v2].toArray:=by rw[←e3,←e2,←e1,←e0]
 rw[hu]
 refine cO1 (x:=h_order) (F:=F) k_law (by kernel_rfl) hfit (by kernel_rfl) (by kernel_rfl) (fun β ω hv=> ?_) ans ?_
 ·have a:=VRs.take 4 hv
  have b:=VRs.drop 4 hv
  rw[show(Value.agg c0).cells.toList=c0.toList from rfl]at a b
  have g0':c0.toList.length=4:=g0
  rw[show(4:Nat)=c0.toList.length by rw[g0'],G2]at a
  rw[show(4:Nat)=c0.toList.length by rw[g0'],G3]at b
  rw[g0']at a b
  exact⟨_,_,rfl,⟨c0,rfl,a⟩,b⟩
 ·exact and6 (sym_vi (i:=0) hfit rfl) (sym_vi (i:=1) hfit rfl) (sym_vi (i:=2) hfit rfl) (sym_vi (i:=3) hfit rfl) (sym_vi (i:=5) hfit rfl) (sym_ops (i:=4) hfit rfl)
theorem laid:laidOutB Tryz.prog=true:=by kernel_rfl
set_option maxRecDepth 100000 in
theorem lifted(os:Os)(started:os.Started)(H:Type)(enc:TypeId×Value→H):
 ReturnsInHanded {} Tryz.checked os 3 .any (Rows.tableOrderSpec.pre6 enc Tryz.prog Tryz.f3 Rows.tableOrderRow.domain false) (Rows.tableOrderSpec.post enc Tryz.prog Tryz.f3 false true false false):=by
 refine returnsInHanded_of_change (C:=Tryz.checked) own started (by kernel_rfl) Tryz.func3
   (ChangeSpec.witness6 (enc:=enc) (C:=Tryz.checked) false ⟨#[],#[.agg #[.int .u8 0,.int .i64 0,.int .i64 0,.int .i64 0],.slice none 0 0,.int .i64 0],[]⟩ 8 (by kernel_rfl) (by kernel_rfl) (by kernel_rfl) (by kernel_rfl)) ?_
 intro W base args ds gs before hval0 hW hcnd _
 have hval: ∀(j:Nat) t v,Tryz.f3.params[j]? =some t→args[j]? =some v→Value.okWide Tryz.prog W .any base t v:=hval0
 have hW':=hW
 obtain⟨p,q,hA0,hV,rfl,hfz,hnd⟩:=hW
 have hA:DataW.TrodAll enc Tryz.prog W 0 (fun _=>true) true Tryz.f3.params.toList args.toList ds p:=hA0
 obtain⟨rfl,rfl⟩:=trodVars_none hV
 rw[Tryz.params3]at hA hval
 have hthaw:d51 W p:=fun b off hm=>hfz b off (by simpa using hm)
 refine(walk hA hthaw (fun j t v h1 h2=>hval j t v (by simpa using h1) (by simpa using h2))).mono fun e W' ⟨he,hb⟩=> ?_
 subst he
 obtain⟨v0,vs0,d0,ds0,p0,q0,e0,rfl,rfl,h0,r0⟩:=trodAll_cons hA
 obtain⟨v1,vs1,d1,ds1,p1,q1,e1,rfl,rfl,h1,r1⟩:=trodAll_cons r0
 obtain⟨v2,vs2,d2,ds2,p2,q2,e2,rfl,rfl,h2,r2⟩:=trodAll_cons r1
 obtain⟨e3,rfl,rfl⟩:=trodAll_nil r2
 exact⟨_,rfl,ct1 hW' rfl rfl laid (by rw[Tryz.params3];kernel_rfl) hb Tryz.underlying4 (by kernel_rfl)⟩
theorem over:Rows.tableOrderRow.holds Tryz.pinned (OpenSpec.ofChange Rows.tableOrderSpec):=
 OpenClaim.holds_of_wide 3 Tryz.f3 rfl rfl rfl rfl rfl rfl rfl ⟨rfl,rfl,rfl,rfl,rfl⟩ rfl rfl rfl rfl rfl (by kernel_rfl) Tryz.func3 (by kernel_rfl)
   (of_decide_eq_true (by kernel_rfl)) (by unfold Func.isWrapper;first|(rw[if_pos (by decide+kernel)];kernel_rfl)|(rw[if_neg (by decide+kernel)];exact⟨rfl,rfl⟩))
   (fun os started H enc _=>lifted os started H enc)
theorem proved:Rows.TableOrderSaid:=over
#print axioms proved
end Go.Proofs.YtdbiooidpgafaaaGreat.lawTableOrder
