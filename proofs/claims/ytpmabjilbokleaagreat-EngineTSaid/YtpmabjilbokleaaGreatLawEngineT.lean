/- The law EngineT answers true at every input, and leaves its arguments as they were. No condition of its own. -/
import Derived.Test.YtpmabjilbokleaaGreatK8
import Derived.ProofKit
set_option linter.unusedVariables false
namespace Go.Proofs.YtpmabjilbokleaaGreat.lawEngineT
open Go Go.Ev Go.ChangeShapes Go.WideShapes Go.ChangeAt Go.RowKit Go.Proofs.YtpmabjilbokleaaGreat.Ctr
theorem own:ownKnob Tryz.prog.godebug=none:=by kernel_rfl
theorem ni{P:Program}{w:World}{r:Reach}{b:Nat}{t:TypeId}{v:Value}(h:su P t=true)(hv:Value.okWide P w r b t v):v.cells.toList=[v]:=by
 obtain⟨e,he⟩:=NE h;unfold Value.okWide at hv;simp only[he]at hv;unfold Cell.okWide at hv;simp only[he]at hv;unfold Cell.ok at hv;simp only[he]at hv;cases v<;>first|rfl|(exfalso;simp at hv)
section
variable{w:World}
theorem nm{L:List Sh}{cells:List Value}{i:Nat}{s:Sh}(hfit:cN (gL w) L cells)(h:L[i]? =some s): ∃v,gL w s v/\mG w (L.getD i (.col .bool)) (cells.getD i (.bool false))=mG w s v:=by
 have hl:=Mb hfit;have hi:=(x8.1 h).1;refine⟨_,Qt hfit h (k8 (show i<cells.length by omega)),?_⟩;rw[j9,h,j9,k8 (show i<cells.length by omega)];rfl
theorem fQ{L:List Sh}{cells:List Value}{i:Nat}{k:IntKind}(hfit:cN (gL w) L cells)(h:L[i]? =some (.col (.int k))):S9.isVi (mG w (L.getD i (.col .bool)) (cells.getD i (.bool false)))=true:=by
 obtain⟨v,hf,e⟩:=nm hfit h;rw[e];obtain⟨n,rfl,_⟩:=hf;rfl
theorem Pq(vs:List Value)(h:gN [.int .u8,.str,.int .i64,.int .i64] vs):S9.opOk (.vl (vs.map BB))=true:=by
 obtain⟨v0,r,rfl,⟨n0,rfl,_⟩,v1,r,rfl,⟨s1,rfl⟩,v2,r,rfl,⟨n2,rfl,_⟩,v3,r,rfl,⟨n3,rfl,m1,m2⟩,h⟩:=h;have h:r=[]:=h;subst h;show(decide (-9223372036854775808<=n3)&&decide (n3<9223372036854775808))=true;have m1: -9223372036854775808<=n3:=m1;have m2:n3<=9223372036854775807:=m2;rw[e9 m1,e9 (by omega)];rfl
theorem pP{L:List Sh}{cells:List Value}{i:Nat}(hfit:cN (gL w) L cells)(h:L[i]? =some (.sl [.int .u8,.str,.int .i64,.int .i64])):S9.opsOk (mG w (L.getD i (.col .bool)) (cells.getD i (.bool false)))=true:=by
 obtain⟨v,hf,e⟩:=nm hfit h;rw[e];rcases hf with rfl|⟨a,len,cap,rfl,_,_,hi,_⟩
 .rfl
 .show(nI w 4 a len).all S9.opOk=true;rw[k6];intro r hr;obtain⟨i,h1,rfl⟩:=j8.1 hr;obtain⟨vs,h2,h3⟩:=hi i (m8.1 h1);have h2:w.cells? 0 (a.add (i*4)) 4=some vs:=h2;rw[h2];exact Pq vs h3
theorem Rk{a b c d e:Bool}(h1:a=true)(h2:b=true)(h3:c=true)(h4:d=true)(h5:e=true):(a&&(b&&(c&&(d&&e))))=true:=by
 subst h1 h2 h3 h4 h5;rfl
end
def shW:List Sh:=[.col (.int .u8),.col (.int .i64),.col (.int .i64),.col (.int .i64)]
def shO:List Sh:=[.sl [.int .u8,.str,.int .i64,.int .i64]]
theorem ans:Go.Ev.Id (fW bd.c bd.nv bd.c.args bd.c.heap)=some (bd.c.need,.obool (.cb true)):=by kernel_rfl
theorem SB(P:Program)(w:World)(L:List Sh)(cells:List Value):(Ba F P w L cells).f=F:=rfl
set_option maxRecDepth 100000 in
theorem walk{H:Type}{enc:TypeId×Value->H}{W:World}{base:Nat}{args:Array Value}{ds:List (DataW H)}{p:List MemPlace}(hA:DataW.TrodAll enc Tryz.prog W 0 (λ_=>true) true (#[23,24]:Array TypeId).toList args.toList ds p)(hthaw:zz W p)
 (hval: ∀(j:Nat) t v,(#[23,24]:Array TypeId)[j]? =some t->args.toList[j]? =some v->Value.okWide Tryz.prog W .any base t v):
 Calls Tryz.prog 3 args W λe W'=>e= .returned (.bool true)/\Below W.heap.size W W':=by
 obtain⟨v0,vs0,d0,ds0,p0,q0,e0,rfl,rfl,h0,r0⟩:=trodAll_cons hA;obtain⟨v1,vs1,d1,ds1,p1,q1,e1,rfl,rfl,h1,r1⟩:=trodAll_cons r0;obtain⟨e3,rfl,rfl⟩:=trodAll_nil r1;have hs0:=hval 0 _ v0 rfl (by rw[e0];rfl);have hs1:=hval 1 _ v1 rfl (by rw[e0,e1];rfl);obtain⟨n0,t0⟩:=h0;obtain⟨n1,t1⟩:=h1;have f0:cN (gL W) shW v0.cells.toList:=PZ (m:=20) (by kernel_rfl) t0 (λb off hm=>hthaw b off (by simp[hm]));have f1:cN (gL W) shO v1.cells.toList:=PZ (m:=20) (by kernel_rfl) t1 (λb off hm=>hthaw b off (by simp[hm]));obtain⟨c0,rfl⟩:=cj9 (by kernel_rfl) hs0;rw[ni (by kernel_rfl) hs1]at f1;have g0:=Mb f0;have hfit:=Qs f0 f1;have hu:args=[Value.agg c0,v1].toArray:=by rw[<-e3,<-e1,<-e0]
 rw[hu];refine d58 (x:=bd) (F:=F) CU (by kernel_rfl) hfit (by kernel_rfl) (by kernel_rfl) (λO I hv=> ?_) ans ?_
 .have a:=aT.take 4 hv;have b:=aT.drop 4 hv;rw[show(Value.agg c0).cells.toList=c0.toList from rfl]at a b;have g0':c0.toList.length=4:=g0;rw[show(4:Nat)=c0.toList.length by rw[g0'],E4]at a;rw[show(4:Nat)=c0.toList.length by rw[g0'],E5]at b;rw[g0']at a b;exact⟨_,_,rfl,⟨c0,rfl,a⟩,b⟩
 .exact Rk (fQ (i:=0) hfit rfl) (fQ (i:=1) hfit rfl) (fQ (i:=2) hfit rfl) (fQ (i:=3) hfit rfl) (pP (i:=4) hfit rfl)
theorem MG:laidOutB Tryz.prog=true:=by kernel_rfl
set_option maxRecDepth 100000 in
theorem lifted(os:Os)(started:os.Started)(H:Type)(enc:TypeId×Value->H):
 ReturnsInHanded {} Tryz.checked os 3 .any (Rows.engineTSpec.pre6 enc Tryz.prog Tryz.f3 Rows.engineTRow.domain false) (Rows.engineTSpec.post enc Tryz.prog Tryz.f3 false true false false):=by
 refine returnsInHanded_of_change (C:=Tryz.checked) own started (by kernel_rfl) Tryz.func3
  (ChangeSpec.witness6 (enc:=enc) (C:=Tryz.checked) false ⟨#[],#[.agg #[.int .u8 0,.int .i64 0,.int .i64 0,.int .i64 0],.slice none 0 0],[]⟩ 8 (by kernel_rfl) (by kernel_rfl) (by kernel_rfl) (by kernel_rfl)) ?_
 intro W base args ds gs before hval0 hW hcnd _;have hval: ∀(j:Nat) t v,Tryz.f3.params[j]? =some t->args[j]? =some v->Value.okWide Tryz.prog W .any base t v:=hval0;have hW':=hW;obtain⟨p,q,hA0,hV,rfl,hfz,hnd⟩:=hW;have hA:DataW.TrodAll enc Tryz.prog W 0 (λ_=>true) true Tryz.f3.params.toList args.toList ds p:=hA0;obtain⟨rfl,rfl⟩:=trodVars_none hV;rw[Tryz.params3]at hA hval;have hthaw:zz W p:=λb off hm=>hfz b off (by simpa using hm)
 refine(walk hA hthaw (λj t v h1 h2=>hval j t v (by simpa using h1) (by simpa using h2))).mono λe W' ⟨he,hb⟩=> ?_
 subst he;obtain⟨v0,vs0,d0,ds0,p0,q0,e0,rfl,rfl,h0,r0⟩:=trodAll_cons hA;obtain⟨v1,vs1,d1,ds1,p1,q1,e1,rfl,rfl,h1,r1⟩:=trodAll_cons r0;obtain⟨e2,rfl,rfl⟩:=trodAll_nil r1;exact⟨_,rfl,cE9 hW' rfl rfl MG (by rw[Tryz.params3];kernel_rfl) hb Tryz.underlying4 (by kernel_rfl)⟩
theorem over:Rows.engineTRow.holds Tryz.pinned (OpenSpec.ofChange Rows.engineTSpec):=
 OpenClaim.holds_of_wide 3 Tryz.f3 rfl rfl rfl rfl rfl rfl rfl ⟨rfl,rfl,rfl,rfl,rfl⟩ rfl rfl rfl rfl rfl (by kernel_rfl) Tryz.func3 (by kernel_rfl)
  (of_decide_eq_true (by kernel_rfl)) (by unfold Func.isWrapper;first|(rw[if_pos (by decide+kernel)];kernel_rfl)|(rw[if_neg (by decide+kernel)];exact⟨rfl,rfl⟩))
  (λos started H enc _=>lifted os started H enc)
theorem proved:Rows.EngineTSaid:=over
#print axioms proved
end Go.Proofs.YtpmabjilbokleaaGreat.lawEngineT
