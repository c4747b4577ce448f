/- The law EngineEpochs answers true at every input, and leaves its arguments as they were. No condition of its own. -/
import Derived.Test.YtgeohopencabkaaGreatK8
import Derived.ProofKit
set_option linter.all false
namespace Go.Proofs.YtgeohopencabkaaGreat.lawEngineEpochs
open Go Go.Ev Go.ChangeShapes Go.WideShapes Go.ChangeAt Go.RowKit Go.Proofs.YtgeohopencabkaaGreat.Ctr
theorem own:ownKnob Tryz.prog.godebug=none:=by kernel_rfl
theorem qB{P:yJ}{w:Ac}{r:Reach}{b:Nat}{t:zX}{v:Zl}(h:xV P t=true)(hv:Value.okWide P w r b t v):v.cells.toList=[v]:=by obtain⟨e,he⟩:=TE h;unfold Value.okWide at hv;simp only[he]at hv;unfold Cell.okWide at hv;simp only[he]at hv;unfold Cell.ok at hv;simp only[he]at hv;cases v<;>first|rfl|(exfalso;simp at hv)
section
variable{w:Ac}
theorem qW{L:List Sh}{cells:List Zl}{i:Nat}{s:Sh}(hfit:fM (kD w) L cells)(h:L[i]? =some s): ∃v,kD w s v/\qR w (L.getD i (.col .bool)) (cells.getD i (.bool false))=qR w s v:=by have hl:=QV hfit;have hi:=(A6.1 h).1;refine⟨_,PT hfit h (m7 (show i<cells.length by omega)),?_⟩;rw[k5,h,k5,m7 (show i<cells.length by omega)];rfl
theorem fO{L:List Sh}{cells:List Zl}{i:Nat}{k:IntKind}(hfit:fM (kD w) L cells)(h:L[i]? =some (.col (.int k))): ∃n,qR w (L.getD i (.col .bool)) (cells.getD i (.bool false))= .D n:=by obtain⟨v,hf,e⟩:=qW hfit h;rw[e];obtain⟨n,rfl,_⟩:=hf;exact⟨n,rfl⟩
theorem Gj(vs:List Zl)(h:kR [.bool,.int .u8,.str,.int .i64,.int .i64,.int .i64] vs): ∃y:S9.ActM,Val.A (vs.map Do)=S9.actV y/\S9.inI y.2.1.2.2.2:=by obtain⟨v,r,rfl,⟨b,rfl⟩,v0,r,rfl,⟨n0,rfl,_⟩,v1,r,rfl,⟨s1,rfl⟩,v2,r,rfl,⟨n2,rfl,_⟩,v3,r,rfl,⟨n3,rfl,m1,m2⟩,v4,r,rfl,⟨n4,rfl,_⟩,h⟩:=h;have h:r=[]:=h;subst h;have m1: -9223372036854775808<=n3:=m1;have m2:n3<=9223372036854775807:=m2;exact⟨(b,(n0,_,n2,n3),n4),rfl,m1,by show n3<9223372036854775808;omega⟩
theorem mU: ∀rs:U7,(∀r∈rs,∃y:S9.ActM,r=S9.actV y/\S9.inI y.2.1.2.2.2)-> ∃l:List S9.ActM,rs=l.map S9.actV/\ ∀x∈l,S9.inI x.2.1.2.2.2
 | [],_=>⟨[],rfl,λ_ h=>(by cases h)⟩
 |r::rs,h=>by
  obtain⟨y,e,hy⟩:=h r A7;obtain⟨l,e2,hl⟩:=mU rs λr hr=>h r (y9 _ hr)
  refine⟨y::l,by rw[e,e2];rfl,λx hx=> ?_⟩;rcases p7.1 hx with rfl|hx
  exact hy;exact hl x hx
theorem pE{L:List Sh}{cells:List Zl}{i:Nat}(hfit:fM (kD w) L cells)(h:L[i]? =some (.sl [.bool,.int .u8,.str,.int .i64,.int .i64,.int .i64])): ∃l:List S9.ActM,qR w (L.getD i (.col .bool)) (cells.getD i (.bool false))= .A (l.map S9.actV)/\ ∀x∈l,S9.inI x.2.1.2.2.2:=by
 obtain⟨v,hf,e⟩:=qW hfit h;rw[e];rcases hf with rfl|⟨a,len,cap,rfl,_,_,hi,_⟩
 exact⟨[],rfl,λ_ h=>(by cases h)⟩
 obtain⟨l,e2,hl⟩:=mU (sS w 6 a len) λr hr=>by obtain⟨i,h1,rfl⟩:=k6.1 hr;obtain⟨vs,h2,h3⟩:=hi i (o7.1 h1);have h2:w.cells? 0 (a.add (i*6)) 6=some vs:=h2;rw[h2];exact Gj vs h3
 exact⟨l,congrArg Val.A e2,hl⟩
theorem key{a0 a1 a2 a3 a4 a5 a6:Val}(h0: ∃n,a0= .D n)(h1: ∃n,a1= .D n)(h2: ∃n,a2= .D n)(h3: ∃n,a3= .D n)(h4: ∃n,a4= .D n)(h5: ∃n,a5= .D n)(h6: ∃l:List S9.ActM,a6= .A (l.map S9.actV)/\ ∀x∈l,S9.inI x.2.1.2.2.2):(F 979 [a0,a1,a2,a3,a4,a5,a6]).Z=true:=by obtain⟨n0,rfl⟩:=h0;obtain⟨n1,rfl⟩:=h1;obtain⟨n2,rfl⟩:=h2;obtain⟨n3,rfl⟩:=h3;obtain⟨n4,rfl⟩:=h4;obtain⟨n5,rfl⟩:=h5;obtain⟨l,rfl,h6⟩:=h6;exact S9.bP_iff.2 ⟨n0,n1,n2,n3,n4,n5,l,rfl,h6⟩
end
def shC:List Sh:=[.col (.int .u8),.col (.int .i64),.col (.int .i64),.col (.int .i64),.col (.int .i64),.col (.int .i64)]
def shA:List Sh:=[.sl [.bool,.int .u8,.str,.int .i64,.int .i64,.int .i64]]
theorem ans:IL (jN cW.c cW.nv cW.c.args cW.c.heap)=some (cW.c.N,.H (.cb true)):=by kernel_rfl
set_option maxRecDepth 100000 in
theorem walk{H:Type}{enc:zX×Zl->H}{W:Ac}{base:Nat}{args:Array Zl}{ds:List (DataW H)}{p:aa4}(hA:DataW.TrodAll enc Tryz.prog W 0 (λ_=>true) true (#[25,26]:Array zX).toList args.toList ds p)(hthaw:HU W p)
 (hval: ∀(j:Nat) t v,(#[25,26]:Array zX)[j]? =some t->args.toList[j]? =some v->Value.okWide Tryz.prog W .any base t v):
 Calls Tryz.prog 3 args W λe W'=>e= .returned (.bool true)/\Below W.heap.size W W':=by
 obtain⟨v0,vs0,d0,ds0,p0,q0,e0,rfl,rfl,h0,r0⟩:=trodAll_cons hA;obtain⟨v1,vs1,d1,ds1,p1,q1,e1,rfl,rfl,h1,r1⟩:=trodAll_cons r0;obtain⟨e2,rfl,rfl⟩:=trodAll_nil r1;have hs0:=hval 0 _ v0 rfl (by rw[e0];rfl);have hs1:=hval 1 _ v1 rfl (by rw[e0,e1];rfl);obtain⟨n0,t0⟩:=h0;obtain⟨n1,t1⟩:=h1;have f0:fM (kD W) shC v0.cells.toList:=Rd (m:=20) (by kernel_rfl) t0 (λb off hm=>hthaw b off (by simp[hm]));have f1:fM (kD W) shA v1.cells.toList:=Rd (m:=20) (by kernel_rfl) t1 (λb off hm=>hthaw b off (by simp[hm]));obtain⟨c0,rfl⟩:=cz0 (by kernel_rfl) hs0;rw[qB (by kernel_rfl) hs1]at f1;have g0:=QV f0;have hfit:=Of f0 f1;have hu:args=[Value.agg c0,v1].toArray:=by rw[<-e2,<-e1,<-e0]
 rw[hu];refine ds4 (x:=cW) (F:=F) aau (by kernel_rfl) hfit (by kernel_rfl) (by kernel_rfl) (λO I hv=> ?_) ans ?_;have a:=co.take 6 hv;have b:=co.drop 6 hv;rw[show(Value.agg c0).cells.toList=c0.toList from rfl]at a b;have g0':c0.toList.length=6:=g0;rw[show(6:Nat)=c0.toList.length by rw[g0'],G1]at a;rw[show(6:Nat)=c0.toList.length by rw[g0'],G2]at b;rw[g0']at a b;exact⟨_,_,rfl,⟨c0,rfl,a⟩,b⟩;exact key (fO (i:=0) hfit rfl) (fO (i:=1) hfit rfl) (fO (i:=2) hfit rfl) (fO (i:=3) hfit rfl) (fO (i:=4) hfit rfl) (fO (i:=5) hfit rfl) (pE (i:=6) hfit rfl)
theorem OV:laidOutB Tryz.prog=true:=by kernel_rfl
set_option maxRecDepth 100000 in
theorem lifted(os:Os)(started:os.Started)(H:Type)(enc:zX×Zl->H):
 ReturnsInHanded {} Tryz.checked os 3 .any (Rows.engineEpochsSpec.pre6 enc Tryz.prog Tryz.f3 Rows.engineEpochsRow.domain false) (Rows.engineEpochsSpec.post enc Tryz.prog Tryz.f3 false true false false):=by
 refine returnsInHanded_of_change (C:=Tryz.checked) own started (by kernel_rfl) Tryz.func3
  (ChangeSpec.witness6 (enc:=enc) (C:=Tryz.checked) false ⟨#[],#[.agg #[.int .u8 0,.int .i64 0,.int .i64 0,.int .i64 0,.int .i64 0,.int .i64 0],.slice none 0 0],[]⟩ 8 (by kernel_rfl) (by kernel_rfl) (by kernel_rfl) (by kernel_rfl)) ?_
 intro W base args ds gs before hval0 hW hcnd _;have hval: ∀(j:Nat) t v,Tryz.f3.params[j]? =some t->args[j]? =some v->Value.okWide Tryz.prog W .any base t v:=hval0;have hW':=hW;obtain⟨p,q,hA0,hV,rfl,hfz,hnd⟩:=hW;have hA:DataW.TrodAll enc Tryz.prog W 0 (λ_=>true) true Tryz.f3.params.toList args.toList ds p:=hA0;obtain⟨rfl,rfl⟩:=trodVars_none hV;rw[Tryz.params3]at hA hval;have hthaw:HU W p:=λb off hm=>hfz b off (by simpa using hm)
 refine(walk hA hthaw (λj t v h1 h2=>hval j t v (by simpa using h1) (by simpa using h2))).mono λe W' ⟨he,hb⟩=> ?_
 subst he;obtain⟨v0,vs0,d0,ds0,p0,q0,e0,rfl,rfl,h0,r0⟩:=trodAll_cons hA;obtain⟨v1,vs1,d1,ds1,p1,q1,e1,rfl,rfl,h1,r1⟩:=trodAll_cons r0;obtain⟨e2,rfl,rfl⟩:=trodAll_nil r1;exact⟨_,rfl,cY8 hW' rfl rfl OV (by rw[Tryz.params3];kernel_rfl) hb Tryz.underlying4 (by kernel_rfl)⟩
theorem over:Rows.engineEpochsRow.holds Tryz.pinned (OpenSpec.ofChange Rows.engineEpochsSpec):=
 OpenClaim.holds_of_wide 3 Tryz.f3 rfl rfl rfl rfl rfl rfl rfl ⟨rfl,rfl,rfl,rfl,rfl⟩ rfl rfl rfl rfl rfl (by kernel_rfl) Tryz.func3 (by kernel_rfl)
  (of_decide_eq_true (by kernel_rfl)) (by unfold Func.isWrapper;first|(rw[if_pos (by decide+kernel)];kernel_rfl)|(rw[if_neg (by decide+kernel)];exact⟨rfl,rfl⟩))
  (λos started H enc _=>lifted os started H enc)
theorem proved:Rows.EngineEpochsSaid:=over
#print axioms proved
end Go.Proofs.YtgeohopencabkaaGreat.lawEngineEpochs
