/- The law TablePuts answers true at every input, and leaves its arguments as they were. No condition of its own. -/
import Derived.Test.YtipefnncbnbliaaGreatK8
import Derived.ProofKit
set_option linter.unusedVariables false
namespace Go.Proofs.YtipefnncbnbliaaGreat.lawTablePuts
open Go Go.Ev Go.ChangeShapes Go.WideShapes Go.ChangeAt Go.RowKit Go.Proofs.YtipefnncbnbliaaGreat.Ctr
theorem own:ownKnob Tryz.prog.godebug=none:=by kernel_rfl
theorem ph{P:Program}{w:World}{r:Reach}{b:Nat}{t:TypeId}{v:Value}(h:yz P t=true)(hv:Value.okWide P w r b t v):v.cells.toList=[v]:=by
 obtain⟨e,he⟩:=Tq h;unfold Value.okWide at hv;simp only[he]at hv;unfold Cell.okWide at hv;simp only[he]at hv;unfold Cell.ok at hv;simp only[he]at hv;cases v<;>first|rfl|(exfalso;simp at hv)
theorem yS{P:Program}{w:World}{r:Reach}{b:Nat}{t:TypeId}{v:Value}(h:P.underlying t=some (.int .i64))(hv:Value.okWide P w r b t v):v.cells.toList=[v]:=by
 unfold Value.okWide at hv;simp only[h]at hv;unfold Cell.okWide at hv;simp only[h]at hv;unfold Cell.ok at hv;simp only[h]at hv;cases v<;>first|rfl|(exfalso;simp at hv)
section
variable{w:World}
theorem qF{L:List Sh}{cells:List Value}{i:Nat}{s:Sh}(hfit:fF (kd w) L cells)(h:L[i]? =some s): ∃v,kd w s v/\pQ w (L.getD i (.col .bool)) (cells.getD i (.bool false))=pQ w s v:=by
 have hl:=Nr hfit;have hi:=(A0.1 h).1;refine⟨_,NZ hfit h (k9 (show i<cells.length by omega)),?_⟩;rw[j9,h,j9,k9 (show i<cells.length by omega)];rfl
theorem jF{L:List Sh}{cells:List Value}{i:Nat}{k:IntKind}(hfit:fF (kd w) L cells)(h:L[i]? =some (.col (.int k))):S9.isVi (pQ w (L.getD i (.col .bool)) (cells.getD i (.bool false)))=true:=by
 obtain⟨v,hf,e⟩:=qF hfit h;rw[e];obtain⟨n,rfl,_⟩:=hf;rfl
theorem Ss(vs:List Value)(h:kM [.int .u8,.str,.int .i64,.int .i64] vs):S9.opOk (.vl (vs.map Gr))=true:=by
 obtain⟨v0,r,rfl,⟨n0,rfl,_⟩,v1,r,rfl,⟨s1,rfl⟩,v2,r,rfl,⟨n2,rfl,_⟩,v3,r,rfl,⟨n3,rfl,m1,m2⟩,h⟩:=h;have h:r=[]:=h;subst h;show(decide (-9223372036854775808<=n3)&&decide (n3<9223372036854775808))=true;have m1: -9223372036854775808<=n3:=m1;have m2:n3<=9223372036854775807:=m2;rw[e9 m1,e9 (by omega)];rfl
theorem tE{L:List Sh}{cells:List Value}{i:Nat}(hfit:fF (kd w) L cells)(h:L[i]? =some (.sl [.int .u8,.str,.int .i64,.int .i64])):S9.opsOk (pQ w (L.getD i (.col .bool)) (cells.getD i (.bool false)))=true:=by
 obtain⟨v,hf,e⟩:=qF hfit h;rw[e];rcases hf with rfl|⟨a,len,cap,rfl,_,_,hi,_⟩
 .rfl
 .show(rK w 4 a len).all S9.opOk=true;rw[k6];intro r hr;obtain⟨i,h1,rfl⟩:=j8.1 hr;obtain⟨vs,h2,h3⟩:=hi i (o8.1 h1);have h2:w.cells? 0 (a.add (i*4)) 4=some vs:=h2;rw[h2];exact Ss vs h3
theorem PQ{a b c d e:Bool}(h1:a=true)(h2:b=true)(h3:c=true)(h4:d=true)(h5:e=true):(a&&(b&&(c&&(d&&e))))=true:=by
 subst h1 h2 h3 h4 h5;rfl
end
def shW:List Sh:=[.col (.int .u8),.col (.int .i64),.col (.int .i64),.col (.int .i64)]
def shO:List Sh:=[.sl [.int .u8,.str,.int .i64,.int .i64]]
def shI:List Sh:=[.col (.int .i64)]
def shP:List Sh:=[.col .str,.col (.int .i64),.col (.int .i64)]
theorem ans:IF (jQ eu.c eu.nv eu.c.args eu.c.heap)=some (eu.c.need,.obool (.cb true)):=by kernel_rfl
theorem Vv(P:Program)(w:World)(L:List Sh)(cells:List Value):(Ds F P w L cells).f=F:=rfl
set_option maxRecDepth 100000 in
theorem walk{H:Type}{enc:TypeId×Value->H}{W:World}{base:Nat}{args:Array Value}{ds:List (DataW H)}{p:List MemPlace}(hA:DataW.TrodAll enc Tryz.prog W 0 (λ_=>true) true (#[23,24,2,26]:Array TypeId).toList args.toList ds p)(hthaw:Dw W p)
 (hval: ∀(j:Nat) t v,(#[23,24,2,26]:Array TypeId)[j]? =some t->args.toList[j]? =some v->Value.okWide Tryz.prog W .any base t v):
 Calls Tryz.prog 3 args W λe W'=>e= .returned (.bool true)/\Below W.heap.size W W':=by
 obtain⟨v0,vs0,d0,ds0,p0,q0,e0,rfl,rfl,h0,r0⟩:=trodAll_cons hA;obtain⟨v1,vs1,d1,ds1,p1,q1,e1,rfl,rfl,h1,r1⟩:=trodAll_cons r0;obtain⟨v2,vs2,d2,ds2,p2,q2,e2,rfl,rfl,h2,r2⟩:=trodAll_cons r1;obtain⟨v3,vs3,d3,ds3,p3,q3,e3,rfl,rfl,h3,r3⟩:=trodAll_cons r2;obtain⟨e4,rfl,rfl⟩:=trodAll_nil r3;have hs0:=hval 0 _ v0 rfl (by rw[e0];rfl);have hs1:=hval 1 _ v1 rfl (by rw[e0,e1];rfl);have hs2:=hval 2 _ v2 rfl (by rw[e0,e1,e2];rfl);have hs3:=hval 3 _ v3 rfl (by rw[e0,e1,e2,e3];rfl);obtain⟨n0,t0⟩:=h0;obtain⟨n1,t1⟩:=h1;obtain⟨n2,t2⟩:=h2;obtain⟨n3,t3⟩:=h3;have f0:fF (kd W) shW v0.cells.toList:=GL (m:=20) (by kernel_rfl) t0 (λb off hm=>hthaw b off (by simp[hm]));have f1:fF (kd W) shO v1.cells.toList:=GL (m:=20) (by kernel_rfl) t1 (λb off hm=>hthaw b off (by simp[hm]));have f2:fF (kd W) shI v2.cells.toList:=GL (m:=20) (by kernel_rfl) t2 (λb off hm=>hthaw b off (by simp[hm]));have f3:fF (kd W) shP v3.cells.toList:=GL (m:=20) (by kernel_rfl) t3 (λb off hm=>hthaw b off (by simp[hm]));obtain⟨c0,rfl⟩:=bw2 (by kernel_rfl) hs0;obtain⟨c3,rfl⟩:=bw2 (by kernel_rfl) hs3;rw[ph (by kernel_rfl) hs1]at f1;rw[yS (by kernel_rfl) hs2]at f2;have g0:=Nr f0;have hfit:=DD f0 (DD f1 (DD f2 f3));have hu:args=[Value.agg c0,v1,v2,Value.agg c3].toArray:=by rw[<-e4,<-e3,<-e2,<-e1,<-e0]
 rw[hu];refine df7 (x:=eu) (F:=F) Dm (by kernel_rfl) hfit (by kernel_rfl) (by kernel_rfl) (λO I hv=> ?_) ans ?_
 .have a:=cj.take 4 hv;have b:=cj.drop 4 hv;rw[show(Value.agg c0).cells.toList=c0.toList from rfl]at a b;have g0':c0.toList.length=4:=g0;rw[show(4:Nat)=c0.toList.length by rw[g0'],F9]at a;rw[show(4:Nat)=c0.toList.length by rw[g0'],G0]at b;rw[g0']at a b;obtain⟨x1,y1,z1,q1,x2,y2,z2,q2,q3⟩:=b;cases z1;cases z2;exact⟨_,_,rfl,⟨c0,rfl,a⟩,_,_,rfl,q1,_,_,rfl,q2,_,_,rfl,⟨c3,rfl,q3⟩,rfl⟩
 .exact PQ (jF (i:=0) hfit rfl) (jF (i:=1) hfit rfl) (jF (i:=2) hfit rfl) (jF (i:=3) hfit rfl) (tE (i:=4) hfit rfl)
theorem Ul:laidOutB Tryz.prog=true:=by kernel_rfl
set_option maxRecDepth 100000 in
theorem lifted(os:Os)(started:os.Started)(H:Type)(enc:TypeId×Value->H):
 ReturnsInHanded {} Tryz.checked os 3 .any (Rows.tablePutsSpec.pre6 enc Tryz.prog Tryz.f3 Rows.tablePutsRow.domain false) (Rows.tablePutsSpec.post enc Tryz.prog Tryz.f3 false true false false):=by
 refine returnsInHanded_of_change (C:=Tryz.checked) own started (by kernel_rfl) Tryz.func3
  (ChangeSpec.witness6 (enc:=enc) (C:=Tryz.checked) false ⟨#[],#[.agg #[.int .u8 0,.int .i64 0,.int .i64 0,.int .i64 0],.slice none 0 0,.int .i64 0,.agg #[.string ⟨#[]⟩,.int .i64 0,.int .i64 0]],[]⟩ 8 (by kernel_rfl) (by kernel_rfl) (by kernel_rfl) (by kernel_rfl)) ?_
 intro W base args ds gs before hval0 hW hcnd _;have hval: ∀(j:Nat) t v,Tryz.f3.params[j]? =some t->args[j]? =some v->Value.okWide Tryz.prog W .any base t v:=hval0;have hW':=hW;obtain⟨p,q,hA0,hV,rfl,hfz,hnd⟩:=hW;have hA:DataW.TrodAll enc Tryz.prog W 0 (λ_=>true) true Tryz.f3.params.toList args.toList ds p:=hA0;obtain⟨rfl,rfl⟩:=trodVars_none hV;rw[Tryz.params3]at hA hval;have hthaw:Dw W p:=λb off hm=>hfz b off (by simpa using hm)
 refine(walk hA hthaw (λj t v h1 h2=>hval j t v (by simpa using h1) (by simpa using h2))).mono λe W' ⟨he,hb⟩=> ?_
 subst he;obtain⟨v0,vs0,d0,ds0,p0,q0,e0,rfl,rfl,h0,r0⟩:=trodAll_cons hA;obtain⟨v1,vs1,d1,ds1,p1,q1,e1,rfl,rfl,h1,r1⟩:=trodAll_cons r0;obtain⟨v2,vs2,d2,ds2,p2,q2,e2,rfl,rfl,h2,r2⟩:=trodAll_cons r1;obtain⟨v3,vs3,d3,ds3,p3,q3,e3,rfl,rfl,h3,r3⟩:=trodAll_cons r2;obtain⟨e4,rfl,rfl⟩:=trodAll_nil r3;exact⟨_,rfl,cO5 hW' rfl rfl Ul (by rw[Tryz.params3];kernel_rfl) hb Tryz.underlying4 (by kernel_rfl)⟩
theorem over:Rows.tablePutsRow.holds Tryz.pinned (OpenSpec.ofChange Rows.tablePutsSpec):=
 OpenClaim.holds_of_wide 3 Tryz.f3 rfl rfl rfl rfl rfl rfl rfl ⟨rfl,rfl,rfl,rfl,rfl⟩ rfl rfl rfl rfl rfl (by kernel_rfl) Tryz.func3 (by kernel_rfl)
  (of_decide_eq_true (by kernel_rfl)) (by unfold Func.isWrapper;first|(rw[if_pos (by decide+kernel)];kernel_rfl)|(rw[if_neg (by decide+kernel)];exact⟨rfl,rfl⟩))
  (λos started H enc _=>lifted os started H enc)
theorem proved:Rows.TablePutsSaid:=over
#print axioms proved
end Go.Proofs.YtipefnncbnbliaaGreat.lawTablePuts
