/- The law DeltaApplies answers true at every input, and leaves its arguments as they were. No condition of its own. -/
import Derived.Test.YtbfbcanipfnfeaaK8
import Derived.Test.YtbfbcanipfnfeaaE42
import Derived.ProofKit
set_option linter.unusedVariables false
namespace Go.Proofs.Ytbfbcanipfnfeaa.lawDeltaApplies
open Go Go.Ev Go.ChangeShapes Go.WideShapes Go.ChangeAt Go.RowKit Go.Proofs.Ytbfbcanipfnfeaa.Ctr
theorem own:ownKnob Try.prog.godebug=none:=by kernel_rfl
theorem sliceVal{P:Program}{w:World}{r:Reach}{b:Nat}{t:TypeId}{v:Value}(h:aG2 P t=true)(hv:Value.okWide P w r b t v):v.cells.toList=[v]:=by
 obtain⟨e,he⟩:=aJ0 h
 unfold Value.okWide at hv
 simp only[he]at hv
 unfold Cell.okWide at hv
 simp only[he]at hv
 unfold Cell.ok at hv
 simp only[he]at hv
 cases v<;>first|rfl|(exfalso;simp at hv)
noncomputable def lawE:Env:=env.hooks H23
theorem law_b(ω:Opq)(h:OmF F lawE.P ω):b29 lawE ω 1000000:=bL5 (E:=env) om_upd e_ok orders h23_ok 1000000 h
theorem c0:aR7 0 (bN2 lawE 1000000 3 (aA3 a17 aa8 0) (a04 (a97 a17 aa8 0))) []=true:=by kernel_rfl
theorem c1:aR7 1 (bN2 lawE 1000000 3 (aA3 a17 aa8 1) (a04 (a97 a17 aa8 1))) []=true:=by kernel_rfl
theorem c2:aR7 2 (bN2 lawE 1000000 3 (aA3 a17 aa8 2) (a04 (a97 a17 aa8 2))) []=true:=by kernel_rfl
theorem c3:aR7 3 (bN2 lawE 1000000 3 (aA3 a17 aa8 3) (a04 (a97 a17 aa8 3))) []=true:=by kernel_rfl
theorem c4:aR7 4 (bN2 lawE 1000000 3 (aA3 a17 aa8 4) (a04 (a97 a17 aa8 4))) []=true:=by kernel_rfl
theorem c5:aR7 5 (bN2 lawE 1000000 3 (aA3 a17 aa8 5) (a04 (a97 a17 aa8 5))) []=true:=by kernel_rfl
theorem cb:bt5 (bN2 lawE 1000000 3 (cF3 a17) (a04 (c57 a17))) []=true:=by kernel_rfl
theorem none_in{ω:Opq}:InA ω []:=⟨fun n hn=>(by cases hn),fun n hn=>(by cases hn)⟩
theorem small{W:World}{v0:Value}(f0:av7 W (.sl a17) v0)(N:Nat)(hN:N≤5)(ω:Opq)(hω:OmF F lawE.P ω)(h0:ω.w 0=aX2 W (.sl a17) v0)(h1: ∀i,0<i→i≤N→ ∃u,av7 W (.sl aa8) u∧ω.w i=aX2 W (.sl aa8) u):
 N0 (bN2 lawE 1000000 3 (aA3 a17 aa8 N) (a04 (a97 a17 aa8 N))) ω=some (0,[.vb true]):=by
 have H:HypA ω N:=⟨om_f hω,by rw[h0];exact cv9 f0,fun n a b=>by
   obtain⟨u,q1,q2⟩:=h1 n a b
   rw[q2];exact d23 q1,fun n b=>by
   rcases G1 n with a|a
   ·rw[a,h0];exact bt6 f0
   ·obtain⟨u,q1,q2⟩:=h1 n a b
    rw[q2];exact bt6 q1⟩
 match N,hN,H with
 |0,_,H=>exact Y3 H _ [] none_in c0
 |1,_,H=>exact Y3 H _ [] none_in c1
 |2,_,H=>exact Y3 H _ [] none_in c2
 |3,_,H=>exact Y3 H _ [] none_in c3
 |4,_,H=>exact Y3 H _ [] none_in c4
 |5,_,H=>exact Y3 H _ [] none_in c5
 |n+6,h,_=>omega
theorem big{W:World}{v0:Value}(f0:av7 W (.sl a17) v0)(ω:Opq)(hω:OmF F lawE.P ω)(h0:ω.w 0=aX2 W (.sl a17) v0)(h1:((5:Nat):Int)<(ω.w 1).toI):
 N0 (bN2 lawE 1000000 3 (cF3 a17) (a04 (c57 a17))) ω=some (0,[.vb true]):=
 ap8 ⟨om_f hω,by rw[h0];exact cv9 f0,fun n a b=>by omega,fun n b=>by
   obtain rfl:n=0:=by omega
   rw[h0];exact bt6 f0⟩ h1 _ [] none_in cb
set_option maxRecDepth 100000 in
theorem walk{H:Type}{enc:TypeId×Value→H}{W:World}{base:Nat}{args:Array Value}{ds:List (DataW H)}{p:List MemPlace}(hA:DataW.TrodAll enc Try.prog W 0 (fun _=>true) true (#[22,23]:Array TypeId).toList args.toList ds p)(hthaw:cE9 W p)
 (hval: ∀(j:Nat) t v,(#[22,23]:Array TypeId)[j]? =some t→args.toList[j]? =some v→Value.okWide Try.prog W .any base t v):
 Calls Try.prog 3 args W fun e W'=>e= .returned (.bool true)∧Below W.heap.size W W':=by
 obtain⟨v0,vs0,d0,ds0,p0,q0,e0,rfl,rfl,h0,r0⟩:=trodAll_cons hA
 obtain⟨v1,vs1,d1,ds1,p1,q1,e1,rfl,rfl,h1,r1⟩:=trodAll_cons r0
 obtain⟨e2,rfl,rfl⟩:=trodAll_nil r1
 have hs0:=hval 0 _ v0 rfl (by rw[e0];rfl)
 have hs1:=hval 1 _ v1 rfl (by rw[e0,e1];rfl)
 obtain⟨n0,t0⟩:=h0
 obtain⟨n1,t1⟩:=h1
 have f0:a33 (av7 W) [.sl a17] v0.cells.toList:=bp6 (m:=20) (by kernel_rfl) t0 (fun b off hm=>hthaw b off (by simp[hm]))
 obtain⟨v,hv,f1⟩:=c56 (m:=20) (sig:=aa8) Try.underlying23 (by kernel_rfl) (by kernel_rfl) t1 (fun b off hm=>hthaw b off (by simp[hm]))
 have hc0:=sliceVal (by kernel_rfl) hs0
 have hc1:=sliceVal (by kernel_rfl) hs1
 rw[hc1]at hv
 rw[hc0]at f0
 obtain⟨u,r,e3,f0,_⟩:=f0
 cases e3
 cases hv
 have hu:args=[v0,v1].toArray:=by rw[←e2,←e1,←e0]
 rw[hu]
 exact cm4 (E:=lawE) (F:=F) (n:=1000000) (M:=5) (s0:=a17) (s1:=aa8) (by decide) f0 f1 law_b (small f0) (big f0)
theorem laid:laidOutB Try.prog=true:=by kernel_rfl
set_option maxRecDepth 100000 in
theorem lifted(os:Os)(started:os.Started)(H:Type)(enc:TypeId×Value→H):
 ReturnsInHanded {} Try.checked os 3 .any (Rows.deltaAppliesSpec.pre6 enc Try.prog Try.f3 Rows.deltaAppliesRow.domain false) (Rows.deltaAppliesSpec.post enc Try.prog Try.f3 false true false false):=by
 refine returnsInHanded_of_change (C:=Try.checked) own started (by kernel_rfl) Try.func3
   (ChangeSpec.witness6 (enc:=enc) (C:=Try.checked) false ⟨#[],#[.slice none 0 0,.slice none 0 0],[]⟩ 8 (by kernel_rfl) (by kernel_rfl) (by kernel_rfl) (by kernel_rfl)) ?_
 intro W base args ds gs before hval0 hW hcnd _
 have hval: ∀(j:Nat) t v,Try.f3.params[j]? =some t→args[j]? =some v→Value.okWide Try.prog W .any base t v:=hval0
 have hW':=hW
 obtain⟨p,q,hA0,hV,rfl,hfz,hnd⟩:=hW
 have hA:DataW.TrodAll enc Try.prog W 0 (fun _=>true) true Try.f3.params.toList args.toList ds p:=hA0
 obtain⟨rfl,rfl⟩:=trodVars_none hV
 rw[Try.params3]at hA hval
 have hthaw:cE9 W p:=fun b off hm=>hfz b off (by simpa using hm)
 refine(walk hA hthaw (fun j t v h1 h2=>hval j t v (by simpa using h1) (by simpa using h2))).mono fun e W' ⟨he,hb⟩=> ?_
 subst he
 obtain⟨v0,vs0,d0,ds0,p0,q0,e0,rfl,rfl,h0,r0⟩:=trodAll_cons hA
 obtain⟨v1,vs1,d1,ds1,p1,q1,e1,rfl,rfl,h1,r1⟩:=trodAll_cons r0
 obtain⟨e2,rfl,rfl⟩:=trodAll_nil r1
 exact⟨_,rfl,ck2 hW' rfl rfl laid (by rw[Try.params3];kernel_rfl) hb Try.underlying4 (by kernel_rfl)⟩
theorem over:Rows.deltaAppliesRow.holds Try.pinned (OpenSpec.ofChange Rows.deltaAppliesSpec):=
 OpenClaim.holds_of_wide 3 Try.f3 rfl rfl rfl rfl rfl rfl rfl ⟨rfl,rfl,rfl,rfl,rfl⟩ rfl rfl rfl rfl rfl (by kernel_rfl) Try.func3 (by kernel_rfl)
   (of_decide_eq_true (by kernel_rfl)) (by unfold Func.isWrapper;first|(rw[if_pos (by decide+kernel)];kernel_rfl)|(rw[if_neg (by decide+kernel)];exact⟨rfl,rfl⟩))
   (fun os started H enc _=>lifted os started H enc)
theorem proved:Rows.DeltaAppliesSaid:=over
#print axioms proved
end Go.Proofs.Ytbfbcanipfnfeaa.lawDeltaApplies
