/- The law DeltaMakes answers true at every input, and leaves its arguments as they were. No condition of its own. -/
import Derived.Test.YtfpjiopkeekkeaaGreatDoorK8
import Derived.Test.YtfpjiopkeekkeaaGreatDoorE42
import Derived.Test.YtfpjiopkeekkeaaGreatDoorCards
import Derived.Test.YtfpjiopkeekkeaaGreatDoorTie
import Derived.Lay
import Derived.LaidOnce
import Derived.SevenTiedAt
import Derived.ProofKit
set_option linter.unusedVariables false
namespace Go.Proofs.YtfpjiopkeekkeaaGreatDoor.lawDeltaMakes
open Go Go.Ev Go.ChangeShapes Go.WideShapes Go.ChangeAt Go.RowKit Go.Proofs.YtfpjiopkeekkeaaGreatDoor.Ctr
theorem own:ownKnob Tryz.prog.godebug=none:=by kernel_rfl
theorem sliceVal{P:Program}{w:World}{r:Reach}{b:Nat}{t:TypeId}{v:Value}(h:aK9 P t=true)(hv:Value.okWide P w r b t v):v.cells.toList=[v]:=by
 obtain⟨e,he⟩:=aN6 h
 unfold Value.okWide at hv
 simp only[he]at hv
 unfold Cell.okWide at hv
 simp only[he]at hv
 unfold Cell.ok at hv
 simp only[he]at hv
 cases v<;>first|rfl|(exfalso;simp at hv)
section
variable{w:World}
theorem sym_at{L:List Sh}{cells:List Value}{i:Nat}{s:Sh}(hfit:a28 (bi7 w) L cells)(h:L[i]? =some s): ∃v,bi7 w s v∧cg4 w (L.getD i (.col .bool)) (cells.getD i (.bool false))=cg4 w s v:=by
 have hl:=ad3 hfit
 have hi:=(m7.1 h).1
 refine⟨_,b78 hfit h (j7 (show i<cells.length by omega)),?_⟩
 rw[i3,h,i3,j7 (show i<cells.length by omega)];rfl
theorem q_row(vs:List Value)(h:cq7 [.str,.int .i64,.int .i64,.int .i64,.int .i64,.int .i64,.int .i64] vs):S7.okK (.vl (vs.map cQ3))=true:=by
 obtain⟨v0,r,rfl,⟨s0,rfl⟩,v1,r,rfl,⟨n1,rfl,_⟩,v2,r,rfl,⟨n2,rfl,_⟩,v3,r,rfl,⟨n3,rfl,_⟩,v4,r,rfl,⟨n4,rfl,_⟩,v5,r,rfl,⟨n5,rfl,_⟩,v6,r,rfl,⟨n6,rfl,_⟩,h⟩:=h
 have h:r=[]:=h
 subst h;rfl
theorem sym_rows{L:List Sh}{cells:List Value}{i:Nat}(hfit:a28 (bi7 w) L cells)(h:L[i]? =some (.sl [.str,.int .i64,.int .i64,.int .i64,.int .i64,.int .i64,.int .i64])):(F 431 [cg4 w (L.getD i (.col .bool)) (cells.getD i (.bool false))]).toB=true:=by
 obtain⟨v,hf,e⟩:=sym_at hfit h
 rw[e]
 rcases hf with rfl|⟨a,len,cap,rfl,_,_,hi,_⟩
 ·rfl
 ·show(true&&(aX7 w 7 a len).all S7.okK)=true
  rw[F7,j6]
  intro r hr
  obtain⟨i,h1,rfl⟩:=o8.1 hr
  obtain⟨vs,h2,h3⟩:=hi i (r7.1 h1)
  have h2:w.cells? 0 (a.add (i*7)) 7=some vs:=h2
  rw[h2]
  exact q_row vs h3
end
theorem k_law:T8 env Om h_deltaMakes:=
 Q3 (E:=env) (cs:=H17) om_upd e_ok orders h17_ok (n:=1000000) (by kernel_rfl) (Q6 (T:=S8.T_deltaMakes) r_deltaMakes fun ω hω hn=>by
   have hn:((ω.f 431 [ω.w 0]).toB&&((ω.f 431 [ω.w 1]).toB&&(ω.f 431 [ω.w 2]).toB))=true:=hn
   rw[om_f hω,om_f hω,om_f hω]at hn
   obtain⟨h0,hn⟩:=O4 hn
   obtain⟨h1,h2⟩:=O4 hn
   exact(bm2 (om_f hω) h0 h1 h2).trans (by simp only[h_deltaMakes,P2,den]))
def sh:List Sh:=[.col (.int .u8),.col .str,.col .str,.col (.int .i64),.col (.int .i64)]
def sh1:List Sh:=[.sl [.str,.int .i64,.int .i64,.int .i64,.int .i64,.int .i64,.int .i64]]
theorem ans:b80 (a62 h_deltaMakes.c h_deltaMakes.nv h_deltaMakes.c.args h_deltaMakes.c.heap)=some (h_deltaMakes.c.need,.obool (.cb true)):=by kernel_rfl
set_option maxRecDepth 100000 in
theorem walk{H:Type}{enc:TypeId×Value→H}{W:World}{base:Nat}{args:Array Value}{ds:List (DataW H)}{p:List MemPlace}(hA:DataW.TrodAll enc Tryz.prog W 0 (fun _=>true) true (#[22,22,22,24]:Array TypeId).toList args.toList ds p)(hthaw:d05 W p)
 (hval: ∀(j:Nat) t v,(#[22,22,22,24]:Array TypeId)[j]? =some t→args.toList[j]? =some v→Value.okWide Tryz.prog W .any base t v):
 Calls Tryz.prog 3 args W fun e W'=>e= .returned (.bool true)∧Below W.heap.size W W':=by
 obtain⟨v0,vs0,d0,ds0,p0,q0,e0,rfl,rfl,h0,r0⟩:=trodAll_cons hA
 obtain⟨v1,vs1,d1,ds1,p1,q1,e1,rfl,rfl,h1,r1⟩:=trodAll_cons r0
 obtain⟨v2,vs2,d2,ds2,p2,q2,e2,rfl,rfl,h2,r2⟩:=trodAll_cons r1
 obtain⟨v3,vs3,d3,ds3,p3,q3,e3,rfl,rfl,h3,r3⟩:=trodAll_cons r2
 obtain⟨e4,rfl,rfl⟩:=trodAll_nil r3
 have hs0:=hval 0 _ v0 rfl (by rw[e0];rfl)
 have hs1:=hval 1 _ v1 rfl (by rw[e0,e1];rfl)
 have hs2:=hval 2 _ v2 rfl (by rw[e0,e1,e2];rfl)
 have hs3:=hval 3 _ v3 rfl (by rw[e0,e1,e2,e3];rfl)
 obtain⟨n0,t0⟩:=h0
 obtain⟨n1,t1⟩:=h1
 obtain⟨n2,t2⟩:=h2
 obtain⟨n3,t3⟩:=h3
 have f0:a28 (bi7 W) sh1 v0.cells.toList:=aS7 (m:=20) (by kernel_rfl) t0 (fun b off hm=>hthaw b off (by simp[hm]))
 have f1:a28 (bi7 W) sh1 v1.cells.toList:=aS7 (m:=20) (by kernel_rfl) t1 (fun b off hm=>hthaw b off (by simp[hm]))
 have f2:a28 (bi7 W) sh1 v2.cells.toList:=aS7 (m:=20) (by kernel_rfl) t2 (fun b off hm=>hthaw b off (by simp[hm]))
 have f3:a28 (bi7 W) sh v3.cells.toList:=aS7 (m:=20) (by kernel_rfl) t3 (fun b off hm=>hthaw b off (by simp[hm]))
 obtain⟨c3,rfl⟩:=c81 (by kernel_rfl) hs3
 rw[sliceVal (by kernel_rfl) hs0]at f0
 rw[sliceVal (by kernel_rfl) hs1]at f1
 rw[sliceVal (by kernel_rfl) hs2]at f2
 have g3:=ad3 f3
 have hfit:=ak7 f0 (ak7 f1 (ak7 f2 f3))
 have hu:args=[v0,v1,v2,Value.agg c3].toArray:=by rw[←e4,←e3,←e2,←e1,←e0]
 rw[hu]
 refine cI6 (x:=h_deltaMakes) (F:=F) k_law (by kernel_rfl) hfit (by kernel_rfl) (by kernel_rfl) (fun β ω hv=> ?_) ans ?_
 ·have g3':c3.toList.length=5:=g3
  obtain⟨a0,b0,z0,y0,hv⟩:=hv
  have z0:v0::(v1::(v2::c3.toList))=a0::b0:=z0
  cases z0
  obtain⟨a1,b1,z1,y1,hv⟩:=hv
  cases z1
  obtain⟨a2,b2,z2,y2,hv⟩:=hv
  cases z2
  exact⟨v0,_,rfl,y0,v1,_,rfl,y1,v2,_,rfl,y2,Value.agg c3,[],rfl,⟨c3,rfl,hv⟩,rfl⟩
 ·exact S8.and2 (sym_rows (i:=0) hfit rfl) (S8.and2 (sym_rows (i:=1) hfit rfl) (sym_rows (i:=2) hfit rfl))
theorem laid:laidOutB Tryz.prog=true:=by kernel_rfl
def tables:List (String×DataW Unit):=[("unicode/utf8.acceptRanges",Rows.laid_unicode_utf8_acceptRanges),("unicode/utf8.first",Rows.laid_unicode_utf8_first)]
set_option maxRecDepth 100000 in
theorem lifted(os:Os)(started:os.Started)(H:Type)(enc:TypeId×Value→H):
 ReturnsInHanded {} Tryz.checked os 3 .any (fun w args=>(Rows.deltaMakesSpec.pre enc Tryz.prog Tryz.f3 [] false w args∧laidMetH Tryz.prog tables w)∧sizedMet enc Tryz.prog Tryz.f3 (OpenSpec.ofChange Rows.deltaMakesSpec) false w args)
  (Rows.deltaMakesSpec.post enc Tryz.prog Tryz.f3 false true false false):=by
 refine returnsInHanded_of_change_and (C:=Tryz.checked) (X:=fun w _=>laidMetH Tryz.prog tables w) (fun _ _ _ hh h=>h.of_heap hh) own started (by kernel_rfl) Tryz.func3
   (ChangeSpec.witness_shaped (enc:=enc) (C:=Tryz.checked) (os:=os) (X:=fun w _=>laidMetH Tryz.prog tables w) false (World.laidAll Tryz.prog os tables) #[.slice none 0 0,.slice none 0 0,.slice none 0 0,.agg #[.int .u8 0,.string ⟨#[]⟩,.string ⟨#[]⟩,.int .i64 0,.int .i64 0]] 8 (World.laidAll_os _ _ _)
    (World.shaped_of_ZipB (by kernel_rfl) (by kernel_rfl)) (by kernel_rfl) (by kernel_rfl) (by kernel_rfl)
    (by rw[MakeChecks.laidMetH_plain _ _ _ (by kernel_rfl)];exact laidMet_laidAll _ (by kernel_rfl) (by kernel_rfl))) ?_
 intro W base args ds gs before hval0 hW _ _ hL _
 have hval: ∀(j:Nat) t v,Tryz.f3.params[j]? =some t→args[j]? =some v→Value.okWide Tryz.prog W .any base t v:=hval0
 have hW':=hW
 obtain⟨p,q,hA0,hV,rfl,hfz,hnd⟩:=hW
 have hA:DataW.TrodAll enc Tryz.prog W 0 (fun _=>true) true Tryz.f3.params.toList args.toList ds p:=hA0
 obtain⟨rfl,rfl⟩:=trodVars_none hV
 rw[Tryz.params3]at hA hval
 have hthaw:d05 W p:=fun b off hm=>hfz b off (by simpa using hm)
 refine(walk hA hthaw (fun j t v h1 h2=>hval j t v (by simpa using h1) (by simpa using h2))).mono fun e W' ⟨he,hb⟩=> ?_
 subst he
 obtain⟨v0,vs0,d0,ds0,p0,q0,e0,rfl,rfl,h0,r0⟩:=trodAll_cons hA
 obtain⟨v1,vs1,d1,ds1,p1,q1,e1,rfl,rfl,h1,r1⟩:=trodAll_cons r0
 obtain⟨v2,vs2,d2,ds2,p2,q2,e2,rfl,rfl,h2,r2⟩:=trodAll_cons r1
 obtain⟨v3,vs3,d3,ds3,p3,q3,e3,rfl,rfl,h3,r3⟩:=trodAll_cons r2
 obtain⟨e4,rfl,rfl⟩:=trodAll_nil r3
 exact⟨_,rfl,co7 hW' rfl rfl laid (by rw[Tryz.params3];kernel_rfl) hb Tryz.underlying4 (by kernel_rfl)⟩
theorem over:Rows.deltaMakesRow.holds Tryz.pinned (OpenSpec.ofChange Rows.deltaMakesSpec):=
 OpenClaim.holds_of_wide 3 Tryz.f3 rfl rfl rfl rfl rfl rfl rfl ⟨rfl,rfl,rfl,rfl,rfl⟩ rfl rfl rfl rfl rfl (by kernel_rfl) Tryz.func3 (by kernel_rfl)
   (of_decide_eq_true (by kernel_rfl)) (by unfold Func.isWrapper;first|(rw[if_pos (by decide+kernel)];kernel_rfl)|(rw[if_neg (by decide+kernel)];exact⟨rfl,rfl⟩))
   (fun os started H enc _=>lifted os started H enc)
theorem proved:Rows.DeltaMakesCardSaid:=
 Claim7.holds_tied_plain_at .later [] [.data,.pinned] true (true,"380cdd7a800028bba379bbcf81d148801423cca141d5c062980bd860d4e2fe3d") false over (fun _ h=>by cases h) (by kernel_rfl) (fun _ h=>by cases h) deltaMakes_row_tie rfl ⟨rfl,rfl⟩ (by kernel_rfl) rfl
   (fun f fn hf hfn=>by
    obtain rfl:f=3:=G2 ((show Tryz.prog.funcNamed "tidepool/tidepoollaw20.DeltaMakes" =some 3 by kernel_rfl).symm.trans hf)|>.symm
    obtain rfl:fn=Tryz.f3:=(G2 (Tryz.func3.symm.trans hfn)).symm
    exact⟨by kernel_rfl,fun j t ht=>by
      rw[Tryz.params3]at ht
      have hm:t∈[22,22,22,24]:=by simpa using Array.mem_of_getElem? ht
      have hall:([22,22,22,24].all fun u=> !Tryz.prog.wantsStandIn u)=true:=by kernel_rfl
      exact(show Tryz.prog.wantsStandIn t=false by simpa using j6.1 hall t hm)⟩)
   (by kernel_rfl)
#print axioms proved
end Go.Proofs.YtfpjiopkeekkeaaGreatDoor.lawDeltaMakes
