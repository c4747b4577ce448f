import Derived.Test.YtdbiooidpgafaaaGreatE42
import Derived.Shelf.SlSortCmp.NoneTotal
set_option linter.unusedSimpArgs false
set_option linter.unusedVariables false
namespace Go.Ev
open Go
variable{E:Env}{β β':Bij}{ω:Opq}{K:Nat→Prop}{w0 w w':World}{h h':Heap}{P:Program}{ρ:Go.Shelf.Ren}
theorem b66{l:List Value}{t:Nat}{v:Value}(h:l[t]? =some v):(l.toArray)[t]! =v:=by
 simp[h]
theorem aQ6(sig:List CT)(l:List Val):Go.Sort.flatK (a95 sig) sig.length l.toArray=(R3 sig l).toArray:=by
 refine Go.Sort.ext_get! (by rw[Go.Sort.size_flatK,A9,A9,S1]) fun t ht=> ?_
 have ht':t<l.toArray.size*sig.length:=by simpa using ht
 rw[Go.Sort.get_flatK _ _ _ _ ht']
 rw[A9]at ht'
 have k0:0<sig.length:=by
  rcases J1 sig.length with h|h
  ·rw[h]at ht';omega
  ·exact h
 have hq:t/sig.length<l.length:=(Nat.div_lt_iff_lt_mul k0).2 ht'
 have hr:t % sig.length<sig.length:=Nat.mod_lt _ k0
 have:=aj0 hr hq
 rw[A2,Nat.div_add_mod]at this
 rw[b66 this]
 have e1:l.toArray[t/sig.length]! =l[t/sig.length]:=by simp[hq]
 have e2:l.getD (t/sig.length) (.vl [])=l[t/sig.length]:=by rw[i6,j8 hq,Option.getD_some]
 rw[e1,e2]
 simp[a95,hr]
theorem cv2{w w':World}(hp: ∀i,i<w.heap.size→w'.heap[i]? =w.heap[i]?)(hs:w.heap.size≤w'.heap.size)(ho:w'.os=w.os)(ht:w'.tape=w.tape)(hu:w'.output=w.output)(hd:w.drawn≤w'.drawn):
 ∃q os',w'=Go.Sort.grow (w.drewN q) os':=by
 refine⟨w'.drawn-w.drawn,w'.heap.extract w.heap.size w'.heap.size,?_⟩
 have hh:w'.heap=w.heap++w'.heap.extract w.heap.size w'.heap.size:=by
  refine Array.ext_getElem? fun i=> ?_
  rcases i4 i w.heap.size with h1|h1
  ·rw[hp i h1,I8 h1]
  ·rw[P6 h1,Array.getElem?_extract]
   split
   ·congr 1;omega
   ·rw[u9 (by omega)]
 obtain⟨heap,tape,drawn,os,out⟩:=w'
 obtain⟨heap0,tape0,drawn0,os0,out0⟩:=w
 simp only at hh ho ht hu hd hs
 subst ho ht hu
 show World.mk _ _ _ _ _=World.mk _ _ _ _ _
 simp only[World.drewN,World.mk.injEq,and_true,true_and]
 exact⟨hh,by omega⟩
def cv3(P:Program)(g:FuncId)(sig:List CT)(cf:Val→Val→Int):Prop:= ∀(x y:Val) (w:World),
 Calls P g #[.agg (a95 sig x).toArray,.agg (a95 sig y).toArray] w fun e w'=>e= .returned (.int .i64 (cf x y))∧ ∃q os',w'=Go.Sort.grow (w.drewN q) os'
noncomputable def a81(cf:Val→Val→Int)(l:List Val):List Val:=(Go.Sort.pdq (Go.Proofs.ltOf cf) l.toArray 0 l.length (Go.Lib.bitLen l.length) true true).toList
theorem a98{cf:Val→Val→Int}(hO:Go.Sort.SWO (Go.Proofs.ltOf cf))(l:List Val):(a81 cf l).Perm l∧(a81 cf l).Pairwise (fun a b=>cf b a<0→False):=by
  have h:=Go.Sort.pdq_sorts (Go.Proofs.ltOf cf) hO l.toArray 0 l.length (Go.Lib.bitLen l.length) true true (l6 _) (by simp) (Or.inl rfl)
  obtain⟨⟨h1,_,h3⟩,h4⟩:=h
  unfold a81
  generalize Go.Sort.pdq (Go.Proofs.ltOf cf) l.toArray 0 l.length (Go.Lib.bitLen l.length) true true=d at h1 h3 h4
  replace h1:d.size=l.length:=by simpa using h1
  refine⟨?_,?_⟩
  ·have a1:(d.extract 0 l.length).toList=d.toList:=by rw[←h1];simp
   have a2:(l.toArray.extract 0 l.length).toList=l:=by simp
   rw[a1,a2]at h3;exact h3
  ·rw[K5]
   intro i j hi hj hij hlt
   have:=h4 i j (l6 _) hij (by rw[←h1];simpa using hj)
   simp only[Array.length_toList]at hi hj
   rw[getElem!_pos d i hi,getElem!_pos d j hj]at this
   simp only[Go.Proofs.ltOf,decide_eq_false_iff_not]at this
   exact this (by simpa using hlt)
theorem ca6(cf:Val→Val→Int)(hO:Go.Sort.SWO (Go.Proofs.ltOf cf)):a81 cf []=[]:=(a98 hO []).1.eq_nil
theorem ac7{cf:Val→Val→Int}(hO:Go.Sort.SWO (Go.Proofs.ltOf cf))(l:List Val):(a81 cf l).length=l.length:=(a98 hO l).1.length_eq
theorem b67(cf:Val→Val→Int)(l:List Val):Go.Sort.pdq (Go.Proofs.ltOf cf) l.toArray 0 l.length (Go.Lib.bitLen l.length) true true=(a81 cf l).toArray:=by
 unfold a81;simp
theorem bR3{blk off:Nat}{F C:Array Value}{e:TypeId}{fr:Nat×Nat}(hb:w.heap[blk]? =some (.cells C e fr)):(Go.Sort.putRow id w blk off F).heap[blk]? =some (.cells (Go.Sort.putCells id off F C) e fr):=by
 simp[Go.Sort.putRow,Go.Sort.mapBlock,I6,hb,Go.Sort.onCells]
theorem bj3{blk off i:Nat}{F:Array Value}(hi:i≠blk):(Go.Sort.putRow id w blk off F).heap[i]? =w.heap[i]? :=by
 simp[Go.Sort.putRow,Go.Sort.mapBlock,I6,Ne.symm hi]
theorem cv4(L:Go.Proofs.SlLaysF0.n6 P ρ){sig:List CT}{e:TypeId}{x:SX}{g:FuncId}{cf:Val→Val→Int}(aE: ∀w,(isAgg (ρ.t 24)).run P w= .ok true w)(zE: ∀w,(Go.sizeOf (ρ.t 24)).run P w= .ok sig.length w)
 (hO:Go.Sort.SWO (Go.Proofs.ltOf cf)) (eg: ∀args w,(callFunc g args).run P w= .ok (.enter g args) w) (hg:cv3 P g sig cf) {y:SX} (hy:dL ω y=a81 cf (dL ω x)) {b:Nat}
 (r:HR β ω K w0 h w) (hh:h.get b=some (.arr e sig x)) (hwm:h.wm≤b) {len:SX} (hlen:dI ω len=(dL ω x).length) (hsz:(dL ω x).length≤1000000) {u:Value} (hu:VR β ω (.ous b len sig.length) u):
 Calls P (ρ.f 6) #[u,.func (.func g) #[] #[]] w fun e' w'=>e'= .returned (.tuple #[])∧HR β ω K w0 (h.put b (some (.arr e sig y))) w'∧St h β (h.put b (some (.arr e sig y))) β:=by
 simp only[VR]at hu
 rcases hu with⟨L0,cap,hL,hext,hv,hcap⟩|⟨hv,hz⟩
 ·subst hv
  rw[hlen,Int.toNat_natCast]
  obtain⟨C,e',lo,hi,q1,q0,q2,q3,q4,q5⟩:=r.blk b _ L0 hh hL
  have hblk:=r.lt b L0 hL
  have hfl:=S1 sig (dL ω x)
  have hHold:Go.Sort.HoldsK (a95 sig) sig.length w L0.blk L0.off (dL ω x).toArray:=by
   intro j hj
   rw[aQ6]at hj⊢
   rw[A9]at hj
   have hq:=j8 hj
   refine⟨?_,ae4 q1 ?_⟩
   ·rw[ad6 q1,q4 _ _ hq,b66 hq];rfl
   ·have:=q5 j (by omega)
    exact this
  have hcmp:Go.Proofs.CmpLays P g #[] (a95 sig) sig.length cf L0.blk L0.off (dL ω x).toArray.size w:=fun m os dk _ a c=>hg a c _
  have hcon:=Go.Proofs.AnyQ.slices_SortFunc_eq L sig.length aE zE (a95 sig) (U6 sig) (fun r v hv=>by
   have:=aM3 sig [r] v (by simpa[R3]using hv)
   exact this) cf hO g #[] L0.blk L0.off cap (dL ω x).toArray w eg hcmp hHold hblk (by rw[A9];omega)
  rw[A9,b67,←hy]at hcon
  refine hcon.mono ?_
  rintro e2 w' ⟨rfl,n,os,rfl⟩
  refine⟨rfl,?_⟩
  have hyl:(dL ω y).length=(dL ω x).length:=by rw[hy];exact ac7 hO _
  obtain⟨r1,s1⟩:=HR.upd (w':=Go.Sort.putRowK (a95 sig) sig.length w L0.blk L0.off (dL ω y).toArray) r b _ (.arr e sig y) L0 hh hL hwm (fun i hi=>bj3 hi) (Go.Sort.size_putRow _ _ _ _ _) rfl rfl rfl rfl (by
   refine⟨_,e',lo,hi,bR3 q1,q0,?_,?_,?_,q5⟩
   ·simp only[Go.Sort.putCells,Array.size_mapIdx];exact q2
   ·rw[hyl];exact q3
   ·intro i v hv
    rw[aQ6]
    have hil:i<(R3 sig (dL ω y)).length:=(m9.1 hv).1
    have hfy:=S1 sig (dL ω y)
    rw[hyl]at hfy
    have hC:L0.off+i<C.size:=by omega
    simp only[Go.Sort.putCells,Array.getElem?_mapIdx]
    rw[s6 hC,Option.map_some,if_pos ⟨by omega,by rw[A9];omega⟩,A5,b66 hv]
    rfl)
  refine⟨HR.later r1 (fun i hi=> ?_) ?_ rfl rfl rfl ?_,s1⟩
  ·show(Go.Sort.grow _ _).heap[i]? =_
   rw[Go.Sort.heap_grow_old _ _ (by simpa[Go.Sort.putRowK]using hi)]
   rfl
  ·simp[Go.Proofs.sortWorldK,Go.Sort.putRowK]
  ·show w.drawn≤w.drawn+n;omega
 ·subst hv
  have hx:dL ω x=[]:=by
   rw[hlen]at hz
   exact y6.1 (by omega)
  refine(Go.Proofs.AnyF.slices_SortFunc_none L none 0 _ w).mono ?_
  rintro e2 w' ⟨rfl,rfl⟩
  refine⟨rfl,?_⟩
  have hyx:dL ω y=dL ω x:=by rw[hy,hx,ca6 cf hO]
  have hb65:=Heap.get_lim h b _ hh
  refine⟨HR.retell (y:= .arr e sig y) r hh (.inl hwm) (fun L hL hbr=> ?_) (Heap.next_put _ _ _) (Heap.wm_put _ _ _) (fun z=>by rw[Heap.get_put,if_pos hb65]),⟨by rw[Heap.next_put];exact e8 _,fun _ _=>rfl,fun b' hb' hn=> ?_,Heap.wm_put _ _ _⟩⟩
  ·obtain⟨C,e',lo,hi,q1,q0,q2,q3,q4,q5⟩:=hbr
   exact⟨C,e',lo,hi,q1,q0,q2,by rw[hyx];exact q3,by rw[hyx];exact q4,q5⟩
  ·by_cases e1:b'=b
   ·subst e1;exact .inr (.inr (.of hh))
   ·left;rw[Heap.get_put,if_neg e1]
def ca7(g:FuncId)(e:TypeId)(sig:List CT)(id:Nat):FC:=⟨[.ous 0 (.va 0) sig.length,.func (.func g) [] []],[.arr e sig (.va 1)],0,.op .and [.op (.cmp .eql) [.va 0,.op .llen [.va 1]],.op (.cmp .leq) [.op .llen [.va 1],.ci 1000000]],.tup [],[some (.arr e sig (.va 1000))],[.app id [.va 1]]⟩
theorem cO2{Ω:Opq→Prop}(L:Go.Proofs.SlLaysF0.n6 E.P ρ){f g:FuncId}(hf:ρ.f 6=f){sig:List CT}{e:TypeId}{id:Nat}{cf:Val→Val→Int}(aE: ∀w,(isAgg (ρ.t 24)).run E.P w= .ok true w)(zE: ∀w,(Go.sizeOf (ρ.t 24)).run E.P w= .ok sig.length w)
 (hO:Go.Sort.SWO (Go.Proofs.ltOf cf)) (eg: ∀args w,(callFunc g args).run E.P w= .ok (.enter g args) w) (hg:cv3 E.P g sig cf)
 (hΩ: ∀ω,Ω ω→ ∀l,ω.f id [l]= .vl (a81 cf l.toL)) (hk:kFC (ca7 g e sig id) (.tup []) ((ca7 g e sig id).heap.put 0 (some (.arr e sig (.app id [.va 1])))) []= .ret 0 [.app id [.va 1]]):b60 E Ω f (ca7 g e sig id):=by
 intro ω hω hn K w0 β w us r ra
 obtain⟨n1,n2⟩:=P8 (show(dB ω (.op (.cmp .eql) [.va 0,.op .llen [.va 1]])&&dB ω (.op (.cmp .leq) [.op .llen [.va 1],.ci 1000000]))=true from hn)
 have n1:(ω.w 0).toI=((ω.w 1).toL.length:Int):=of_decide_eq_true n1
 have n2:((ω.w 1).toL.length:Int)≤1000000:=of_decide_eq_true n2
 obtain⟨u,ur,rfl,hu,v2,ur2,e2,hv2,hnil⟩:=ra
 have hnil:ur2=[]:=hnil
 subst hnil
 subst e2
 obtain⟨m,a,b,hv2,q1,q2⟩:=hv2
 have a87:(ca7 g e sig id).heap.get 0=some (.arr e sig (.va 1)):=rfl
 have hy:dL ω (.app id [.va 1])=a81 cf (dL ω (.va 1)):=by
  show(ω.f id [ω.w 1]).toL=_
  rw[hΩ ω hω];rfl
 have:=cv4 L aE zE hO eg hg hy (b:=0) (len:= .va 0) r a87 (l6 _) n1 (by show(ω.w 1).toL.length≤1000000;omega) hu
 rw[hf]at this
 have ha:a= #[]:=D7.1 q1
 have hb:b= #[]:=D7.1 q2
 subst ha hb hv2
 refine this.mono ?_
 rintro e' w' ⟨rfl,h1,h2⟩
 exact⟨_,β,.tup [],_,rfl,⟨[],ab1,by rw[hk];rfl⟩,⟨_,rfl,rfl⟩,h1,h2⟩
theorem b68{Ω:Opq→Prop}(hup: ∀ω v0 l,Ω ω→Ω (ω.upd v0 l)){f:FuncId}{nv:Nat}{c:FC}(ho:ck8 c nv=true)(h:b60 E Ω f c):V0 E Ω ⟨f,nv,c⟩:=fun ω hω args h' v h2 e=>ca1 hup ho h hω e
theorem bv3{r:Val}: ∀(s:List CT) (i j:Nat),(∀t,t<s.length→ω.w (i+t)=r.toL.getD (j+t) default)→VRs β ω (ck5 s i) (ar6 r s j)
 | [],_,_,_=>rfl
 |c::s,i,j,h=>by
  have h0:=h 0 (by simp)
  have ih:=bv3 s (i+1) (j+1) (fun t ht=>by
   have:=h (t+1) (by simp;omega)
   rw[show i+1+t=i+(t+1) by omega,show j+1+t=j+(t+1) by omega];exact this)
  refine .cons ?_ ih
  have:=am4 (β:=β) (ω:=ω) c (.va i)
  rw[show den ω (.va i)=ω.w i from rfl,show ω.w i=r.toL.getD j default by simpa using h0]at this
  exact this
theorem d55{Ω:Opq→Prop}(hup: ∀ω v0 l,Ω ω→Ω (ω.upd v0 l)){ω:Opq}(hω:Ω ω){y:HC}(hy:V0 E Ω y){sig:List CT}{x:SX}{cf:Val→Val→Int}{h2:Heap}(e:a42 y.c y.nv [.agg (ck5 sig 0),.agg (ck5 sig sig.length)] Heap.empty= .val (.oint .i64 x) h2)
 (hx: ∀ω,Ω ω→ ∀a b:Val,(∀t,t<sig.length→ω.w t=a.toL.getD t default)→(∀t,t<sig.length→ω.w (sig.length+t)=b.toL.getD t default)→dI ω x=cf a b):cv3 E.P y.f sig cf:=by
 intro a b w
 obtain⟨ω1,hω1⟩: ∃ω1:Opq,ω1=ω.upd 0 ((List.range sig.length).map (fun t=>a.toL.getD t default)++(List.range sig.length).map (fun t=>b.toL.getD t default)):=⟨_,rfl⟩
 have hΩ1:Ω ω1:=by rw[hω1];exact hup _ _ _ hω
 have hat: ∀t,ω1.w t=((List.range sig.length).map (fun t=>a.toL.getD t default)++(List.range sig.length).map (fun t=>b.toL.getD t default)).getD t (.vb false):=fun t=>by
  have q: ∀(v0:Nat) (l:List Val),v0≤t→(ω.upd v0 l).w t=l.getD (t-v0) (.vb false):=fun v0 l h=>if_pos h
  rw[hω1,q 0 _ (l6 t),Nat.sub_zero]
 have ha: ∀t,t<sig.length→ω1.w t=a.toL.getD t default:=fun t ht=>by
  rw[hat,i6,k9 (by simpa using ht)]
  simp[ht]
 have hb: ∀t,t<sig.length→ω1.w (sig.length+t)=b.toL.getD t default:=fun t ht=>by
  rw[hat,i6,k8 (by simp)]
  simp[ht]
 have hp:=hy ω1 hΩ1 _ _ _ _ (.inl e) (· <w.heap.size) w (fun _=>none) w [.agg (a95 sig a).toArray,.agg (a95 sig b).toArray] (HR.start w)
  (.cons ⟨_,rfl,by rw[a36];exact bv3 sig 0 0 (fun t ht=>by rw[j7];exact ha t ht)⟩ (.one ⟨_,rfl,by rw[a36];exact bv3 sig sig.length 0 (fun t ht=>by rw[j7];exact hb t ht)⟩))
 refine hp.mono ?_
 rintro e2 w' ⟨u,β',rfl,hu,hr,_⟩
 have hu:u= .int .i64 (dI ω1 x):=hu
 rw[hx ω1 hΩ1 a b ha hb]at hu
 exact⟨by rw[hu],cv2 (fun i hi=>hr.keep i hi) hr.size hr.os hr.tape hr.out hr.dr⟩
end Go.Ev
namespace Go.Ev
open Go
variable{E:Env}{β β':Bij}{ω ω':Opq}{K:Nat→Prop}{w0 w w':World}{h h':Heap}
theorem HR.turn2(r:HR β ω K w0 h w)(hn:h'.next=h.next)(hw:h'.wm=h.wm)(hnone: ∀b,h.get b=none→h'.get b=none)
 (key: ∀b y,h'.get b=some y→ ∃z,h.get b=some z∧(∀L,β b=some L→BR β ω L w.heap[L.blk]? z→BR β ω' L w.heap[L.blk]? y)∧z.isArr=y.isArr):HR β ω' K w0 h' w:=by
 refine⟨fun b y L hg hb=> ?_,fun b b1 y y1 L L1 hg hg1 hb hb1 hne hc=> ?_,fun b hb=>r.fresh b (by rw[←hn];exact hb),fun b hb=>hnone b (r.fget b (by rw[←hn];exact hb)),r.lt,r.kin,r.keep,fun b y L hg hc hb=> ?_,r.size,r.os,r.tape,r.out,r.dr⟩
 ·obtain⟨z,z1,z2,_⟩:=key b y hg
  exact z2 L hb (r.blk b z L z1 hb)
 ·obtain⟨z,z1,_,k1⟩:=key b y hg
  obtain⟨z',z1',_,k2⟩:=key b1 y1 hg1
  exact r.sep b b1 z z' L L1 z1 z1' hb hb1 hne (by rw[k1,k2,←hw];exact hc)
 ·obtain⟨z,z1,_⟩:=key b y hg
  exact r.free b z L z1 (by rw[←hw];exact hc) hb
def cV3(e:TypeId)(sig:List CT)(need:SX)(id:Nat):FC:=⟨[.bool false,.ous 0 (.va 0) sig.length],[.bag e sig (.va 1)],1,need,.ous 1 (.op .llen [.va 1000]) sig.length,[some (.arr e sig (.va 1000))],[.app id [.va 1]]⟩
theorem d56{Ω:Opq→Prop}(hup: ∀ω v0 l,Ω ω→Ω (ω.upd v0 l)){y:HC}(hy:V0 E Ω y){e:TypeId}{sig:List CT}{need x:SX}{id:Nat}{hB hA h2 hR:Heap}(hB0:(cV3 e sig need id).heap=hB)
 (q1:hB.next=hA.next) (q2:hB.wm=hA.wm) (q3: ∀b,hB.get b=none→hA.get b=none) (q4:hB.get 0=some (.bag e sig (.va 1))) (q5:hA.get 0=some (.arr e sig (.va 1))) (q6: ∀b z,hA.get b=some z→b=0)
 (p1:h2.next=hR.next) (p2:h2.wm=hR.wm) (p3: ∀b,hR.get b=none→h2.get b=none) (p4: ∀b z,h2.get b=some z→(b=0∧z= .bag e sig (.va 1)∧hR.get 0=some (.arr e sig (.va 1)))∨(b=1∧z= .arr e sig (.app id [.va 1])∧hR.get 1=some (.arr e sig (.app id [.va 1])))) (p5:h2.get 0=some (.bag e sig (.va 1))) (p6:hB.next=1)
 (hk:a42 y.c y.nv [.bool false,.ous 0 (.op .llen [.va 1]) sig.length] hA= .need x (.ous 1 (.op .llen [.app id [.va 1]]) sig.length) hR)
 (hx: ∀ω,Ω ω→dB ω need=true→dI ω (.va 0)=((dL ω (.va 1)).length:Int)∧ ∀D:List Val,D.Perm (ω.w 1).toL→ω.f id [.vl D]=ω.f id [ω.w 1]∧dB (ω.upd 1 [.vl D]) x=true)
 (hkk:kFC (cV3 e sig need id) (.ous 1 (.op .llen [.app id [.va 1]]) sig.length) h2 []= .ret 0 [.app id [.va 1]]):b60 E Ω y.f (cV3 e sig need id):=by
 intro ω hω hn K w0 β w us r ra
 rw[hB0]at r
 obtain⟨hlen,hD⟩:=hx ω hω hn
 have hbr: ∃D:List Val,D.Perm (ω.w 1).toL∧ ∀L,β 0=some L→BR β (ω.upd 1 [.vl D]) L w.heap[L.blk]? (.arr e sig (.va 1)):=by
  cases hb:β 0 with
  |none=>exact⟨_,List.Perm.refl _,fun L h=>by cases h⟩
  |some L=>
   obtain⟨D,d1,d2⟩:=r.blk 0 _ L q4 hb
   refine⟨D,d1,fun L' h=> ?_⟩
   cases h
   exact d2
 obtain⟨D,d1,d2⟩:=hbr
 obtain⟨hf,hdx⟩:=hD D d1
 obtain⟨ω1,hω1⟩: ∃ω1,ω1=ω.upd 1 [.vl D]:=⟨_,rfl⟩
 rw[←hω1]at d2 hdx
 have w1:ω1.w 1= .vl D:=by rw[hω1];rfl
 have hff:ω1.f=ω.f:=by rw[hω1];rfl
 have hlD:((dL ω1 (.va 1)).length:Int)=dI ω (.va 0):=by
  rw[hlen]
  show(((ω1.w 1).toL).length:Int)=((ω.w 1).toL.length:Int)
  rw[w1]
  have:=d1.length_eq
  show(D.length:Int)=_
  omega
 have r1:HR β ω1 K w0 hA w:=HR.turn2 r q1.symm q2.symm q3 fun b z hz=>by
  obtain rfl:=q6 b z hz
  rw[q5]at hz
  cases hz
  exact⟨_,q4,fun L hL _=>d2 L hL,rfl⟩
 have hp:=hy ω1 (by rw[hω1];exact hup _ _ _ hω) _ _ _ _ (.inr ⟨x,hk,hdx⟩) K w0 β w us r1 (by
   have ra:VRs β ω [.bool false,.ous 0 (.va 0) sig.length] us:=ra
   obtain⟨u1,ur,e1,v1,u2,ur2,e2,v2,e3⟩:=ra
   refine⟨u1,ur,e1,v1,u2,ur2,e2,?_,e3⟩
   have hli:dI ω1 (.op .llen [.va 1])=dI ω (.va 0):=hlD
   simp only[VR]at v2⊢
   rw[hli];exact v2)
 refine hp.mono ?_
 rintro e' w' ⟨u,β',rfl,hu,hr,hs⟩
 have hout:den ω1 (.app id [.va 1])=den ω (.app id [.va 1]):=by
  show ω1.f id [ω1.w 1]=ω.f id [ω.w 1]
  rw[hff,w1,hf]
 refine⟨u,β',_,h2,rfl,⟨[],ab1,by rw[hkk];rfl⟩,?_,?_,?_⟩
 ·have hli:dI ω1 (.op .llen [.app id [.va 1]])=dI ω (.op .llen [.app id [.va 1]]):=by
   show((den ω1 (.app id [.va 1])).toL.length:Int)=((den ω (.app id [.va 1])).toL.length:Int)
   rw[hout]
  simp only[VR]at hu⊢
  rw[hli]at hu;exact hu
 ·refine HR.turn2 hr p1 p2 p3 fun b z hz=> ?_
  rcases p4 b z hz with⟨rfl,rfl,h0⟩|⟨rfl,rfl,h0⟩
  ·refine⟨_,h0,fun L hL hb=> ?_,rfl⟩
   obtain⟨C,e',lo,hi,t1,t2,t3,t4,t5,t6⟩:=hb
   have hw:dL ω1 (.va 1)=D:=by show(ω1.w 1).toL=D;rw[w1];rfl
   rw[hw]at t4 t5
   exact⟨D,d1,C,e',lo,hi,t1,t2,t3,t4,t5,t6⟩
  ·refine⟨_,h0,fun L hL hb=> ?_,rfl⟩
   obtain⟨C,e',lo,hi,t1,t2,t3,t4,t5,t6⟩:=hb
   have hw:dL ω1 (.app id [.va 1])=dL ω (.app id [.va 1]):=by show(den ω1 _).toL=(den ω _).toL;rw[hout]
   rw[hw]at t4 t5
   exact⟨C,e',lo,hi,t1,t2,t3,t4,t5,t6⟩
 ·rw[hB0]
  refine⟨by rw[p1,q1];exact hs.le,fun b hb=>hs.ext b (by rw[←q1];exact hb),fun b hb hnb=> ?_,by rw[p2,q2];exact hs.wm⟩
  rw[p6]at hb
  obtain rfl:b=0:=by omega
  exact .inl (by rw[p5,q4])
noncomputable def hpL(l:List Blk):Heap:=(W0 l Heap.empty).setwm 1
theorem bG2{l:List Blk}(h:l.length<60000):(hpL l).next=l.length∧(hpL l).wm=1∧ ∀b,(hpL l).get b=l[b]? :=
 FC.heap_ok ⟨[],l,1,.cb true,.undef,[],[]⟩ h
theorem cO3{Ω:Opq→Prop}(hup: ∀ω v0 l,Ω ω→Ω (ω.upd v0 l)){y:HC}(hy:V0 E Ω y){e:TypeId}{sig:List CT}{need x:SX}{id:Nat}
 (hk:a42 y.c y.nv [.bool false,.ous 0 (.op .llen [.va 1]) sig.length] (hpL [.arr e sig (.va 1)])= .need x (.ous 1 (.op .llen [.app id [.va 1]]) sig.length) (hpL [.arr e sig (.va 1),.arr e sig (.app id [.va 1])]))
 (hx: ∀ω,Ω ω→dB ω need=true→dI ω (.va 0)=((dL ω (.va 1)).length:Int)∧ ∀D:List Val,D.Perm (ω.w 1).toL→ω.f id [.vl D]=ω.f id [ω.w 1]∧dB (ω.upd 1 [.vl D]) x=true)
 (hkk:kFC (cV3 e sig need id) (.ous 1 (.op .llen [.app id [.va 1]]) sig.length) (hpL [.bag e sig (.va 1),.arr e sig (.app id [.va 1])]) []= .ret 0 [.app id [.va 1]]):b60 E Ω y.f (cV3 e sig need id):=by
 obtain⟨a1,a2,a3⟩:=bG2 (l:=[.bag e sig (.va 1)]) (by show 1<60000;omega)
 obtain⟨b1,b2,b3⟩:=bG2 (l:=[.arr e sig (.va 1)]) (by show 1<60000;omega)
 obtain⟨c1,c2,c3⟩:=bG2 (l:=[.arr e sig (.va 1),.arr e sig (.app id [.va 1])]) (by show 2<60000;omega)
 obtain⟨d1,d2,d3⟩:=bG2 (l:=[.bag e sig (.va 1),.arr e sig (.app id [.va 1])]) (by show 2<60000;omega)
 refine d56 hup hy (hB:=hpL [.bag e sig (.va 1)]) rfl (by rw[a1,b1];rfl) (by rw[a2,b2]) (fun b h=> ?_) (by rw[a3];rfl) (by rw[b3];rfl) (fun b z h=> ?_) (h2:=hpL [.bag e sig (.va 1),.arr e sig (.app id [.va 1])]) (by rw[c1,d1];rfl) (by rw[c2,d2]) (fun b h=> ?_) (fun b z h=> ?_) (by rw[d3];rfl) a1 hk hx hkk
 ·rw[a3]at h
  rw[b3]
  match b,h with
  |b+1,_=>rfl
 ·rw[b3]at h
  match b,h with
  |0,_=>rfl
  |b+1,h=>cases h
 ·rw[c3]at h
  rw[d3]
  match b,h with
  |b+2,_=>rfl
 ·rw[d3]at h
  rw[c3,c3]
  match b,h with
  |0,h=>cases h;exact .inl ⟨rfl,rfl,rfl⟩
  |1,h=>cases h;exact .inr ⟨rfl,rfl,rfl⟩
  |b+2,h=>cases h
end Go.Ev
namespace Go.Ev
open Go
variable{E:Env}{β β':Bij}{ω ω':Opq}{K:Nat→Prop}{w0 w w':World}{h h':Heap}
def dd3(g:FuncId)(e:TypeId)(sig:List CT)(need:SX)(id:Nat):FC:=⟨[.ous 0 (.va 0) sig.length,.func (.func g) [] []],[.bag e sig (.va 1)],0,need,.tup [],[some (.arr e sig (.va 1000))],[.app id [.va 1]]⟩
theorem cO4{Ω:Opq→Prop}(hup: ∀ω v0 l,Ω ω→Ω (ω.upd v0 l)){y:HC}(hy:V0 E Ω y){g:FuncId}{e:TypeId}{sig:List CT}{need x:SX}{id:Nat}
 (hB0:(dd3 g e sig need id).heap=((W0 [.bag e sig (.va 1)] Heap.empty).setwm 0))
 (hk:a42 y.c y.nv [.ous 0 (.op .llen [.va 1]) sig.length,.func (.func g) [] []] ((W0 [.arr e sig (.va 1)] Heap.empty).setwm 0)= .need x (.tup []) ((W0 [.arr e sig (.app id [.va 1])] Heap.empty).setwm 0))
 (hx: ∀ω,Ω ω→dB ω need=true→dI ω (.va 0)=((dL ω (.va 1)).length:Int)∧ ∀D:List Val,D.Perm (ω.w 1).toL→ω.f id [.vl D]=ω.f id [ω.w 1]∧dB (ω.upd 1 [.vl D]) x=true)
 (hkk:kFC (dd3 g e sig need id) (.tup []) ((W0 [.arr e sig (.app id [.va 1])] Heap.empty).setwm 0) []= .ret 0 [.app id [.va 1]]):b60 E Ω y.f (dd3 g e sig need id):=by
 obtain⟨a1,a2,a3⟩:=FC.heap_ok (c:=⟨[],[.bag e sig (.va 1)],0,.cb true,.undef,[],[]⟩) (by show 1<60000;omega)
 obtain⟨b1,b2,b3⟩:=FC.heap_ok (c:=⟨[],[.arr e sig (.va 1)],0,.cb true,.undef,[],[]⟩) (by show 1<60000;omega)
 obtain⟨c1,c2,c3⟩:=FC.heap_ok (c:=⟨[],[.arr e sig (.app id [.va 1])],0,.cb true,.undef,[],[]⟩) (by show 1<60000;omega)
 have a1':((W0 [.bag e sig (.va 1)] Heap.empty).setwm 0).next=1:=a1
 have b1':((W0 [.arr e sig (.va 1)] Heap.empty).setwm 0).next=1:=b1
 have c1':((W0 [.arr e sig (.app id [.va 1])] Heap.empty).setwm 0).next=1:=c1
 intro ω hω hn K w0 β w us r ra
 rw[hB0]at r
 obtain⟨hlen,hD⟩:=hx ω hω hn
 have q4:((W0 [.bag e sig (.va 1)] Heap.empty).setwm 0).get 0=some (.bag e sig (.va 1)):=(a3 0).trans rfl
 have hbr: ∃D:List Val,D.Perm (ω.w 1).toL∧ ∀L,β 0=some L→BR β (ω.upd 1 [.vl D]) L w.heap[L.blk]? (.arr e sig (.va 1)):=by
  cases hb:β 0 with
  |none=>exact⟨_,List.Perm.refl _,fun L h=>by cases h⟩
  |some L=>
   obtain⟨D,d1,d2⟩:=r.blk 0 _ L q4 hb
   refine⟨D,d1,fun L' h=> ?_⟩
   cases h
   exact d2
 obtain⟨D,d1,d2⟩:=hbr
 obtain⟨hf,hdx⟩:=hD D d1
 obtain⟨ω1,hω1⟩: ∃ω1,ω1=ω.upd 1 [.vl D]:=⟨_,rfl⟩
 rw[←hω1]at d2 hdx
 have w1:ω1.w 1= .vl D:=by rw[hω1];rfl
 have hff:ω1.f=ω.f:=by rw[hω1];rfl
 have hlD:((dL ω1 (.va 1)).length:Int)=dI ω (.va 0):=by
  rw[hlen]
  show(((ω1.w 1).toL).length:Int)=((ω.w 1).toL.length:Int)
  rw[w1]
  have:=d1.length_eq
  show(D.length:Int)=_
  omega
 have r1:HR β ω1 K w0 ((W0 [.arr e sig (.va 1)] Heap.empty).setwm 0) w:=HR.turn2 r (b1.trans a1.symm) (b2.trans a2.symm) (fun b h=>by
  rw[show((W0 [.bag e sig (.va 1)] Heap.empty).setwm 0).get b=[Blk.bag e sig (.va 1)][b]? from a3 b]at h
  rw[show((W0 [.arr e sig (.va 1)] Heap.empty).setwm 0).get b=[Blk.arr e sig (.va 1)][b]? from b3 b]
  match b,h with
  |b+1,_=>rfl) fun b z hz=>by
  rw[show((W0 [.arr e sig (.va 1)] Heap.empty).setwm 0).get b=[Blk.arr e sig (.va 1)][b]? from b3 b]at hz
  match b,hz with
  |0,hz=>cases hz;exact⟨_,q4,fun L hL _=>d2 L hL,rfl⟩
  |b+1,hz=>cases hz
 have hp:=hy ω1 (by rw[hω1];exact hup _ _ _ hω) _ _ _ _ (.inr ⟨x,hk,hdx⟩) K w0 β w us r1 (by
   have ra:VRs β ω [.ous 0 (.va 0) sig.length,.func (.func g) [] []] us:=ra
   obtain⟨u1,ur,e1,v1,hr2⟩:=ra
   refine⟨u1,ur,e1,?_,hr2⟩
   have hli:dI ω1 (.op .llen [.va 1])=dI ω (.va 0):=hlD
   simp only[VR]at v1⊢
   rw[hli];exact v1)
 refine hp.mono ?_
 rintro e' w' ⟨u,β',rfl,hu,hr,hs⟩
 have hout:den ω1 (.app id [.va 1])=den ω (.app id [.va 1]):=by
  show ω1.f id [ω1.w 1]=ω.f id [ω.w 1]
  rw[hff,w1,hf]
 refine⟨u,β',_,_,rfl,⟨[],ab1,by rw[hkk];rfl⟩,by simp only[VR,VRs]at hu⊢;exact hu,?_,?_⟩
 ·refine HR.turn2 hr rfl rfl (fun b h=>h) fun b z hz=>⟨z,hz,fun L hL hb=> ?_,rfl⟩
  rw[show((W0 [.arr e sig (.app id [.va 1])] Heap.empty).setwm 0).get b=[Blk.arr e sig (.app id [.va 1])][b]? from c3 b]at hz
  match b,hz with
  |0,hz=>
   cases hz
   obtain⟨C,e',lo,hi,t1,t2,t3,t4,t5,t6⟩:=hb
   have hw:dL ω1 (.app id [.va 1])=dL ω (.app id [.va 1]):=by show(den ω1 _).toL=(den ω _).toL;rw[hout]
   rw[hw]at t4 t5
   exact⟨C,e',lo,hi,t1,t2,t3,t4,t5,t6⟩
  |b+1,hz=>cases hz
 ·rw[hB0]
  refine⟨by rw[a1',c1'];exact e8 _,fun b hb=>hs.ext b (by rw[b1'];rw[a1']at hb;exact hb),fun b hb hnb=> ?_,c2.trans a2.symm⟩
  rw[a1']at hb
  obtain rfl:b=0:=by omega
  exact .inr (.inr (by rw[q4];exact .bag _ _ _))
end Go.Ev
namespace Go.Ev
open Go
def bR4(e:SX):AV:= .oint .i64 e
def in2(k:Nat):List SX:=[.op .lget [.va 0,.ci (k:Int),.ci 0],.op .lget [.va 0,.ci (k:Int),.ci 1]]
def inE(n:Nat):List SX:=(List.range' 0 n).flatMap in2
def sg2:List CT:=[.int .i64,.int .i64]
def ca8(e n:Nat):List Blk:=[.cells e 0 [.oint .i64 (.va 3),.oint .i64 (.va 4)],.cells e 0 ((inE n).map bR4)]
noncomputable def hIn(e n:Nat):Heap:=(W0 (ca8 e n) Heap.empty).setwm 1
def cO5(k:Nat):SX:= .op .row (in2 k)
def dp2(n j:Nat):SX:= .op .row ((List.range' 0 j).map cO5++[.op .row [.va 3,.va 4]]++(List.range' j (n-j)).map cO5)
def bS8(x:SX):VT→Bool
 | .ret 0 [e]=>SX.beq e x
 | .both a b=>bS8 x a&&bS8 x b
 |_=>false
theorem bv4{ω:Opq}{x:SX}: ∀{t:VT},bS8 x t=true→Q1 t ω=some (0,[den ω x])
 | .ret i o,h=>by
   unfold bS8 at h
   split at h
   ·rename_i e he
    cases he
    rw[SX.beq_eq _ _ h];rfl
   ·rename_i he;cases he
   ·cases h
 | .both a b,h=>by
   obtain⟨h1,h2⟩:=P8 (show(bS8 x a&&bS8 x b)=true from h)
   have a1:=bv4 (ω:=ω) h1
   have a2:=bv4 (ω:=ω) h2
   simp[Q1,a1,a2]
 | .bad,h=>by simp[bS8]at h
 | .ite _ _ _,h=>by simp[bS8]at h
 | .need _ _,h=>by simp[bS8]at h
 | .loop _ _ _,h=>by simp[bS8]at h
 | .mloop _ _ _ _,h=>by simp[bS8]at h
def bj4(e:TypeId)(need out:SX):FC:=⟨[.ous 1 (.va 1) 2,.oint .i64 (.va 2),.sl 0 0 1 1],[.cells e 0 [.oint .i64 (.va 3),.oint .i64 (.va 4)],.arr e sg2 (.va 0)],1,need,.ous 2 (.op .llen [.va 1000]) 2,[none,some (.arr e sg2 (.va 1000))],[out]⟩
noncomputable def bj5(E:Env)(N:Nat)(f:FuncId)(e:TypeId)(c:FC)(args:List AV)(n j:Nat):Bool:=bS8 (dp2 n j) (ev E N RPT ao0 (.call f args (hIn e n) (kFC c)) [])
noncomputable def cC8(E:Env)(N:Nat)(f:FuncId)(e:TypeId)(c:FC)(M:Nat):Bool:=
 bj5 E N f e c [.nils,.int .i64 0,.sl 0 0 1 1] 0 0&&(List.range (M+1)).all fun n=>(List.range (n+1)).all fun j=>bj5 E N f e c [.us 1 0 n 2,.int .i64 (j:Int),.sl 0 0 1 1] n j
def cO6(r:Val):Val:= .vl [r.toL.getD 0 default,r.toL.getD 1 default]
theorem d57(r:Val)(l:List Val):R3 sg2 (r::l)= .int .i64 (r.toL.getD 0 default).toI:: .int .i64 (r.toL.getD 1 default).toI::R3 sg2 l:=rfl
theorem bj6{l:List Val}{k:Nat}(h:k<l.length):l.drop k=l.getD k (.vl [])::l.drop (k+1):=by
 rw[G6 h,i6,j8 h];rfl
theorem cC9{β:Bij}{ω:Opq}{l:List Val}(hl:(ω.w 0).toL=l): ∀(m k:Nat),k+m=l.length→VRs β ω (((List.range' k m).flatMap in2).map bR4) (R3 sg2 (l.drop k))
 |0,k,h=>by
  rw[E5 (by omega)]
  rfl
 |m+1,k,h=>by
  rw[A8,x6,o9,bj6 (by omega),d57]
  refine⟨_,_,rfl,?_,_,_,rfl,?_,cC9 hl m (k+1) (by omega)⟩
  ·show Value.int .i64 ((l.getD k (.vl [])).toL.getD 0 default).toI= .int .i64 (R6 (ω.w 0).toL (k:Int) 0).toI
   rw[hl];rfl
  ·show Value.int .i64 ((l.getD k (.vl [])).toL.getD 1 default).toI= .int .i64 (R6 (ω.w 0).toL (k:Int) 1).toI
   rw[hl];rfl
theorem d58(n:Nat):((inE n).map bR4).all AV.oneA=true:=by
 rw[j5]
 intro x hx
 obtain⟨e,_,rfl⟩:=j6.1 hx
 rfl
theorem bj7: ∀l:List Val,(R3 sg2 l).length=l.length*2
 | []=>rfl
 |r::l=>by rw[d57,List.length_cons,List.length_cons,bj7 l,List.length_cons];omega
theorem ca9: ∀(m k:Nat),(((List.range' k m).flatMap in2).map bR4).length=m*2
 |0,k=>rfl
 |m+1,k=>by
  rw[A8,x6,o9,j9,ca9 m (k+1)]
  show 2+m*2=(m+1)*2
  omega
theorem b69{ω:Opq}{l:List Val}(hl:(ω.w 0).toL=l): ∀(m k:Nat),k+m≤l.length→Q4 ω ((List.range' k m).map cO5)=((l.drop k).take m).map cO6
 |0,k,h=>by simp[Q4]
 |m+1,k,h=>by
  rw[A8,k6,bj6 (by omega),List.take_succ_cons,k6]
  show den ω (cO5 k)::Q4 ω ((List.range' (k+1) m).map cO5)=_
  rw[b69 hl m (k+1) (by omega)]
  congr 1
  show Val.vl [R6 (ω.w 0).toL (k:Int) 0,R6 (ω.w 0).toL (k:Int) 1]=_
  rw[hl];rfl
theorem cO7{ω:Opq}{l:List Val}(hl:(ω.w 0).toL=l){j:Nat}(hj:j≤l.length):den ω (dp2 l.length j)= .vl ((l.take j).map cO6++[.vl [ω.w 3,ω.w 4]]++(l.drop j).map cO6):=by
 show Val.vl (Q4 ω ((List.range' 0 j).map cO5++[.op .row [.va 3,.va 4]]++(List.range' j (l.length-j)).map cO5))=_
 rw[b44,b44,b69 hl j 0 (by omega),b69 hl (l.length-j) j (by omega),J4,N7 (show(l.drop j).length≤l.length-j by rw[n9];omega)]
 rfl
theorem cO8{E Ec:Env}{Ω:Opq→Prop}{N M:Nat}{f:FuncId}{e:TypeId}{need out:SX}(hP:Ec.P=E.P)(hk: ∀ω,Ω ω→cq7 Ec ω N)(he:e≠aV8)(hfx: ∀ω,Ω ω→ω.fix e=false)
 (hrun:cC8 Ec N f e (bj4 e need out) M=true)
 (hx: ∀ω,Ω ω→dB ω need=true→ ∃(l:List Val) (j:Nat),(ω.w 0).toL=l∧dI ω (.va 1)=(l.length:Int)∧dI ω (.va 2)=(j:Int)∧j≤l.length∧l.length≤M∧den ω out= .vl ((l.take j).map cO6++[.vl [ω.w 3,ω.w 4]]++(l.drop j).map cO6)):b60 E Ω f (bj4 e need out):=by
 intro ω hω hn K w0 β w us r ra
 obtain⟨l,j,hl,h1,h2,hj,hM,hout⟩:=hx ω hω hn
 obtain⟨a1,a2,a3⟩:=FC.heap_ok (bj4 e need out) (by show 2<60000;omega)
 obtain⟨b1,b2,b3⟩:=FC.heap_ok (c:=⟨[],ca8 e l.length,1,.cb true,.undef,[],[]⟩) (by show 2<60000;omega)
 have b1':(hIn e l.length).next=2:=b1
 have b2':(hIn e l.length).wm=1:=b2
 have b3': ∀b,(hIn e l.length).get b=(ca8 e l.length)[b]? :=b3
 have a1':(bj4 e need out).heap.next=2:=a1
 have a2':(bj4 e need out).heap.wm=1:=a2
 have g1:(bj4 e need out).heap.get 1=some (.arr e sg2 (.va 0)):=a3 1
 have r1:HR β ω K w0 (hIn e l.length) w:=HR.retell (y:= .cells e 0 ((inE l.length).map bR4)) r g1 (.inl (by rw[a2'];exact e8 _)) (fun L hL hbr=>by
     obtain⟨C,e',lo,hi,q1,q0,q2,q3,q4,q5⟩:=hbr
     obtain rfl:e'=e:=q0.resolve_right he
     have hd:dL ω (.va 0)=l:=hl
     rw[hd]at q3 q4
     have hlen:((inE l.length).map bR4).length=l.length*2:=ca9 l.length 0
     refine⟨C,lo,hi,R3 sg2 l,q1,q2,by rw[hlen];exact q3,d58 _,cC9 hl l.length 0 (by omega),fun i hi'=> ?_,fun i _ h=>q5 i h,fun h=>by rw[hfx ω hω]at h;cases h⟩
     rw[hlen,←bj7]at hi'
     rw[j8 hi']
     exact q4 i _ (j8 hi')) (by rw[b1',a1']) (by rw[b2',a2']) (fun z=>by
     rw[b3',a3]
     by_cases hz:z=1
     ·subst hz;rfl
     ·rw[if_neg hz]
      match z,hz with
      |0,_=>rfl
      |1,hz=>exact absurd rfl hz
      |z+2,_=>rfl)
 have ra:VRs β ω [.ous 1 (.va 1) 2,.oint .i64 (.va 2),.sl 0 0 1 1] us:=ra
 obtain⟨u1,ur,e1,v1,u2,ur2,e2,v2,e3⟩:=ra
 have v2':u2= .int .i64 (j:Int):=by rw[←h2];exact v2
 obtain⟨hr0,hr1⟩:=P8 hrun
 have fin: ∀args,VRs β ω args us→bj5 Ec N f e (bj4 e need out) args l.length j=true→Calls E.P f us.toArray w (fun e' w'=> ∃u β' v h',e'= .returned u∧TPT ω (0,Q4 ω (bj4 e need out).outs) (kFC (bj4 e need out) v h')∧VR β' ω v u∧HR β' ω K w0 h' w'∧St (bj4 e need out).heap β h' β'):=by
  intro args hargs hc
  have T0:TPT ω (0,Q4 ω (bj4 e need out).outs) (ev Ec N RPT ao0 (.call f args (hIn e l.length) (kFC (bj4 e need out)))):=by
   refine⟨[],ab1,?_⟩
   rw[bv4 hc,cO7 hl hj,←hout];rfl
  rw[←hP]
  refine(hk ω hω RPT ao0 (TPT ω (0,Q4 ω (bj4 e need out).outs)) (ag7 ω _) f args _ _ T0 K w0 β w us r1 hargs).mono ?_
  rintro e' w' ⟨u,β',v,h',rfl,k1,k2,k3,k4⟩
  refine⟨u,β',v,h',rfl,k1,k2,k3,⟨by rw[a1',←b1'];exact k4.le,fun b hb=>k4.ext b (by rw[b1'];rw[a1']at hb;exact hb),fun b hb hn=> ?_,by rw[a2',←b2'];exact k4.wm⟩⟩
  rw[a1']at hb
  match b,hb with
  |0,_=>
   rcases k4.unm 0 (by rw[b1'];omega) hn with q|q|q
   ·exact .inl (q.trans (by rw[b3',a3];rfl))
   ·exact .inr (.inl q)
   ·rw[b3']at q;cases q
  |1,_=>exact .inr (.inr (.of g1))
 rcases v1 with⟨L,cap,hL,hcap,hv,hle⟩|⟨hv,h0⟩
 ·refine fin [.us 1 0 l.length 2,.int .i64 (j:Int),.sl 0 0 1 1] ⟨u1,ur,e1,⟨L,cap,hL,by rw[j7];exact hcap,?_⟩,u2,ur2,e2,v2',e3⟩ ?_
  ·rw[hv]
   have hq:(dI ω (.va 1)).toNat=l.length:=by rw[h1];rfl
   rw[hq];rfl
  ·rw[j5]at hr1
   have:=hr1 l.length (s9.2 (by omega))
   rw[j5]at this
   exact this j (s9.2 (by omega))
 ·have hl0:l.length=0:=by
   have:dI ω (.va 1)=0:=h0
   omega
  have hj0:j=0:=by omega
  subst hj0
  refine fin [.nils,.int .i64 0,.sl 0 0 1 1] ⟨u1,ur,e1,hv,u2,ur2,e2,v2',e3⟩ ?_
  rw[hl0];exact hr0
end Go.Ev
