import Derived.Test.YtbfbcanipfnfeaaE42
import Derived.Shelf.SlSortCmp.NoneTotal
set_option linter.unusedSimpArgs false
set_option linter.unusedVariables false
namespace Go.Ev
open Go
variable{E:Env}{β β':Bij}{ω:Opq}{K:Nat→Prop}{w0 w w':World}{h h':Heap}{P:Program}{ρ:Go.Shelf.Ren}
theorem b42{l:List Value}{t:Nat}{v:Value}(h:l[t]? =some v):(l.toArray)[t]! =v:=by
 simp[h]
theorem aO2(sig:List CT)(l:List Val):Go.Sort.flatK (a27 sig) sig.length l.toArray=(N7 sig l).toArray:=by
 refine Go.Sort.ext_get! (by rw[Go.Sort.size_flatK,w6,w6,O3]) fun t ht=> ?_
 have ht':t<l.toArray.size*sig.length:=by simpa using ht
 rw[Go.Sort.get_flatK _ _ _ _ ht']
 rw[w6]at ht'
 have k0:0<sig.length:=by
  rcases G1 sig.length with h|h
  ·rw[h]at ht';omega
  ·exact h
 have hq:t/sig.length<l.length:=(Nat.div_lt_iff_lt_mul k0).2 ht'
 have hr:t % sig.length<sig.length:=Nat.mod_lt _ k0
 have:=ag0 hr hq
 rw[x9,Nat.div_add_mod]at this
 rw[b42 this]
 have e1:l.toArray[t/sig.length]! =l[t/sig.length]:=by simp[hq]
 have e2:l.getD (t/sig.length) (.vl [])=l[t/sig.length]:=by rw[d9,j0 hq,Option.getD_some]
 rw[e1,e2]
 simp[a27,hr]
theorem cm1{w w':World}(hp: ∀i,i<w.heap.size→w'.heap[i]? =w.heap[i]?)(hs:w.heap.size≤w'.heap.size)(ho:w'.os=w.os)(ht:w'.tape=w.tape)(hu:w'.output=w.output)(hd:w.drawn≤w'.drawn):
 ∃q os',w'=Go.Sort.grow (w.drewN q) os':=by
 refine⟨w'.drawn-w.drawn,w'.heap.extract w.heap.size w'.heap.size,?_⟩
 have hh:w'.heap=w.heap++w'.heap.extract w.heap.size w'.heap.size:=by
  refine Array.ext_getElem? fun i=> ?_
  rcases d8 i w.heap.size with h1|h1
  ·rw[hp i h1,D8 h1]
  ·rw[Array.getElem?_append_right h1,Array.getElem?_extract]
   split
   ·congr 1;omega
   ·rw[s6 (by omega)]
 obtain⟨heap,tape,drawn,os,out⟩:=w'
 obtain⟨heap0,tape0,drawn0,os0,out0⟩:=w
 simp only at hh ho ht hu hd hs
 subst ho ht hu
 show World.mk _ _ _ _ _=World.mk _ _ _ _ _
 simp only[World.drewN,World.mk.injEq,and_true,true_and]
 exact⟨hh,by omega⟩
def cm2(P:Program)(g:FuncId)(sig:List CT)(cf:Val→Val→Int):Prop:= ∀(x y:Val) (w:World),
 Calls P g #[.agg (a27 sig x).toArray,.agg (a27 sig y).toArray] w fun e w'=>e= .returned (.int .i64 (cf x y))∧ ∃q os',w'=Go.Sort.grow (w.drewN q) os'
noncomputable def at3(cf:Val→Val→Int)(l:List Val):List Val:=(Go.Sort.pdq (Go.Proofs.ltOf cf) l.toArray 0 l.length (Go.Lib.bitLen l.length) true true).toList
theorem ay1{cf:Val→Val→Int}(hO:Go.Sort.SWO (Go.Proofs.ltOf cf))(l:List Val):(at3 cf l).Perm l∧(at3 cf l).Pairwise (fun a b=>cf b a<0→False):=by
  have h:=Go.Sort.pdq_sorts (Go.Proofs.ltOf cf) hO l.toArray 0 l.length (Go.Lib.bitLen l.length) true true (k8 _) (by simp) (Or.inl rfl)
  obtain⟨⟨h1,_,h3⟩,h4⟩:=h
  unfold at3
  generalize Go.Sort.pdq (Go.Proofs.ltOf cf) l.toArray 0 l.length (Go.Lib.bitLen l.length) true true=d at h1 h3 h4
  replace h1:d.size=l.length:=by simpa using h1
  refine⟨?_,?_⟩
  ·have a1:(d.extract 0 l.length).toList=d.toList:=by rw[←h1];simp
   have a2:(l.toArray.extract 0 l.length).toList=l:=by simp
   rw[a1,a2]at h3;exact h3
  ·rw[I3]
   intro i j hi hj hij hlt
   have:=h4 i j (k8 _) hij (by rw[←h1];simpa using hj)
   simp only[Array.length_toList]at hi hj
   rw[getElem!_pos d i hi,getElem!_pos d j hj]at this
   simp only[Go.Proofs.ltOf,decide_eq_false_iff_not]at this
   exact this (by simpa using hlt)
theorem c53(cf:Val→Val→Int)(hO:Go.Sort.SWO (Go.Proofs.ltOf cf)):at3 cf []=[]:=(ay1 hO []).1.eq_nil
theorem be9{cf:Val→Val→Int}(hO:Go.Sort.SWO (Go.Proofs.ltOf cf))(l:List Val):(at3 cf l).length=l.length:=(ay1 hO l).1.length_eq
theorem b43(cf:Val→Val→Int)(l:List Val):Go.Sort.pdq (Go.Proofs.ltOf cf) l.toArray 0 l.length (Go.Lib.bitLen l.length) true true=(at3 cf l).toArray:=by
 unfold at3;simp
theorem bL7{blk off:Nat}{F C:Array Value}{e:TypeId}{fr:Nat×Nat}(hb:w.heap[blk]? =some (.cells C e fr)):(Go.Sort.putRow id w blk off F).heap[blk]? =some (.cells (Go.Sort.putCells id off F C) e fr):=by
 simp[Go.Sort.putRow,Go.Sort.mapBlock,D7,hb,Go.Sort.onCells]
theorem bf0{blk off i:Nat}{F:Array Value}(hi:i≠blk):(Go.Sort.putRow id w blk off F).heap[i]? =w.heap[i]? :=by
 simp[Go.Sort.putRow,Go.Sort.mapBlock,D7,Ne.symm hi]
theorem cm3(L:Go.Proofs.SlLaysF0.n6 P ρ){sig:List CT}{e:TypeId}{x:SX}{g:FuncId}{cf:Val→Val→Int}(aE: ∀w,(isAgg (ρ.t 24)).run P w= .ok true w)(zE: ∀w,(Go.sizeOf (ρ.t 24)).run P w= .ok sig.length w)
 (hO:Go.Sort.SWO (Go.Proofs.ltOf cf)) (eg: ∀args w,(callFunc g args).run P w= .ok (.enter g args) w) (hg:cm2 P g sig cf) {y:SX} (hy:dL ω y=at3 cf (dL ω x)) {b:Nat}
 (r:HR β ω K w0 h w) (hh:h.get b=some (.arr e sig x)) (hwm:h.wm≤b) {len:SX} (hlen:dI ω len=(dL ω x).length) (hsz:(dL ω x).length≤1000000) {u:Value} (hu:VR β ω (.ous b len sig.length) u):
 Calls P (ρ.f 6) #[u,.func (.func g) #[] #[]] w fun e' w'=>e'= .returned (.tuple #[])∧HR β ω K w0 (h.put b (some (.arr e sig y))) w'∧St h β (h.put b (some (.arr e sig y))) β:=by
 simp only[VR]at hu
 rcases hu with⟨L0,cap,hL,hext,hv,hcap⟩|⟨hv,hz⟩
 ·subst hv
  rw[hlen,Int.toNat_natCast]
  obtain⟨C,e',lo,hi,q1,q0,q2,q3,q4,q5⟩:=r.blk b _ L0 hh hL
  have hblk:=r.lt b L0 hL
  have hfl:=O3 sig (dL ω x)
  have hHold:Go.Sort.HoldsK (a27 sig) sig.length w L0.blk L0.off (dL ω x).toArray:=by
   intro j hj
   rw[aO2]at hj⊢
   rw[w6]at hj
   have hq:=j0 hj
   refine⟨?_,a28 q1 ?_⟩
   ·rw[a41 q1,q4 _ _ hq,b42 hq];rfl
   ·have:=q5 j (by omega)
    exact this
  have hcmp:Go.Proofs.CmpLays P g #[] (a27 sig) sig.length cf L0.blk L0.off (dL ω x).toArray.size w:=fun m os dk _ a c=>hg a c _
  have hcon:=Go.Proofs.AnyQ.slices_SortFunc_eq L sig.length aE zE (a27 sig) (P4 sig) (fun r v hv=>by
   have:=aJ4 sig [r] v (by simpa[N7]using hv)
   exact this) cf hO g #[] L0.blk L0.off cap (dL ω x).toArray w eg hcmp hHold hblk (by rw[w6];omega)
  rw[w6,b43,←hy]at hcon
  refine hcon.mono ?_
  rintro e2 w' ⟨rfl,n,os,rfl⟩
  refine⟨rfl,?_⟩
  have hyl:(dL ω y).length=(dL ω x).length:=by rw[hy];exact be9 hO _
  obtain⟨r1,s1⟩:=HR.upd (w':=Go.Sort.putRowK (a27 sig) sig.length w L0.blk L0.off (dL ω y).toArray) r b _ (.arr e sig y) L0 hh hL hwm (fun i hi=>bf0 hi) (Go.Sort.size_putRow _ _ _ _ _) rfl rfl rfl rfl (by
   refine⟨_,e',lo,hi,bL7 q1,q0,?_,?_,?_,q5⟩
   ·simp only[Go.Sort.putCells,Array.size_mapIdx];exact q2
   ·rw[hyl];exact q3
   ·intro i v hv
    rw[aO2]
    have hil:i<(N7 sig (dL ω y)).length:=(k6.1 hv).1
    have hfy:=O3 sig (dL ω y)
    rw[hyl]at hfy
    have hC:L0.off+i<C.size:=by omega
    simp only[Go.Sort.putCells,Array.getElem?_mapIdx]
    rw[p7 hC,Option.map_some,if_pos ⟨by omega,by rw[w6];omega⟩,y7,b42 hv]
    rfl)
  refine⟨HR.later r1 (fun i hi=> ?_) ?_ rfl rfl rfl ?_,s1⟩
  ·show(Go.Sort.grow _ _).heap[i]? =_
   rw[Go.Sort.heap_grow_old _ _ (by simpa[Go.Sort.putRowK]using hi)]
   rfl
  ·simp[Go.Proofs.sortWorldK,Go.Sort.putRowK]
  ·show w.drawn≤w.drawn+n;omega
 ·subst hv
  have hx:dL ω x=[]:=by
   rw[hlen]at hz
   exact r9.1 (by omega)
  refine(Go.Proofs.AnyF.slices_SortFunc_none L none 0 _ w).mono ?_
  rintro e2 w' ⟨rfl,rfl⟩
  refine⟨rfl,?_⟩
  have hyx:dL ω y=dL ω x:=by rw[hy,hx,c53 cf hO]
  have hb65:=Heap.get_lim h b _ hh
  refine⟨HR.retell (y:= .arr e sig y) r hh (.inl hwm) (fun L hL hbr=> ?_) (Heap.next_put _ _ _) (Heap.wm_put _ _ _) (fun z=>by rw[Heap.get_put,if_pos hb65]),⟨by rw[Heap.next_put];exact b9 _,fun _ _=>rfl,fun b' hb' hn=> ?_,Heap.wm_put _ _ _⟩⟩
  ·obtain⟨C,e',lo,hi,q1,q0,q2,q3,q4,q5⟩:=hbr
   exact⟨C,e',lo,hi,q1,q0,q2,by rw[hyx];exact q3,by rw[hyx];exact q4,q5⟩
  ·by_cases e1:b'=b
   ·subst e1;exact .inr (.inr ⟨_,_,_,hh⟩)
   ·left;rw[Heap.get_put,if_neg e1]
def c54(g:FuncId)(e:TypeId)(sig:List CT)(id:Nat):FC:=⟨[.ous 0 (.va 0) sig.length,.func (.func g) [] []],[.arr e sig (.va 1)],0,.op .and [.op (.cmp .eql) [.va 0,.op .llen [.va 1]],.op (.cmp .leq) [.op .llen [.va 1],.ci 1000000]],.tup [],[some (.arr e sig (.va 1000))],[.app id [.va 1]]⟩
theorem cF1{Ω:Opq→Prop}(L:Go.Proofs.SlLaysF0.n6 E.P ρ){f g:FuncId}(hf:ρ.f 6=f){sig:List CT}{e:TypeId}{id:Nat}{cf:Val→Val→Int}(aE: ∀w,(isAgg (ρ.t 24)).run E.P w= .ok true w)(zE: ∀w,(Go.sizeOf (ρ.t 24)).run E.P w= .ok sig.length w)
 (hO:Go.Sort.SWO (Go.Proofs.ltOf cf)) (eg: ∀args w,(callFunc g args).run E.P w= .ok (.enter g args) w) (hg:cm2 E.P g sig cf)
 (hΩ: ∀ω,Ω ω→ ∀l,ω.f id [l]= .vl (at3 cf l.toL)) (hk:kFC (c54 g e sig id) (.tup []) ((c54 g e sig id).heap.put 0 (some (.arr e sig (.app id [.va 1])))) []= .ret 0 [.app id [.va 1]]):bp4 E Ω f (c54 g e sig id):=by
 intro ω hω hn K w0 β w us r ra
 obtain⟨n1,n2⟩:=M6 (show(dB ω (.op (.cmp .eql) [.va 0,.op .llen [.va 1]])&&dB ω (.op (.cmp .leq) [.op .llen [.va 1],.ci 1000000]))=true from hn)
 have n1:(ω.w 0).toI=((ω.w 1).toL.length:Int):=of_decide_eq_true n1
 have n2:((ω.w 1).toL.length:Int)≤1000000:=of_decide_eq_true n2
 obtain⟨u,ur,rfl,hu,v2,ur2,e2,hv2,hnil⟩:=ra
 have hnil:ur2=[]:=hnil
 subst hnil
 subst e2
 obtain⟨m,a,b,hv2,q1,q2⟩:=hv2
 have a35:(c54 g e sig id).heap.get 0=some (.arr e sig (.va 1)):=rfl
 have hy:dL ω (.app id [.va 1])=at3 cf (dL ω (.va 1)):=by
  show(ω.f id [ω.w 1]).toL=_
  rw[hΩ ω hω];rfl
 have:=cm3 L aE zE hO eg hg hy (b:=0) (len:= .va 0) r a35 (k8 _) n1 (by show(ω.w 1).toL.length≤1000000;omega) hu
 rw[hf]at this
 have ha:a= #[]:=u4.1 q1
 have hb:b= #[]:=u4.1 q2
 subst ha hb hv2
 refine this.mono ?_
 rintro e' w' ⟨rfl,h1,h2⟩
 exact⟨_,β,.tup [],_,rfl,⟨[],a93,by rw[hk];rfl⟩,⟨_,rfl,rfl⟩,h1,h2⟩
theorem c55{Ω:Opq→Prop}(hup: ∀ω v0 l,Ω ω→Ω (ω.upd v0 l)){f:FuncId}{nv:Nat}{c:FC}(ho:ck5 c nv=true)(h:bp4 E Ω f c):R4 E Ω ⟨f,nv,c⟩:=fun ω hω args h' v h2 e=>c50 hup ho h hω e
theorem bp8{r:Val}: ∀(s:List CT) (i j:Nat),(∀t,t<s.length→ω.w (i+t)=r.toL.getD (j+t) default)→VRs β ω (cb7 s i) (al7 r s j)
 | [],_,_,_=>rfl
 |c::s,i,j,h=>by
  have h0:=h 0 (by simp)
  have ih:=bp8 s (i+1) (j+1) (fun t ht=>by
   have:=h (t+1) (by simp;omega)
   rw[show i+1+t=i+(t+1) by omega,show j+1+t=j+(t+1) by omega];exact this)
  refine .cons ?_ ih
  have:=aj7 (β:=β) (ω:=ω) c (.va i)
  rw[show den ω (.va i)=ω.w i from rfl,show ω.w i=r.toL.getD j default by simpa using h0]at this
  exact this
theorem cY6{Ω:Opq→Prop}(hup: ∀ω v0 l,Ω ω→Ω (ω.upd v0 l)){ω:Opq}(hω:Ω ω){y:HC}(hy:R4 E Ω y){sig:List CT}{x:SX}{cf:Val→Val→Int}{h2:Heap}(e:a81 y.c y.nv [.agg (cb7 sig 0),.agg (cb7 sig sig.length)] Heap.empty= .val (.oint .i64 x) h2)
 (hx: ∀ω,Ω ω→ ∀a b:Val,(∀t,t<sig.length→ω.w t=a.toL.getD t default)→(∀t,t<sig.length→ω.w (sig.length+t)=b.toL.getD t default)→dI ω x=cf a b):cm2 E.P y.f sig cf:=by
 intro a b w
 obtain⟨ω1,hω1⟩: ∃ω1:Opq,ω1=ω.upd 0 ((List.range sig.length).map (fun t=>a.toL.getD t default)++(List.range sig.length).map (fun t=>b.toL.getD t default)):=⟨_,rfl⟩
 have hΩ1:Ω ω1:=by rw[hω1];exact hup _ _ _ hω
 have hat: ∀t,ω1.w t=((List.range sig.length).map (fun t=>a.toL.getD t default)++(List.range sig.length).map (fun t=>b.toL.getD t default)).getD t (.vb false):=fun t=>by
  have q: ∀(v0:Nat) (l:List Val),v0≤t→(ω.upd v0 l).w t=l.getD (t-v0) (.vb false):=fun v0 l h=>if_pos h
  rw[hω1,q 0 _ (k8 t),Nat.sub_zero]
 have ha: ∀t,t<sig.length→ω1.w t=a.toL.getD t default:=fun t ht=>by
  rw[hat,d9,j5 (by simpa using ht)]
  simp[ht]
 have hb: ∀t,t<sig.length→ω1.w (sig.length+t)=b.toL.getD t default:=fun t ht=>by
  rw[hat,d9,j3 (by simp)]
  simp[ht]
 have hp:=hy ω1 hΩ1 _ _ _ _ (.inl e) (· <w.heap.size) w (fun _=>none) w [.agg (a27 sig a).toArray,.agg (a27 sig b).toArray] (HR.start w)
  (.cons ⟨_,rfl,by rw[T4];exact bp8 sig 0 0 (fun t ht=>by rw[i3];exact ha t ht)⟩ (.one ⟨_,rfl,by rw[T4];exact bp8 sig sig.length 0 (fun t ht=>by rw[i3];exact hb t ht)⟩))
 refine hp.mono ?_
 rintro e2 w' ⟨u,β',rfl,hu,hr,_⟩
 have hu:u= .int .i64 (dI ω1 x):=hu
 rw[hx ω1 hΩ1 a b ha hb]at hu
 exact⟨by rw[hu],cm1 (fun i hi=>hr.keep i hi) hr.size hr.os hr.tape hr.out hr.dr⟩
end Go.Ev
namespace Go.Ev
open Go
variable{E:Env}{β β':Bij}{ω ω':Opq}{K:Nat→Prop}{w0 w w':World}{h h':Heap}
theorem HR.turn2(r:HR β ω K w0 h w)(hn:h'.next=h.next)(hw:h'.wm=h.wm)(hnone: ∀b,h.get b=none→h'.get b=none)
 (key: ∀b y,h'.get b=some y→ ∃z,h.get b=some z∧(∀L,β b=some L→BR β ω L w.heap[L.blk]? z→BR β ω' L w.heap[L.blk]? y)∧z.isArr=y.isArr):HR β ω' K w0 h' w:=by
 refine⟨fun b y L hg hb=> ?_,fun b b1 y y1 L L1 hg hg1 hb hb1 hne hc=> ?_,fun b hb=>r.fresh b (by rw[←hn];exact hb),fun b hb=>hnone b (r.fget b (by rw[←hn];exact hb)),r.lt,r.kin,r.keep,fun b y L hg hc hb=> ?_,r.size,r.os,r.tape,r.out,r.dr⟩
 ·obtain⟨z,z1,z2,_⟩:=key b y hg
  exact z2 L hb (r.blk b z L z1 hb)
 ·obtain⟨z,z1,_,k1⟩:=key b y hg
  obtain⟨z',z1',_,k2⟩:=key b1 y1 hg1
  exact r.sep b b1 z z' L L1 z1 z1' hb hb1 hne (by rw[k1,k2,←hw];exact hc)
 ·obtain⟨z,z1,_⟩:=key b y hg
  exact r.free b z L z1 (by rw[←hw];exact hc) hb
def cO3(e:TypeId)(sig:List CT)(need:SX)(id:Nat):FC:=⟨[.bool false,.ous 0 (.va 0) sig.length],[.bag e sig (.va 1)],1,need,.ous 1 (.op .llen [.va 1000]) sig.length,[some (.arr e sig (.va 1000))],[.app id [.va 1]]⟩
theorem cY7{Ω:Opq→Prop}(hup: ∀ω v0 l,Ω ω→Ω (ω.upd v0 l)){y:HC}(hy:R4 E Ω y){e:TypeId}{sig:List CT}{need x:SX}{id:Nat}{hB hA h2 hR:Heap}(hB0:(cO3 e sig need id).heap=hB)
 (q1:hB.next=hA.next) (q2:hB.wm=hA.wm) (q3: ∀b,hB.get b=none→hA.get b=none) (q4:hB.get 0=some (.bag e sig (.va 1))) (q5:hA.get 0=some (.arr e sig (.va 1))) (q6: ∀b z,hA.get b=some z→b=0)
 (p1:h2.next=hR.next) (p2:h2.wm=hR.wm) (p3: ∀b,hR.get b=none→h2.get b=none) (p4: ∀b z,h2.get b=some z→(b=0∧z= .bag e sig (.va 1)∧hR.get 0=some (.arr e sig (.va 1)))∨(b=1∧z= .arr e sig (.app id [.va 1])∧hR.get 1=some (.arr e sig (.app id [.va 1])))) (p5:h2.get 0=some (.bag e sig (.va 1))) (p6:hB.next=1)
 (hk:a81 y.c y.nv [.bool false,.ous 0 (.op .llen [.va 1]) sig.length] hA= .need x (.ous 1 (.op .llen [.app id [.va 1]]) sig.length) hR)
 (hx: ∀ω,Ω ω→dB ω need=true→dI ω (.va 0)=((dL ω (.va 1)).length:Int)∧ ∀D:List Val,D.Perm (ω.w 1).toL→ω.f id [.vl D]=ω.f id [ω.w 1]∧dB (ω.upd 1 [.vl D]) x=true)
 (hkk:kFC (cO3 e sig need id) (.ous 1 (.op .llen [.app id [.va 1]]) sig.length) h2 []= .ret 0 [.app id [.va 1]]):bp4 E Ω y.f (cO3 e sig need id):=by
 intro ω hω hn K w0 β w us r ra
 rw[hB0]at r
 obtain⟨hlen,hD⟩:=hx ω hω hn
 have hbr: ∃D:List Val,D.Perm (ω.w 1).toL∧ ∀L,β 0=some L→BR β (ω.upd 1 [.vl D]) L w.heap[L.blk]? (.arr e sig (.va 1)):=by
  cases hb:β 0 with
  |none=>exact⟨_,List.Perm.refl _,fun L h=>by cases h⟩
  |some L=>
   obtain⟨D,d1,d2⟩:=r.blk 0 _ L q4 hb
   refine⟨D,d1,fun L' h=> ?_⟩
   cases h
   exact d2
 obtain⟨D,d1,d2⟩:=hbr
 obtain⟨hf,hdx⟩:=hD D d1
 obtain⟨ω1,hω1⟩: ∃ω1,ω1=ω.upd 1 [.vl D]:=⟨_,rfl⟩
 rw[←hω1]at d2 hdx
 have w1:ω1.w 1= .vl D:=by rw[hω1];rfl
 have hff:ω1.f=ω.f:=by rw[hω1];rfl
 have hlD:((dL ω1 (.va 1)).length:Int)=dI ω (.va 0):=by
  rw[hlen]
  show(((ω1.w 1).toL).length:Int)=((ω.w 1).toL.length:Int)
  rw[w1]
  have:=d1.length_eq
  show(D.length:Int)=_
  omega
 have r1:HR β ω1 K w0 hA w:=HR.turn2 r q1.symm q2.symm q3 fun b z hz=>by
  obtain rfl:=q6 b z hz
  rw[q5]at hz
  cases hz
  exact⟨_,q4,fun L hL _=>d2 L hL,rfl⟩
 have hp:=hy ω1 (by rw[hω1];exact hup _ _ _ hω) _ _ _ _ (.inr ⟨x,hk,hdx⟩) K w0 β w us r1 (by
   have ra:VRs β ω [.bool false,.ous 0 (.va 0) sig.length] us:=ra
   obtain⟨u1,ur,e1,v1,u2,ur2,e2,v2,e3⟩:=ra
   refine⟨u1,ur,e1,v1,u2,ur2,e2,?_,e3⟩
   have hli:dI ω1 (.op .llen [.va 1])=dI ω (.va 0):=hlD
   simp only[VR]at v2⊢
   rw[hli];exact v2)
 refine hp.mono ?_
 rintro e' w' ⟨u,β',rfl,hu,hr,hs⟩
 have hout:den ω1 (.app id [.va 1])=den ω (.app id [.va 1]):=by
  show ω1.f id [ω1.w 1]=ω.f id [ω.w 1]
  rw[hff,w1,hf]
 refine⟨u,β',_,h2,rfl,⟨[],a93,by rw[hkk];rfl⟩,?_,?_,?_⟩
 ·have hli:dI ω1 (.op .llen [.app id [.va 1]])=dI ω (.op .llen [.app id [.va 1]]):=by
   show((den ω1 (.app id [.va 1])).toL.length:Int)=((den ω (.app id [.va 1])).toL.length:Int)
   rw[hout]
  simp only[VR]at hu⊢
  rw[hli]at hu;exact hu
 ·refine HR.turn2 hr p1 p2 p3 fun b z hz=> ?_
  rcases p4 b z hz with⟨rfl,rfl,h0⟩|⟨rfl,rfl,h0⟩
  ·refine⟨_,h0,fun L hL hb=> ?_,rfl⟩
   obtain⟨C,e',lo,hi,t1,t2,t3,t4,t5,t6⟩:=hb
   have hw:dL ω1 (.va 1)=D:=by show(ω1.w 1).toL=D;rw[w1];rfl
   rw[hw]at t4 t5
   exact⟨D,d1,C,e',lo,hi,t1,t2,t3,t4,t5,t6⟩
  ·refine⟨_,h0,fun L hL hb=> ?_,rfl⟩
   obtain⟨C,e',lo,hi,t1,t2,t3,t4,t5,t6⟩:=hb
   have hw:dL ω1 (.app id [.va 1])=dL ω (.app id [.va 1]):=by show(den ω1 _).toL=(den ω _).toL;rw[hout]
   rw[hw]at t4 t5
   exact⟨C,e',lo,hi,t1,t2,t3,t4,t5,t6⟩
 ·rw[hB0]
  refine⟨by rw[p1,q1];exact hs.le,fun b hb=>hs.ext b (by rw[←q1];exact hb),fun b hb hnb=> ?_,by rw[p2,q2];exact hs.wm⟩
  rw[p6]at hb
  obtain rfl:b=0:=by omega
  exact .inl (by rw[p5,q4])
noncomputable def hpL(l:List Blk):Heap:=(a82 l Heap.empty).setwm 1
theorem bA6{l:List Blk}(h:l.length<60000):(hpL l).next=l.length∧(hpL l).wm=1∧ ∀b,(hpL l).get b=l[b]? :=
 FC.heap_ok ⟨[],l,1,.cb true,.undef,[],[]⟩ h
theorem cF2{Ω:Opq→Prop}(hup: ∀ω v0 l,Ω ω→Ω (ω.upd v0 l)){y:HC}(hy:R4 E Ω y){e:TypeId}{sig:List CT}{need x:SX}{id:Nat}
 (hk:a81 y.c y.nv [.bool false,.ous 0 (.op .llen [.va 1]) sig.length] (hpL [.arr e sig (.va 1)])= .need x (.ous 1 (.op .llen [.app id [.va 1]]) sig.length) (hpL [.arr e sig (.va 1),.arr e sig (.app id [.va 1])]))
 (hx: ∀ω,Ω ω→dB ω need=true→dI ω (.va 0)=((dL ω (.va 1)).length:Int)∧ ∀D:List Val,D.Perm (ω.w 1).toL→ω.f id [.vl D]=ω.f id [ω.w 1]∧dB (ω.upd 1 [.vl D]) x=true)
 (hkk:kFC (cO3 e sig need id) (.ous 1 (.op .llen [.app id [.va 1]]) sig.length) (hpL [.bag e sig (.va 1),.arr e sig (.app id [.va 1])]) []= .ret 0 [.app id [.va 1]]):bp4 E Ω y.f (cO3 e sig need id):=by
 obtain⟨a1,a2,a3⟩:=bA6 (l:=[.bag e sig (.va 1)]) (by show 1<60000;omega)
 obtain⟨b1,b2,b3⟩:=bA6 (l:=[.arr e sig (.va 1)]) (by show 1<60000;omega)
 obtain⟨c1,c2,c3⟩:=bA6 (l:=[.arr e sig (.va 1),.arr e sig (.app id [.va 1])]) (by show 2<60000;omega)
 obtain⟨d1,d2,d3⟩:=bA6 (l:=[.bag e sig (.va 1),.arr e sig (.app id [.va 1])]) (by show 2<60000;omega)
 refine cY7 hup hy (hB:=hpL [.bag e sig (.va 1)]) rfl (by rw[a1,b1];rfl) (by rw[a2,b2]) (fun b h=> ?_) (by rw[a3];rfl) (by rw[b3];rfl) (fun b z h=> ?_) (h2:=hpL [.bag e sig (.va 1),.arr e sig (.app id [.va 1])]) (by rw[c1,d1];rfl) (by rw[c2,d2]) (fun b h=> ?_) (fun b z h=> ?_) (by rw[d3];rfl) a1 hk hx hkk
 ·rw[a3]at h
  rw[b3]
  match b,h with
  |b+1,_=>rfl
 ·rw[b3]at h
  match b,h with
  |0,_=>rfl
  |b+1,h=>cases h
 ·rw[c3]at h
  rw[d3]
  match b,h with
  |b+2,_=>rfl
 ·rw[d3]at h
  rw[c3,c3]
  match b,h with
  |0,h=>cases h;exact .inl ⟨rfl,rfl,rfl⟩
  |1,h=>cases h;exact .inr ⟨rfl,rfl,rfl⟩
  |b+2,h=>cases h
end Go.Ev
namespace Go.Ev
open Go Go.RowKit Go.WideShapes Go.ChangeShapes
section
variable{H:Type}{enc:TypeId×Value→H}{P:Program}{w:World}{sp:Nat→Bool}{hd:Bool}
def de1(w:World)(sig:List CT)(v:Value):Prop:=(∃a cap,v= .slice a 0 cap∧(a=none→cap=0))∨
 ∃a len cap C e lo hi us,v= .slice (some a) len cap∧0<len∧len≤cap∧a.spot=none∧w.heap[a.block]? =some (.cells C e (lo,hi))∧List.length us=len∧(∀i,i<len→C[a.off+i]? =us[i]?)∧ ∀u∈us,av7 w (.sl sig) u
theorem c56{m n:Nat}{t e:TypeId}{cs:List Value}{x:DataW H×List MemPlace}{sig:List CT}(hu:P.underlying t=some (.slice e))(he:P.cellsOf e=1)(hs:shT P m e=some [.sl sig])(ht:DataW.trod enc P w 0 sp hd n t cs=some x)(hw:cE9 w x.2):
 ∃v,cs=[v]∧de1 w sig v:=by
 rcases DataW.trod_slice hu ht with⟨rfl,_⟩|⟨a,len,cap,elems,rest,n',hn,rfl,rfl,_,hlc,hcm,hel,hi,_⟩
 ·exact⟨_,rfl,.inl ⟨none,0,rfl,fun _=>rfl⟩⟩
 ·refine⟨_,rfl,?_⟩
  rcases G1 len with hz|h0
  ·subst hz
   exact .inl ⟨some a,cap,rfl,fun h=>by cases h⟩
  have key: ∀i,i<len→ ∃u C e lo hi,w.heap[a.block]? =some (.cells C e (lo,hi))∧C[a.off+i]? =some u∧(i=0→a.spot=none)∧av7 w (.sl sig) u:=by
   intro i hlt
   have h1:=hi i hlt
   rw[j0 (by omega),j6,he,Nat.mul_one]at h1
   obtain⟨vs,h2,h3⟩:=h1
   have hth:cE9 w elems[i].2:=fun b off hm=>hw b off (by
     refine K3 _ (u5.2 ⟨elems[i],G9 _ (I4 _),hm⟩))
   obtain⟨u,r,rfl,hu,hr⟩:=bp6 hs h3 hth
   have hr:r=[]:=hr
   subst hr
   obtain⟨c1,c2⟩:=b41 h2
   have c3:=c2 0 (by decide)
   obtain⟨C,e',lo,hi',g1,g2,g3⟩:=aO1 c3
   have hb:(a.add i).block=a.block:=by unfold Addr.add;split<;>rfl
   have ho:(a.add i).off=a.off+i:=by unfold Addr.add;split<;>simp_all
   rw[hb]at g1
   rw[ho,Nat.add_zero]at g2
   refine⟨u,C,e',lo,hi',g1,g2,fun hi0=> ?_,hu⟩
   subst hi0
   have:=g3 rfl
   simpa[Addr.add]using this
  obtain⟨u0,C,e',lo,hi',g1,_,g3,_⟩:=key 0 h0
  refine .inr ⟨a,len,cap,C,e',lo,hi',(List.range len).map (fun i=>(C[a.off+i]?).getD default),rfl,h0,hlc,g3 rfl,g1,by simp,fun i hlt=> ?_,fun u hu=> ?_⟩
  ·obtain⟨u,C2,e2,lo2,hi2,q1,q2,_⟩:=key i hlt
   rw[g1]at q1
   cases q1
   rw[r5,List.getElem?_range hlt,Option.map_some,q2];rfl
  ·obtain⟨i,hi3,rfl⟩:=k9.1 hu
   obtain⟨u,C2,e2,lo2,hi2,q1,q2,_,q4⟩:=key i (r6.1 hi3)
   rw[g1]at q1
   cases q1
   rw[q2];exact q4
def kB(v:AV)(h:Heap):RPT:=fun _=>match v with
  | .obool e=> .ret 0 [e]
  | .bool b=> .ret 0 [.cb b]
  |_=> .bad
noncomputable def bN2(E:Env)(n:Nat)(f:FuncId)(args:List AV)(h:Heap):VT:=ev E n RPT an6 (.body f args h kB) []
theorem bA7{E:Env}{ω:Opq}{β:Bij}{n:Nat}{f:FuncId}{args:List AV}{h:Heap}{us:List Value}(hb:b29 E ω n)(ht:N0 (bN2 E n f args h) ω=some (0,[.vb true]))(r:HR β ω (· <w.heap.size) w h w)(ra:VRs β ω args us):
 Calls E.P f us.toArray w (fun e w'=>e= .returned (.bool true)∧RowKit.Below w.heap.size w w'):=by
 have:=hb RPT an6 (TPT ω (0,[.vb true])) (ad3 ω _) f args h kB ⟨[],a93,ht⟩ _ w _ w us r ra
 refine this.mono ?_
 rintro e' w' ⟨u,β',v,h',rfl,⟨pc,_,hk⟩,hv,h3,_⟩
 refine⟨?_,h3.os,h3.tape,h3.out,h3.size,h3.keep⟩
 unfold kB at hk
 split at hk
 ·rename_i e
  have hk:some (0,[den ω e])=some (0,[Val.vb true]):=by rw[←hk,N0];rfl
  have hd:den ω e= .vb true:=by simpa using hk
  have hv:u= .bool (dB ω e):=hv
  rw[hv,show dB ω e=true by unfold dB;rw[hd];rfl]
 ·rename_i b
  have hk:some (0,[Val.vb b])=some (0,[Val.vb true]):=by rw[←hk,N0];rfl
  have hb:b=true:=by simpa using hk
  have hv:u= .bool b:=hv
  rw[hv,hb]
 ·rw[N0]at hk;cases hk
theorem HR.vec{β:Bij}{ω:Opq}{K:Nat→Prop}{w0:World}{h h':Heap}(r:HR β ω K w0 h w){m:Nat}{cs:List AV}{L1:Option Loc}(hm:h.next=m)(hall: ∀b x,h.get b=some x→b<m∧x.isArr=true)
 (hn:h'.next=m+1) (hw:h'.wm=m+1) (hg: ∀b,h'.get b=if b=m then some (.vec cs)else h.get b)
 (hbr: ∀L,L1=some L→BR β ω L w.heap[L.blk]? (.vec cs)) (hL: ∀L,L1=some L→L.blk<w.heap.size):HR (fun b=>if b=m then L1 else β b) ω K w0 h' w:=by
 have hle:Le β (fun b=>if b=m then L1 else β b):=fun b L hb=>by
   show(if b=m then L1 else β b)=some L
   by_cases e:b=m
   ·rw[r.fresh b (by omega)]at hb;cases hb
   ·rw[if_neg e];exact hb
 have hall': ∀b x,h'.get b=some x→b<m+1∧x.isArr=true:=fun b x hx=>by
  rw[hg]at hx
  by_cases e:b=m
  ·rw[if_pos e]at hx;cases hx;exact⟨by omega,rfl⟩
  ·rw[if_neg e]at hx;have:=hall b x hx;exact⟨by omega,this.2⟩
 refine⟨fun b x L hx hb=> ?_,fun b b1 x x1 M M1 hx hx1 hb hb1 hne hc=> ?_,fun b hb=> ?_,fun b hb=> ?_,fun b L hb=> ?_,r.kin,r.keep,fun b x L hx hc hb=> ?_,r.size,r.os,r.tape,r.out,r.dr⟩
 ·rw[hg]at hx
  by_cases e:b=m
  ·rw[if_pos e]at hx hb
   cases hx
   exact BR.mono hle (hbr L hb)
  ·rw[if_neg e]at hx hb
   exact BR.mono hle (r.blk b x L hx hb)
 ·obtain⟨p1,p2⟩:=hall' b x hx
  obtain⟨q1,q2⟩:=hall' b1 x1 hx1
  rw[hw]at hc
  rcases hc with hc|hc|hc|hc
  ·omega
  ·omega
  ·rw[p2]at hc;cases hc
  ·rw[q2]at hc;cases hc
 ·rw[hn]at hb
  show(if b=m then L1 else β b)=none
  rw[if_neg (by omega)];exact r.fresh b (by omega)
 ·rw[hn]at hb
  rw[hg,if_neg (by omega)];exact r.fget b (by omega)
 ·have hb:(if b=m then L1 else β b)=some L:=hb
  by_cases e:b=m
  ·rw[if_pos e]at hb;exact hL L hb
  ·rw[if_neg e]at hb;exact r.lt b L hb
 ·have:=(hall' b x hx).1
  rw[hw]at hc;omega
def aO3(s0 s1:List CT)(N:Nat):List Sh:= .sl s0::List.replicate N (.sl s1)
def a97(s0 s1:List CT)(N:Nat):List Blk:=a43 (aO3 s0 s1 N) 0++[.vec (aA2 (List.replicate N (.sl s1)) 1 1)]
def aA3(s0 s1:List CT)(N:Nat):List AV:=[cF0 0 0 (.sl s0),.osl (N+1) (.ci 0) (.ci (Int.ofNat N)) 1]
def cF3(s0:List CT):List AV:=[cF0 0 0 (.sl s0),.osl 1 (.ci 0) (.va 1) 1]
def c57(s0:List CT):List Blk:=[.arr an1 s0 (.va 0),.vec []]
noncomputable def a04(l:List Blk):Heap:=(a82 l Heap.empty).setwm l.length
theorem at4{l:List Blk}(h:l.length<60000):(a04 l).next=l.length∧(a04 l).wm=l.length∧ ∀b,(a04 l).get b=l[b]? :=
 FC.heap_ok ⟨[],l,l.length,.cb true,.undef,[],[]⟩ h
theorem bf1(s1:List CT): ∀(N n:Nat),(a43 (List.replicate N (.sl s1)) n).length=N
 |0,_=>rfl
 |N+1,n=>by rw[List.replicate_succ];show(a43 (List.replicate N (.sl s1)) (n+1)).length+1=_;rw[bf1 s1 N]
theorem bA8(s1:List CT): ∀us:List Value,(∀u∈us,av7 w (.sl s1) u)→a33 (av7 w) (List.replicate us.length (.sl s1)) us
 | [],_=>rfl
 |u::us,h=>by
  rw[List.length_cons,List.replicate_succ]
  exact⟨u,us,rfl,h u A9,bA8 s1 us fun x hx=>h x (D1 _ hx)⟩
theorem bf2{L:List Sh}{vs:List Value}(hfit:a33 (av7 w) L vs){b:Nat}{x:Blk}(h:(a43 L 0)[b]? =some x):x.isArr=true:=by
 obtain⟨sig,m,v,e,_⟩:=(aD7 (n:=0) hfit).2 b x h
 rw[e];rfl
theorem cm4{E:Env}{F:Nat→List Val→Val}{n M:Nat}{f:FuncId}{s0 s1:List CT}{v0 v1:Value}(hM:M<1000)(hf0:av7 w (.sl s0) v0)(hf1:de1 w s1 v1)
 (hb: ∀ω,OmF F E.P ω→b29 E ω n)
 (hN: ∀N,N≤M→ ∀ω,OmF F E.P ω→ω.w 0=aX2 w (.sl s0) v0→(∀i,0<i→i≤N→ ∃u,av7 w (.sl s1) u∧ω.w i=aX2 w (.sl s1) u)→N0 (bN2 E n f (aA3 s0 s1 N) (a04 (a97 s0 s1 N))) ω=some (0,[.vb true]))
 (hbig: ∀ω,OmF F E.P ω→ω.w 0=aX2 w (.sl s0) v0→(M:Int)<(ω.w 1).toI→N0 (bN2 E n f (cF3 s0) (a04 (c57 s0))) ω=some (0,[.vb true])):
 Calls E.P f #[v0,v1] w (fun e w'=>e= .returned (.bool true)∧RowKit.Below w.heap.size w w'):=by
 have small: ∀(us:List Value) (L1:Option Loc),us.length≤M→(∀u∈us,av7 w (.sl s1) u)→(∀L,L1=some L→ ∃C e lo hi,w.heap[L.blk]? =some (.cells C e (lo,hi))∧ ∀i,i<us.length→C[L.off+i]? =us[i]?)→
  (∀ω β,β (us.length+1)=L1→VR β ω (.osl (us.length+1) (.ci 0) (.ci (Int.ofNat us.length)) 1) v1)→Calls E.P f #[v0,v1] w (fun e w'=>e= .returned (.bool true)∧RowKit.Below w.heap.size w w'):=by
  intro us L1 hl hus hL hv1
  have hfit:a33 (av7 w) (aO3 s0 s1 us.length) (v0::us):=⟨v0,us,rfl,hf0,bA8 s1 us hus⟩
  obtain⟨ω,hω⟩: ∃ω,ω=ct2 F E.P w (aO3 s0 s1 us.length) (v0::us):=⟨_,rfl⟩
  have hO:OmF F E.P ω:=by rw[hω];exact⟨rfl,fun _=>rfl⟩
  have hat: ∀(i:Nat) s v,(aO3 s0 s1 us.length)[i]? =some s→(v0::us)[i]? =some v→ω.w i=aX2 w s v:=fun i s v h1 h2=>by
   rw[hω]
   show aX2 w ((aO3 s0 s1 us.length).getD i (.col .bool)) ((v0::us).getD i (.bool false))=_
   rw[d9,h1,d9,h2];rfl
  have hlen:(a43 (aO3 s0 s1 us.length) 0).length=us.length+1:=by
   show(a43 (List.replicate us.length (.sl s1)) 1).length+1=_;rw[bf1]
  obtain⟨g1,g2,g3⟩:=at4 (l:=a43 (aO3 s0 s1 us.length) 0) (by omega)
  obtain⟨k1,k2,k3⟩:=at4 (l:=a97 s0 s1 us.length) (by unfold a97;rw[List.length_append,hlen];simp;omega)
  have hlen2:(a97 s0 s1 us.length).length=us.length+1+1:=by unfold a97;rw[List.length_append,hlen];rfl
  obtain⟨β,hβ⟩: ∃β:Bij,β=fun b=>((al8 (aO3 s0 s1 us.length) (v0::us))[b]?).getD none:=⟨_,rfl⟩
  have r0:HR β ω (· <w.heap.size) w (a04 (a43 (aO3 s0 s1 us.length) 0)) w:=ct1 hfit hat (fun b=>by rw[hβ]) g1 g2 g3
  have va:VRs β ω (aA2 (aO3 s0 s1 us.length) 0 0) (v0::us):=bp7 hfit (fun i s v h1 h2=>by rw[i3];exact hat i s v h1 h2) (fun j y hy=>by
    rw[hβ]
    show((al8 (aO3 s0 s1 us.length) (v0::us))[0+j]?).getD none=y
    rw[i3,hy];rfl)
  obtain⟨u0,ur,e0,va0,va1⟩:=va
  cases e0
  have r1:=r0.vec (m:=us.length+1) (h':=a04 (a97 s0 s1 us.length)) (cs:=aA2 (List.replicate us.length (.sl s1)) 1 1) (L1:=L1) (by rw[g1,hlen]) (fun b x hx=>by
    rw[g3]at hx
    exact⟨by have:=(k6.1 hx).1;omega,bf2 hfit hx⟩) (by rw[k1,hlen2]) (by rw[k2,hlen2]) (fun b=>by
    rw[k3,g3]
    unfold a97
    by_cases e:b=us.length+1
    ·subst e
     rw[if_pos rfl,j3 (by omega),hlen,x6];rfl
    ·rw[if_neg e]
     rcases d8 b (us.length+1)with hb|hb
     ·rw[j5 (by omega)]
     ·rw[j7 (by rw[e8,hlen];simp;omega),j7 (by omega)]) (fun L hLL=>by
    obtain⟨C,e,lo,hi,q1,q2⟩:=hL L hLL
    have hl1:us.length=(aA2 (List.replicate us.length (.sl s1)) 1 1).length:=va1.length
    exact⟨C,e,lo,hi,us,q1,va1,fun i hi=>q2 i (by omega)⟩) (fun L hLL=>by
    obtain⟨C,e,lo,hi,q1,_⟩:=hL L hLL
    exact(E9.1 q1).1)
  have ev:=hN us.length hl ω hO (hat 0 _ _ rfl rfl) (fun i h0 h1=>by
   obtain⟨j,rfl⟩: ∃j,i=j+1:=⟨i-1,by omega⟩
   have hj:us[j]? =some us[j]:=j0 (by omega)
   refine⟨us[j],hus _ (I4 _),hat (j+1) _ _ ?_ hj⟩
   show(List.replicate us.length (Sh.sl s1))[j]? =_
   rw[List.getElem?_replicate,if_pos (by omega)])
  exact bA7 (us:=[v0,v1]) (hb ω hO) ev r1 (.cons (VR.mono (β:=β) (fun b L hL=>by
   show(if b=us.length+1 then L1 else β b)=some L
   by_cases e:b=us.length+1
   ·rw[r0.fresh b (by rw[g1,hlen];omega)]at hL;cases hL
   ·rw[if_neg e];exact hL) _ _ va0) (.one (hv1 _ _ (by show(if us.length+1=us.length+1 then L1 else _)=L1;rw[if_pos rfl]))))
 rcases hf1 with⟨a,cap,rfl,hnil⟩|⟨a,len,cap,C,e,lo,hi,us,rfl,h0,hlc,hsp,hh,hul,hat,hus⟩
 ·exact small [] none (k8 _) (fun u hu=>by cases hu) (fun L h=>by cases h) (fun ω β _=> .inr ⟨a,cap,rfl,hnil,rfl⟩)
 ·by_cases hle:len≤M
  ·subst hul
   refine small us (some ⟨a.block,a.off,us.length⟩) hle hus (fun L hL=>by cases hL;exact⟨C,e,lo,hi,hh,hat⟩) (fun ω β hβ=> ?_)
   refine .inl ⟨_,cap,a,hβ,by show _=Value.slice (some a) (Int.ofNat us.length).toNat cap;rfl,hlc,fun _=> ?_⟩
   show a=⟨a.block,a.off+(Int.toNat 0)*1,none⟩
   rw[←hsp];rfl
  ·have hfit:a33 (av7 w) [.sl s0,.col (.int .i64)] [v0,.int .i64 0]:=⟨v0,_,rfl,hf0,_,[],rfl,⟨0,rfl,by decide,by decide⟩,rfl⟩
   obtain⟨ω0,hω0⟩: ∃ω,ω=ct2 F E.P w [.sl s0,.col (.int .i64)] [v0,.int .i64 0]:=⟨_,rfl⟩
   obtain⟨ω,hω⟩: ∃ω,ω=ω0.upd 1 [.vi len]:=⟨_,rfl⟩
   have hO:OmF F E.P ω:=by rw[hω,hω0];exact⟨rfl,fun _=>rfl⟩
   have hw0:ω.w 0=aX2 w (.sl s0) v0:=by rw[hω,hω0];rfl
   have hw1:ω.w 1= .vi len:=by rw[hω];rfl
   have hfit1:a33 (av7 w) [.sl s0] [v0]:=⟨v0,_,rfl,hf0,rfl⟩
   have hat1: ∀(i:Nat) s v,[Sh.sl s0][i]? =some s→[v0][i]? =some v→ω.w i=aX2 w s v:=fun i s v h1 h2=>by
    cases i with
    |zero=>cases h1;cases h2;exact hw0
    |succ i=>simp at h1
   obtain⟨g1,g2,g3⟩:=at4 (l:=a43 [.sl s0] 0) (by show 1<60000;omega)
   obtain⟨k1,k2,k3⟩:=at4 (l:=c57 s0) (by show 2<60000;omega)
   obtain⟨β,hβ⟩: ∃β:Bij,β=fun b=>((al8 [.sl s0] [v0])[b]?).getD none:=⟨_,rfl⟩
   have r0:HR β ω (· <w.heap.size) w (a04 (a43 [.sl s0] 0)) w:=ct1 hfit1 hat1 (fun b=>by rw[hβ]) g1 g2 g3
   have va:VRs β ω (aA2 [.sl s0] 0 0) [v0]:=bp7 hfit1 (fun i s v h1 h2=>by rw[i3];exact hat1 i s v h1 h2) (fun j y hy=>by
     rw[hβ]
     show((al8 [.sl s0] [v0])[0+j]?).getD none=y
     rw[i3,hy];rfl)
   obtain⟨u0,ur,e0,va0,va1⟩:=va
   cases e0
   have r1:=r0.vec (m:=1) (h':=a04 (c57 s0)) (cs:=[]) (L1:=some ⟨a.block,a.off,0⟩) (by rw[g1];rfl) (fun b x hx=>by
     rw[g3]at hx
     exact⟨(k6.1 hx).1,bf2 hfit1 hx⟩) (by rw[k1];rfl) (by rw[k2];rfl) (fun b=>by
     rw[k3,g3]
     match b with
     |0=>rfl
     |1=>rfl
     |b+2=>rfl) (fun L hLL=>by
     cases hLL
     exact⟨C,e,lo,hi,[],hh,rfl,fun i hi=>by cases hi⟩) (fun L hLL=>by
     cases hLL
     exact(E9.1 hh).1)
   have ev:=hbig ω hO hw0 (by rw[hw1];show(M:Int)<(len:Int);omega)
   refine bA7 (us:=[v0,.slice (some a) len cap]) (hb ω hO) ev r1 (.cons (VR.mono (β:=β) (fun b L hL=>by
    show(if b=1 then _ else β b)=some L
    by_cases e:b=1
    ·rw[r0.fresh b (by rw[g1,e];exact b9 _)]at hL;cases hL
    ·rw[if_neg e];exact hL) _ _ va0) (.one (.inl ⟨⟨a.block,a.off,0⟩,cap,a,rfl,?_,?_,fun _=> ?_⟩)))
   ·show _=Value.slice (some a) ((ω.w 1).toI).toNat cap
    rw[hw1];rfl
   ·show((ω.w 1).toI).toNat≤cap
    rw[hw1];exact hlc
   ·show a=⟨a.block,a.off+(Int.toNat 0)*1,none⟩
    rw[←hsp];rfl
end
end Go.Ev
