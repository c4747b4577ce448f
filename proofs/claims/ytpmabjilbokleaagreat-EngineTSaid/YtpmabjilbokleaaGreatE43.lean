import Derived.Test.YtpmabjilbokleaaGreatE40
import Derived.Shelf.SlSortCmp.NoneTotal
set_option linter.unusedSimpArgs false
set_option linter.unusedVariables false
namespace Go.Ev
open Go
variable{E:Env}{O ac:aQ}{I:Opq}{K:Nat->Prop}{w0 w w':World}{h h':Heap}{P:Program}{ρ:Go.Shelf.Ren}
theorem bM8{l:List Value}{t:Nat}{v:Value}(h:l[t]? =some v):(l.toArray)[t]! =v:=by
 simp[h]
theorem Ud(sig:List CT)(l:List Val):Go.Sort.flatK (bv sig) sig.length l.toArray=(T2 sig l).toArray:=by
 refine Go.Sort.ext_get! (by rw[Go.Sort.size_flatK,F8,F8,T3]) λt ht=> ?_
 have ht':t<l.toArray.size*sig.length:=by simpa using ht
 rw[Go.Sort.get_flatK _ _ _ _ ht'];have k0:0<sig.length:=by
  rcases K2 sig.length with h|h
  .rw[h]at ht';omega
  .exact h
 have hq:t/sig.length<l.length:=(Nat.div_lt_iff_lt_mul k0).2 ht';have hr:t % sig.length<sig.length:=Nat.mod_lt _ k0;have:=DM hr hq;rw[J0,Nat.div_add_mod]at this;rw[bM8 this];have e1:l.toArray[t/sig.length]! =l[t/sig.length]:=by simp[hq]
 have e2:l.getD (t/sig.length) (.vl [])=l[t/sig.length]:=by rw[j9,k8 hq,Option.getD_some]
 rw[e1,e2];simp[bv,hr]
theorem cG9{w w':World}(hp: ∀i,i<w.heap.size->w'.heap[i]? =w.heap[i]?)(hs:w.heap.size<=w'.heap.size)(ho:w'.os=w.os)(ht:w'.tape=w.tape)(hu:w'.output=w.output)(hd:w.drawn<=w'.drawn):
 ∃q os',w'=Go.Sort.grow (w.drewN q) os':=by
 refine⟨w'.drawn-w.drawn,w'.heap.extract w.heap.size w'.heap.size,?_⟩;show World.mk _ _ _ _ _=World.mk _ _ _ _ _;simp[World.drewN,World.mk.injEq,and_true,true_and];grind
def IS(P:Program)(g:FuncId)(sig:List CT)(cf:Val->Val->Int):Prop:= ∀(x y:Val) (w:World),
 Calls P g #[.agg (bv sig x).toArray,.agg (bv sig y).toArray] w λe w'=>e= .returned (.int .i64 (cf x y))/\ ∃q os',w'=Go.Sort.grow (w.drewN q) os'
noncomputable def dT(cf:Val->Val->Int)(l:List Val):List Val:=(Go.Sort.pdq (Go.Proofs.ltOf cf) l.toArray 0 l.length (Go.Lib.bitLen l.length) true true).toList
theorem yc{cf:Val->Val->Int}(hO:Go.Sort.SWO (Go.Proofs.ltOf cf))(l:List Val):(dT cf l).Perm l/\(dT cf l).Pairwise (λa b=>cf b a<0->False):=by
 have h:=Go.Sort.pdq_sorts (Go.Proofs.ltOf cf) hO l.toArray 0 l.length (Go.Lib.bitLen l.length) true true (p7 _) (by simp) (Or.inl rfl);obtain⟨⟨h1,_,h3⟩,h4⟩:=h;unfold dT;generalize Go.Sort.pdq (Go.Proofs.ltOf cf) l.toArray 0 l.length (Go.Lib.bitLen l.length) true true=d at h1 h3 h4;replace h1:d.size=l.length:=by simpa using h1
 refine⟨?_,?_⟩
 .have a1:(d.extract 0 l.length).toList=d.toList:=by rw[<-h1];simp
  have a2:(l.toArray.extract 0 l.length).toList=l:=by simp
  rw[a1,a2]at h3;exact h3
 .rw[M3];intro i j hi hj hij hlt;have:=h4 i j (p7 _) hij (by rw[<-h1];simpa using hj);rw[getElem!_pos d i hi,getElem!_pos d j hj]at this;simp only[Go.Proofs.ltOf,decide_eq_false_iff_not]at this;exact this (by simpa using hlt)
theorem ck0(cf:Val->Val->Int)(hO:Go.Sort.SWO (Go.Proofs.ltOf cf)):dT cf []=[]:=(yc hO []).1.eq_nil
theorem DY{cf:Val->Val->Int}(hO:Go.Sort.SWO (Go.Proofs.ltOf cf))(l:List Val):(dT cf l).length=l.length:=(yc hO l).1.length_eq
theorem bb5(cf:Val->Val->Int)(l:List Val):Go.Sort.pdq (Go.Proofs.ltOf cf) l.toArray 0 l.length (Go.Lib.bitLen l.length) true true=(dT cf l).toArray:=by
 rfl
theorem bZ5{blk off:Nat}{F C:Array Value}{e:TypeId}{fr:Nat×Nat}(hb:w.heap[blk]? =some (.cells C e fr)):(Go.Sort.putRow id w blk off F).heap[blk]? =some (.cells (Go.Sort.putCells id off F C) e fr):=by
 simp[Go.Sort.putRow,Go.Sort.mapBlock,O1,hb,Go.Sort.onCells]
theorem bn9{blk off i:Nat}{F:Array Value}(hi:i≠blk):(Go.Sort.putRow id w blk off F).heap[i]? =w.heap[i]? :=by
 simp[Go.Sort.putRow,Go.Sort.mapBlock,O1,Ne.symm hi]
theorem cH1(L:Go.Proofs.SlLaysF0.n6 P ρ){sig:List CT}{e:TypeId}{x:SX}{g:FuncId}{cf:Val->Val->Int}(aE: ∀w,(isAgg (ρ.t 24)).run P w= .ok true w)(zE: ∀w,(Go.sizeOf (ρ.t 24)).run P w= .ok sig.length w)
 (hO:Go.Sort.SWO (Go.Proofs.ltOf cf)) (eg: ∀args w,(callFunc g args).run P w= .ok (.enter g args) w) (hg:IS P g sig cf) {y:SX} (hy:dL I y=dT cf (dL I x)) {b:Nat}
 (r:HR O I K w0 h w) (hh:h.get b=some (.arr e sig x)) (hwm:h.wm<=b) {len:SX} (hlen:dI I len=(dL I x).length) (hsz:(dL I x).length<=1000000) {u:Value} (hu:VR O I (.ous b len sig.length) u):
 Calls P (ρ.f 6) #[u,.func (.func g) #[] #[]] w λe' w'=>e'= .returned (.tuple #[])/\HR O I K w0 (h.put b (some (.arr e sig y))) w'/\St h O (h.put b (some (.arr e sig y))) O:=by
 rcases hu with⟨L0,cap,hL,hext,hv,hcap⟩|⟨hv,hz⟩
 .subst hv;rw[hlen,Int.toNat_natCast];obtain⟨C,e',lo,hi,q1,q0,q2,q3,q4,q5⟩:=r.blk b _ L0 hh hL;have hblk:=r.lt b L0 hL;have hfl:=T3 sig (dL I x);have hHold:Go.Sort.HoldsK (bv sig) sig.length w L0.blk L0.off (dL I x).toArray:=by
   intro j hj;grind[Ud,List.size_toArray,List.getElem?_eq_getElem,yF,oQ,bM8]
  have hcmp:Go.Proofs.CmpLays P g #[] (bv sig) sig.length cf L0.blk L0.off (dL I x).toArray.size w:=λm os dk _ a c=>hg a c _
  have hcon:=Go.Proofs.AnyQ.slices_SortFunc_eq L sig.length aE zE (bv sig) (V7 sig) (λr v hv=>by
   have:=NJ sig [r] v (by grind[T2]);exact this) cf hO g #[] L0.blk L0.off cap (dL I x).toArray w eg hcmp hHold hblk (by grind)
  rw[F8,bb5,<-hy]at hcon;refine hcon.mono ?_;rintro e2 w' ⟨rfl,n,os,rfl⟩;refine⟨rfl,?_⟩;have hyl:(dL I y).length=(dL I x).length:=by grind[DY]
  obtain⟨r1,s1⟩:=HR.upd (w':=Go.Sort.putRowK (bv sig) sig.length w L0.blk L0.off (dL I y).toArray) r b _ (.arr e sig y) L0 hh hL hwm (λi hi=>bn9 hi) (Go.Sort.size_putRow _ _ _ _ _) rfl rfl rfl rfl (by
   refine⟨_,e',lo,hi,bZ5 q1,q0,?_,?_,?_,q5⟩
   .grind[Go.Sort.putCells,Array.size_mapIdx]
   .grind
   .rw[Ud];have hfy:=T3 sig (dL I y);simp[Go.Sort.putCells,Array.getElem?_mapIdx];grind)
  refine⟨HR.later r1 (λi hi=> ?_) ?_ rfl rfl rfl ?_,s1⟩
  .show(Go.Sort.grow _ _).heap[i]? =_;rw[Go.Sort.heap_grow_old _ _ (by simp_all[Go.Sort.putRowK])];rfl
  .simp[Go.Proofs.sortWorldK,Go.Sort.putRowK]
  .show w.drawn<=w.drawn+n;omega
 .subst hv;have hx:dL I x=[]:=by
   grind[List.length_eq_zero_iff]
  refine(Go.Proofs.AnyF.slices_SortFunc_none L none 0 _ w).mono ?_;rintro e2 w' ⟨rfl,rfl⟩;refine⟨rfl,?_⟩;have hyx:dL I y=dL I x:=by grind[ck0]
  have hb65:=Heap.get_lim h b _ hh;refine⟨HR.retell (y:= .arr e sig y) r hh (.inl hwm) (λL hL hbr=> ?_) (Heap.next_put _ _ _) (Heap.wm_put _ _ _) (λz=>by rw[Heap.get_put,e8 hb65]),⟨by simp_all,λ_ _=>rfl,λb' hb' hn=> ?_,Heap.wm_put _ _ _⟩⟩
  .obtain⟨C,e',lo,hi,q1,q0,q2,q3,q4,q5⟩:=hbr;exact⟨C,e',lo,hi,q1,q0,q2,by grind,by grind,q5⟩
  .by_cases e1:b'=b
   .subst e1;exact .inr (.inr (.of hh))
   simp_all[Heap.get_put,b9]
def CW(g:FuncId)(e:TypeId)(sig:List CT)(id:Nat):FC:=⟨[.ous 0 (.va 0) sig.length,.func (.func g) [] []],[.arr e sig (.va 1)],0,.op .and [.op (.cmp .eql) [.va 0,.op .llen [.va 1]],.op (.cmp .leq) [.op .llen [.va 1],.ci 1000000]],.tup [],[some (.arr e sig (.va 1000))],[.app id [.va 1]]⟩
theorem d59{Ω:Opq->Prop}(L:Go.Proofs.SlLaysF0.n6 E.P ρ){f g:FuncId}(hf:ρ.f 6=f){sig:List CT}{e:TypeId}{id:Nat}{cf:Val->Val->Int}(aE: ∀w,(isAgg (ρ.t 24)).run E.P w= .ok true w)(zE: ∀w,(Go.sizeOf (ρ.t 24)).run E.P w= .ok sig.length w)
 (hO:Go.Sort.SWO (Go.Proofs.ltOf cf)) (eg: ∀args w,(callFunc g args).run E.P w= .ok (.enter g args) w) (hg:IS E.P g sig cf)
 (ao: ∀I,Ω I-> ∀l,I.f id [l]= .vl (dT cf l.toL)) (hk:mN (CW g e sig id) (.tup []) ((CW g e sig id).heap.put 0 (some (.arr e sig (.app id [.va 1])))) []= .ret 0 [.app id [.va 1]]):pN E Ω f (CW g e sig id):=by
 intro I ae hn K w0 O w us r ra;obtain⟨n1,n2⟩:=Q8 (show(dB I (.op (.cmp .eql) [.va 0,.op .llen [.va 1]])&&dB I (.op (.cmp .leq) [.op .llen [.va 1],.ci 1000000]))=true from hn);have n1:(I.w 0).toI=((I.w 1).toL.length:Int):=j6 n1;have n2:((I.w 1).toL.length:Int)<=1000000:=j6 n2;obtain⟨u,ur,rfl,hu,v2,ur2,e2,hv2,hnil⟩:=ra;subst hnil;subst e2;obtain⟨m,a,b,hv2,q1,q2⟩:=hv2;have bN:(CW g e sig id).heap.get 0=some (.arr e sig (.va 1)):=rfl;have hy:dL I (.app id [.va 1])=dT cf (dL I (.va 1)):=by
  show(I.f id [I.w 1]).toL=_;rw[ao I ae];rfl
 have:=cH1 L aE zE hO eg hg hy (b:=0) (len:= .va 0) r bN (p7 _) n1 (by show(I.w 1).toL.length<=1000000;omega) hu;rw[hf]at this;have ha:a= #[]:=I5.1 q1;have hb:b= #[]:=I5.1 q2;subst ha hb hv2;refine this.mono ?_;rintro e' w' ⟨rfl,h1,h2⟩;exact⟨_,O,.tup [],_,rfl,⟨[],jf,by rw[hk];rfl⟩,⟨_,rfl,rfl⟩,h1,h2⟩
theorem HM{Ω:Opq->Prop}(hup: ∀I v0 l,Ω I->Ω (I.upd v0 l)){f:FuncId}{nv:Nat}{c:FC}(ho:ot c nv=true)(h:pN E Ω f c):V3 E Ω ⟨f,nv,c⟩:=λI ae args h' v h2 e=>ZC hup ho h ae e
theorem LX{r:Val}: ∀(s:List CT) (i j:Nat),(∀t,t<s.length->I.w (i+t)=r.toL.getD (j+t) default)->aT O I (og s i) (cy r s j)
 | [],_,_,_=>rfl
 |c::s,i,j,h=>by
  have h0:=h 0 (by simp);have ih:=LX s (i+1) (j+1) (λt ht=>by
   have:=h (t+1) (by simp;omega);rw[show i+1+t=i+(t+1) by omega,show j+1+t=j+(t+1) by omega];exact this)
  refine .cons ?_ ih;have:=wT (O:=O) (I:=I) c (.va i);rw[show aM I (.va i)=I.w i from rfl,show I.w i=r.toL.getD j default by simpa using h0]at this;exact this
theorem ds4{Ω:Opq->Prop}(hup: ∀I v0 l,Ω I->Ω (I.upd v0 l)){I:Opq}(ae:Ω I){y:HC}(hy:V3 E Ω y){sig:List CT}{x:SX}{cf:Val->Val->Int}{h2:Heap}(e:fW y.c y.nv [.agg (og sig 0),.agg (og sig sig.length)] Heap.empty= .val (.oint .i64 x) h2)
 (hx: ∀I,Ω I-> ∀a b:Val,(∀t,t<sig.length->I.w t=a.toL.getD t default)->(∀t,t<sig.length->I.w (sig.length+t)=b.toL.getD t default)->dI I x=cf a b):IS E.P y.f sig cf:=by
 intro a b w;obtain⟨ak,ay⟩: ∃ak:Opq,ak=I.upd 0 ((List.range sig.length).map (λt=>a.toL.getD t default)++(List.range sig.length).map (λt=>b.toL.getD t default)):=⟨_,rfl⟩;have aI:Ω ak:=by grind
 have hat: ∀t,ak.w t=((List.range sig.length).map (λt=>a.toL.getD t default)++(List.range sig.length).map (λt=>b.toL.getD t default)).getD t (.vb false):=λt=>by
  have q: ∀(v0:Nat) (l:List Val),v0<=t->(I.upd v0 l).w t=l.getD (t-v0) (.vb false):=λv0 l h=>e8 h
  grind
 have ha: ∀t,t<sig.length->ak.w t=a.toL.getD t default:=λt ht=>by
  grind
 have hb: ∀t,t<sig.length->ak.w (sig.length+t)=b.toL.getD t default:=λt ht=>by
  simp_all
 have hp:=hy ak aI _ _ _ _ (.inl e) (· <w.heap.size) w (λ_=>none) w [.agg (bv sig a).toArray,.agg (bv sig b).toArray] (HR.start w)
  (.cons ⟨_,rfl,by simp_all[mC,LX,l7]⟩ (.one ⟨_,rfl,by simp_all[mC,LX,l7]⟩))
 refine hp.mono ?_;rintro e2 w' ⟨u,ac,rfl,hu,hr,_⟩;have hu:u= .int .i64 (dI ak x):=hu;rw[hx ak aI a b ha hb]at hu;exact⟨by rw[hu],cG9 (λi hi=>hr.keep i hi) hr.size hr.os hr.tape hr.out hr.dr⟩
end Go.Ev
namespace Go.Ev
open Go
variable{E:Env}{O ac:aQ}{I aa:Opq}{K:Nat->Prop}{w0 w w':World}{h h':Heap}
theorem HR.turn2(r:HR O I K w0 h w)(hn:h'.next=h.next)(hw:h'.wm=h.wm)(hnone: ∀b,h.get b=none->h'.get b=none)
 (key: ∀b y,h'.get b=some y-> ∃z,h.get b=some z/\(∀L,O b=some L->BR O I L w.heap[L.blk]? z->BR O aa L w.heap[L.blk]? y)/\z.isArr=y.isArr):HR O aa K w0 h' w:=by
 refine⟨λb y L hg hb=> ?_,λb b1 y y1 L L1 hg hg1 hb hb1 hne hc=> ?_,λb hb=>r.fresh b (by omega),λb hb=>hnone b (r.fget b (by omega)),r.lt,r.kin,r.keep,λb y L hg hc hb=> ?_,r.size,r.os,r.tape,r.out,r.dr⟩
 .obtain⟨z,z1,z2,_⟩:=key b y hg;exact z2 L hb (r.blk b z L z1 hb)
 .obtain⟨z,z1,_,k1⟩:=key b y hg;obtain⟨z',z1',_,k2⟩:=key b1 y1 hg1;exact r.sep b b1 z z' L L1 z1 z1' hb hb1 hne (by grind)
 .obtain⟨z,z1,_⟩:=key b y hg;exact r.free b z L z1 (by omega) hb
def yO(e:TypeId)(sig:List CT)(need:SX)(id:Nat):FC:=⟨[.bool false,.ous 0 (.va 0) sig.length],[.bag e sig (.va 1)],1,need,.ous 1 (.op .llen [.va 1000]) sig.length,[some (.arr e sig (.va 1000))],[.app id [.va 1]]⟩
theorem ds5{Ω:Opq->Prop}(hup: ∀I v0 l,Ω I->Ω (I.upd v0 l)){y:HC}(hy:V3 E Ω y){e:TypeId}{sig:List CT}{need x:SX}{id:Nat}{hB hA h2 hR:Heap}(hB0:(yO e sig need id).heap=hB)
 (q1:hB.next=hA.next) (q2:hB.wm=hA.wm) (q3: ∀b,hB.get b=none->hA.get b=none) (q4:hB.get 0=some (.bag e sig (.va 1))) (q5:hA.get 0=some (.arr e sig (.va 1))) (q6: ∀b z,hA.get b=some z->b=0)
 (p1:h2.next=hR.next) (p2:h2.wm=hR.wm) (p3: ∀b,hR.get b=none->h2.get b=none) (p4: ∀b z,h2.get b=some z->(b=0/\z= .bag e sig (.va 1)/\hR.get 0=some (.arr e sig (.va 1)))\/(b=1/\z= .arr e sig (.app id [.va 1])/\hR.get 1=some (.arr e sig (.app id [.va 1])))) (p5:h2.get 0=some (.bag e sig (.va 1))) (p6:hB.next=1)
 (hk:fW y.c y.nv [.bool false,.ous 0 (.op .llen [.va 1]) sig.length] hA= .need x (.ous 1 (.op .llen [.app id [.va 1]]) sig.length) hR)
 (hx: ∀I,Ω I->dB I need=true->dI I (.va 0)=((dL I (.va 1)).length:Int)/\ ∀D:List Val,D.Perm (I.w 1).toL->I.f id [.vl D]=I.f id [I.w 1]/\dB (I.upd 1 [.vl D]) x=true)
 (hkk:mN (yO e sig need id) (.ous 1 (.op .llen [.app id [.va 1]]) sig.length) h2 []= .ret 0 [.app id [.va 1]]):pN E Ω y.f (yO e sig need id):=by
 intro I ae hn K w0 O w us r ra;rw[hB0]at r;obtain⟨hlen,hD⟩:=hx I ae hn;have hbr: ∃D:List Val,D.Perm (I.w 1).toL/\ ∀L,O 0=some L->BR O (I.upd 1 [.vl D]) L w.heap[L.blk]? (.arr e sig (.va 1)):=by
  cases hb:O 0 with
  |none=>exact⟨_,M4 _,λL h=>by cases h⟩
  |some L=>
   obtain⟨D,d1,d2⟩:=r.blk 0 _ L q4 hb;refine⟨D,d1,λL' h=> ?_⟩;cases h;exact d2
 obtain⟨D,d1,d2⟩:=hbr;obtain⟨hf,hdx⟩:=hD D d1;obtain⟨ak,ay⟩: ∃ak,ak=I.upd 1 [.vl D]:=⟨_,rfl⟩;rw[<-ay]at d2 hdx;have w1:ak.w 1= .vl D:=by rw[ay];rfl
 have hff:ak.f=I.f:=by rw[ay];rfl
 have hlD:((dL ak (.va 1)).length:Int)=dI I (.va 0):=by
  rw[hlen];show(((ak.w 1).toL).length:Int)=((I.w 1).toL.length:Int);rw[w1];have:=d1.length_eq;show(D.length:Int)=_;omega
 have r1:HR O ak K w0 hA w:=HR.turn2 r q1.symm q2.symm q3 λb z hz=>by
  obtain rfl:=q6 b z hz;rw[q5]at hz;cases hz;exact⟨_,q4,λL hL _=>d2 L hL,rfl⟩
 have hp:=hy ak (by grind) _ _ _ _ (.inr ⟨x,hk,hdx⟩) K w0 O w us r1 (by
  obtain⟨u1,ur,e1,v1,u2,ur2,e2,v2,e3⟩:=ra;refine⟨u1,ur,e1,v1,u2,ur2,e2,?_,e3⟩;have hli:dI ak (.op .llen [.va 1])=dI I (.va 0):=hlD;grind[VR])
 refine hp.mono ?_;rintro e' w' ⟨u,ac,rfl,hu,hr,hs⟩;have hout:aM ak (.app id [.va 1])=aM I (.app id [.va 1]):=by
  show ak.f id [ak.w 1]=I.f id [I.w 1];grind
 refine⟨u,ac,_,h2,rfl,⟨[],jf,by rw[hkk];rfl⟩,?_,?_,?_⟩
 .have hli:dI ak (.op .llen [.app id [.va 1]])=dI I (.op .llen [.app id [.va 1]]):=by
   show((aM ak (.app id [.va 1])).toL.length:Int)=((aM I (.app id [.va 1])).toL.length:Int);rw[hout]
  grind[VR]
 .refine HR.turn2 hr p1 p2 p3 λb z hz=> ?_
  rcases p4 b z hz with⟨rfl,rfl,h0⟩|⟨rfl,rfl,h0⟩
  .refine⟨_,h0,λL hL hb=> ?_,rfl⟩;obtain⟨C,e',lo,hi,t1,t2,t3,t4,t5,t6⟩:=hb;have hw:dL ak (.va 1)=D:=by show(ak.w 1).toL=D;rw[w1];rfl
   rw[hw]at t4 t5;exact⟨D,d1,C,e',lo,hi,t1,t2,t3,t4,t5,t6⟩
  .refine⟨_,h0,λL hL hb=> ?_,rfl⟩;obtain⟨C,e',lo,hi,t1,t2,t3,t4,t5,t6⟩:=hb;have hw:dL ak (.app id [.va 1])=dL I (.app id [.va 1]):=by show(aM ak _).toL=(aM I _).toL;rw[hout]
   rw[hw]at t4 t5;exact⟨C,e',lo,hi,t1,t2,t3,t4,t5,t6⟩
 .rw[hB0];refine⟨by rw[p1,q1];exact hs.le,λb hb=>hs.ext b (by rw[<-q1];exact hb),λb hb hnb=> ?_,by rw[p2,q2];exact hs.wm⟩;grind
noncomputable def rK(l:List Blk):Heap:=(Z1 l Heap.empty).setwm 1
theorem JB{l:List Blk}(h:l.length<60000):(rK l).next=l.length/\(rK l).wm=1/\ ∀b,(rK l).get b=l[b]? :=
 FC.heap_ok ⟨[],l,1,.cb true,.undef,[],[]⟩ h
theorem d60{Ω:Opq->Prop}(hup: ∀I v0 l,Ω I->Ω (I.upd v0 l)){y:HC}(hy:V3 E Ω y){e:TypeId}{sig:List CT}{need x:SX}{id:Nat}
 (hk:fW y.c y.nv [.bool false,.ous 0 (.op .llen [.va 1]) sig.length] (rK [.arr e sig (.va 1)])= .need x (.ous 1 (.op .llen [.app id [.va 1]]) sig.length) (rK [.arr e sig (.va 1),.arr e sig (.app id [.va 1])]))
 (hx: ∀I,Ω I->dB I need=true->dI I (.va 0)=((dL I (.va 1)).length:Int)/\ ∀D:List Val,D.Perm (I.w 1).toL->I.f id [.vl D]=I.f id [I.w 1]/\dB (I.upd 1 [.vl D]) x=true)
 (hkk:mN (yO e sig need id) (.ous 1 (.op .llen [.app id [.va 1]]) sig.length) (rK [.bag e sig (.va 1),.arr e sig (.app id [.va 1])]) []= .ret 0 [.app id [.va 1]]):pN E Ω y.f (yO e sig need id):=by
 obtain⟨a1,a2,a3⟩:=JB (l:=[.bag e sig (.va 1)]) (by show 1<60000;omega);obtain⟨b1,b2,b3⟩:=JB (l:=[.arr e sig (.va 1)]) (by show 1<60000;omega);obtain⟨c1,c2,c3⟩:=JB (l:=[.arr e sig (.va 1),.arr e sig (.app id [.va 1])]) (by show 2<60000;omega);obtain⟨d1,d2,d3⟩:=JB (l:=[.bag e sig (.va 1),.arr e sig (.app id [.va 1])]) (by show 2<60000;omega);refine ds5 hup hy (hB:=rK [.bag e sig (.va 1)]) rfl (by rfl) (by rw[a2,b2]) (λb h=> ?_) (by rfl) (by rfl) (λb z h=> ?_) (h2:=rK [.bag e sig (.va 1),.arr e sig (.app id [.va 1])]) (by rfl) (by rw[c2,d2]) (λb h=> ?_) (λb z h=> ?_) (by rfl) a1 hk hx hkk
 .rw[b3]
  match b,h with
  |b+1,_=>rfl
 .rw[b3]at h
  match b,h with
  |0,_=>rfl
  |b+1,h=>cases h
 .rw[d3]
  match b,h with
  |b+2,_=>rfl
 grind
end Go.Ev
namespace Go.Ev
open Go
variable{E:Env}{O ac:aQ}{I aa:Opq}{K:Nat->Prop}{w0 w w':World}{h h':Heap}
def IB(g:FuncId)(e:TypeId)(sig:List CT)(need:SX)(id:Nat):FC:=⟨[.ous 0 (.va 0) sig.length,.func (.func g) [] []],[.bag e sig (.va 1)],0,need,.tup [],[some (.arr e sig (.va 1000))],[.app id [.va 1]]⟩
theorem d61{Ω:Opq->Prop}(hup: ∀I v0 l,Ω I->Ω (I.upd v0 l)){y:HC}(hy:V3 E Ω y){g:FuncId}{e:TypeId}{sig:List CT}{need x:SX}{id:Nat}
 (hB0:(IB g e sig need id).heap=((Z1 [.bag e sig (.va 1)] Heap.empty).setwm 0))
 (hk:fW y.c y.nv [.ous 0 (.op .llen [.va 1]) sig.length,.func (.func g) [] []] ((Z1 [.arr e sig (.va 1)] Heap.empty).setwm 0)= .need x (.tup []) ((Z1 [.arr e sig (.app id [.va 1])] Heap.empty).setwm 0))
 (hx: ∀I,Ω I->dB I need=true->dI I (.va 0)=((dL I (.va 1)).length:Int)/\ ∀D:List Val,D.Perm (I.w 1).toL->I.f id [.vl D]=I.f id [I.w 1]/\dB (I.upd 1 [.vl D]) x=true)
 (hkk:mN (IB g e sig need id) (.tup []) ((Z1 [.arr e sig (.app id [.va 1])] Heap.empty).setwm 0) []= .ret 0 [.app id [.va 1]]):pN E Ω y.f (IB g e sig need id):=by
 obtain⟨a1,a2,a3⟩:=FC.heap_ok (c:=⟨[],[.bag e sig (.va 1)],0,.cb true,.undef,[],[]⟩) (by grind);obtain⟨b1,b2,b3⟩:=FC.heap_ok (c:=⟨[],[.arr e sig (.va 1)],0,.cb true,.undef,[],[]⟩) (by grind);obtain⟨c1,c2,c3⟩:=FC.heap_ok (c:=⟨[],[.arr e sig (.app id [.va 1])],0,.cb true,.undef,[],[]⟩) (by grind);have a1':((Z1 [.bag e sig (.va 1)] Heap.empty).setwm 0).next=1:=a1
 have b1':((Z1 [.arr e sig (.va 1)] Heap.empty).setwm 0).next=1:=b1
 have c1':((Z1 [.arr e sig (.app id [.va 1])] Heap.empty).setwm 0).next=1:=c1
 intro I ae hn K w0 O w us r ra;rw[hB0]at r;obtain⟨hlen,hD⟩:=hx I ae hn;have q4:((Z1 [.bag e sig (.va 1)] Heap.empty).setwm 0).get 0=some (.bag e sig (.va 1)):=(a3 0).trans rfl;have hbr: ∃D:List Val,D.Perm (I.w 1).toL/\ ∀L,O 0=some L->BR O (I.upd 1 [.vl D]) L w.heap[L.blk]? (.arr e sig (.va 1)):=by
  cases hb:O 0 with
  |none=>exact⟨_,M4 _,λL h=>by cases h⟩
  |some L=>
   obtain⟨D,d1,d2⟩:=r.blk 0 _ L q4 hb;refine⟨D,d1,λL' h=> ?_⟩;cases h;exact d2
 obtain⟨D,d1,d2⟩:=hbr;obtain⟨hf,hdx⟩:=hD D d1;obtain⟨ak,ay⟩: ∃ak,ak=I.upd 1 [.vl D]:=⟨_,rfl⟩;rw[<-ay]at d2 hdx;have w1:ak.w 1= .vl D:=by rw[ay];rfl
 have hff:ak.f=I.f:=by rw[ay];rfl
 have hlD:((dL ak (.va 1)).length:Int)=dI I (.va 0):=by
  rw[hlen];show(((ak.w 1).toL).length:Int)=((I.w 1).toL.length:Int);rw[w1];have:=d1.length_eq;show(D.length:Int)=_;omega
 have r1:HR O ak K w0 ((Z1 [.arr e sig (.va 1)] Heap.empty).setwm 0) w:=HR.turn2 r (b1.trans a1.symm) (b2.trans a2.symm) (λb h=>by
  rw[show((Z1 [.arr e sig (.va 1)] Heap.empty).setwm 0).get b=[Blk.arr e sig (.va 1)][b]? from b3 b];grind) λb z hz=>by
  rw[show((Z1 [.arr e sig (.va 1)] Heap.empty).setwm 0).get b=[Blk.arr e sig (.va 1)][b]? from b3 b]at hz
  match b,hz with
  |0,hz=>cases hz;exact⟨_,q4,λL hL _=>d2 L hL,rfl⟩
  |b+1,hz=>cases hz
 have hp:=hy ak (by grind) _ _ _ _ (.inr ⟨x,hk,hdx⟩) K w0 O w us r1 (by
  obtain⟨u1,ur,e1,v1,hr2⟩:=ra;refine⟨u1,ur,e1,?_,hr2⟩;have hli:dI ak (.op .llen [.va 1])=dI I (.va 0):=hlD;grind[VR])
 refine hp.mono ?_;rintro e' w' ⟨u,ac,rfl,hu,hr,hs⟩;have hout:aM ak (.app id [.va 1])=aM I (.app id [.va 1]):=by
  show ak.f id [ak.w 1]=I.f id [I.w 1];grind
 refine⟨u,ac,_,_,rfl,⟨[],jf,by rw[hkk];rfl⟩,by grind[VR,aT],?_,?_⟩
 .refine HR.turn2 hr rfl rfl (λb h=>h) λb z hz=>⟨z,hz,λL hL hb=> ?_,rfl⟩
  rw[show((Z1 [.arr e sig (.app id [.va 1])] Heap.empty).setwm 0).get b=[Blk.arr e sig (.app id [.va 1])][b]? from c3 b]at hz
  match b,hz with
  |0,hz=>
   cases hz;obtain⟨C,e',lo,hi,t1,t2,t3,t4,t5,t6⟩:=hb;have hw:dL ak (.app id [.va 1])=dL I (.app id [.va 1]):=by show(aM ak _).toL=(aM I _).toL;rw[hout]
   rw[hw]at t4 t5;exact⟨C,e',lo,hi,t1,t2,t3,t4,t5,t6⟩
  |b+1,hz=>cases hz
 .rw[hB0];refine⟨by omega,λb hb=>hs.ext b (by omega),λb hb hnb=> ?_,c2.trans a2.symm⟩;obtain rfl:b=0:=by omega
  exact .inr (.inr (by exact .bag _ _ _))
end Go.Ev
namespace Go.Ev
open Go
def xA(e:SX):AV:= .oint .i64 e
def Fu(k:Nat):List SX:=[.op .lget [.va 0,.ci (k:Int),.ci 0],.op .lget [.va 0,.ci (k:Int),.ci 1]]
def Gv(n:Nat):List SX:=(List.range' 0 n).flatMap Fu
def rU:List CT:=[.int .i64,.int .i64]
def Pp(e n:Nat):List Blk:=[.cells e 0 [.oint .i64 (.va 3),.oint .i64 (.va 4)],.cells e 0 ((Gv n).map xA)]
noncomputable def yh(e n:Nat):Heap:=(Z1 (Pp e n) Heap.empty).setwm 1
def wa(k:Nat):SX:= .op .row (Fu k)
def Sn(n j:Nat):SX:= .op .row ((List.range' 0 j).map wa++[.op .row [.va 3,.va 4]]++(List.range' j (n-j)).map wa)
def ld(x:SX):VT->Bool
 | .ret 0 [e]=>SX.beq e x
 | .both a b=>ld x a&&ld x b
 |_=>false
theorem Nz{I:Opq}{x:SX}: ∀{t:VT},ld x t=true->R0 t I=some (0,[aM I x])
 | .ret i o,h=>by
   unfold ld at h;split at h
   .rename_i e he;cases he;rw[SX.beq_eq _ _ h];rfl
   .grind
   .cases h
 | .both a b,h=>by
   obtain⟨h1,h2⟩:=Q8 (show(ld x a&&ld x b)=true from h);have a1:=Nz (I:=I) h1;have a2:=Nz (I:=I) h2;grind[R0]
 | .bad,h=>by simp[ld]at h
 | .ite _ _ _,h=>by simp[ld]at h
 | .need _ _,h=>by simp[ld]at h
 | .loop _ _ _,h=>by simp[ld]at h
 | .mloop _ _ _ _,h=>by simp[ld]at h
def gy(e:TypeId)(need out:SX):FC:=⟨[.ous 1 (.va 1) 2,.oint .i64 (.va 2),.sl 0 0 1 1],[.cells e 0 [.oint .i64 (.va 3),.oint .i64 (.va 4)],.arr e rU (.va 0)],1,need,.ous 2 (.op .llen [.va 1000]) 2,[none,some (.arr e rU (.va 1000))],[out]⟩
noncomputable def CI(E:Env)(N:Nat)(f:FuncId)(e:TypeId)(c:FC)(args:List AV)(n j:Nat):Bool:=ld (Sn n j) (ev E N eB gD (.call f args (yh e n) (mN c)) [])
noncomputable def TN(E:Env)(N:Nat)(f:FuncId)(e:TypeId)(c:FC)(M:Nat):Bool:=
 CI E N f e c [.nils,.int .i64 0,.sl 0 0 1 1] 0 0&&(List.range (M+1)).all λn=>(List.range (n+1)).all λj=>CI E N f e c [.us 1 0 n 2,.int .i64 (j:Int),.sl 0 0 1 1] n j
def sX(r:Val):Val:= .vl [r.toL.getD 0 default,r.toL.getD 1 default]
theorem Rz(r:Val)(l:List Val):T2 rU (r::l)= .int .i64 (r.toL.getD 0 default).toI:: .int .i64 (r.toL.getD 1 default).toI::T2 rU l:=rfl
theorem Sv{l:List Val}{k:Nat}(h:k<l.length):l.drop k=l.getD k (.vl [])::l.drop (k+1):=by
 simp_all
theorem Su{O:aQ}{I:Opq}{l:List Val}(hl:(I.w 0).toL=l): ∀(m k:Nat),k+m=l.length->aT O I (((List.range' k m).flatMap Fu).map xA) (T2 rU (l.drop k))
 |0,k,h=>by
  rw[K7 (by omega)];rfl
 |m+1,k,h=>by
  rw[D8,B1,u4,Sv (by omega),Rz];refine⟨_,_,rfl,?_,_,_,rfl,?_,Su hl m (k+1) (by omega)⟩
  .show Value.int .i64 ((l.getD k (.vl [])).toL.getD 0 default).toI= .int .i64 (S0 (I.w 0).toL (k:Int) 0).toI;rw[hl];rfl
  .show Value.int .i64 ((l.getD k (.vl [])).toL.getD 1 default).toI= .int .i64 (S0 (I.w 0).toL (k:Int) 1).toI;rw[hl];rfl
theorem ds7(n:Nat):((Gv n).map xA).all AV.oneA=true:=by
 rw[k6];intro x hx;obtain⟨e,_,rfl⟩:=j8.1 hx;rfl
theorem WY: ∀l:List Val,(T2 rU l).length=l.length*2
 | []=>rfl
 |r::l=>by rw[Rz,List.length_cons,List.length_cons,WY l,List.length_cons];omega
theorem TY: ∀(m k:Nat),(((List.range' k m).flatMap Fu).map xA).length=m*2
 |0,k=>rfl
 |m+1,k=>by
  rw[D8,B1,u4,l5,TY m (k+1)];show 2+m*2=(m+1)*2;omega
theorem JP{I:Opq}{l:List Val}(hl:(I.w 0).toL=l): ∀(m k:Nat),k+m<=l.length->R7 I ((List.range' k m).map wa)=((l.drop k).take m).map sX
 |0,k,h=>by rfl
 |m+1,k,h=>by
  rw[D8,n9,Sv (by omega),List.take_succ_cons,n9];show aM I (wa k)::R7 I ((List.range' (k+1) m).map wa)=_;rw[JP hl m (k+1) (by omega)];congr 1;show Val.vl [S0 (I.w 0).toL (k:Int) 0,S0 (I.w 0).toL (k:Int) 1]=_;rw[hl];rfl
theorem d64{I:Opq}{l:List Val}(hl:(I.w 0).toL=l){j:Nat}(hj:j<=l.length):aM I (Sn l.length j)= .vl ((l.take j).map sX++[.vl [I.w 3,I.w 4]]++(l.drop j).map sX):=by
 show Val.vl (R7 I ((List.range' 0 j).map wa++[.op .row [.va 3,.va 4]]++(List.range' j (l.length-j)).map wa))=_;rw[JX,JX,JP hl j 0 (by omega),JP hl (l.length-j) j (by omega),F9,G0 (show(l.drop j).length<=l.length-j by grind)];rfl
theorem d65{E Ec:Env}{Ω:Opq->Prop}{N M:Nat}{f:FuncId}{e:TypeId}{need out:SX}(hP:Ec.P=E.P)(hk: ∀I,Ω I->Ez Ec I N)(he:e≠eQ)(hfx: ∀I,Ω I->I.fix e=false)
 (hrun:TN Ec N f e (gy e need out) M=true)
 (hx: ∀I,Ω I->dB I need=true-> ∃(l:List Val) (j:Nat),(I.w 0).toL=l/\dI I (.va 1)=(l.length:Int)/\dI I (.va 2)=(j:Int)/\j<=l.length/\l.length<=M/\aM I out= .vl ((l.take j).map sX++[.vl [I.w 3,I.w 4]]++(l.drop j).map sX)):pN E Ω f (gy e need out):=by
 intro I ae hn K w0 O w us r ra;obtain⟨l,j,hl,h1,h2,hj,hM,hout⟩:=hx I ae hn;obtain⟨a1,a2,a3⟩:=FC.heap_ok (gy e need out) (by show 2<60000;omega);obtain⟨b1,b2,b3⟩:=FC.heap_ok (c:=⟨[],Pp e l.length,1,.cb true,.undef,[],[]⟩) (by show 2<60000;omega);have b1':(yh e l.length).next=2:=b1
 have b2':(yh e l.length).wm=1:=b2;have b3': ∀b,(yh e l.length).get b=(Pp e l.length)[b]? :=b3;have a1':(gy e need out).heap.next=2:=a1
 have a2':(gy e need out).heap.wm=1:=a2;have g1:(gy e need out).heap.get 1=some (.arr e rU (.va 0)):=a3 1;have r1:HR O I K w0 (yh e l.length) w:=HR.retell (y:= .cells e 0 ((Gv l.length).map xA)) r g1 (.inl (by omega)) (λL hL hbr=>by
  obtain⟨C,e',lo,hi,q1,q0,q2,q3,q4,q5⟩:=hbr;obtain rfl:e'=e:=q0.resolve_right he;have hd:dL I (.va 0)=l:=hl;rw[hd]at q3 q4;have hlen:((Gv l.length).map xA).length=l.length*2:=TY l.length 0;refine⟨C,lo,hi,T2 rU l,q1,q2,by rw[hlen];exact q3,ds7 _,Su hl l.length 0 (by omega),λi hi'=> ?_,λi _ h=>q5 i h,λh=>by rw[hfx I ae]at h;cases h⟩;grind[WY,List.getElem?_eq_getElem]) (by rfl) (by rfl) (λz=>by
  rw[b3',a3];by_cases hz:z=1
  .subst hz;rfl
  .match z,hz with
   |0,_=>rfl
   |1,hz=>omega
   |z+2,_=>rfl)
 obtain⟨u1,ur,e1,v1,u2,ur2,e2,v2,e3⟩:=ra;have v2':u2= .int .i64 (j:Int):=by rw[<-h2];exact v2
 obtain⟨hr0,hr1⟩:=Q8 hrun;have fin: ∀args,aT O I args us->CI Ec N f e (gy e need out) args l.length j=true->Calls E.P f us.toArray w (λe' w'=> ∃u ac v h',e'= .returned u/\ky I (0,R7 I (gy e need out).outs) (mN (gy e need out) v h')/\VR ac I v u/\HR ac I K w0 h' w'/\St (gy e need out).heap O h' ac):=by
  intro args hargs hc;have T0:ky I (0,R7 I (gy e need out).outs) (ev Ec N eB gD (.call f args (yh e l.length) (mN (gy e need out)))):=by
   refine⟨[],jf,?_⟩;rw[Nz hc,d64 hl hj,<-hout];rfl
  rw[<-hP];refine(hk I ae eB gD (ky I (0,R7 I (gy e need out).outs)) (qv I _) f args _ _ T0 K w0 O w us r1 hargs).mono ?_;rintro e' w' ⟨u,ac,v,h',rfl,k1,k2,k3,k4⟩;refine⟨u,ac,v,h',rfl,k1,k2,k3,⟨by exact k4.le,λb hb=>k4.ext b (by omega),λb hb hn=> ?_,by exact k4.wm⟩⟩
  match b,hb with
  |0,_=>
   rcases k4.unm 0 (by omega) hn with q|q|q
   .exact .inl (q.trans (by rfl))
   .grind
   .cases q
  |1,_=>exact .inr (.inr (.of g1))
 rcases v1 with⟨L,cap,hL,hcap,hv,hle⟩|⟨hv,h0⟩
 .refine fin [.us 1 0 l.length 2,.int .i64 (j:Int),.sl 0 0 1 1] ⟨u1,ur,e1,⟨L,cap,hL,by rw[l7];exact hcap,?_⟩,u2,ur2,e2,v2',e3⟩ ?_
  .rw[hv];have hq:(dI I (.va 1)).toNat=l.length:=by rw[h1];rfl
   rw[hq];rfl
  grind
 .have hj0:j=0:=by omega
  subst hj0;refine fin [.nils,.int .i64 0,.sl 0 0 1 1] ⟨u1,ur,e1,hv,u2,ur2,e2,v2',e3⟩ ?_;grind
end Go.Ev
