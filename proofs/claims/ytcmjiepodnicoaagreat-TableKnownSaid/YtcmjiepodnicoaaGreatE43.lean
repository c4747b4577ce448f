import Derived.Test.YtcmjiepodnicoaaGreatE40
import Derived.Shelf.SlSortCmp.NoneTotal
set_option linter.unusedSimpArgs false
set_option linter.unusedVariables false
namespace Go.Ev
open Go
variable{cf:Val->Val->Int}{e:TypeId}{sig:List CT}{Ω:Opq->Prop}
variable{E:Env}{O ac:cq}{I:Opq}{K:Nat->Prop}{w0 w w':World}{h h':Heap}{P:Program}{ρ:Go.Shelf.Ren}
theorem YP{l:List Value}{t:Nat}{v:Value}(h:l[t]? =some v):(l.toArray)[t]! =v:=by
 simp[h]
theorem b14(sig:List CT)(l:List Val):Go.Sort.flatK (ej sig) sig.length l.toArray=(cM sig l).toArray:=by
 refine Go.Sort.ext_get! (by rw[Go.Sort.size_flatK,K0,K0,jK]) λt ht=> ?_
 have ht':t<l.toArray.size*sig.length:=by simpa using ht
 rw[Go.Sort.get_flatK _ _ _ _ ht'];have k0:0<sig.length:=by
  rcases N1 sig.length with h|h
  .rw[h]at ht';omega
  .exact h
 have hq:t/sig.length<l.length:=(Nat.div_lt_iff_lt_mul k0).2 ht';have hr:t % sig.length<sig.length:=N4 _ k0;have:=GW hr hq;rw[K4,Nat.div_add_mod]at this;rw[YP this];have e1:l.toArray[t/sig.length]! =l[t/sig.length]:=by simp[hq]
 have e2:l.getD (t/sig.length) (.vl [])=l[t/sig.length]:=by rw[j8,l7 hq,Option.getD_some]
 rw[e1,e2];simp[ej,hr]
theorem cL2{w w':World}(hp: ∀i,i<w.heap.size->w'.heap[i]? =w.heap[i]?)(hs:w.heap.size<=w'.heap.size)(ho:w'.os=w.os)(ht:w'.tape=w.tape)(hu:w'.output=w.output)(hd:w.drawn<=w'.drawn):
 ∃q os',w'=Go.Sort.grow (w.drewN q) os':=by
 refine⟨w'.drawn-w.drawn,w'.heap.extract w.heap.size w'.heap.size,?_⟩;show World.mk _ _ _ _ _=World.mk _ _ _ _ _;simp[World.drewN,World.mk.injEq,and_true,true_and];grind
def Na(P:Program)(g:FuncId)(sig:List CT)(cf:Val->Val->Int):Prop:= ∀(x y:Val) (w:World),
 Calls P g #[.agg (ej sig x).toArray,.agg (ej sig y).toArray] w λe w'=>e= .returned (.int .i64 (cf x y))/\ ∃q os',w'=Go.Sort.grow (w.drewN q) os'
noncomputable def ic(cf:Val->Val->Int)(l:List Val):List Val:=(Go.Sort.pdq (Go.Proofs.ltOf cf) l.toArray 0 l.length (Go.Lib.bitLen l.length) true true).toList
theorem Bq(hO:Go.Sort.SWO (Go.Proofs.ltOf cf))(l:List Val):(ic cf l).Perm l/\(ic cf l).Pairwise (λa b=>cf b a<0->False):=by
 have h:=Go.Sort.pdq_sorts (Go.Proofs.ltOf cf) hO l.toArray 0 l.length (Go.Lib.bitLen l.length) true true (s7 _) (by simp) (Or.inl rfl);obtain⟨⟨h1,_,h3⟩,h4⟩:=h;unfold ic;generalize Go.Sort.pdq (Go.Proofs.ltOf cf) l.toArray 0 l.length (Go.Lib.bitLen l.length) true true=d at h1 h3 h4;replace h1:d.size=l.length:=by simpa using h1
 refine⟨?_,?_⟩
 .have a1:(d.extract 0 l.length).toList=d.toList:=by rw[<-h1];simp
  have a2:(l.toArray.extract 0 l.length).toList=l:=by simp
  rw[a1,a2]at h3;exact h3
 .rw[O4];intro i j hi hj hij hlt;have:=h4 i j (s7 _) hij (by rw[<-h1];simpa using hj);rw[getElem!_pos d i hi,getElem!_pos d j hj]at this;simp only[Go.Proofs.ltOf,decide_eq_false_iff_not]at this;exact this (by simpa using hlt)
theorem cp2(cf:Val->Val->Int)(hO:Go.Sort.SWO (Go.Proofs.ltOf cf)):ic cf []=[]:=(Bq hO []).1.eq_nil
theorem IX(hO:Go.Sort.SWO (Go.Proofs.ltOf cf))(l:List Val):(ic cf l).length=l.length:=(Bq hO l).1.length_eq
theorem bh6(cf:Val->Val->Int)(l:List Val):Go.Sort.pdq (Go.Proofs.ltOf cf) l.toArray 0 l.length (Go.Lib.bitLen l.length) true true=(ic cf l).toArray:=by
 rfl
theorem c65{blk off:Nat}{F C:Array Value}{fr:Nat×Nat}(hb:w.heap[blk]? =some (.cells C e fr)):(Go.Sort.putRow id w blk off F).heap[blk]? =some (.cells (Go.Sort.putCells id off F C) e fr):=by
 simp[Go.Sort.putRow,Go.Sort.mapBlock,Q4,hb,Go.Sort.onCells]
theorem bu6{blk off i:Nat}{F:Array Value}(hi:i≠blk):(Go.Sort.putRow id w blk off F).heap[i]? =w.heap[i]? :=by
 simp[Go.Sort.putRow,Go.Sort.mapBlock,Q4,Ne.symm hi]
theorem cL4(L:Go.Proofs.SlLaysF0.n6 P ρ){x:SX}{g:FuncId}(aE: ∀w,(isAgg (ρ.t 24)).run P w= .ok true w)(zE: ∀w,(Go.sizeOf (ρ.t 24)).run P w= .ok sig.length w)
 (hO:Go.Sort.SWO (Go.Proofs.ltOf cf)) (eg: ∀args w,(callFunc g args).run P w= .ok (.enter g args) w) (hg:Na P g sig cf) {y:SX} (hy:dL I y=ic cf (dL I x)) {b:Nat}
 (r:HR O I K w0 h w) (hh:h.get b=some (.arr e sig x)) (hwm:h.wm<=b) {len:SX} (hlen:dI I len=(dL I x).length) (hsz:(dL I x).length<=1000000) {u:Value} (hu:VR O I (.ous b len sig.length) u):
 Calls P (ρ.f 6) #[u,.func (.func g) #[] #[]] w λe' w'=>e'= .returned (.tuple #[])/\HR O I K w0 (h.put b (some (.arr e sig y))) w'/\St h O (h.put b (some (.arr e sig y))) O:=by
 rcases hu with⟨L0,cap,hL,hext,hv,hcap⟩|⟨hv,hz⟩
 .subst hv;rw[hlen,Int.toNat_natCast];obtain⟨C,e',lo,hi,q1,q0,q2,q3,q4,q5⟩:=r.blk b _ L0 hh hL;have hblk:=r.lt b L0 hL;have hfl:=jK sig (dL I x);have hHold:Go.Sort.HoldsK (ej sig) sig.length w L0.blk L0.off (dL I x).toArray:=by
   intro j hj;grind[b14,List.size_toArray,List.getElem?_eq_getElem,BW,uF,YP]
  have hcmp:Go.Proofs.CmpLays P g #[] (ej sig) sig.length cf L0.blk L0.off (dL I x).toArray.size w:=λm os dk _ a c=>hg a c _
  have hcon:=Go.Proofs.AnyQ.slices_SortFunc_eq L sig.length aE zE (ej sig) (nk sig) (λr v hv=>by
   have:=Vd sig [r] v (by grind[cM]);exact this) cf hO g #[] L0.blk L0.off cap (dL I x).toArray w eg hcmp hHold hblk (by grind)
  rw[K0,bh6,<-hy]at hcon;refine hcon.mono ?_;rintro e2 w' ⟨rfl,n,os,rfl⟩;refine⟨rfl,?_⟩;have hyl:(dL I y).length=(dL I x).length:=by grind[IX]
  obtain⟨r1,s1⟩:=HR.upd (w':=Go.Sort.putRowK (ej sig) sig.length w L0.blk L0.off (dL I y).toArray) r b _ (.arr e sig y) L0 hh hL hwm (λi hi=>bu6 hi) (Go.Sort.size_putRow _ _ _ _ _) rfl rfl rfl rfl (by
   refine⟨_,e',lo,hi,c65 q1,q0,?_,?_,?_,q5⟩
   .grind[Go.Sort.putCells,Array.size_mapIdx]
   .grind
   .rw[b14];have hfy:=jK sig (dL I y);simp[Go.Sort.putCells,Array.getElem?_mapIdx];grind)
  refine⟨HR.later r1 (λi hi=> ?_) ?_ rfl rfl rfl ?_,s1⟩
  .show(Go.Sort.grow _ _).heap[i]? =_;rw[Go.Sort.heap_grow_old _ _ (by simp_all[Go.Sort.putRowK])];rfl
  .simp[Go.Proofs.sortWorldK,Go.Sort.putRowK]
  .show w.drawn<=w.drawn+n;omega
 .subst hv;have hx:dL I x=[]:=by
   grind[List.length_eq_zero_iff]
  refine(Go.Proofs.AnyF.slices_SortFunc_none L none 0 _ w).mono ?_;rintro e2 w' ⟨rfl,rfl⟩;refine⟨rfl,?_⟩;have hyx:dL I y=dL I x:=by grind[cp2]
  have hb65:=Heap.get_lim h b _ hh;refine⟨HR.retell (y:= .arr e sig y) r hh (.inl hwm) (λL hL hbr=> ?_) (Heap.next_put _ _ _) (Heap.wm_put _ _ _) (λz=>by rw[Heap.get_put,e8 hb65]),⟨by simp_all,λ_ _=>rfl,λb' hb' hn=> ?_,Heap.wm_put _ _ _⟩⟩
  .obtain⟨C,e',lo,hi,q1,q0,q2,q3,q4,q5⟩:=hbr;exact⟨C,e',lo,hi,q1,q0,q2,by grind,by grind,q5⟩
  .by_cases e1:b'=b
   .subst e1;exact .inr (.inr (.of hh))
   simp_all[Heap.get_put,b9]
def Ft(g:FuncId)(e:TypeId)(sig:List CT)(id:Nat):FC:=⟨[.ous 0 (.va 0) sig.length,.func (.func g) [] []],[.arr e sig (.va 1)],0,.op .and [.op (.cmp .eql) [.va 0,.op .llen [.va 1]],.op (.cmp .leq) [.op .llen [.va 1],.ci 1000000]],.tup [],[some (.arr e sig (.va 1000))],[.app id [.va 1]]⟩
theorem db0(L:Go.Proofs.SlLaysF0.n6 E.P ρ){f g:FuncId}(hf:ρ.f 6=f){id:Nat}(aE: ∀w,(isAgg (ρ.t 24)).run E.P w= .ok true w)(zE: ∀w,(Go.sizeOf (ρ.t 24)).run E.P w= .ok sig.length w)
 (hO:Go.Sort.SWO (Go.Proofs.ltOf cf)) (eg: ∀args w,(callFunc g args).run E.P w= .ok (.enter g args) w) (hg:Na E.P g sig cf)
 (an: ∀I,Ω I-> ∀l,I.f id [l]= .vl (ic cf l.toL)) (hk:qp (Ft g e sig id) (.tup []) ((Ft g e sig id).heap.put 0 (some (.arr e sig (.app id [.va 1])))) []= .ret 0 [.app id [.va 1]]):uX E Ω f (Ft g e sig id):=by
 intro I ae hn K w0 O w us r ra;obtain⟨n1,n2⟩:=Z1 (show(dB I (.op (.cmp .eql) [.va 0,.op .llen [.va 1]])&&dB I (.op (.cmp .leq) [.op .llen [.va 1],.ci 1000000]))=true from hn);have n1:(I.w 0).toI=((I.w 1).toL.length:Int):=j5 n1;have n2:((I.w 1).toL.length:Int)<=1000000:=j5 n2;obtain⟨u,ur,rfl,hu,v2,ur2,e2,hv2,hnil⟩:=ra;subst hnil;subst e2;obtain⟨m,a,b,hv2,q1,q2⟩:=hv2;have gf:(Ft g e sig id).heap.get 0=some (.arr e sig (.va 1)):=rfl;have hy:dL I (.app id [.va 1])=ic cf (dL I (.va 1)):=by
  show(I.f id [I.w 1]).toL=_;rw[an I ae];rfl
 have:=cL4 L aE zE hO eg hg hy (b:=0) (len:= .va 0) r gf (s7 _) n1 (by show(I.w 1).toL.length<=1000000;omega) hu;rw[hf]at this;have ha:a= #[]:=N6.1 q1;have hb:b= #[]:=N6.1 q2;subst ha hb hv2;refine this.mono ?_;rintro e' w' ⟨rfl,h1,h2⟩;exact⟨_,O,.tup [],_,rfl,⟨[],mD,by rw[hk];rfl⟩,⟨_,rfl,rfl⟩,h1,h2⟩
theorem JR(hup: ∀I v0 l,Ω I->Ω (I.upd v0 l)){f:FuncId}{nv:Nat}{c:FC}(ho:tr c nv=true)(h:uX E Ω f c):cD E Ω ⟨f,nv,c⟩:=λI ae args h' v h2 e=>co9 hup ho h ae e
theorem OK{r:Val}: ∀(s:List CT) (i j:Nat),(∀t,t<s.length->I.w (i+t)=r.toL.getD (j+t) default)->ct O I (sc s i) (gi r s j)
 | [],_,_,_=>rfl
 |c::s,i,j,h=>by
  have h0:=h 0 (by simp);have ih:=OK s (i+1) (j+1) (λt ht=>by
   have:=h (t+1) (by simp;omega);rw[show i+1+t=i+(t+1) by omega,show j+1+t=j+(t+1) by omega];exact this)
  refine .cons ?_ ih;have:=CU (O:=O) (I:=I) c (.va i);rw[show bZ I (.va i)=I.w i from rfl,show I.w i=r.toL.getD j default by simpa using h0]at this;exact this
theorem dx8(hup: ∀I v0 l,Ω I->Ω (I.upd v0 l)){I:Opq}(ae:Ω I){y:HC}(hy:cD E Ω y){x:SX}{h2:Heap}(e:kH y.c y.nv [.agg (sc sig 0),.agg (sc sig sig.length)] Heap.empty= .val (.oint .i64 x) h2)
 (hx: ∀I,Ω I-> ∀a b:Val,(∀t,t<sig.length->I.w t=a.toL.getD t default)->(∀t,t<sig.length->I.w (sig.length+t)=b.toL.getD t default)->dI I x=cf a b):Na E.P y.f sig cf:=by
 intro a b w;obtain⟨aj,ay⟩: ∃aj:Opq,aj=I.upd 0 ((List.range sig.length).map (λt=>a.toL.getD t default)++(List.range sig.length).map (λt=>b.toL.getD t default)):=⟨_,rfl⟩;have aI:Ω aj:=by grind
 have hat: ∀t,aj.w t=((List.range sig.length).map (λt=>a.toL.getD t default)++(List.range sig.length).map (λt=>b.toL.getD t default)).getD t (.vb false):=λt=>by
  have q: ∀(v0:Nat) (l:List Val),v0<=t->(I.upd v0 l).w t=l.getD (t-v0) (.vb false):=λv0 l h=>e8 h
  grind
 have ha: ∀t,t<sig.length->aj.w t=a.toL.getD t default:=λt ht=>by
  grind
 have hb: ∀t,t<sig.length->aj.w (sig.length+t)=b.toL.getD t default:=λt ht=>by
  simp_all
 have hp:=hy aj aI _ _ _ _ (.inl e) (· <w.heap.size) w (λ_=>none) w [.agg (ej sig a).toArray,.agg (ej sig b).toArray] (HR.start w)
  (.cons ⟨_,rfl,by simp_all[qV,OK,m9]⟩ (.one ⟨_,rfl,by simp_all[qV,OK,m9]⟩))
 refine hp.mono ?_;rintro e2 w' ⟨u,ac,rfl,hu,hr,_⟩;have hu:u= .int .i64 (dI aj x):=hu;rw[hx aj aI a b ha hb]at hu;exact⟨by rw[hu],cL2 (λi hi=>hr.keep i hi) hr.size hr.os hr.tape hr.out hr.dr⟩
end Go.Ev
namespace Go.Ev
open Go
variable{E:Env}{O ac:cq}{I aa:Opq}{K:Nat->Prop}{w0 w w':World}{h h':Heap}
theorem HR.turn2(r:HR O I K w0 h w)(hn:h'.next=h.next)(hw:h'.wm=h.wm)(hnone: ∀b,h.get b=none->h'.get b=none)
 (key: ∀b y,h'.get b=some y-> ∃z,h.get b=some z/\(∀L,O b=some L->BR O I L w.heap[L.blk]? z->BR O aa L w.heap[L.blk]? y)/\z.isArr=y.isArr):HR O aa K w0 h' w:=by
 refine⟨λb y L hg hb=> ?_,λb b1 y y1 L L1 hg hg1 hb hb1 hne hc=> ?_,λb hb=>r.fresh b (by omega),λb hb=>hnone b (r.fget b (by omega)),r.lt,r.kin,r.keep,λb y L hg hc hb=> ?_,r.size,r.os,r.tape,r.out,r.dr⟩
 .obtain⟨z,z1,z2,_⟩:=key b y hg;exact z2 L hb (r.blk b z L z1 hb)
 .obtain⟨z,z1,_,k1⟩:=key b y hg;obtain⟨z',z1',_,k2⟩:=key b1 y1 hg1;exact r.sep b b1 z z' L L1 z1 z1' hb hb1 hne (by grind)
 .obtain⟨z,z1,_⟩:=key b y hg;exact r.free b z L z1 (by omega) hb
def CR(e:TypeId)(sig:List CT)(need:SX)(id:Nat):FC:=⟨[.bool false,.ous 0 (.va 0) sig.length],[.bag e sig (.va 1)],1,need,.ous 1 (.op .llen [.va 1000]) sig.length,[some (.arr e sig (.va 1000))],[.app id [.va 1]]⟩
theorem dx9{Ω:Opq->Prop}(hup: ∀I v0 l,Ω I->Ω (I.upd v0 l)){y:HC}(hy:cD E Ω y){e:TypeId}{sig:List CT}{need x:SX}{id:Nat}{hB hA h2 hR:Heap}(hB0:(CR e sig need id).heap=hB)
 (q1:hB.next=hA.next) (q2:hB.wm=hA.wm) (q3: ∀b,hB.get b=none->hA.get b=none) (q4:hB.get 0=some (.bag e sig (.va 1))) (q5:hA.get 0=some (.arr e sig (.va 1))) (q6: ∀b z,hA.get b=some z->b=0)
 (p1:h2.next=hR.next) (p2:h2.wm=hR.wm) (p3: ∀b,hR.get b=none->h2.get b=none) (p4: ∀b z,h2.get b=some z->(b=0/\z= .bag e sig (.va 1)/\hR.get 0=some (.arr e sig (.va 1)))\/(b=1/\z= .arr e sig (.app id [.va 1])/\hR.get 1=some (.arr e sig (.app id [.va 1])))) (p5:h2.get 0=some (.bag e sig (.va 1))) (p6:hB.next=1)
 (hk:kH y.c y.nv [.bool false,.ous 0 (.op .llen [.va 1]) sig.length] hA= .need x (.ous 1 (.op .llen [.app id [.va 1]]) sig.length) hR)
 (hx: ∀I,Ω I->dB I need=true->dI I (.va 0)=((dL I (.va 1)).length:Int)/\ ∀D:List Val,D.Perm (I.w 1).toL->I.f id [.vl D]=I.f id [I.w 1]/\dB (I.upd 1 [.vl D]) x=true)
 (hkk:qp (CR e sig need id) (.ous 1 (.op .llen [.app id [.va 1]]) sig.length) h2 []= .ret 0 [.app id [.va 1]]):uX E Ω y.f (CR e sig need id):=by
 intro I ae hn K w0 O w us r ra;rw[hB0]at r;obtain⟨hlen,hD⟩:=hx I ae hn;have hbr: ∃D:List Val,D.Perm (I.w 1).toL/\ ∀L,O 0=some L->BR O (I.upd 1 [.vl D]) L w.heap[L.blk]? (.arr e sig (.va 1)):=by
  cases hb:O 0 with
  |none=>exact⟨_,O5 _,λL h=>by cases h⟩
  |some L=>
   obtain⟨D,d1,d2⟩:=r.blk 0 _ L q4 hb;refine⟨D,d1,λL' h=> ?_⟩;cases h;exact d2
 obtain⟨D,d1,d2⟩:=hbr;obtain⟨hf,hdx⟩:=hD D d1;obtain⟨aj,ay⟩: ∃aj,aj=I.upd 1 [.vl D]:=⟨_,rfl⟩;rw[<-ay]at d2 hdx;have w1:aj.w 1= .vl D:=by rw[ay];rfl
 have hff:aj.f=I.f:=by rw[ay];rfl
 have hlD:((dL aj (.va 1)).length:Int)=dI I (.va 0):=by
  rw[hlen];show(((aj.w 1).toL).length:Int)=((I.w 1).toL.length:Int);rw[w1];have:=d1.length_eq;show(D.length:Int)=_;omega
 have r1:HR O aj K w0 hA w:=HR.turn2 r q1.symm q2.symm q3 λb z hz=>by
  obtain rfl:=q6 b z hz;rw[q5]at hz;cases hz;exact⟨_,q4,λL hL _=>d2 L hL,rfl⟩
 have hp:=hy aj (by grind) _ _ _ _ (.inr ⟨x,hk,hdx⟩) K w0 O w us r1 (by
  obtain⟨u1,ur,e1,v1,u2,ur2,e2,v2,e3⟩:=ra;refine⟨u1,ur,e1,v1,u2,ur2,e2,?_,e3⟩;have hli:dI aj (.op .llen [.va 1])=dI I (.va 0):=hlD;grind[VR])
 refine hp.mono ?_;rintro e' w' ⟨u,ac,rfl,hu,hr,hs⟩;have hout:bZ aj (.app id [.va 1])=bZ I (.app id [.va 1]):=by
  show aj.f id [aj.w 1]=I.f id [I.w 1];grind
 refine⟨u,ac,_,h2,rfl,⟨[],mD,by rw[hkk];rfl⟩,?_,?_,?_⟩
 .have hli:dI aj (.op .llen [.app id [.va 1]])=dI I (.op .llen [.app id [.va 1]]):=by
   show((bZ aj (.app id [.va 1])).toL.length:Int)=((bZ I (.app id [.va 1])).toL.length:Int);rw[hout]
  grind[VR]
 .refine HR.turn2 hr p1 p2 p3 λb z hz=> ?_
  rcases p4 b z hz with⟨rfl,rfl,h0⟩|⟨rfl,rfl,h0⟩
  .refine⟨_,h0,λL hL hb=> ?_,rfl⟩;obtain⟨C,e',lo,hi,t1,t2,t3,t4,t5,t6⟩:=hb;have hw:dL aj (.va 1)=D:=by show(aj.w 1).toL=D;rw[w1];rfl
   rw[hw]at t4 t5;exact⟨D,d1,C,e',lo,hi,t1,t2,t3,t4,t5,t6⟩
  .refine⟨_,h0,λL hL hb=> ?_,rfl⟩;obtain⟨C,e',lo,hi,t1,t2,t3,t4,t5,t6⟩:=hb;have hw:dL aj (.app id [.va 1])=dL I (.app id [.va 1]):=by show(bZ aj _).toL=(bZ I _).toL;rw[hout]
   rw[hw]at t4 t5;exact⟨C,e',lo,hi,t1,t2,t3,t4,t5,t6⟩
 .rw[hB0];refine⟨by rw[p1,q1];exact hs.le,λb hb=>hs.ext b (by rw[<-q1];exact hb),λb hb hnb=> ?_,by rw[p2,q2];exact hs.wm⟩;grind
noncomputable def vH(l:List Blk):Heap:=(iW l Heap.empty).setwm 1
theorem Jm{l:List Blk}(h:l.length<60000):(vH l).next=l.length/\(vH l).wm=1/\ ∀b,(vH l).get b=l[b]? :=
 FC.heap_ok ⟨[],l,1,.cb true,.undef,[],[]⟩ h
theorem db1{Ω:Opq->Prop}(hup: ∀I v0 l,Ω I->Ω (I.upd v0 l)){y:HC}(hy:cD E Ω y){e:TypeId}{sig:List CT}{need x:SX}{id:Nat}
 (hk:kH y.c y.nv [.bool false,.ous 0 (.op .llen [.va 1]) sig.length] (vH [.arr e sig (.va 1)])= .need x (.ous 1 (.op .llen [.app id [.va 1]]) sig.length) (vH [.arr e sig (.va 1),.arr e sig (.app id [.va 1])]))
 (hx: ∀I,Ω I->dB I need=true->dI I (.va 0)=((dL I (.va 1)).length:Int)/\ ∀D:List Val,D.Perm (I.w 1).toL->I.f id [.vl D]=I.f id [I.w 1]/\dB (I.upd 1 [.vl D]) x=true)
 (hkk:qp (CR e sig need id) (.ous 1 (.op .llen [.app id [.va 1]]) sig.length) (vH [.bag e sig (.va 1),.arr e sig (.app id [.va 1])]) []= .ret 0 [.app id [.va 1]]):uX E Ω y.f (CR e sig need id):=by
 obtain⟨a1,a2,a3⟩:=Jm (l:=[.bag e sig (.va 1)]) (by show 1<60000;omega);obtain⟨b1,b2,b3⟩:=Jm (l:=[.arr e sig (.va 1)]) (by show 1<60000;omega);obtain⟨c1,c2,c3⟩:=Jm (l:=[.arr e sig (.va 1),.arr e sig (.app id [.va 1])]) (by show 2<60000;omega);obtain⟨d1,d2,d3⟩:=Jm (l:=[.bag e sig (.va 1),.arr e sig (.app id [.va 1])]) (by show 2<60000;omega);refine dx9 hup hy (hB:=vH [.bag e sig (.va 1)]) rfl (by rfl) (by rw[a2,b2]) (λb h=> ?_) (by rfl) (by rfl) (λb z h=> ?_) (h2:=vH [.bag e sig (.va 1),.arr e sig (.app id [.va 1])]) (by rfl) (by rw[c2,d2]) (λb h=> ?_) (λb z h=> ?_) (by rfl) a1 hk hx hkk
 .rw[b3]
  match b,h with
  |b+1,_=>rfl
 .rw[b3]at h
  match b,h with
  |0,_=>rfl
  |b+1,h=>cases h
 .rw[d3]
  match b,h with
  |b+2,_=>rfl
 grind
end Go.Ev
namespace Go.Ev
open Go
variable{E:Env}{O ac:cq}{I aa:Opq}{K:Nat->Prop}{w0 w w':World}{h h':Heap}
def NG(g:FuncId)(e:TypeId)(sig:List CT)(need:SX)(id:Nat):FC:=⟨[.ous 0 (.va 0) sig.length,.func (.func g) [] []],[.bag e sig (.va 1)],0,need,.tup [],[some (.arr e sig (.va 1000))],[.app id [.va 1]]⟩
theorem db2{Ω:Opq->Prop}(hup: ∀I v0 l,Ω I->Ω (I.upd v0 l)){y:HC}(hy:cD E Ω y){g:FuncId}{e:TypeId}{sig:List CT}{need x:SX}{id:Nat}
 (hB0:(NG g e sig need id).heap=((iW [.bag e sig (.va 1)] Heap.empty).setwm 0))
 (hk:kH y.c y.nv [.ous 0 (.op .llen [.va 1]) sig.length,.func (.func g) [] []] ((iW [.arr e sig (.va 1)] Heap.empty).setwm 0)= .need x (.tup []) ((iW [.arr e sig (.app id [.va 1])] Heap.empty).setwm 0))
 (hx: ∀I,Ω I->dB I need=true->dI I (.va 0)=((dL I (.va 1)).length:Int)/\ ∀D:List Val,D.Perm (I.w 1).toL->I.f id [.vl D]=I.f id [I.w 1]/\dB (I.upd 1 [.vl D]) x=true)
 (hkk:qp (NG g e sig need id) (.tup []) ((iW [.arr e sig (.app id [.va 1])] Heap.empty).setwm 0) []= .ret 0 [.app id [.va 1]]):uX E Ω y.f (NG g e sig need id):=by
 obtain⟨a1,a2,a3⟩:=FC.heap_ok (c:=⟨[],[.bag e sig (.va 1)],0,.cb true,.undef,[],[]⟩) (by grind);obtain⟨b1,b2,b3⟩:=FC.heap_ok (c:=⟨[],[.arr e sig (.va 1)],0,.cb true,.undef,[],[]⟩) (by grind);obtain⟨c1,c2,c3⟩:=FC.heap_ok (c:=⟨[],[.arr e sig (.app id [.va 1])],0,.cb true,.undef,[],[]⟩) (by grind);have a1':((iW [.bag e sig (.va 1)] Heap.empty).setwm 0).next=1:=a1
 have b1':((iW [.arr e sig (.va 1)] Heap.empty).setwm 0).next=1:=b1
 have c1':((iW [.arr e sig (.app id [.va 1])] Heap.empty).setwm 0).next=1:=c1
 intro I ae hn K w0 O w us r ra;rw[hB0]at r;obtain⟨hlen,hD⟩:=hx I ae hn;have q4:((iW [.bag e sig (.va 1)] Heap.empty).setwm 0).get 0=some (.bag e sig (.va 1)):=(a3 0).trans rfl;have hbr: ∃D:List Val,D.Perm (I.w 1).toL/\ ∀L,O 0=some L->BR O (I.upd 1 [.vl D]) L w.heap[L.blk]? (.arr e sig (.va 1)):=by
  cases hb:O 0 with
  |none=>exact⟨_,O5 _,λL h=>by cases h⟩
  |some L=>
   obtain⟨D,d1,d2⟩:=r.blk 0 _ L q4 hb;refine⟨D,d1,λL' h=> ?_⟩;cases h;exact d2
 obtain⟨D,d1,d2⟩:=hbr;obtain⟨hf,hdx⟩:=hD D d1;obtain⟨aj,ay⟩: ∃aj,aj=I.upd 1 [.vl D]:=⟨_,rfl⟩;rw[<-ay]at d2 hdx;have w1:aj.w 1= .vl D:=by rw[ay];rfl
 have hff:aj.f=I.f:=by rw[ay];rfl
 have hlD:((dL aj (.va 1)).length:Int)=dI I (.va 0):=by
  rw[hlen];show(((aj.w 1).toL).length:Int)=((I.w 1).toL.length:Int);rw[w1];have:=d1.length_eq;show(D.length:Int)=_;omega
 have r1:HR O aj K w0 ((iW [.arr e sig (.va 1)] Heap.empty).setwm 0) w:=HR.turn2 r (b1.trans a1.symm) (b2.trans a2.symm) (λb h=>by
  rw[show((iW [.arr e sig (.va 1)] Heap.empty).setwm 0).get b=[Blk.arr e sig (.va 1)][b]? from b3 b];grind) λb z hz=>by
  rw[show((iW [.arr e sig (.va 1)] Heap.empty).setwm 0).get b=[Blk.arr e sig (.va 1)][b]? from b3 b]at hz
  match b,hz with
  |0,hz=>cases hz;exact⟨_,q4,λL hL _=>d2 L hL,rfl⟩
  |b+1,hz=>cases hz
 have hp:=hy aj (by grind) _ _ _ _ (.inr ⟨x,hk,hdx⟩) K w0 O w us r1 (by
  obtain⟨u1,ur,e1,v1,hr2⟩:=ra;refine⟨u1,ur,e1,?_,hr2⟩;have hli:dI aj (.op .llen [.va 1])=dI I (.va 0):=hlD;grind[VR])
 refine hp.mono ?_;rintro e' w' ⟨u,ac,rfl,hu,hr,hs⟩;have hout:bZ aj (.app id [.va 1])=bZ I (.app id [.va 1]):=by
  show aj.f id [aj.w 1]=I.f id [I.w 1];grind
 refine⟨u,ac,_,_,rfl,⟨[],mD,by rw[hkk];rfl⟩,by trivial,?_,?_⟩
 .refine HR.turn2 hr rfl rfl (λb h=>h) λb z hz=>⟨z,hz,λL hL hb=> ?_,rfl⟩
  rw[show((iW [.arr e sig (.app id [.va 1])] Heap.empty).setwm 0).get b=[Blk.arr e sig (.app id [.va 1])][b]? from c3 b]at hz
  match b,hz with
  |0,hz=>
   cases hz;obtain⟨C,e',lo,hi,t1,t2,t3,t4,t5,t6⟩:=hb;have hw:dL aj (.app id [.va 1])=dL I (.app id [.va 1]):=by show(bZ aj _).toL=(bZ I _).toL;rw[hout]
   rw[hw]at t4 t5;exact⟨C,e',lo,hi,t1,t2,t3,t4,t5,t6⟩
  |b+1,hz=>cases hz
 .rw[hB0];refine⟨by omega,λb hb=>hs.ext b (by omega),λb hb hnb=> ?_,c2.trans a2.symm⟩;obtain rfl:b=0:=by omega
  exact .inr (.inr (by exact .bag _ _ _))
end Go.Ev
namespace Go.Ev
open Go
def DT(e:SX):AV:= .oint .i64 e
def LD(k:Nat):List SX:=[.op .lget [.va 0,.ci (k:Int),.ci 0],.op .lget [.va 0,.ci (k:Int),.ci 1]]
def Nn(n:Nat):List SX:=(List.range' 0 n).flatMap LD
def wE:List CT:=[.int .i64,.int .i64]
def UQ(e n:Nat):List Blk:=[.cells e 0 [.oint .i64 (.va 3),.oint .i64 (.va 4)],.cells e 0 ((Nn n).map DT)]
noncomputable def CN(e n:Nat):Heap:=(iW (UQ e n) Heap.empty).setwm 1
def yy(k:Nat):SX:= .op .row (LD k)
def e39(n j:Nat):SX:= .op .row ((List.range' 0 j).map yy++[.op .row [.va 3,.va 4]]++(List.range' j (n-j)).map yy)
def yf(x:SX):VT->Bool
 | .ret 0 [e]=>SX.beq e x
 | .both a b=>yf x a&&yf x b
 |_=>false
theorem Pz{I:Opq}{x:SX}: ∀{t:VT},yf x t=true->Z0 t I=some (0,[bZ I x])
 | .ret i o,h=>by
   unfold yf at h;split at h
   .rename_i e he;cases he;rw[SX.beq_eq _ _ h];rfl
   .grind
   .cases h
 | .both a b,h=>by
   obtain⟨h1,h2⟩:=Z1 (show(yf x a&&yf x b)=true from h);have a1:=Pz (I:=I) h1;have a2:=Pz (I:=I) h2;grind[Z0]
 | .bad,h=>by trivial
 | .ite _ _ _,h=>by trivial
 | .need _ _,h=>by trivial
 | .loop _ _ _,h=>by trivial
 | .mloop _ _ _ _,h=>by trivial
def kT(e:TypeId)(need out:SX):FC:=⟨[.ous 1 (.va 1) 2,.oint .i64 (.va 2),.sl 0 0 1 1],[.cells e 0 [.oint .i64 (.va 3),.oint .i64 (.va 4)],.arr e wE (.va 0)],1,need,.ous 2 (.op .llen [.va 1000]) 2,[none,some (.arr e wE (.va 1000))],[out]⟩
noncomputable def Gj(E:Env)(N:Nat)(f:FuncId)(e:TypeId)(c:FC)(args:List AV)(n j:Nat):Bool:=yf (e39 n j) (ev E N iP lJ (.call f args (CN e n) (qp c)) [])
noncomputable def cU9(E:Env)(N:Nat)(f:FuncId)(e:TypeId)(c:FC)(M:Nat):Bool:=
 Gj E N f e c [.nils,.int .i64 0,.sl 0 0 1 1] 0 0&&(List.range (M+1)).all λn=>(List.range (n+1)).all λj=>Gj E N f e c [.us 1 0 n 2,.int .i64 (j:Int),.sl 0 0 1 1] n j
def yN(r:Val):Val:= .vl [r.toL.getD 0 default,r.toL.getD 1 default]
theorem dy0(r:Val)(l:List Val):cM wE (r::l)= .int .i64 (r.toL.getD 0 default).toI:: .int .i64 (r.toL.getD 1 default).toI::cM wE l:=rfl
theorem XQ{l:List Val}{k:Nat}(h:k<l.length):l.drop k=l.getD k (.vl [])::l.drop (k+1):=by
 simp_all
theorem Wp{O:cq}{I:Opq}{l:List Val}(hl:(I.w 0).toL=l): ∀(m k:Nat),k+m=l.length->ct O I (((List.range' k m).flatMap LD).map DT) (cM wE (l.drop k))
 |0,k,h=>by
  rw[N8 (by omega)];rfl
 |m+1,k,h=>by
  rw[G0,B7,n8,XQ (by omega),dy0];refine⟨_,_,rfl,?_,_,_,rfl,?_,Wp hl m (k+1) (by omega)⟩
  .show Value.int .i64 ((l.getD k (.vl [])).toL.getD 0 default).toI= .int .i64 (co (I.w 0).toL (k:Int) 0).toI;rw[hl];rfl
  .show Value.int .i64 ((l.getD k (.vl [])).toL.getD 1 default).toI= .int .i64 (co (I.w 0).toL (k:Int) 1).toI;rw[hl];rfl
theorem dy1(n:Nat):((Nn n).map DT).all AV.oneA=true:=by
 rw[k8];intro x hx;obtain⟨e,_,rfl⟩:=j7.1 hx;rfl
theorem bv0: ∀l:List Val,(cM wE l).length=l.length*2
 | []=>rfl
 |r::l=>by rw[dy0,List.length_cons,List.length_cons,bv0 l,List.length_cons];omega
theorem cp5: ∀(m k:Nat),(((List.range' k m).flatMap LD).map DT).length=m*2
 |0,k=>rfl
 |m+1,k=>by
  rw[G0,B7,n8,k5,cp5 m (k+1)];show 2+m*2=(m+1)*2;omega
theorem OU{I:Opq}{l:List Val}(hl:(I.w 0).toL=l): ∀(m k:Nat),k+m<=l.length->ck I ((List.range' k m).map yy)=((l.drop k).take m).map yN
 |0,k,h=>by rfl
 |m+1,k,h=>by
  rw[G0,l9,XQ (by omega),List.take_succ_cons,l9];show bZ I (yy k)::ck I ((List.range' (k+1) m).map yy)=_;rw[OU hl m (k+1) (by omega)];congr 1;show Val.vl [co (I.w 0).toL (k:Int) 0,co (I.w 0).toL (k:Int) 1]=_;rw[hl];rfl
theorem db6{I:Opq}{l:List Val}(hl:(I.w 0).toL=l){j:Nat}(hj:j<=l.length):bZ I (e39 l.length j)= .vl ((l.take j).map yN++[.vl [I.w 3,I.w 4]]++(l.drop j).map yN):=by
 show Val.vl (ck I ((List.range' 0 j).map yy++[.op .row [.va 3,.va 4]]++(List.range' j (l.length-j)).map yy))=_;rw[UC,UC,OU hl j 0 (by omega),OU hl (l.length-j) j (by omega),R3,I5 (show(l.drop j).length<=l.length-j by grind)];rfl
theorem db7{E Ec:Env}{Ω:Opq->Prop}{N M:Nat}{f:FuncId}{e:TypeId}{need out:SX}(hP:Ec.P=E.P)(hk: ∀I,Ω I->QD Ec I N)(he:e≠jM)(hfx: ∀I,Ω I->I.fix e=false)
 (hrun:cU9 Ec N f e (kT e need out) M=true)
 (hx: ∀I,Ω I->dB I need=true-> ∃(l:List Val) (j:Nat),(I.w 0).toL=l/\dI I (.va 1)=(l.length:Int)/\dI I (.va 2)=(j:Int)/\j<=l.length/\l.length<=M/\bZ I out= .vl ((l.take j).map yN++[.vl [I.w 3,I.w 4]]++(l.drop j).map yN)):uX E Ω f (kT e need out):=by
 intro I ae hn K w0 O w us r ra;obtain⟨l,j,hl,h1,h2,hj,hM,hout⟩:=hx I ae hn;obtain⟨a1,a2,a3⟩:=FC.heap_ok (kT e need out) (by show 2<60000;omega);obtain⟨b1,b2,b3⟩:=FC.heap_ok (c:=⟨[],UQ e l.length,1,.cb true,.undef,[],[]⟩) (by show 2<60000;omega);have b1':(CN e l.length).next=2:=b1
 have b2':(CN e l.length).wm=1:=b2;have b3': ∀b,(CN e l.length).get b=(UQ e l.length)[b]? :=b3;have a1':(kT e need out).heap.next=2:=a1
 have a2':(kT e need out).heap.wm=1:=a2;have g1:(kT e need out).heap.get 1=some (.arr e wE (.va 0)):=a3 1;have r1:HR O I K w0 (CN e l.length) w:=HR.retell (y:= .cells e 0 ((Nn l.length).map DT)) r g1 (.inl (by omega)) (λL hL hbr=>by
  obtain⟨C,e',lo,hi,q1,q0,q2,q3,q4,q5⟩:=hbr;obtain rfl:e'=e:=q0.resolve_right he;have hd:dL I (.va 0)=l:=hl;rw[hd]at q3 q4;have hlen:((Nn l.length).map DT).length=l.length*2:=cp5 l.length 0;refine⟨C,lo,hi,cM wE l,q1,q2,by rw[hlen];exact q3,dy1 _,Wp hl l.length 0 (by omega),λi hi'=> ?_,λi _ h=>q5 i h,λh=>by rw[hfx I ae]at h;cases h⟩;grind[bv0,List.getElem?_eq_getElem]) (by rfl) (by rfl) (λz=>by
  rw[b3',a3];by_cases hz:z=1
  .subst hz;rfl
  .match z,hz with
   |0,_=>rfl
   |1,hz=>omega
   |z+2,_=>rfl)
 obtain⟨u1,ur,e1,v1,u2,ur2,e2,v2,e3⟩:=ra;have v2':u2= .int .i64 (j:Int):=by rw[<-h2];exact v2
 obtain⟨hr0,hr1⟩:=Z1 hrun;have fin: ∀args,ct O I args us->Gj Ec N f e (kT e need out) args l.length j=true->Calls E.P f us.toArray w (λe' w'=> ∃u ac v h',e'= .returned u/\oH I (0,ck I (kT e need out).outs) (qp (kT e need out) v h')/\VR ac I v u/\HR ac I K w0 h' w'/\St (kT e need out).heap O h' ac):=by
  intro args hargs hc;have T0:oH I (0,ck I (kT e need out).outs) (ev Ec N iP lJ (.call f args (CN e l.length) (qp (kT e need out)))):=by
   refine⟨[],mD,?_⟩;rw[Pz hc,db6 hl hj,<-hout];rfl
  rw[<-hP];refine(hk I ae iP lJ (oH I (0,ck I (kT e need out).outs)) (vC I _) f args _ _ T0 K w0 O w us r1 hargs).mono ?_;rintro e' w' ⟨u,ac,v,h',rfl,k1,k2,k3,k4⟩;refine⟨u,ac,v,h',rfl,k1,k2,k3,⟨by exact k4.le,λb hb=>k4.ext b (by omega),λb hb hn=> ?_,by exact k4.wm⟩⟩
  match b,hb with
  |0,_=>
   rcases k4.unm 0 (by omega) hn with q|q|q
   .exact .inl (q.trans (by rfl))
   .grind
   .cases q
  |1,_=>exact .inr (.inr (.of g1))
 rcases v1 with⟨L,cap,hL,hcap,hv,hle⟩|⟨hv,h0⟩
 .refine fin [.us 1 0 l.length 2,.int .i64 (j:Int),.sl 0 0 1 1] ⟨u1,ur,e1,⟨L,cap,hL,by rw[m9];exact hcap,?_⟩,u2,ur2,e2,v2',e3⟩ ?_
  .rw[hv];have hq:(dI I (.va 1)).toNat=l.length:=by rw[h1];rfl
   rw[hq];rfl
  grind
 .have hj0:j=0:=by omega
  subst hj0;refine fin [.nils,.int .i64 0,.sl 0 0 1 1] ⟨u1,ur,e1,hv,u2,ur2,e2,v2',e3⟩ ?_;grind
end Go.Ev
