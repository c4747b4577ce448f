import Derived.Test.YtgeohopencabkaaGreatE40
import Derived.Shelf.SlSortCmp.NoneTotal
set_option linter.all false
noncomputable section
namespace Go.Ev
open Go
variable{cf:Val->Val->Int}{e:zX}{sig:wD}{Ω:Opq->Prop}
variable{E:Env}{O ac:cj}{I:Opq}{K:wW}{w0 w w':Ac}{h h':Heap}{P:yJ}{ρ:Go.Shelf.Ren}
theorem Zb{l:List Zl}{t:Nat}{v:Zl}(h:l[t]? =some v):(l.toArray)[t]! =v:=by simp[h]
theorem b31(sig:wD)(l:U7):Go.Sort.flatK (dD sig) sig.length l.toArray=(Y2 sig l).toArray:=by
 refine Go.Sort.ext_get! (by rw[Go.Sort.size_flatK,I4,I4,iR]) λt ht=> ?_
 have ht':t<l.toArray.size*sig.length:=by simpa using ht
 rw[Go.Sort.get_flatK _ _ _ _ ht'];have k0:0<sig.length:=by
  rcases N7 sig.length with h|h
  rw[h]at ht';omega;exact h
 have hq:t/sig.length<l.length:=(Nat.div_lt_iff_lt_mul k0).2 ht';have hr:t % sig.length<sig.length:=N8 _ k0;have:=EH hr hq;rw[M5,Nat.div_add_mod]at this;rw[Zb this];have e1:l.toArray[t/sig.length]! =l[t/sig.length]:=by simp[hq]
 have e2:l.getD (t/sig.length) (.A [])=l[t/sig.length]:=by rw[k5,m7 hq,Option.getD_some]
 rw[e1,e2];simp[dD,hr]
def d08{w w':Ac}(hp: ∀i,i<w.heap.size->w'.heap[i]? =w.heap[i]?)(hs:w.heap.size<=w'.heap.size)(ho:w'.os=w.os)(ht:w'.tape=w.tape)(hu:w'.output=w.output)(hd:w.drawn<=w'.drawn):
 ∃q os',w'=Go.Sort.grow (w.drewN q) os':=by
 refine⟨w'.drawn-w.drawn,w'.heap.extract w.heap.size w'.heap.size,?_⟩;show World.mk _ _ _ _ _=World.mk _ _ _ _ _;simp[World.drewN,World.mk.injEq,and_true,true_and];grind
def Gn(P:yJ)(g:FuncId)(sig:wD)(cf:Val->Val->Int):Prop:= ∀(x y:Val) (w:Ac),
 Calls P g #[.agg (dD sig x).toArray,.agg (dD sig y).toArray] w λe w'=>e= .returned (.int .i64 (cf x y))/\ ∃q os',w'=Go.Sort.grow (w.drewN q) os'
def fD(cf:Val->Val->Int)(l:U7):U7:=(Go.Sort.pdq (Go.Proofs.ltOf cf) l.toArray 0 l.length (Go.Lib.bitLen l.length) true true).toList
def vT(hO:Go.Sort.SWO (Go.Proofs.ltOf cf))(l:U7):(fD cf l).Perm l/\(fD cf l).Pairwise (λa b=>cf b a<0->False):=by
 have h:=Go.Sort.pdq_sorts (Go.Proofs.ltOf cf) hO l.toArray 0 l.length (Go.Lib.bitLen l.length) true true (s8 _) (by simp) (Or.inl rfl);obtain⟨⟨h1,_,h3⟩,h4⟩:=h;unfold fD;generalize Go.Sort.pdq (Go.Proofs.ltOf cf) l.toArray 0 l.length (Go.Lib.bitLen l.length) true true=d at h1 h3 h4;replace h1:d.size=l.length:=by simpa using h1
 refine⟨?_,?_⟩
 have a1:(d.extract 0 l.length).toList=d.toList:=by rw[<-h1];simp
 have a2:(l.toArray.extract 0 l.length).toList=l:=by simp
 rw[a1,a2]at h3;exact h3;rw[G4];intro i j hi hj hij hlt;have:=h4 i j (s8 _) hij (by rw[<-h1];simpa using hj);rw[getElem!_pos d i hi,getElem!_pos d j hj]at this;simp only[Go.Proofs.ltOf,decide_eq_false_iff_not]at this;exact this (by simpa using hlt)
theorem cz2(cf:Val->Val->Int)(hO:Go.Sort.SWO (Go.Proofs.ltOf cf)):fD cf []=[]:=(vT hO []).1.eq_nil
theorem Ku(hO:Go.Sort.SWO (Go.Proofs.ltOf cf))(l:U7):(fD cf l).length=l.length:=(vT hO l).1.length_eq
def bk1(cf:Val->Val->Int)(l:U7):Go.Sort.pdq (Go.Proofs.ltOf cf) l.toArray 0 l.length (Go.Lib.bitLen l.length) true true=(fD cf l).toArray:=by rfl
def cd1{blk off:Nat}{F C:Array Zl}{fr:Nat×Nat}(hb:w.heap[blk]? =some (.cells C e fr)):(Go.Sort.putRow id w blk off F).heap[blk]? =some (.cells (Go.Sort.putCells id off F C) e fr):=by simp[Go.Sort.putRow,Go.Sort.mapBlock,Q9,hb,Go.Sort.onCells]
def bx5{blk off i:Nat}{F:Array Zl}(hi:i≠blk):(Go.Sort.putRow id w blk off F).heap[i]? =w.heap[i]? :=by simp[Go.Sort.putRow,Go.Sort.mapBlock,Q9,Ne.symm hi]
def d09(L:Go.Proofs.SlLaysF0.n6 P ρ){x:SX}{g:FuncId}(aE: ∀w,(isAgg (ρ.t 24)).run P w= .ok true w)(zE: ∀w,(Go.sizeOf (ρ.t 24)).run P w= .ok sig.length w)
 (hO:Go.Sort.SWO (Go.Proofs.ltOf cf)) (eg: ∀args w,(callFunc g args).run P w= .ok (.enter g args) w) (hg:Gn P g sig cf) {y:SX} (hy:dL I y=fD cf (dL I x)) {b:Nat}
 (r:HR O I K w0 h w) (hh:h.get b=some (.A e sig x)) (hwm:h.wm<=b) {len:SX} (hlen:dI I len=(dL I x).length) (hsz:(dL I x).length<=1000000) {u:Zl} (hu:VR O I (.U b len sig.length) u):
 Calls P (ρ.f 6) #[u,.func (.func g) #[] #[]] w λe' w'=>e'= .returned (.tuple #[])/\HR O I K w0 (h.put b (some (.A e sig y))) w'/\St h O (h.put b (some (.A e sig y))) O:=by
 rcases hu with⟨L0,cap,hL,hext,hv,hcap⟩|⟨hv,hz⟩
 subst hv;rw[hlen,Int.toNat_natCast];obtain⟨C,e',lo,hi,q1,q0,q2,q3,q4,q5⟩:=r.blk b _ L0 hh hL;have hblk:=r.lt b L0 hL;have hfl:=iR sig (dL I x);have hHold:Go.Sort.HoldsK (dD sig) sig.length w L0.blk L0.off (dL I x).toArray:=by intro j hj;grind[b31,List.size_toArray,List.getElem?_eq_getElem,By,td,Zb]
 have hcmp:Go.Proofs.CmpLays P g #[] (dD sig) sig.length cf L0.blk L0.off (dL I x).toArray.size w:=λm os dk _ a c=>hg a c _
 have hcon:=Go.Proofs.AnyQ.slices_SortFunc_eq L sig.length aE zE (dD sig) (lV sig) (λr v hv=>by have:=Pd sig [r] v (by grind[Y2]);exact this) cf hO g #[] L0.blk L0.off cap (dL I x).toArray w eg hcmp hHold hblk (by grind)
 rw[I4,bk1,<-hy]at hcon;refine hcon.mono ?_;rintro e2 w' ⟨rfl,n,os,rfl⟩;refine⟨rfl,?_⟩;have hyl:(dL I y).length=(dL I x).length:=by grind[Ku]
 obtain⟨r1,s1⟩:=HR.U (w':=Go.Sort.putRowK (dD sig) sig.length w L0.blk L0.off (dL I y).toArray) r b _ (.A e sig y) L0 hh hL hwm (λi hi=>bx5 hi) (Go.Sort.size_putRow _ _ _ _ _) rfl rfl rfl rfl (by
  refine⟨_,e',lo,hi,cd1 q1,q0,?_,?_,?_,q5⟩;grind[Go.Sort.putCells,Array.size_mapIdx];grind
  rw[b31];have hfy:=iR sig (dL I y);simp[Go.Sort.putCells,Array.getElem?_mapIdx];grind)
 refine⟨HR.later r1 (λi hi=> ?_) ?_ rfl rfl rfl ?_,s1⟩;show(Go.Sort.grow _ _).heap[i]? =_;rw[Go.Sort.heap_grow_old _ _ (by simp_all[Go.Sort.putRowK])];rfl;simp[Go.Proofs.sortWorldK,Go.Sort.putRowK];show w.drawn<=w.drawn+n;omega
 subst hv;have hx:dL I x=[]:=by grind[List.length_eq_zero_iff]
 refine(Go.Proofs.AnyF.slices_SortFunc_none L none 0 _ w).mono ?_;rintro e2 w' ⟨rfl,rfl⟩;refine⟨rfl,?_⟩;have hyx:dL I y=dL I x:=by grind[cz2]
 have hb65:=Heap.get_lim h b _ hh;refine⟨HR.retell (y:= .A e sig y) r hh (.inl hwm) (λL hL hbr=> ?_) (Heap.next_put _ _ _) (Heap.wm_put _ _ _) (λz=>by rw[Heap.get_put,i6 hb65]),⟨by simp_all,λ_ _=>rfl,λb' hb' hn=> ?_,Heap.wm_put _ _ _⟩⟩;obtain⟨C,e',lo,hi,q1,q0,q2,q3,q4,q5⟩:=hbr;exact⟨C,e',lo,hi,q1,q0,q2,by grind,by grind,q5⟩;by_cases e1:b'=b;subst e1;exact .inr (.inr (.of hh));simp_all[Heap.get_put,b9]
def Cw(g:FuncId)(e:zX)(sig:wD)(id:Nat):FC:=⟨[.U 0 (.V 0) sig.length,.func (.func g) [] []],[.A e sig (.V 1)],0,.O .and [.O (.cmp .eql) [.V 0,.O .Y [.V 1]],.O (.cmp .leq) [.O .Y [.V 1],.C 1000000]],.V [],[some (.A e sig (.V 1000))],[.Q id [.V 1]]⟩
def XR(L:Go.Proofs.SlLaysF0.n6 E.P ρ){f g:FuncId}(hf:ρ.f 6=f){id:Nat}(aE: ∀w,(isAgg (ρ.t 24)).run E.P w= .ok true w)(zE: ∀w,(Go.sizeOf (ρ.t 24)).run E.P w= .ok sig.length w)
 (hO:Go.Sort.SWO (Go.Proofs.ltOf cf)) (eg: ∀args w,(callFunc g args).run E.P w= .ok (.enter g args) w) (hg:Gn E.P g sig cf)
 (ao: ∀I,Ω I-> ∀l,I.f id [l]= .A (fD cf l.L)) (hk:oZ (Cw g e sig id) (.V []) ((Cw g e sig id).heap.put 0 (some (.A e sig (.Q id [.V 1])))) []= .W 0 [.Q id [.V 1]]):tY E Ω f (Cw g e sig id):=by
 intro I ae hn K w0 O w us r ra;obtain⟨n1,n2⟩:=W4 (show(dB I (.O (.cmp .eql) [.V 0,.O .Y [.V 1]])&&dB I (.O (.cmp .leq) [.O .Y [.V 1],.C 1000000]))=true from hn);have n1:(I.w 0).I=((I.w 1).L.length:Int):=j7 n1;have n2:((I.w 1).L.length:Int)<=1000000:=j7 n2;obtain⟨u,ur,rfl,hu,v2,ur2,e2,hv2,hnil⟩:=ra;subst hnil;subst e2;obtain⟨m,a,b,hv2,q1,q2⟩:=hv2;have eK:(Cw g e sig id).heap.get 0=some (.A e sig (.V 1)):=rfl;have hy:dL I (.Q id [.V 1])=fD cf (dL I (.V 1)):=by show(I.f id [I.w 1]).L=_;rw[ao I ae];rfl
 have:=d09 L aE zE hO eg hg hy (b:=0) (len:= .V 0) r eK (s8 _) n1 (by show(I.w 1).L.length<=1000000;omega) hu;rw[hf]at this;have ha:a= #[]:=I5.1 q1;have hb:b= #[]:=I5.1 q2;subst ha hb hv2;refine this.mono ?_;rintro e' w' ⟨rfl,h1,h2⟩;exact⟨_,O,.V [],_,rfl,⟨[],lf,by rw[hk];rfl⟩,⟨_,rfl,rfl⟩,h1,h2⟩
def ER(hup: ∀I v0 l,Ω I->Ω (I.U v0 l)){f:FuncId}{nv:Nat}{c:FC}(ho:rT c nv=true)(h:tY E Ω f c):cC E Ω ⟨f,nv,c⟩:=λI ae args h' v h2 e=>ZG hup ho h ae e
def Vx{r:Val}: ∀(s:wD) (i j:Nat),(∀t,t<s.length->I.w (i+t)=r.L.getD (j+t) default)->co O I (rV s i) (eS r s j)
 | [],_,_,_=>rfl
 |c::s,i,j,h=>by have h0:=h 0 (by simp);have ih:=Vx s (i+1) (j+1) (λt ht=>by have:=h (t+1) (by simp;omega);rw[show i+1+t=i+(t+1) by omega,show j+1+t=j+(t+1) by omega];exact this);refine .cons ?_ ih;have:=Bt (O:=O) (I:=I) c (.V i);rw[show bZ I (.V i)=I.w i from rfl,show I.w i=r.L.getD j default by simpa using h0]at this;exact this
def Ys(hup: ∀I v0 l,Ω I->Ω (I.U v0 l)){I:Opq}(ae:Ω I){y:HC}(hy:cC E Ω y){x:SX}{h2:Heap}(e:jN y.c y.nv [.agg (rV sig 0),.agg (rV sig sig.length)] Heap.empty= .val (.Z .i64 x) h2)
 (hx: ∀I,Ω I-> ∀a b:Val,(∀t,t<sig.length->I.w t=a.L.getD t default)->(∀t,t<sig.length->I.w (sig.length+t)=b.L.getD t default)->dI I x=cf a b):Gn E.P y.f sig cf:=by
 intro a b w;obtain⟨ak,ay⟩: ∃ak:Opq,ak=I.U 0 ((List.range sig.length).map (λt=>a.L.getD t default)++(List.range sig.length).map (λt=>b.L.getD t default)):=⟨_,rfl⟩;have aI:Ω ak:=by grind
 have hat: ∀t,ak.w t=((List.range sig.length).map (λt=>a.L.getD t default)++(List.range sig.length).map (λt=>b.L.getD t default)).getD t (.B false):=λt=>by
  have q: ∀(v0:Nat) (l:U7),v0<=t->(I.U v0 l).w t=l.getD (t-v0) (.B false):=λv0 l h=>i6 h
  grind
 have ha: ∀t,t<sig.length->ak.w t=a.L.getD t default:=λt ht=>by grind
 have hb: ∀t,t<sig.length->ak.w (sig.length+t)=b.L.getD t default:=λt ht=>by simp_all
 have hp:=hy ak aI _ _ _ _ (.inl e) (· <w.heap.size) w (λ_=>none) w [.agg (dD sig a).toArray,.agg (dD sig b).toArray] (HR.start w)
  (.cons ⟨_,rfl,by simp_all[jY,Vx,n9]⟩ (.one ⟨_,rfl,by simp_all[jY,Vx,n9]⟩))
 refine hp.mono ?_;rintro e2 w' ⟨u,ac,rfl,hu,hr,_⟩;have hu:u= .int .i64 (dI ak x):=hu;rw[hx ak aI a b ha hb]at hu;exact⟨by rw[hu],d08 (λi hi=>hr.keep i hi) hr.size hr.os hr.tape hr.out hr.dr⟩
variable{E:Env}{O ac:cj}{I aa:Opq}{K:wW}{w0 w w':Ac}{h h':Heap}
def HR.turn2(r:HR O I K w0 h w)(hn:h'.next=h.next)(hw:h'.wm=h.wm)(hnone: ∀b,h.get b=none->h'.get b=none)
 (key: ∀b y,h'.get b=some y-> ∃z,h.get b=some z/\(∀L,O b=some L->BR O I L w.heap[L.blk]? z->BR O aa L w.heap[L.blk]? y)/\z.isArr=y.isArr):HR O aa K w0 h' w:=by
 refine⟨λb y L hg hb=> ?_,λb b1 y y1 L L1 hg hg1 hb hb1 hne hc=> ?_,λb hb=>r.fresh b (by omega),λb hb=>hnone b (r.fget b (by omega)),r.lt,r.kin,r.keep,λb y L hg hc hb=> ?_,r.size,r.os,r.tape,r.out,r.dr⟩;obtain⟨z,z1,z2,_⟩:=key b y hg;exact z2 L hb (r.blk b z L z1 hb);obtain⟨z,z1,_,k1⟩:=key b y hg;obtain⟨z',z1',_,k2⟩:=key b1 y1 hg1;exact r.sep b b1 z z' L L1 z1 z1' hb hb1 hne (by grind);obtain⟨z,z1,_⟩:=key b y hg;exact r.free b z L z1 (by omega) hb
def Cj(e:zX)(sig:wD)(need:SX)(id:Nat):FC:=⟨[.bool false,.U 0 (.V 0) sig.length],[.bag e sig (.V 1)],1,need,.U 1 (.O .Y [.V 1000]) sig.length,[some (.A e sig (.V 1000))],[.Q id [.V 1]]⟩
def dO5{Ω:Opq->Prop}(hup: ∀I v0 l,Ω I->Ω (I.U v0 l)){y:HC}(hy:cC E Ω y){e:zX}{sig:wD}{need x:SX}{id:Nat}{hB hA h2 hR:Heap}(hB0:(Cj e sig need id).heap=hB)
 (q1:hB.next=hA.next) (q2:hB.wm=hA.wm) (q3: ∀b,hB.get b=none->hA.get b=none) (q4:hB.get 0=some (.bag e sig (.V 1))) (q5:hA.get 0=some (.A e sig (.V 1))) (q6: ∀b z,hA.get b=some z->b=0)
 (p1:h2.next=hR.next) (p2:h2.wm=hR.wm) (p3: ∀b,hR.get b=none->h2.get b=none) (p4: ∀b z,h2.get b=some z->(b=0/\z= .bag e sig (.V 1)/\hR.get 0=some (.A e sig (.V 1)))\/(b=1/\z= .A e sig (.Q id [.V 1])/\hR.get 1=some (.A e sig (.Q id [.V 1])))) (p5:h2.get 0=some (.bag e sig (.V 1))) (p6:hB.next=1)
 (hk:jN y.c y.nv [.bool false,.U 0 (.O .Y [.V 1]) sig.length] hA= .N x (.U 1 (.O .Y [.Q id [.V 1]]) sig.length) hR)
 (hx: ∀I,Ω I->dB I need=true->dI I (.V 0)=((dL I (.V 1)).length:Int)/\ ∀D:U7,D.Perm (I.w 1).L->I.f id [.A D]=I.f id [I.w 1]/\dB (I.U 1 [.A D]) x=true)
 (hkk:oZ (Cj e sig need id) (.U 1 (.O .Y [.Q id [.V 1]]) sig.length) h2 []= .W 0 [.Q id [.V 1]]):tY E Ω y.f (Cj e sig need id):=by
 intro I ae hn K w0 O w us r ra;rw[hB0]at r;obtain⟨hlen,hD⟩:=hx I ae hn;have hbr: ∃D:U7,D.Perm (I.w 1).L/\ ∀L,O 0=some L->BR O (I.U 1 [.A D]) L w.heap[L.blk]? (.A e sig (.V 1)):=by
  cases hb:O 0 with
  |none=>exact⟨_,G5 _,λL h=>by cases h⟩
  |some L=>
   obtain⟨D,d1,d2⟩:=r.blk 0 _ L q4 hb;refine⟨D,d1,λL' h=> ?_⟩;cases h;exact d2
 obtain⟨D,d1,d2⟩:=hbr;obtain⟨hf,hdx⟩:=hD D d1;obtain⟨ak,ay⟩: ∃ak,ak=I.U 1 [.A D]:=⟨_,rfl⟩;rw[<-ay]at d2 hdx;have w1:ak.w 1= .A D:=by rw[ay];rfl
 have hff:ak.f=I.f:=by rw[ay];rfl
 have hlD:((dL ak (.V 1)).length:Int)=dI I (.V 0):=by rw[hlen];show(((ak.w 1).L).length:Int)=((I.w 1).L.length:Int);rw[w1];have:=d1.length_eq;show(D.length:Int)=_;omega
 have r1:HR O ak K w0 hA w:=HR.turn2 r q1.symm q2.symm q3 λb z hz=>by obtain rfl:=q6 b z hz;rw[q5]at hz;cases hz;exact⟨_,q4,λL hL _=>d2 L hL,rfl⟩
 have hp:=hy ak (by grind) _ _ _ _ (.inr ⟨x,hk,hdx⟩) K w0 O w us r1 (by obtain⟨u1,ur,e1,v1,u2,ur2,e2,v2,e3⟩:=ra;refine⟨u1,ur,e1,v1,u2,ur2,e2,?_,e3⟩;have hli:dI ak (.O .Y [.V 1])=dI I (.V 0):=hlD;grind[VR])
 refine hp.mono ?_;rintro e' w' ⟨u,ac,rfl,hu,hr,hs⟩;have hout:bZ ak (.Q id [.V 1])=bZ I (.Q id [.V 1]):=by show ak.f id [ak.w 1]=I.f id [I.w 1];grind
 refine⟨u,ac,_,h2,rfl,⟨[],lf,by rw[hkk];rfl⟩,?_,?_,?_⟩
 have hli:dI ak (.O .Y [.Q id [.V 1]])=dI I (.O .Y [.Q id [.V 1]]):=by show((bZ ak (.Q id [.V 1])).L.length:Int)=((bZ I (.Q id [.V 1])).L.length:Int);rw[hout]
 grind[VR]
 refine HR.turn2 hr p1 p2 p3 λb z hz=> ?_
 rcases p4 b z hz with⟨rfl,rfl,h0⟩|⟨rfl,rfl,h0⟩
 refine⟨_,h0,λL hL hb=> ?_,rfl⟩;obtain⟨C,e',lo,hi,t1,t2,t3,t4,t5,t6⟩:=hb;have hw:dL ak (.V 1)=D:=by show(ak.w 1).L=D;rw[w1];rfl
 rw[hw]at t4 t5;exact⟨D,d1,C,e',lo,hi,t1,t2,t3,t4,t5,t6⟩
 refine⟨_,h0,λL hL hb=> ?_,rfl⟩;obtain⟨C,e',lo,hi,t1,t2,t3,t4,t5,t6⟩:=hb;have hw:dL ak (.Q id [.V 1])=dL I (.Q id [.V 1]):=by show(bZ ak _).L=(bZ I _).L;rw[hout]
 rw[hw]at t4 t5;exact⟨C,e',lo,hi,t1,t2,t3,t4,t5,t6⟩;rw[hB0];refine⟨by rw[p1,q1];exact hs.le,λb hb=>hs.ext b (by rw[<-q1];exact hb),λb hb hnb=> ?_,by rw[p2,q2];exact hs.wm⟩;grind
def vE(l:aaM):Heap:=(ig l Heap.empty).setwm 1
def Jf{l:aaM}(h:l.length<60000):(vE l).next=l.length/\(vE l).wm=1/\ ∀b,(vE l).get b=l[b]? :=
 FC.heap_ok ⟨[],l,1,.cb true,.undef,[],[]⟩ h
def ds5{Ω:Opq->Prop}(hup: ∀I v0 l,Ω I->Ω (I.U v0 l)){y:HC}(hy:cC E Ω y){e:zX}{sig:wD}{need x:SX}{id:Nat}
 (hk:jN y.c y.nv [.bool false,.U 0 (.O .Y [.V 1]) sig.length] (vE [.A e sig (.V 1)])= .N x (.U 1 (.O .Y [.Q id [.V 1]]) sig.length) (vE [.A e sig (.V 1),.A e sig (.Q id [.V 1])]))
 (hx: ∀I,Ω I->dB I need=true->dI I (.V 0)=((dL I (.V 1)).length:Int)/\ ∀D:U7,D.Perm (I.w 1).L->I.f id [.A D]=I.f id [I.w 1]/\dB (I.U 1 [.A D]) x=true)
 (hkk:oZ (Cj e sig need id) (.U 1 (.O .Y [.Q id [.V 1]]) sig.length) (vE [.bag e sig (.V 1),.A e sig (.Q id [.V 1])]) []= .W 0 [.Q id [.V 1]]):tY E Ω y.f (Cj e sig need id):=by
 obtain⟨a1,a2,a3⟩:=Jf (l:=[.bag e sig (.V 1)]) (by show 1<60000;omega);obtain⟨b1,b2,b3⟩:=Jf (l:=[.A e sig (.V 1)]) (by show 1<60000;omega);obtain⟨c1,c2,c3⟩:=Jf (l:=[.A e sig (.V 1),.A e sig (.Q id [.V 1])]) (by show 2<60000;omega);obtain⟨d1,d2,d3⟩:=Jf (l:=[.bag e sig (.V 1),.A e sig (.Q id [.V 1])]) (by show 2<60000;omega);refine dO5 hup hy (hB:=vE [.bag e sig (.V 1)]) rfl (by rfl) (by rw[a2,b2]) (λb h=> ?_) (by rfl) (by rfl) (λb z h=> ?_) (h2:=vE [.bag e sig (.V 1),.A e sig (.Q id [.V 1])]) (by rfl) (by rw[c2,d2]) (λb h=> ?_) (λb z h=> ?_) (by rfl) a1 hk hx hkk;rw[b3]
 match b,h with
 |b+1,_=>rfl
 .rw[b3]at h
  match b,h with
  |0,_=>rfl
  |b+1,h=>cases h
 rw[d3]
 match b,h with
 |b+2,_=>rfl
 grind
variable{E:Env}{O ac:cj}{I aa:Opq}{K:wW}{w0 w w':Ac}{h h':Heap}
def NE(g:FuncId)(e:zX)(sig:wD)(need:SX)(id:Nat):FC:=⟨[.U 0 (.V 0) sig.length,.func (.func g) [] []],[.bag e sig (.V 1)],0,need,.V [],[some (.A e sig (.V 1000))],[.Q id [.V 1]]⟩
def ds6{Ω:Opq->Prop}(hup: ∀I v0 l,Ω I->Ω (I.U v0 l)){y:HC}(hy:cC E Ω y){g:FuncId}{e:zX}{sig:wD}{need x:SX}{id:Nat}
 (hB0:(NE g e sig need id).heap=((ig [.bag e sig (.V 1)] Heap.empty).setwm 0))
 (hk:jN y.c y.nv [.U 0 (.O .Y [.V 1]) sig.length,.func (.func g) [] []] ((ig [.A e sig (.V 1)] Heap.empty).setwm 0)= .N x (.V []) ((ig [.A e sig (.Q id [.V 1])] Heap.empty).setwm 0))
 (hx: ∀I,Ω I->dB I need=true->dI I (.V 0)=((dL I (.V 1)).length:Int)/\ ∀D:U7,D.Perm (I.w 1).L->I.f id [.A D]=I.f id [I.w 1]/\dB (I.U 1 [.A D]) x=true)
 (hkk:oZ (NE g e sig need id) (.V []) ((ig [.A e sig (.Q id [.V 1])] Heap.empty).setwm 0) []= .W 0 [.Q id [.V 1]]):tY E Ω y.f (NE g e sig need id):=by
 obtain⟨a1,a2,a3⟩:=FC.heap_ok (c:=⟨[],[.bag e sig (.V 1)],0,.cb true,.undef,[],[]⟩) (by grind);obtain⟨b1,b2,b3⟩:=FC.heap_ok (c:=⟨[],[.A e sig (.V 1)],0,.cb true,.undef,[],[]⟩) (by grind);obtain⟨c1,c2,c3⟩:=FC.heap_ok (c:=⟨[],[.A e sig (.Q id [.V 1])],0,.cb true,.undef,[],[]⟩) (by grind);have a1':((ig [.bag e sig (.V 1)] Heap.empty).setwm 0).next=1:=a1
 have b1':((ig [.A e sig (.V 1)] Heap.empty).setwm 0).next=1:=b1
 have c1':((ig [.A e sig (.Q id [.V 1])] Heap.empty).setwm 0).next=1:=c1
 intro I ae hn K w0 O w us r ra;rw[hB0]at r;obtain⟨hlen,hD⟩:=hx I ae hn;have q4:((ig [.bag e sig (.V 1)] Heap.empty).setwm 0).get 0=some (.bag e sig (.V 1)):=(a3 0).trans rfl;have hbr: ∃D:U7,D.Perm (I.w 1).L/\ ∀L,O 0=some L->BR O (I.U 1 [.A D]) L w.heap[L.blk]? (.A e sig (.V 1)):=by
  cases hb:O 0 with
  |none=>exact⟨_,G5 _,λL h=>by cases h⟩
  |some L=>
   obtain⟨D,d1,d2⟩:=r.blk 0 _ L q4 hb;refine⟨D,d1,λL' h=> ?_⟩;cases h;exact d2
 obtain⟨D,d1,d2⟩:=hbr;obtain⟨hf,hdx⟩:=hD D d1;obtain⟨ak,ay⟩: ∃ak,ak=I.U 1 [.A D]:=⟨_,rfl⟩;rw[<-ay]at d2 hdx;have w1:ak.w 1= .A D:=by rw[ay];rfl
 have hff:ak.f=I.f:=by rw[ay];rfl
 have hlD:((dL ak (.V 1)).length:Int)=dI I (.V 0):=by rw[hlen];show(((ak.w 1).L).length:Int)=((I.w 1).L.length:Int);rw[w1];have:=d1.length_eq;show(D.length:Int)=_;omega
 have r1:HR O ak K w0 ((ig [.A e sig (.V 1)] Heap.empty).setwm 0) w:=HR.turn2 r (b1.trans a1.symm) (b2.trans a2.symm) (λb h=>by
  rw[show((ig [.A e sig (.V 1)] Heap.empty).setwm 0).get b=[Blk.A e sig (.V 1)][b]? from b3 b];grind) λb z hz=>by
  rw[show((ig [.A e sig (.V 1)] Heap.empty).setwm 0).get b=[Blk.A e sig (.V 1)][b]? from b3 b]at hz
  match b,hz with
  |0,hz=>cases hz;exact⟨_,q4,λL hL _=>d2 L hL,rfl⟩
  |b+1,hz=>cases hz
 have hp:=hy ak (by grind) _ _ _ _ (.inr ⟨x,hk,hdx⟩) K w0 O w us r1 (by obtain⟨u1,ur,e1,v1,hr2⟩:=ra;refine⟨u1,ur,e1,?_,hr2⟩;have hli:dI ak (.O .Y [.V 1])=dI I (.V 0):=hlD;grind[VR])
 refine hp.mono ?_;rintro e' w' ⟨u,ac,rfl,hu,hr,hs⟩;have hout:bZ ak (.Q id [.V 1])=bZ I (.Q id [.V 1]):=by show ak.f id [ak.w 1]=I.f id [I.w 1];grind
 refine⟨u,ac,_,_,rfl,⟨[],lf,by rw[hkk];rfl⟩,by grind[VR,co],?_,?_⟩
 refine HR.turn2 hr rfl rfl (λb h=>h) λb z hz=>⟨z,hz,λL hL hb=> ?_,rfl⟩
 rw[show((ig [.A e sig (.Q id [.V 1])] Heap.empty).setwm 0).get b=[Blk.A e sig (.Q id [.V 1])][b]? from c3 b]at hz
 match b,hz with
 |0,hz=>
  cases hz;obtain⟨C,e',lo,hi,t1,t2,t3,t4,t5,t6⟩:=hb;have hw:dL ak (.Q id [.V 1])=dL I (.Q id [.V 1]):=by show(bZ ak _).L=(bZ I _).L;rw[hout]
  rw[hw]at t4 t5;exact⟨C,e',lo,hi,t1,t2,t3,t4,t5,t6⟩
 |b+1,hz=>cases hz
 .rw[hB0];refine⟨by omega,λb hb=>hs.ext b (by omega),λb hb hnb=> ?_,c2.trans a2.symm⟩;obtain rfl:b=0:=by omega
  exact .inr (.inr (by exact .bag _ _ _))
def CO(e:SX):AV:= .Z .i64 e
def Ks(k:Nat):GF:=[.O .G [.V 0,.C (k:Int),.C 0],.O .G [.V 0,.C (k:Int),.C 1]]
def Ju(n:Nat):GF:=(List.range' 0 n).flatMap Ks
def vC:wD:=[.int .i64,.int .i64]
def RL(e n:Nat):aaM:=[.cells e 0 [.Z .i64 (.V 3),.Z .i64 (.V 4)],.cells e 0 ((Ju n).map CO)]
def AQ(e n:Nat):Heap:=(ig (RL e n) Heap.empty).setwm 1
def zY(k:Nat):SX:= .O .row (Ks k)
def ee1(n j:Nat):SX:= .O .row ((List.range' 0 j).map zY++[.O .row [.V 3,.V 4]]++(List.range' j (n-j)).map zY)
def oz(x:SX):VT->Bool
 | .W 0 [e]=>SX.beq e x
 | .both a b=>oz x a&&oz x b
 |_=>false
def Ru{I:Opq}{x:SX}: ∀{t:VT},oz x t=true->W6 t I=some (0,[bZ I x])
 | .W i o,h=>by unfold oz at h;split at h;rename_i e he;cases he;rw[SX.beq_eq _ _ h];rfl;grind;cases h
 | .both a b,h=>by obtain⟨h1,h2⟩:=W4 (show(oz x a&&oz x b)=true from h);have a1:=Ru (I:=I) h1;have a2:=Ru (I:=I) h2;grind[W6]
 | .X,h=>by simp[oz]at h
 | .J _ _ _,h=>by simp[oz]at h
 | .N _ _,h=>by simp[oz]at h
 | .loop _ _ _,h=>by simp[oz]at h
 | .mloop _ _ _ _,h=>by simp[oz]at h
def km(e:zX)(need out:SX):FC:=⟨[.U 1 (.V 1) 2,.Z .i64 (.V 2),.sl 0 0 1 1],[.cells e 0 [.Z .i64 (.V 3),.Z .i64 (.V 4)],.A e vC (.V 0)],1,need,.U 2 (.O .Y [.V 1000]) 2,[none,some (.A e vC (.V 1000))],[out]⟩
def HA(E:Env)(N:Nat)(f:FuncId)(e:zX)(c:FC)(args:zw)(n j:Nat):Bool:=oz (ee1 n j) (ev E N gY jX (.call f args (AQ e n) (oZ c)) [])
def dc2(E:Env)(N:Nat)(f:FuncId)(e:zX)(c:FC)(M:Nat):Bool:=
 HA E N f e c [.N,.int .i64 0,.sl 0 0 1 1] 0 0&&(List.range (M+1)).all λn=>(List.range (n+1)).all λj=>HA E N f e c [.us 1 0 n 2,.int .i64 (j:Int),.sl 0 0 1 1] n j
def yM(r:Val):Val:= .A [r.L.getD 0 default,r.L.getD 1 default]
def YJ(r:Val)(l:U7):Y2 vC (r::l)= .int .i64 (r.L.getD 0 default).I:: .int .i64 (r.L.getD 1 default).I::Y2 vC l:=rfl
def bx8{l:U7}{k:Nat}(h:k<l.length):l.drop k=l.getD k (.A [])::l.drop (k+1):=by simp_all
def dc3{O:cj}{I:Opq}{l:U7}(hl:(I.w 0).L=l): ∀(m k:Nat),k+m=l.length->co O I (((List.range' k m).flatMap Ks).map CO) (Y2 vC (l.drop k))
 |0,k,h=>by rw[O3 (by omega)];rfl
 |m+1,k,h=>by rw[F8,A5,s6,bx8 (by omega),YJ];refine⟨_,_,rfl,?_,_,_,rfl,?_,dc3 hl m (k+1) (by omega)⟩;show Value.int .i64 ((l.getD k (.A [])).L.getD 0 default).I= .int .i64 (Y3 (I.w 0).L (k:Int) 0).I;rw[hl];rfl;show Value.int .i64 ((l.getD k (.A [])).L.getD 1 default).I= .int .i64 (Y3 (I.w 0).L (k:Int) 1).I;rw[hl];rfl
def dO7(n:Nat):((Ju n).map CO).all AV.oneA=true:=by rw[l5];intro x hx;obtain⟨e,_,rfl⟩:=k6.1 hx;rfl
theorem bx9: ∀l:U7,(Y2 vC l).length=l.length*2
 | []=>rfl
 |r::l=>by rw[YJ,List.length_cons,List.length_cons,bx9 l,List.length_cons];omega
def YF: ∀(m k:Nat),(((List.range' k m).flatMap Ks).map CO).length=m*2
 |0,k=>rfl
 |m+1,k=>by rw[F8,A5,s6,k9,YF m (k+1)];show 2+m*2=(m+1)*2;omega
def OZ{I:Opq}{l:U7}(hl:(I.w 0).L=l): ∀(m k:Nat),k+m<=l.length->X4 I ((List.range' k m).map zY)=((l.drop k).take m).map yM
 |0,k,h=>by rfl
 |m+1,k,h=>by rw[F8,m8,bx8 (by omega),List.take_succ_cons,m8];show bZ I (zY k)::X4 I ((List.range' (k+1) m).map zY)=_;rw[OZ hl m (k+1) (by omega)];congr 1;show Val.A [Y3 (I.w 0).L (k:Int) 0,Y3 (I.w 0).L (k:Int) 1]=_;rw[hl];rfl
def ds9{I:Opq}{l:U7}(hl:(I.w 0).L=l){j:Nat}(hj:j<=l.length):bZ I (ee1 l.length j)= .A ((l.take j).map yM++[.A [I.w 3,I.w 4]]++(l.drop j).map yM):=by show Val.A (X4 I ((List.range' 0 j).map zY++[.O .row [.V 3,.V 4]]++(List.range' j (l.length-j)).map zY))=_;rw[VN,VN,OZ hl j 0 (by omega),OZ hl (l.length-j) j (by omega),K8,K6 (show(l.drop j).length<=l.length-j by grind)];rfl
def dt0{E Ec:Env}{Ω:Opq->Prop}{N M:Nat}{f:FuncId}{e:zX}{need out:SX}(hP:Ec.P=E.P)(hk: ∀I,Ω I->Mn Ec I N)(he:e≠iU)(hfx: ∀I,Ω I->I.fix e=false)
 (hrun:dc2 Ec N f e (km e need out) M=true)
 (hx: ∀I,Ω I->dB I need=true-> ∃(l:U7) (j:Nat),(I.w 0).L=l/\dI I (.V 1)=(l.length:Int)/\dI I (.V 2)=(j:Int)/\j<=l.length/\l.length<=M/\bZ I out= .A ((l.take j).map yM++[.A [I.w 3,I.w 4]]++(l.drop j).map yM)):tY E Ω f (km e need out):=by
 intro I ae hn K w0 O w us r ra;obtain⟨l,j,hl,h1,h2,hj,hM,hout⟩:=hx I ae hn;obtain⟨a1,a2,a3⟩:=FC.heap_ok (km e need out) (by show 2<60000;omega);obtain⟨b1,b2,b3⟩:=FC.heap_ok (c:=⟨[],RL e l.length,1,.cb true,.undef,[],[]⟩) (by show 2<60000;omega);have b1':(AQ e l.length).next=2:=b1
 have b2':(AQ e l.length).wm=1:=b2;have b3': ∀b,(AQ e l.length).get b=(RL e l.length)[b]? :=b3;have a1':(km e need out).heap.next=2:=a1
 have a2':(km e need out).heap.wm=1:=a2;have g1:(km e need out).heap.get 1=some (.A e vC (.V 0)):=a3 1;have r1:HR O I K w0 (AQ e l.length) w:=HR.retell (y:= .cells e 0 ((Ju l.length).map CO)) r g1 (.inl (by omega)) (λL hL hbr=>by
  obtain⟨C,e',lo,hi,q1,q0,q2,q3,q4,q5⟩:=hbr;obtain rfl:e'=e:=q0.resolve_right he;have hd:dL I (.V 0)=l:=hl;rw[hd]at q3 q4;have hlen:((Ju l.length).map CO).length=l.length*2:=YF l.length 0;refine⟨C,lo,hi,Y2 vC l,q1,q2,by rw[hlen];exact q3,dO7 _,dc3 hl l.length 0 (by omega),λi hi'=> ?_,λi _ h=>q5 i h,λh=>by rw[hfx I ae]at h;cases h⟩;grind[bx9,List.getElem?_eq_getElem]) (by rfl) (by rfl) (λz=>by
  rw[b3',a3];by_cases hz:z=1;subst hz;rfl
  match z,hz with
  |0,_=>rfl
  |1,hz=>omega
  |z+2,_=>rfl)
 obtain⟨u1,ur,e1,v1,u2,ur2,e2,v2,e3⟩:=ra;have v2':u2= .int .i64 (j:Int):=by rw[<-h2];exact v2
 obtain⟨hr0,hr1⟩:=W4 hrun;have fin: ∀args,co O I args us->HA Ec N f e (km e need out) args l.length j=true->Calls E.P f us.toArray w (λe' w'=> ∃u ac v h',e'= .returned u/\nh I (0,X4 I (km e need out).outs) (oZ (km e need out) v h')/\VR ac I v u/\HR ac I K w0 h' w'/\St (km e need out).heap O h' ac):=by
  intro args hargs hc;have T0:nh I (0,X4 I (km e need out).outs) (ev Ec N gY jX (.call f args (AQ e l.length) (oZ (km e need out)))):=by refine⟨[],lf,?_⟩;rw[Ru hc,ds9 hl hj,<-hout];rfl
  rw[<-hP];refine(hk I ae gY jX (nh I (0,X4 I (km e need out).outs)) (wy I _) f args _ _ T0 K w0 O w us r1 hargs).mono ?_;rintro e' w' ⟨u,ac,v,h',rfl,k1,k2,k3,k4⟩;refine⟨u,ac,v,h',rfl,k1,k2,k3,⟨by exact k4.le,λb hb=>k4.ext b (by omega),λb hb hn=> ?_,by exact k4.wm⟩⟩
  match b,hb with
  |0,_=>
   rcases k4.unm 0 (by omega) hn with q|q|q
   exact .inl (q.trans (by rfl));grind;cases q
  |1,_=>exact .inr (.inr (.of g1))
 rcases v1 with⟨L,cap,hL,hcap,hv,hle⟩|⟨hv,h0⟩
 refine fin [.us 1 0 l.length 2,.int .i64 (j:Int),.sl 0 0 1 1] ⟨u1,ur,e1,⟨L,cap,hL,by rw[n9];exact hcap,?_⟩,u2,ur2,e2,v2',e3⟩ ?_
 rw[hv];have hq:(dI I (.V 1)).toNat=l.length:=by rw[h1];rfl
 rw[hq];rfl;grind
 have hj0:j=0:=by omega
 subst hj0;refine fin [.N,.int .i64 0,.sl 0 0 1 1] ⟨u1,ur,e1,hv,u2,ur2,e2,v2',e3⟩ ?_;grind
