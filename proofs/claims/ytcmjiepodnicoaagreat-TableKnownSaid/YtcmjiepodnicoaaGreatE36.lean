import Derived.Test.YtcmjiepodnicoaaGreatE28
set_option linter.unusedSimpArgs false
set_option linter.unusedVariables false
namespace Go.Ev
open Go
variable{sig:List CT}{l nd:SX}{x:AV}{elem:Nat}
variable{I:Opq}{O:cq}{K:Nat->Prop}{w0 w:World}{h:Heap}
theorem Ht(I:Opq): ∀l:List SX,ck I l=l.map (bZ I)
 | []=>rfl
 |a::r=>by simp[ck,l9,Ht I r]
mutual
theorem Iz{es:List SX}: ∀e:SX,gb es.length e=true->bZ I (kS es e)=bZ (I.upd 0 (ck I es)) e
 | .ci _,_=>rfl
 | .cs _,_=>rfl
 | .cb _,_=>rfl
 | .va n,h=>by
   simp[gb,fc]at h;simp[kS];have:=vO (I:=I) (v0:=0) (l:=ck I es) (j:=n) (x:=bZ I es[n]) (by rw[Ht,B0,l7 h];rfl);simp_all[m9,Option.getD_some,bZ]
 | .op p l,h=>by
   simp[kS,bZ];rw[UP l h]
 | .app f l,h=>by
   simp[kS,bZ];rw[UP l h];rfl
theorem UP{es:List SX}: ∀l:List SX,qD es.length l=true->ck I (IF es l)=ck (I.upd 0 (ck I es)) l
 | [],_=>rfl
 |a::r,h=>by
  simp[qD,j6]at h;simp only[IF,ck];rw[Iz a h.1,UP r h.2]
end
noncomputable def mb(O:cq)(I:Opq)(sz:Nat)(x:AV):Option Loc:=match x with
 | .osl b off len _=>if 0<dI I len then(O b).map λL=>⟨L.blk,L.off+(dI I off).toNat*sz,(dI I len).toNat*sz⟩else none
 | .ous b len _=>if 0<dI I len then(O b).map λL=>⟨L.blk,L.off,(dI I len).toNat*sz⟩else none
 | .sl b o n _=>if 0<n then(O b).map λL=>⟨L.blk,L.off+o,n*sz⟩else none
 | .us b o n _=>if 0<n then(O b).map λL=>⟨L.blk,L.off+o,n*sz⟩else none
 |_=>none
theorem bR8{e:Nat}{lx:SX}{L:Loc}{o:Option Obj}{p n:Nat}(r:BR O I L o (.arr e sig l))(hp:p+n<=(dL I l).length)(hl:dL I lx=((dL I l).drop p).take n):
 BR O I ⟨L.blk,L.off+p*sig.length,n*sig.length⟩ o (.arr e sig lx):=by
 obtain⟨C,e',lo,hi,q1,q0,q2,q3,q4,q5⟩:=r;have hle:(p+n)*sig.length<=(dL I l).length*sig.length:=A1 _ hp;rw[x8]at hle;have hn:(dL I lx).length=n:=by grind
 refine⟨C,e',lo,hi,q1,q0,by grind,by grind,λi v hv=> ?_,λi hq=> ?_⟩
 .show C[L.off+p*sig.length+i]? =some v;rw[hl]at hv;rw[show L.off+p*sig.length+i=L.off+(p*sig.length+i) by omega];apply q4;have e1:dL I l=(dL I l).take p++(((dL I l).drop p).take n++((dL I l).drop p).drop n):=by
   rw[t8,t8]
  rw[e1,Dk,Dk];have hl1:(cM sig ((dL I l).take p)).length=p*sig.length:=by rw[jK,l5];congr 1;omega
  rw[o7 (by omega),hl1,show p*sig.length+i-p*sig.length=i by omega];grind
 .have hq:i<n*sig.length:=hq;have:=q5 (p*sig.length+i) (by omega);grind
theorem MZ{e fz:Nat}{cs:List AV}{lx:SX}{rs:List SX}{L:Loc}{o:Option Obj}{p n:Nat}(r:BR O I L o (.cells e fz cs))(hf:fz<=p)(hp:p+n*sig.length<=cs.length)
 (hrs:nT sig sig.length n ((cs.drop p).take (n*sig.length))=some rs) (hl:dL I lx=ck I rs):BR O I ⟨L.blk,L.off+p,n*sig.length⟩ o (.arr e sig lx)/\(dL I lx).length=n:=by
 obtain⟨C,lo,hi,vs,q1,q2,q3,q4,q5,q6,q7,q8⟩:=r;have hsub:ct O I ((cs.drop p).take (n*sig.length)) ((vs.drop p).take (n*sig.length)):=(q5.drop _).take _;obtain⟨z1,z2⟩:=wF hrs (by grind) hsub;refine⟨⟨C,_,lo,hi,q1,.inl rfl,by grind,by grind,λi v hv=> ?_,λi hq=> ?_⟩,by grind⟩
 .grind
 .have hq:i<n*sig.length:=hq;have:=q7 (p+i) (by omega) (by omega);grind
theorem Cb{a b:SX}(h:dB I (jf a b)=true):dB I a=true/\dB I b=true:=by
 simp_all[Th,j6]
structure ViewOk (O:cq) (I:Opq) (w:World) (h:Heap) (elem:Nat) (sig:List CT) (x:AV) (v:Value) (l:SX):Prop where
 br: ∀L,mb O I sig.length x=some L->BR O I L w.heap[L.blk]? (.arr elem sig l)
 sl:VR O I x v->(∃L cap a,mb O I sig.length x=some L/\v= .slice (some a) (dL I l).length cap/\(dL I l).length<=cap/\a=⟨L.blk,L.off,none⟩)\/((dL I l).length=0/\ ∃a cap,v= .slice a 0 cap/\(a=none->cap=0))
theorem bF7{sz:Nat}{L:Loc}(e:mb O I sz x=some L): ∃b M,kY (.view x)=some b/\O b=some M/\M.blk=L.blk:=by
 unfold mb at e;split at e;all_goals first
  |(split at e
    .obtain⟨M,hM,rfl⟩:=o9.1 e;exact⟨_,M,rfl,hM,rfl⟩
    .cases e)
  |cases e
theorem c59{sz:Nat}{b:Nat}(e:Em sz elem sig x h=some (nd,l))(hb:kY (.view x)=some b): ∃y,h.get b=some y:=by
 cases x<;>simp only[kY,j0,reduceCtorEq]at hb<;>subst hb<;>simp only[Em]at e<;>split at e<;>first|(rename_i hg;exact⟨_,hg⟩)|cases e
theorem cK0(r:HR O I K w0 h w){v:Value}(e:Em sig.length elem sig x h=some (nd,l))(hd:dB I nd=true):ViewOk O I w h elem sig x v l:=by
 unfold Em at e;split at e
 .obtain⟨rfl,rfl⟩:=e;exact⟨λL hL=>by trivial,λrv=> .inr ⟨rfl,none,0,rv,λ_=>rfl⟩⟩
 .rename_i b len s;split at e
  .rename_i e0 sg l0 hg;replace e:=Z2 e;obtain⟨hc,e⟩:=e;obtain⟨hc,c3⟩:=Z1 hc;obtain⟨c1,c2⟩:=Z1 hc;obtain rfl:=Z4.1 c1;obtain rfl:=Z4.1 c2;obtain rfl:=mL c3;have main:0<=dI I len->(dI I len).toNat<=(dL I l0).length->dL I l=(dL I l0).take (dI I len).toNat->ViewOk O I w h e0 sg (.ous b len sg.length) v l:=by
    intro h0 hle hl;have hll:(dL I l).length=(dI I len).toNat:=by rw[hl,l5];omega
    constructor
    .intro L hL;simp only[mb]at hL;split at hL
     .obtain⟨M,hM,rfl⟩:=o9.1 hL;have:=bR8 (p:=0) (n:=(dI I len).toNat) (lx:=l) (r.blk b _ M hg hM) (by omega) (by trivial);simpa using this
     .cases hL
    .intro rv;rcases rv with⟨L,cap,hL,hcap,hv,hlc⟩|⟨hv,hz⟩
     .by_cases hp:0<dI I len
      .refine .inl ⟨⟨L.blk,L.off,(dI I len).toNat*sg.length⟩,cap,_,?_,by rw[hll];exact hv,by rw[hll];exact hlc,rfl⟩;simp[mb,e8 hp,hL,Option.map_some]
      .refine .inr ⟨by omega,some ⟨L.blk,L.off,none⟩,cap,?_,λhh=>(by cases hh)⟩;rw[hv,show(dI I len).toNat=0 by omega]
     .exact .inr ⟨by rw[hll,hz];rfl,none,0,hv,λ_=>rfl⟩
   cases hq:SX.beq len (.op .llen [l0])with
   |true=>
    rw[hq]at e;simp at e;obtain⟨rfl,rfl⟩:=e;have hlen:=SX.beq_eq _ _ hq;have:dI I len=((dL I l0).length:Int):=by rw[hlen,nV]
    refine main (by omega) (by omega) ?_;rw[this];simp
   |false=>
    rw[hq]at e;obtain⟨rfl,rfl⟩:=e;rw[uO,j6]at hd;have d1:0<=dI I len:=j5 hd.1;have d2:dI I len<=((dL I l0).length:Int):=j5 hd.2;refine main d1 (by omega) ?_;show((dL I l0).drop (0:Int).toNat).take (dI I len-0).toNat=_;simp
  .cases e
 .rename_i b off len s;split at e
  .rename_i e0 sg l0 hg;replace e:=Z2 e;obtain⟨hc,e⟩:=e;obtain⟨hc,c3⟩:=Z1 hc;obtain⟨c1,c2⟩:=Z1 hc;obtain rfl:=Z4.1 c1;obtain rfl:=Z4.1 c2;obtain rfl:=mL c3;have main:0<=dI I off->0<=dI I len->(dI I off).toNat+(dI I len).toNat<=(dL I l0).length->dL I l=((dL I l0).drop (dI I off).toNat).take (dI I len).toNat->ViewOk O I w h e0 sg (.osl b off len sg.length) v l:=by
    intro h1 h0 hle hl;have hll:(dL I l).length=(dI I len).toNat:=by rw[hl,l5,N9];omega
    constructor
    .intro L hL;simp only[mb]at hL;split at hL
     .obtain⟨M,hM,rfl⟩:=o9.1 hL;exact bR8 (r.blk b _ M hg hM) hle hl
     .cases hL
    .intro rv;rcases rv with⟨L,cap,a,hL,hv,hlc,ha⟩|⟨a,cap,hv,hac,hz⟩
     .by_cases hp:0<dI I len
      .refine .inl ⟨⟨L.blk,L.off+(dI I off).toNat*sg.length,(dI I len).toNat*sg.length⟩,cap,a,?_,by rw[hll];exact hv,by rw[hll];exact hlc,ha hp⟩;simp[mb,e8 hp,hL,Option.map_some]
      .refine .inr ⟨by omega,some a,cap,?_,λhh=>(by cases hh)⟩;rw[hv,show(dI I len).toNat=0 by omega]
     .exact .inr ⟨by rw[hll,hz];rfl,a,cap,hv,hac⟩
   cases hq:(SX.beq off (.ci 0)&&SX.beq len (.op .llen [l0]))with
   |true=>
    rw[hq]at e;simp at e;obtain⟨rfl,rfl⟩:=e;rw[j6]at hq;have ho:=SX.beq_eq _ _ hq.1;have hlen:=SX.beq_eq _ _ hq.2;have t1:dI I len=((dL I l0).length:Int):=by rw[hlen,nV]
    have t2:dI I off=0:=by rw[ho,tN]
    refine main (by omega) (by omega) (by omega) ?_;rw[t1,t2];simp
   |false=>
    rw[hq]at e;obtain⟨rfl,rfl⟩:=e;rw[uO,uO,j6,j6]at hd;have d1:0<=dI I off:=j5 hd.1;have d2:0<=dI I len:=j5 hd.2.1;have d3:dI I off+dI I len<=((dL I l0).length:Int):=j5 hd.2.2;refine main d1 d2 (by omega) ?_;show((dL I l0).drop (dI I off).toNat).take (dI I off+dI I len-dI I off).toNat=_;congr 2;omega
  .cases e
 .rename_i b o n c;split at e
  .rename_i e0 fz cs hg;replace e:=Z2 e;obtain⟨hc,e⟩:=e;obtain⟨hc,c5⟩:=Z1 hc;obtain⟨hc,c4⟩:=Z1 hc;obtain⟨hc,c3⟩:=Z1 hc;obtain⟨c1,c2⟩:=Z1 hc;obtain rfl:=Z4.1 c1;rw[cW]at c2 c3 c4;rw[fc]at c5;unfold Nf at e;split at e
   .rename_i rs hrs;obtain⟨rfl,rfl⟩:=e;constructor
    .intro M hM;simp only[mb,e8 c5]at hM;obtain⟨L,hL,rfl⟩:=o9.1 hM;exact(MZ (lx:= .op .row rs) (r.blk b _ L hg hL) c3 c4 hrs rfl).1
    .intro rv;obtain⟨L,hL,hv⟩:=rv;obtain⟨p1,p2⟩:=MZ (lx:= .op .row rs) (r.blk b _ L hg hL) c3 c4 hrs rfl;refine .inl ⟨⟨L.blk,L.off+o,n*sig.length⟩,c,_,?_,by rw[p2];exact hv,by rw[p2];exact c2,rfl⟩;simp[mb,e8 c5,hL,Option.map_some]
   .cases e
  .cases e
 .rename_i b o n s;split at e
  .rename_i e0 fz cs hg;replace e:=Z2 e;obtain⟨hc,e⟩:=e;obtain⟨hc,c4⟩:=Z1 hc;obtain⟨hc,c3⟩:=Z1 hc;obtain⟨hc,c1⟩:=Z1 hc;obtain⟨cz,c0⟩:=Z1 hc;obtain rfl:=Z4.1 c0;obtain rfl:=Z4.1 c1;rw[fc]at cz;rw[cW]at c3 c4;unfold Nf at e;split at e
   .rename_i rs hrs;obtain⟨rfl,rfl⟩:=e;constructor
    .intro M hM;simp only[mb]at hM;split at hM
     .obtain⟨L,hL,rfl⟩:=o9.1 hM;exact(MZ (lx:= .op .row rs) (r.blk b _ L hg hL) c3 c4 hrs rfl).1
     .cases hM
    .intro rv;obtain⟨L,cap,hL,hcap,hv⟩:=rv;have hbr:=r.blk b _ L hg hL;obtain⟨p1,p2⟩:=MZ (lx:= .op .row rs) hbr c3 c4 hrs rfl;by_cases hp:0<n
     .refine .inl ⟨⟨L.blk,L.off+o,n*sig.length⟩,cap,_,?_,by rw[p2];exact hv,?_,rfl⟩
      .simp[mb,e8 hp,hL,Option.map_some]
      .rw[p2];obtain⟨_,_,_,_,_,_,q3,_⟩:=hbr;have:n*sig.length<=cap*sig.length:=by omega
       exact F5 this cz
     .refine .inr ⟨by omega,some ⟨L.blk,L.off+o,none⟩,cap,?_,λhh=>(by cases hh)⟩;rw[hv,show n=0 by omega]
   .cases e
  .cases e
 .cases e
theorem c60{sz:Nat}{b:Nat}(e:Cn sz elem sig x h=some (nd,l))(hb:kY (.view x)=some b): ∃y,h.get b=some y:=c59 e hb
theorem bR9(r:HR O I K w0 h w){v:Value}(e:Cn sig.length elem sig x h=some (nd,l))(hd:dB I nd=true):ViewOk O I w h elem sig x v l:=by
 have:=cK0 (v:=v) r e hd;refine⟨λL hL=> ?_,this.sl⟩;obtain⟨C,e',lo,hi,q1,q0,q⟩:=this.br L hL;refine⟨C,e',lo,hi,q1,?_,q⟩;grind[ZS,Nat.beq,jM,Z4]
theorem dw8(r:HR O I K w0 h w)(e:Cn sig.length elem sig x h=some (nd,l))(hd:dB I nd=true)(L:Loc)(hL:mb O I sig.length x=some L):BR O I L w.heap[L.blk]? (.arr elem sig l):=
 (bR9 (v:= .bool true) r e hd).br L hL
end Go.Ev
namespace Go.Ev
open Go
variable{v:Value}{x:AV}{i:Nat}
variable{I aa:Opq}{O au:cq}{K:Nat->Prop}{w0 w:World}{h:Heap}
def dw9:Option Blk->Nat
 |some (.arr _ sig _)=>sig.length
 |_=>0
noncomputable def nN(O:cq)(I:Opq)(src:List BSrc)(blks:List Blk):cq:=λi=>match src[i]? with
 |some (.whole b)=>O b
 |some (.view x)=>mb O I (dw9 blks[i]?) x
 |none=>none
theorem tc{p:AV}(hp:AI p=true)(r:VR O I p v):VR au aa p v:=by
 cases p<;>simp only[AI,s6]at hp<;>exact r
theorem Iu{s:Option BSrc}{b:Nat}(e:xU s b=true):s=some (.whole b):=by
 unfold xU at e;grind[Z4]
theorem bF8{s:Option BSrc}(e:OC s x=true):s=some (.view x):=by
 unfold OC at e;grind[AV.beq_eq]
section
variable{src:List BSrc}{es:List SX}{blks:List Blk}{nb:Nat}
theorem Dw{p x:SX}(ae:aa=I.upd 0 (ck I es))(hf:gb es.length p=true)(e:SX.beq (kS es p) x=true):bZ aa p=bZ I x:=by
 grind[Iz,SX.beq_eq]
theorem cK1(I:Opq)(e:SX):bZ I (Ra e)=bZ I e:=by
 unfold Ra;split
 .rename_i l k;split
  .rename_i x hx;have:(ck I l)[k]? =some (bZ I x):=by
    rw[Ht,B0,hx];rfl
   show bZ I x=(ck I l).getD k default;grind
  .rfl
 .rfl
theorem GC{p x:SX}(ae:aa=I.upd 0 (ck I es))(hf:gb es.length p=true)(e:FP es p x=true):bZ aa p=bZ I x:=by
 rw[ae,<-Iz p hf,<-cK1,SX.beq_eq _ _ e]
theorem cK2(ae:aa=I.upd 0 (ck I es))(hw: ∀i b,src[i]? =some (.whole b)->au i=O b){s:Nat}{p q:SX}(f1:gb es.length p=true)(f2:gb es.length q=true)(e:QC src es i p q s x=true)(rv:VR O I x v):VR au aa (.osl i p q s) v:=by
 unfold QC at e;split at e
 .obtain⟨e,e4⟩:=Z1 e;obtain⟨e,e3⟩:=Z1 e;obtain⟨e1,e2⟩:=Z1 e;obtain rfl:=Z4.1 e1;have k1:dI aa p=dI I _:=congrArg Val.toI (GC ae f1 e3);have k2:dI aa q=dI I _:=congrArg Val.toI (GC ae f2 e4);grind[VR,Iu]
 .cases e
theorem cK3(ae:aa=I.upd 0 (ck I es))(hw: ∀i b,src[i]? =some (.whole b)->au i=O b){s:Nat}{q:SX}(f2:gb es.length q=true)(e:Ub src es i q s x=true)(rv:VR O I x v):VR au aa (.ous i q s) v:=by
 unfold Ub at e;split at e
 .obtain⟨e,e4⟩:=Z1 e;obtain⟨e1,e2⟩:=Z1 e;obtain rfl:=Z4.1 e1;have k2:dI aa q=dI I _:=congrArg Val.toI (Dw ae f2 e4);grind[VR,Iu]
 .cases e
theorem cK4(hw: ∀i b,src[i]? =some (.whole b)->au i=O b){o:Nat}(e:UX src i o x=true)(rv:VR O I x v):VR au aa (.ptr i o) v:=by
 unfold UX at e;split at e
 .obtain⟨e1,e2⟩:=Z1 e;obtain rfl:=Z4.1 e1;grind[VR,Iu]
 .cases e
theorem cK5(hw: ∀i b,src[i]? =some (.whole b)->au i=O b)(e:VJ src i x=true)(rv:VR O I x v):VR au aa (.map i) v:=by
 unfold VJ at e;grind[VR,Iu]
theorem da4(hw: ∀i b,src[i]? =some (.whole b)->au i=O b){o n c:Nat}(e:PG src i o n c x=true)(rv:VR O I x v):VR au aa (.sl i o n c) v:=by
 unfold PG at e;split at e
 .obtain⟨e,e2⟩:=Z1 e;obtain⟨e,e4⟩:=Z1 e;obtain⟨e1,e3⟩:=Z1 e;obtain rfl:=Z4.1 e1;obtain rfl:=Z4.1 e3;obtain rfl:=Z4.1 e4;grind[VR,Iu]
 .cases e
theorem dx0(ae:aa=I.upd 0 (ck I es)){k:IntKind}{p:SX}(f:gb es.length p=true)(e:UU es k p (kz x)=true)(rv:VR O I x v):v= .int k (dI aa p):=by
 unfold UU at e;split at e
 .rename_i k' x' hx;obtain⟨e1,e2⟩:=Z1 e;obtain rfl:=j5 e1;rw[sC hx rv];exact congrArg (λz:Val=>Value.int k z.toI) (GC ae f e2).symm
 .cases e
mutual
theorem dx1(ae:aa=I.upd 0 (ck I es))(hw: ∀i b,src[i]? =some (.whole b)->au i=O b)(hv: ∀i s p q x v,yZ p q=true->EP blks i s q=true->src[i]? =some (.view x)->VR O I x v->VR au aa (.osl i p q s) v):
 ∀(p x:AV) (v:Value),hI es.length nb p=true->jp src es blks p x=true->VR O I x v->VR au aa p v
 | .oint k p,x,v,f,e,r=>by exact dx0 ae f e r
 | .ostr p,x,v,f,e,r=>by
   simp[jp]at e;unfold Km at e;split at e
   .rename_i y hy;rw[HQ hy r];exact congrArg (λz:Val=>Value.string ⟨z.toS.toArray⟩) (GC ae f e).symm
   .cases e
 | .obool p,x,v,f,e,r=>by
   simp[jp]at e;unfold Km at e;split at e
   .rename_i y hy;rw[xS hy r];exact congrArg (λz:Val=>Value.bool z.toB) (GC ae f e).symm
   .cases e
 | .agg ps,x,v,f,e,r=>by
   simp[jp]at e;split at e
   .obtain⟨us,rfl,ru⟩:=r;exact⟨us,rfl,BV ae hw hv ps _ _ f e ru⟩
   .cases e
 | .iface t p,x,v,f,e,r=>by
   trivial
 | .func fn a b,x,v,f,e,r=>by
   simp[hI,j6]at f;simp[jp]at e;split at e
   .obtain⟨e,e3⟩:=Z1 e;obtain⟨e1,e2⟩:=Z1 e;obtain rfl:=j5 e1;obtain⟨n,y,z,rfl,r1,r2⟩:=r;exact⟨n,y,z,rfl,BV ae hw hv a _ _ f.1 e2 r1,BV ae hw hv b _ _ f.2 e3 r2⟩
   .cases e
 | .ptr i o,x,v,f,e,r=>by grind[jp,cK4]
 | .osl i p q s,x,v,f,e,r=>by
   simp[hI,j6]at f;simp only[jp]at e;cases hq:yZ p q with
   |true=>
    grind[bF8]
   |false=>
    grind[cK2]
 | .ous i q s,x,v,f,e,r=>by
   simp[hI,j6]at f;grind[jp,cK3]
 | .bool _,x,v,f,e,r=>by simp[jp]at e;grind[AV.beq_eq,tc]
 | .int _ _,x,v,f,e,r=>by simp[jp]at e;grind[AV.beq_eq,tc]
 | .str _,x,v,f,e,r=>by simp[jp]at e;grind[AV.beq_eq,tc]
 | .nilp,x,v,f,e,r=>by simp[jp]at e;grind[AV.beq_eq,tc]
 | .glob _,x,v,f,e,r=>by simp[jp]at e;grind[AV.beq_eq,tc]
 | .nils,x,v,f,e,r=>by simp[jp]at e;grind[AV.beq_eq,tc]
 | .sl _ _ _ _,x,v,f,e,r=>by grind[jp,da4]
 | .us _ _ _ _,x,v,f,e,r=>by trivial
 | .es _ _ _,x,v,f,e,r=>by trivial
 | .es0,x,v,f,e,r=>by trivial
 | .nilm,x,v,f,e,r=>by simp[jp]at e;grind[AV.beq_eq,tc]
 | .map i,x,v,f,e,r=>by grind[jp,cK5]
 | .nilf,x,v,f,e,r=>by simp[jp]at e;grind[AV.beq_eq,tc]
 | .yield _,x,v,f,e,r=>by trivial
 | .nili,x,v,f,e,r=>by simp[jp]at e;grind[AV.beq_eq,tc]
 | .tup _,x,v,f,e,r=>by trivial
 | .opq _,x,v,f,e,r=>by trivial
 | .optr _ _ _ _,x,v,f,e,r=>by trivial
 | .atl _,x,v,f,e,r=>by trivial
 | .any,x,v,f,e,r=>trivial
theorem BV(ae:aa=I.upd 0 (ck I es))(hw: ∀i b,src[i]? =some (.whole b)->au i=O b)(hv: ∀i s p q x v,yZ p q=true->EP blks i s q=true->src[i]? =some (.view x)->VR O I x v->VR au aa (.osl i p q s) v):
 ∀(ps xs:List AV) (vs:List Value),pF es.length nb ps=true->sW src es blks ps xs=true->ct O I xs vs->ct au aa ps vs
 | [],xs,vs,f,e,r=>by
   simp[sW]at e;split at e
   .exact r
   .cases e
 |p::ps,xs,vs,f,e,r=>by
  simp[pF,j6]at f;simp[sW]at e;split at e
  .obtain⟨e1,e2⟩:=Z1 e;obtain⟨v,vr,rfl,r1,r2⟩:=r;exact⟨v,vr,rfl,dx1 ae hw hv p _ v f.1 e1 r1,BV ae hw hv ps _ vr f.2 e2 r2⟩
  .cases e
end
end
theorem b08: ∀(l:List Blk) (h:Heap),h.next+l.length<=65536->(∀b,h.next<=b->h.get b=none)->(iW l h).next=h.next+l.length/\(iW l h).wm=h.wm/\ ∀b,(iW l h).get b=if b<h.next then h.get b else l[b-h.next]?
 | [],h,_,hf=>⟨rfl,rfl,λb=>by
  grind[iW]⟩
 |x::r,h,hl,hf=>by
  simp at hl;obtain⟨h1,h2,h3⟩:=b08 r (h.new x) (by simp;omega) (λb hb=>by
   simp at hb;rw[Heap.get_new,b9 (by omega)];exact hf b (by omega))
  refine⟨by simp[iW,h1,Heap.next_new,List.length_cons];omega,by trivial,λb=> ?_⟩;simp[iW,h3,Heap.next_new,Heap.get_new];grind
@[simp]theorem Heap.get_setwm(h:Heap)(n b:Nat):(h.setwm n).get b=h.get b:=by rfl
@[simp]theorem Heap.next_setwm(h:Heap)(n:Nat):(h.setwm n).next=h.next:=by rfl
@[simp]theorem Heap.wm_setwm(h:Heap)(n:Nat):(h.setwm n).wm=n:=by rfl
theorem FC.heap_ok(c:FC)(hl:c.blks.length<60000):c.heap.next=c.blks.length/\c.heap.wm=c.mt/\ ∀b,c.heap.get b=c.blks[b]? :=by
 obtain⟨h1,h2,h3⟩:=b08 c.blks Heap.empty (by show 0+_<=_;omega) (λb _=>Heap.get_empty b);refine⟨by unfold FC.heap;rw[Heap.next_setwm,h1];exact Nat.zero_add _,by trivial,λb=> ?_⟩;unfold FC.heap;rw[Heap.get_setwm,h3];rfl
def Qr(O:cq)(src:List BSrc)(mt:Nat)(w:World)(k:Nat):Prop:=k<w.heap.size/\ ∀i b L,mt<=i->src[i]? =some (.whole b)->O b=some L->k≠L.blk
section
variable{src:List BSrc}{es:List SX}{blks:List Blk}{mt:Nat}{args:List AV}
theorem Hn: ∀{ps:List Blk} {ss:List BSrc} {nd:SX},Gx src es blks h ps ss=some nd->dB I nd=true->ps.length=ss.length/\ ∀(i:Nat) (p:Blk) (s:BSrc),ps[i]? =some p->ss[i]? =some s-> ∃e,te src es blks h p s=some e/\dB I e=true
 | [],[],nd,e,hd=>⟨rfl,λi p s h1=>by simp at h1⟩
 | [],_::_,nd,e,hd=>by cases e
 |_::_,[],nd,e,hd=>by cases e
 |p::ps,s::ss,nd,e,hd=>by
  simp[Gx]at e;split at e
  .rename_i a b ha hb;simp at e;subst e;obtain⟨d1,d2⟩:=Cb hd;obtain⟨l1,l2⟩:=Hn hb d2;grind
  .cases e
theorem cn3{blks:List Blk}{mt:Nat}{i:Nat}{s:BSrc}: ∀{r:List BSrc} {j:Nat},NU blks mt h i s r j=true-> ∀k t,r[k]? =some t->FY blks mt h i (j+k) (kY s) (kY t)=true
 | [],j,e,k,t,hk=>by simp at hk
 |u::r,j,e,k,t,hk=>by
  simp[NU,j6]at e;cases k with
  |zero=>grind
  |succ k=>
   rw[show j+(k+1)=j+1+k by omega];exact cn3 e.2 k t hk
theorem Uc{blks:List Blk}{mt:Nat}: ∀{ss:List BSrc} {i:Nat},seps blks mt h ss i=true-> ∀a b s t,a<b->ss[a]? =some s->ss[b]? =some t->FY blks mt h (i+a) (i+b) (kY s) (kY t)=true
 | [],i,e,a,b,s,t,hab,ha,hb=>by simp at ha
 |u::r,i,e,a,b,s,t,hab,ha,hb=>by
  simp[seps,j6]at e;obtain⟨b,rfl⟩: ∃b',b=b'+1:=⟨b-1,by omega⟩;cases a with
  |zero=>
   have:=cn3 e.1 b t hb;grind
  |succ a=>
   have:=Uc e.2 a b s t (by omega) ha hb;grind
theorem Ju{b:Nat}: ∀{l:List AV} {vs:List Value},CW b l=true->ct O I l vs->O b≠none
 | [],vs,e,r=>by cases e
 |x::l,vs,e,⟨v,vr,_,r1,r2⟩=>by
  simp[CW,u9]at e;rcases e with e|e
  .split at e
   .obtain rfl:=Z4.1 e;obtain⟨L,hL,_⟩:=r1;grind
   .obtain rfl:=Z4.1 e;obtain⟨L,hL,_⟩:=r1;grind
   .cases e
  .exact Ju e r2
theorem cK6(r:HR O I K w0 h w){b c:Nat}(hc:O c≠none)(e:Qy h b c=true):O b≠none:=by
 unfold Qy at e;split at e
 .rename_i hg;cases hL:O c with
  |none=>grind
  |some L=>
   obtain⟨C,lo,hi,vs,_,_,_,_,q5,_⟩:=r.cells hg hL;exact Ju e q5
 .cases e
theorem Wa(r:HR O I K w0 h w){us:List Value}(ra:ct O I args us){b:Nat}: ∀{l:List BSrc},LR args h b l=true->O b≠none
 | [],e=>by cases e
 |s::l,e=>by
  simp[LR,u9]at e;rcases e with e|e
  .split at e
   .grind[cK6,Ju]
   .cases e
  .exact Wa r ra e
theorem MA(r:HR O I K w0 h w){us:List Value}(ra:ct O I args us){all:List BSrc}{post:List (Option Blk)}: ∀{ss:List BSrc} {i:Nat},Gl mt args h all post ss i=true-> ∀k s,ss[k]? =some s->mt<=i+k-> ∃b,s= .whole b/\h.wm<=b/\b<h.next/\(O b≠none\/post[i+k-mt]? =some none\/RowB (h.get b))
 | [],i,e,k,s,hk,hm=>by simp at hk
 |u::ss,i,e,k,s,hk,hm=>by
  simp only[Gl,j6]at e;cases k with
  |zero=>
   simp at hk;subst hk;rw[u9]at e;rcases e with e|e
   .grind[fc]
   .split at e
    .obtain⟨e,e3⟩:=Z1 e;obtain⟨e1,e2⟩:=Z1 e;rw[cW]at e1;rw[fc]at e2;refine⟨_,rfl,e1,e2,?_⟩;rw[u9,u9,u9]at e3;rcases e3 with((e3|e3)|e3)|e3
     .grind[Wn]
     .grind[Ju]
     .grind[Wa]
     .right;right;unfold dw4 at e3;split at e3
      .rename_i hx;rw[hx];exact .arr _ _ _
      .rename_i hx;rw[hx];exact .bag _ _ _
      grind
    .cases e
  |succ k=>
   have:=MA r ra e.2 k s hk (by omega);grind
end
structure Bound (c:FC) (nv:Nat) (args:List AV) (h:Heap) (b:Binding):Prop where
 len:b.es.length=nv
 slen:b.src.length=c.blks.length
 argv:sW b.src b.es c.blks c.args args=true
 seps:seps c.blks c.mt h b.src 0=true
 mutb:Gl c.mt args h b.src c.post b.src 0=true
 post:yv b.src c.mt c.post c.post c.mt=true
 out:(iH c.out).all (tu b.src c.mt c.post)=true
 blks:Gx b.src b.es c.blks h c.blks b.src=some b.nd
theorem RG{α:Type}{l:List (Nat×α)}: ∀{n i:Nat} {r:List α},CI l n i=some r->r.length=n
 |0,i,r,e=>by grind[CI,Option.some.injEq]
 |n+1,i,r,e=>by
  simp[CI]at e;split at e
  .rename_i x q h1 h2;simp at e;subst e;simp[RG h2]
  .cases e
theorem cK7{c:FC}{nv:Nat}{args:List AV}{b:Binding}(e:Dl c nv args h=some b):Bound c nv args h b:=by
 unfold Dl at e;simp_all;split at e
 .rename_i src es h1 h2;replace e:=Z2 e;obtain⟨hc,e⟩:=e;obtain⟨hc,c5⟩:=Z1 hc;obtain⟨hc,c4⟩:=Z1 hc;obtain⟨hc,c3⟩:=Z1 hc;obtain⟨c1,c2⟩:=Z1 hc;split at e
  .rename_i nd hnd;simp at e;subst e;exact⟨RG h2,RG h1,c1,c2,c3,c4,c5,hnd⟩
  .cases e
 .cases e
structure FcOk (c:FC) (nv:Nat):Prop where
 args:pF nv c.blks.length c.args=true
 blks: ∀(i:Nat) (x:Blk),c.blks[i]? =some x->AB nv c.blks.length (some x)=true/\((∃e fz cs,x= .cells e fz cs)\/(∃e sig l,x= .arr e sig l)\/(∃e sig l,x= .bag e sig l)\/ ∃d ks vs l,x= .marr d ks vs l)
 need:gb nv c.need=true
 outs:qD nv c.outs=true
 mt:c.mt<=c.blks.length
 lt:c.blks.length<60000
theorem ZF{c:FC}{nv:Nat}(e:tr c nv=true):FcOk c nv:=by
 obtain⟨e,e7⟩:=Z1 e;obtain⟨e,e6⟩:=Z1 e;obtain⟨e,e5⟩:=Z1 e;obtain⟨e,e4⟩:=Z1 e;obtain⟨e,e3⟩:=Z1 e;obtain⟨e1,e2⟩:=Z1 e;refine⟨e1,λi x hx=> ?_,e3,e4,cW.1 e5,fc.1 e6⟩;grind
theorem cK8{c:FC}{nv:Nat}{args:List AV}{b:Binding}{us:List Value}(r:HR O I K w0 h w)(ra:ct O I args us)(fo:FcOk c nv)(bo:Bound c nv args h b)(hd:dB I b.nd=true):
 ct (nN O I b.src c.blks) (I.upd 0 (ck I b.es)) c.args us/\HR (nN O I b.src c.blks) (I.upd 0 (ck I b.es)) (Qr O b.src c.mt w) w c.heap w:=by
 obtain⟨hn,hwm,gf⟩:=c.heap_ok fo.lt;obtain⟨hl,hB⟩:=Hn bo.blks hd;have hw: ∀i x,b.src[i]? =some (.whole x)->nN O I b.src c.blks i=O x:=λi x hx=>by grind[nN]
 have view: ∀i x e sig q,b.src[i]? =some (.view x)->c.blks[i]? =some (.arr e sig q)-> ∃nd l,Cn sig.length e sig x h=some (nd,l)/\dB I nd=true/\bZ (I.upd 0 (ck I b.es)) q=bZ I l/\nN O I b.src c.blks i=mb O I sig.length x:=by
  intro i x e sig q hx hp;obtain⟨nd,h1,h2⟩:=hB i _ _ hp hx;simp[te]at h1;split at h1
  .rename_i nd' l hv;obtain⟨h3,h1⟩:=Z2 h1;simp at h1;subst h1;have hf:=(fo.blks i _ hp).1;refine⟨_,l,hv,h2,Dw rfl (by rw[bo.len];exact hf) h3,?_⟩;unfold nN;rw[hx,hp];rfl
  grind
 have hv: ∀i s p q x v,yZ p q=true->EP c.blks i s q=true->b.src[i]? =some (.view x)->VR O I x v->VR (nN O I b.src c.blks) (I.upd 0 (ck I b.es)) (.osl i p q s) v:=by
  intro i s p q x v hpq hvb hx hr;unfold EP at hvb;split at hvb
  .rename_i e sig l hp;obtain⟨h1,h2⟩:=Z1 hvb;have h2:=SX.beq_eq _ _ h2;subst h2;obtain⟨nd,lx,g1,g2,g3,g4⟩:=view i x e sig l hx hp;have vs:=(bR9 r g1 g2).sl hr;have hlen:dI (I.upd 0 (ck I b.es)) (.op .llen [l])=((dL I lx).length:Int):=by
    exact congrArg (λz:Val=>(z.toL.length:Int)) g3
   have hp0:dI (I.upd 0 (ck I b.es)) p=0:=by
    unfold yZ at hpq;split at hpq
    .rfl
    .cases hpq
   simp only[VR];rw[hlen,hp0,g4];rcases vs with⟨L,cap,a,k1,k2,k3,k4⟩|⟨k1,a,cap,k2,k3⟩
   .exact .inl ⟨L,cap,a,k1,by simpa using k2,by simpa using k3,λ_=>by simpa using k4⟩
   .exact .inr ⟨a,cap,k2,k3,by rw[k1];rfl⟩
  grind
 have hargs:=BV (nb:=c.blks.length) (au:=nN O I b.src c.blks) rfl hw hv c.args args us (by rw[bo.len];exact fo.args) bo.argv ra;have base: ∀i L,nN O I b.src c.blks i=some L-> ∃s y M,b.src[i]? =some s/\kY s=some y/\O y=some M/\M.blk=L.blk:=by
  intro i L e;unfold nN at e;split at e
  .rename_i y hy;exact⟨_,y,L,hy,rfl,e,rfl⟩
  .grind[bF7]
  .cases e
 have liveB: ∀(i:Nat) (s:BSrc) (p:Blk) (y:Nat),b.src[i]? =some s->c.blks[i]? =some p->kY s=some y-> ∃z,h.get y=some z:=by
  intro i s p y hs hp hy;obtain⟨nd,h1,_⟩:=hB i p s hp hs;cases s with
  |whole x=>
   simp[kY,j0]at hy;simp[te]at h1;grind
  |view x=>
   simp[te]at h1;grind[c60]
 refine⟨hargs,⟨λi x L hg hL=> ?_,λi j x y L M hgi hgj hL hM hne hwk=> ?_,λi hi=> ?_,λi hi=> ?_,λi L hL=> ?_,λk hk=>hk.1,λk _=>rfl,λi x L hg hwi hL hk=> ?_,e9 _,rfl,rfl,rfl,e9 _⟩⟩
 .rw[gf]at hg;have hs: ∃s,b.src[i]? =some s:=by
   grind
  obtain⟨s,hs⟩:=hs;obtain⟨nd,h1,h2⟩:=hB i x s hg hs;have hf:=(fo.blks i x hg).1;cases s with
  |whole y=>
   simp[te]at h1;rw[hw i y hs]at hL;split at h1
   .rename_i e fz ps e' fz' xs hgy;obtain⟨h3,_⟩:=Z2 h1;obtain⟨h3,h6⟩:=Z1 h3;obtain⟨h3,h5⟩:=Z1 h3;obtain⟨h3,h4⟩:=Z1 h3;obtain rfl:=Z4.1 h3;obtain rfl:=Z4.1 h4;obtain⟨C,lo,hi,vs,q1,q2,q3,q4,q5,q6,q7,q8⟩:=r.blk y _ L hgy hL;have hps:=BV (nb:=c.blks.length) (au:=nN O I b.src c.blks) rfl hw hv ps xs vs (by rw[bo.len];exact hf) h6 q5;have hll:ps.length=xs.length:=by rw[<-hps.length,<-q5.length]
    exact⟨C,lo,hi,vs,q1,q2,by rw[hll];exact q3,h5,hps,by rw[hll];exact q6,q7,q8⟩
   .rename_i e sig q e' sig' l hgy;obtain⟨h3,_⟩:=Z2 h1;obtain⟨h3,h5⟩:=Z1 h3;obtain⟨h3,h4⟩:=Z1 h3;obtain rfl:=Z4.1 h3;obtain rfl:=mL h4;have hbr:=r.blk y _ L hgy hL;have hden:dL (I.upd 0 (ck I b.es)) q=dL I l:=congrArg Val.toL (Dw rfl (by rw[bo.len];exact hf) h5);simp[BR]at hbr⊢;rw[hden];exact hbr
   .rename_i e sig q e' sig' l hgy;obtain⟨h3,_⟩:=Z2 h1;obtain⟨h3,h5⟩:=Z1 h3;obtain⟨h3,h4⟩:=Z1 h3;obtain rfl:=Z4.1 h3;obtain rfl:=mL h4;have hbr:=r.blk y _ L hgy hL;have hden:dL (I.upd 0 (ck I b.es)) q=dL I l:=congrArg Val.toL (Dw rfl (by rw[bo.len];exact hf) h5);simp[BR]at hbr⊢;rw[hden];exact hbr
   .rename_i d ks vs q d' ks' vs' l hgy;obtain⟨j1,_⟩:=Z2 h1;obtain⟨j2,h6⟩:=Z1 j1;obtain⟨j3,h5⟩:=Z1 j2;obtain⟨j4,h4⟩:=Z1 j3;obtain rfl:=mL h4;obtain rfl:=mL h5;obtain⟨E,c',g1,g2,g3⟩:=r.blk y _ L hgy hL;have hden:dL (I.upd 0 (ck I b.es)) q=dL I l:=congrArg Val.toL (Dw rfl (by rw[bo.len];exact hf) h6);exact⟨E,c',g1,by rw[hden];exact g2,g3.weak j4⟩
   .rename_i d ks vs q c' hgy;obtain⟨h3,_⟩:=Z2 h1;obtain⟨h3,h6⟩:=Z1 h3;obtain⟨E,g1,g2⟩:=r.blk y _ L hgy hL;have hden:dL (I.upd 0 (ck I b.es)) q=dL I (.op .row []):=congrArg Val.toL (Dw rfl (by rw[bo.len];exact hf) h6);have hE:E.toList=[]:=by generalize E.toList=m at g2;cases g2;rfl
    refine⟨E,c',g1,by rw[hden,hE];rfl,?_⟩;rw[hE];exact(gP.nil c').weak h3
   grind
  |view y=>
   have: ∃e sig q,x= .arr e sig q:=by
    simp[te]at h1;split at h1
    .exact⟨_,_,_,rfl⟩
    .cases h1
   obtain⟨e,sig,q,rfl⟩:=this;obtain⟨nd',lx,g1,g2,g3,g4⟩:=view i y e sig q hs hg;rw[g4]at hL;have hbr:=dw8 r g1 g2 L hL;have hden:dL (I.upd 0 (ck I b.es)) q=dL I lx:=congrArg Val.toL g3;grind[BR]
 .rw[gf]at hgi hgj;obtain⟨s,y1,M1,s1,s2,s3,s4⟩:=base i L hL;obtain⟨t,y2,M2,t1,t2,t3,t4⟩:=base j M hM;obtain⟨z1,hz1⟩:=liveB i s x y1 s1 hgi s2;obtain⟨z2,hz2⟩:=liveB j t y y2 t1 hgj t2;have main: ∀(i j:Nat) (s t:BSrc) (x y:Blk) (y1 y2:Nat) (M1 M2:Loc) (z1 z2:Blk),FY c.blks c.mt h i j (kY s) (kY t)=true->c.blks[i]? =some x->c.blks[j]? =some y->(c.heap.wm<=i\/c.heap.wm<=j\/x.isArr=false\/y.isArr=false)->
   kY s=some y1->kY t=some y2->O y1=some M1->O y2=some M2->h.get y1=some z1->h.get y2=some z2->M1.blk≠M2.blk:=by
   intro i j s t x y y1 y2 M1 M2 z1 z2 hsep hx hy hk e1 e2 b1 b2 g1 g2;unfold FY at hsep;rw[u9]at hsep;rcases hsep with hsep|hsep
   .obtain⟨hsep,a4⟩:=Z1 hsep;obtain⟨hsep,a3⟩:=Z1 hsep;obtain⟨a1,a2⟩:=Z1 hsep;rw[fc]at a1 a2;rw[hx]at a3;rw[hy]at a4;rcases hk with q|q|q|q
    .omega
    .omega
    .cases x<;>simp only[Blk.isArr,reduceCtorEq]at q<;>cases a3
    .cases y<;>simp only[Blk.isArr,reduceCtorEq]at q<;>cases a4
   .obtain⟨a1,a2⟩:=Z1 hsep;rw[e1,e2]at a1 a2;have hne:y1≠y2:=by
     rintro rfl;simp[neB]at a1
    refine r.sep y1 y2 z1 z2 M1 M2 g1 g2 b1 b2 hne ?_;simp[To,Pv,u9,y6,cW]at a2;rw[g1,g2]at a2;rcases a2 with((q|q)|q)|q
    .omega
    .omega
    .refine .inr (.inr (.inl ?_));cases z1<;>first|rfl|cases q
    .refine .inr (.inr (.inr ?_));cases z2<;>first|rfl|cases q
  rw[<-s4,<-t4];rcases Nat.lt_or_gt_of_ne hne with hlt|hlt
  .have:=Uc bo.seps i j s t hlt s1 t1;rw[m9,m9]at this;exact main i j s t x y y1 y2 M1 M2 z1 z2 this hgi hgj hwk s2 t2 s3 t3 hz1 hz2
  .have:=Uc bo.seps j i t s hlt t1 s1;rw[m9,m9]at this;refine(main j i t s y x y2 y1 M2 M1 z2 z1 this hgj hgi ?_ t2 s2 t3 s3 hz2 hz1).symm;grind
 .grind[nN,List.getElem?_eq_none]
 .grind
 .obtain⟨s,y,M,_,_,h3,h4⟩:=base i L hL;rw[<-h4];exact r.lt y M h3
 .have hs: ∃s,b.src[i]? =some s:=by
   grind
  obtain⟨s,hs⟩:=hs;obtain⟨y,rfl,_,_,_⟩:=MA r ra bo.mutb i s hs (by omega);rw[hw i y hs]at hL;exact hk.2 i y L hwi hs hL rfl
end Go.Ev
namespace Go.Ev
open Go
variable{es:List SX}
variable{I aa:Opq}{O ac aq:cq}{K:Nat->Prop}{w0 w w':World}{h h':Heap}
def iM:AV->Bool
 | .agg _=>false
 | .tup _=>false
 |_=>true
theorem gc{v:AV}(h:iM v=true):iH v=[v]:=by cases v<;>first|rfl|cases h
theorem da5{out v:AV}(h:iM v=true)(hs:jH out v=true):iM out=true:=by
 cases out<;>first
  |rfl
  |(simp[jH]at hs;split at hs<;>first|cases h|cases hs)
theorem gA{v:AV}{u:Value}(h:iM v=true)(r:VR O I v u): ∃us,ct O I (iH v) us/\ ∀(ac:cq) (aa:Opq) (out:AV),jH out v=true->ct ac aa (iH out) us->VR ac aa out u:=by
 refine⟨[u],by rw[gc h];exact .one r,λac aa out hs ho=> ?_⟩;rw[gc (da5 h hs)]at ho;obtain⟨x,xr,e,p,q⟩:=ho;grind
theorem VO: ∀{a b:List AV} {x y:List Value},a.length=x.length->ct O I (a++b) (x++y)->ct O I a x/\ct O I b y
 | [],b,[],y,_,r=>⟨rfl,r⟩
 | [],b,_::_,y,h,r=>by cases h
 |_::_,b,[],y,h,r=>by cases h
 |p::a,b,v::x,y,h,⟨v',vr,e,q,s⟩=>by
  obtain⟨rfl,rfl⟩:=e;obtain⟨h1,h2⟩:=VO (by grind) s;exact⟨⟨v,x,rfl,q,h1⟩,h2⟩
theorem gH{o v:AV}(ho:iM o=true)(h:jH o v=true):(iH o).length=(iH v).length:=by
 have hv:iM v=true:=by
  cases o<;>first
   |(exfalso;simp[iM]at ho;done)
   |(cases v<;>first|rfl|trivial)
 grind[gc]
mutual
theorem Pn: ∀{o v:AV},jH o v=true->(iH o).length=(iH v).length
 | .agg a,v,h=>by
   simp[jH]at h;split at h
   .exact Z4.1 h
   .cases h
 | .tup a,v,h=>by
   simp[jH]at h;split at h
   .exact Ws h
   .cases h
 | .bool _,v,h=>gH rfl h
 | .int _ _,v,h=>gH rfl h
 | .str _,v,h=>gH rfl h
 | .nilp,v,h=>gH rfl h
 | .ptr _ _,v,h=>gH rfl h
 | .glob _,v,h=>gH rfl h
 | .nils,v,h=>gH rfl h
 | .sl _ _ _ _,v,h=>gH rfl h
 | .us _ _ _ _,v,h=>gH rfl h
 | .es _ _ _,v,h=>gH rfl h
 | .es0,v,h=>gH rfl h
 | .nilm,v,h=>gH rfl h
 | .map _,v,h=>gH rfl h
 | .nilf,v,h=>gH rfl h
 | .func _ _ _,v,h=>gH rfl h
 | .yield _,v,h=>gH rfl h
 | .nili,v,h=>gH rfl h
 | .iface _ _,v,h=>gH rfl h
 | .opq _,v,h=>gH rfl h
 | .oint _ _,v,h=>gH rfl h
 | .ostr _,v,h=>gH rfl h
 | .obool _,v,h=>gH rfl h
 | .osl _ _ _ _,v,h=>gH rfl h
 | .optr _ _ _ _,v,h=>gH rfl h
 | .ous _ _ _,v,h=>gH rfl h
 | .atl _,v,h=>gH rfl h
 | .any,v,h=>gH rfl h
theorem Ws: ∀{o v:List AV},sQ o v=true->(sJ o).length=(sJ v).length
 | [],v,h=>by
   grind[sQ]
 |a::r,v,h=>by
  simp[sQ]at h;split at h
  .rw[j6]at h;simp[sJ,k5,Pn h.1,Ws h.2]
  .cases h
end
mutual
theorem XY: ∀(v:AV) (u:Value),VR O I v u-> ∃us,ct O I (iH v) us/\ ∀(ac:cq) (aa:Opq) (out:AV),jH out v=true->ct ac aa (iH out) us->VR ac aa out u
 | .agg cs,u,r=>by
   obtain⟨xs,rfl,q⟩:=r;refine⟨xs.toList,q,λac aa out hs ho=> ?_⟩;cases out<;>simp only[jH,s6]at hs;exact⟨xs,rfl,ho⟩
 | .tup vs,u,r=>by
   obtain⟨xs,rfl,q⟩:=r;obtain⟨us,h1,h2⟩:=YQ vs xs.toList q;refine⟨us,h1,λac aa out hs ho=> ?_⟩;cases out<;>simp only[jH,s6]at hs;exact⟨xs,rfl,h2 ac aa _ hs ho⟩
 | .bool b,u,r=>gA rfl r
 | .int a b,u,r=>gA rfl r
 | .str b,u,r=>gA rfl r
 | .nilp,u,r=>gA rfl r
 | .ptr a b,u,r=>gA rfl r
 | .glob b,u,r=>gA rfl r
 | .nils,u,r=>gA rfl r
 | .sl a b c d,u,r=>gA rfl r
 | .us a b c d,u,r=>gA rfl r
 | .es a b c,u,r=>gA rfl r
 | .es0,u,r=>gA rfl r
 | .nilm,u,r=>gA rfl r
 | .map b,u,r=>gA rfl r
 | .nilf,u,r=>gA rfl r
 | .func a b c,u,r=>gA rfl r
 | .yield b,u,r=>gA rfl r
 | .nili,u,r=>gA rfl r
 | .iface a b,u,r=>gA rfl r
 | .opq b,u,r=>gA rfl r
 | .oint a b,u,r=>gA rfl r
 | .ostr b,u,r=>gA rfl r
 | .obool b,u,r=>gA rfl r
 | .osl a b c d,u,r=>gA rfl r
 | .optr a b c d,u,r=>gA rfl r
 | .ous a b c,u,r=>gA rfl r
 | .atl b,u,r=>gA rfl r
 | .any,u,r=>gA rfl r
theorem YQ: ∀(vs:List AV) (us0:List Value),ct O I vs us0-> ∃us,ct O I (sJ vs) us/\ ∀(ac:cq) (aa:Opq) (outs:List AV),sQ outs vs=true->ct ac aa (sJ outs) us->ct ac aa outs us0
 | [],us0,r=>by
   refine⟨[],rfl,λac aa outs hs ho=> ?_⟩;cases outs with
   |nil=>exact r
   |cons a b=>trivial
 |v::vs,us0,⟨u,ur,e,p,q⟩=>by
  obtain⟨us1,a1,a2⟩:=XY v u p;obtain⟨us2,b1,b2⟩:=YQ vs ur q;refine⟨us1++us2,a1.append b1,λac aa outs hs ho=> ?_⟩;cases outs with
  |nil=>trivial
  |cons o os=>
   simp[sQ,j6]at hs;have hl:(iH o).length=us1.length:=by rw[Pn hs.1];exact a1.length.symm
   obtain⟨c1,c2⟩:=VO hl ho;exact⟨u,ur,e,a2 ac aa o hs.1 c1,b2 ac aa os hs.2 c2⟩
end
section
variable{Q:Nat->SX}{n:Nat}
theorem sV(g:Agr 0 I aa){p x:SX}(h:mM 1000 n p x=some es)(hp:oe p=true)(hq: ∀j e,es[j]? =some e->bZ I (Q (n+j))=bZ aa e):bZ I (eN 1000 Q p)=bZ aa x:=by
 unfold mM at h;unfold eN;unfold oe at hp;split at h
 .obtain⟨h1,h2⟩:=Z2 h;simp at h2;subst h2;obtain rfl:=Z4.1 h1;exact hq 0 x rfl
 .grind[gb,SX.beq_eq,qy]
theorem c61(g:Agr 0 I aa){p q x y:SX}(h:Bm 1000 n p q x y=some es)(hp:oe p=true)(hpq:oe q=true)(hq: ∀j e,es[j]? =some e->bZ I (Q (n+j))=bZ aa e):bZ I (eN 1000 Q p)=bZ aa x/\bZ I (eN 1000 Q q)=bZ aa y:=by
 unfold Bm at h;split at h
 .rename_i e1 h1;split at h
  .rename_i e2 h2;simp at h;subst h;refine⟨sV g h1 hp λj e hj=>hq j e ?_,sV g h2 hpq λj e hj=> ?_⟩
   .grind
   .have:=hq (e1.length+j) e (by rw[o7 (E6 _ _),I4];exact hj);grind
  .cases h
 .cases h
theorem PZ{src:List BSrc}{i:Nat}(e:kZ src i=true): ∃b,src[i]? =some (.whole b):=by
 grind[kZ]
theorem ID{src:List BSrc}{m i b:Nat}(e:src[i]? =some (.whole b)):fX src m i=b:=by grind[fX]
theorem Pw(ρ:Nat->Nat)(k:IntKind)(e:SX):jd ρ (pa k e)=pa k e:=by
 unfold pa;split<;>rfl
theorem cn7(k:IntKind)(e:SX):(pa k e).oneA=true:=by
 unfold pa;split<;>rfl
theorem c62{ρ:Nat->Nat}{p:AV}(h:AI p=true):jd ρ (jn Q p)=p:=by
 cases p<;>simp only[AI,s6]at h<;>simp only[jn,jd]
variable{src:List BSrc}{mt base N:Nat}{post:List (Option Blk)}
theorem VD(g:Agr 0 I aa){p x:AV}{u:Value}(hcl:tu src mt post p=true)(hnn:BF src.length p=true)(ha:eu 1000 base n p x=some es)(hq: ∀j e,es[j]? =some e->bZ I (Q (n+j))=bZ aa e)
 (r:VR O aa x u) (ao: ∀i b,src[i]? =some (.whole b)->aq b=O i):VR aq I (jd (fX src N) (jn Q p)) u:=by
 have plain:AI p=true->(bif AV.beq p x&&hI 1000 base x then some ([]:List SX)else none)=some es->VR aq I (jd (fX src N) (jn Q p)) u:=by
  grind[c62,AV.beq_eq,tc]
 cases p with
 |oint k e=>
  simp[eu]at ha;unfold KS at ha;split at ha
  .rename_i k' x' hx;split at ha
   .rename_i hk;subst hk;rw[show jd (fX src N) (jn Q (.oint k e))=pa k (eN 1000 Q e)from Pw _ _ _];refine Uj.2 ?_;rw[sC hx r];exact congrArg (λz:Val=>Value.int k z.toI) (sV g ha hcl hq).symm
   .cases ha
  grind
 |ostr e=>
  simp[eu]at ha;unfold ww at ha;split at ha
  .rename_i x' hx;rw[HQ hx r];exact congrArg (λz:Val=>Value.string ⟨z.toS.toArray⟩) (sV g ha hcl hq).symm
  grind
 |obool e=>
  simp[eu]at ha;unfold ww at ha;split at ha
  .rename_i x' hx;rw[xS hx r];exact congrArg (λz:Val=>Value.bool z.toB) (sV g ha hcl hq).symm
  grind
 |osl i y z s=>
  simp[tu,j6]at hcl;simp[eu]at ha;unfold Fk at ha;split at ha
  .rename_i b' y' z' s';obtain⟨h1,h2⟩:=Z2 ha;obtain⟨h1,_⟩:=Z1 h1;obtain⟨h1,h3⟩:=Z1 h1;obtain rfl:=Z4.1 h1;obtain rfl:=Z4.1 h3;obtain⟨b,hb⟩:=PZ hcl.1.1;obtain⟨k1,k2⟩:=c61 g h2 hcl.1.2 hcl.2 hq;have k1:dI I (eN 1000 Q y)=dI aa y':=congrArg Val.toI k1;have k2:dI I (eN 1000 Q z)=dI aa z':=congrArg Val.toI k2;simp[jn,jd,ID hb,VR]at r⊢;rw[k1,k2,ao i b hb];exact r
  grind
 |ous i q s=>
  simp[BF,fc]at hnn;simp only[tu]at hcl;rw[show Nat.ble src.length i=false by
   cases hh:Nat.ble src.length i with
   |false=>rfl
   |true=>rw[cW]at hh;omega]at hcl
  simp at hcl;simp[eu]at ha;unfold GE at ha;split at ha
  .rename_i b' q' s';obtain⟨h1,h2⟩:=Z2 ha;obtain⟨h1,_⟩:=Z1 h1;obtain⟨h1,h3⟩:=Z1 h1;obtain rfl:=Z4.1 h1;obtain rfl:=Z4.1 h3;obtain⟨b,hb⟩:=PZ hcl.1;have k1:dI I (eN 1000 Q q)=dI aa q':=congrArg Val.toI (sV g h2 (by unfold oe;rw[hcl.2];rfl) hq);have hy:NX Q q=eN 1000 Q q:=by
    have:=hcl.2;unfold Bg at this;split at this
    .rfl
    trivial
   simp[jn,jd,ID hb,VR]at r⊢;rw[hy,k1,ao i b hb];exact r
  grind
 |ptr i o=>
  simp[tu]at hcl;simp[eu]at ha;grind[AV.beq_eq,PZ,jn,jd,ID,VR]
 |bool _=>exact plain hcl ha
 |int _ _=>exact plain hcl ha
 |str _=>exact plain hcl ha
 |nilp=>exact plain hcl ha
 |glob _=>exact plain hcl ha
 |nils=>exact plain hcl ha
 |nilm=>exact plain hcl ha
 |nilf=>exact plain hcl ha
 |nili=>exact plain hcl ha
 |_=>trivial
theorem bu2(g:Agr 0 I aa): ∀{ps xs:List AV} {us:List Value} {n:Nat} {es:List SX},(ps.all λp=>tu src mt post p&&BF src.length p&&p.oneA)=true->qZ 1000 base n ps xs=some es->(∀j e,es[j]? =some e->bZ I (Q (n+j))=bZ aa e)->
 ct O aa xs us->(∀i b,src[i]? =some (.whole b)->aq b=O i)->ct aq I (pH (fX src N) (sa Q ps)) us
 | [],xs,us,n,es,hcl,ha,hq,r,ao=>by
   cases xs with
   |nil=>exact r
   |cons a b=>grind[qZ]
 |p::ps,xs,us,n,es,hcl,ha,hq,r,ao=>by
  cases xs with
  |nil=>grind[qZ]
  |cons x xs=>
   simp at hcl;simp[qZ]at ha;split at ha
   .rename_i e1 h1;split at ha
    .rename_i e2 h2;simp at ha;subst ha;obtain⟨v,vr,rfl,r1,r2⟩:=r;refine⟨v,vr,rfl,VD g hcl.1.1.1 hcl.1.1.2 h1 (λj e hj=>hq j e ?_) r1 ao,bu2 g (by simpa using hcl.2) h2 (λj e hj=> ?_) r2 ao⟩
     .have hlt:=(A4.1 hj).1;rw[x6 hlt];exact hj
     .have:=hq (e1.length+j) e (by rw[o7 (E6 _ _),I4];exact hj);rw[show n+e1.length+j=n+(e1.length+j) by omega];exact this
    .cases ha
   grind
theorem cn8(ρ:Nat->Nat): ∀l:List AV,(l.all λp=>tu src mt post p&&BF src.length p&&p.oneA)=true->(pH ρ (sa Q l)).all AV.oneA=true
 | [],_=>rfl
 |a::r,h=>by
  simp at h;simp only[sa,pH,List.all_cons,j6];refine⟨?_,cn8 ρ r (by grind)⟩;have:=h.1.2;cases a<;>simp only[jn,jd]<;>first|exact this|rfl|grind[Pw,cn7]
theorem cn9(g:Agr 0 I aa){L:Loc}{o:Option Obj}{p z x:Blk}(hcl:La src mt post (some p)=true)(ha:pj 1000 base n p z=some es)(hq: ∀j e,es[j]? =some e->bZ I (Q (n+j))=bZ aa e)
 (r:BR O aa L o z) (ao: ∀i b,src[i]? =some (.whole b)->aq b=O i) (hx:ol (fX src N) (oF Q (some p))=some x):BR aq I L o x:=by
 cases p with
 |cells e fz ps=>
  cases z<;>simp only[pj,reduceCtorEq]at ha;obtain⟨h1,h2⟩:=Z2 ha;obtain⟨h1,h4⟩:=Z1 h1;obtain⟨h1,h3⟩:=Z1 h1;obtain rfl:=Z4.1 h1;obtain rfl:=Z4.1 h3;simp[oF,ol,j0]at hx;subst hx;obtain⟨C,lo,hi,vs,q1,q2,q3,q4,q5,q6,q7,q8⟩:=r;have hv:=bu2 (N:=N) g hcl h2 hq q5 ao;have hl:(pH (fX src N) (sa Q ps)).length=vs.length:=hv.length.symm;have hl2:=q5.length;refine⟨C,lo,hi,vs,q1,q2,by omega,cn8 _ _ hcl,hv,by grind,q7,λhh=>q8 (by rw[<-hh];exact g.fix▸rfl)⟩
 |arr e sig l=>
  cases z<;>simp only[pj,reduceCtorEq]at ha;obtain⟨h1,h2⟩:=Z2 ha;obtain⟨h1,h3⟩:=Z1 h1;obtain rfl:=Z4.1 h1;obtain rfl:=mL h3;simp[oF,ol,j0]at hx;have k:dL I (eN 1000 Q l)=dL aa _:=congrArg Val.toL (sV g h2 hcl hq);grind[BR]
 |marr d ks vs l=>
  simp[oF,ol,j0]at hx;subst hx;cases z with
  |marr d' ks' vs' x=>
   obtain⟨h1,h2⟩:=Z2 ha;obtain⟨h5,h1⟩:=Z1 h1;obtain⟨h3,h4⟩:=Z1 h1;obtain rfl:=mL h3;obtain rfl:=mL h4;have k:dL I (eN 1000 Q l)=dL aa x:=congrArg Val.toL (sV g h2 hcl hq);obtain⟨E,c,q1,q2,q3⟩:=r;exact⟨E,c,q1,by grind,q3.weak h5⟩
  |map es' c=>
   cases es' with
   |nil=>
    obtain⟨h5,h2⟩:=Z2 ha;have k:dL I (eN 1000 Q l)=dL aa (.op .row []):=congrArg Val.toL (sV g h2 hcl hq);obtain⟨E,q1,q2⟩:=r;have hE:E.toList=[]:=by generalize E.toList=z at q2;cases q2;rfl
    refine⟨E,_,q1,?_⟩;rw[hE,k];exact⟨rfl,(gP.nil _).weak h5⟩
   |cons e r=>grind[pj]
  |_=>grind[pj]
 |_=>trivial
end
end Go.Ev
namespace Go.Ev
open Go
variable{I aa:Opq}{O ac aq:cq}{K:Nat->Prop}{w0 w w':World}{h h':Heap}
section
variable{Q:Nat->SX}{ρ:Nat->Nat}{m:Nat}
structure Laid (Q:Nat->SX) (ρ:Nat->Nat) (m:Nat) (l:List (Option Blk)) (i:Nat) (h h2:Heap):Prop where
 wm:h2.wm=h.wm
 next:h2.next=h.next+(i+l.length-Nat.max i m)
 get: ∀b y,h2.get b=some y->(∃j x,l[j]? =some x/\i+j<m/\ρ (i+j)=b/\ol ρ (oF Q x)=some y)\/(∃j x,l[j]? =some x/\m<=i+j/\b=h.next+(i+j-Nat.max i m)/\ol ρ (oF Q x)=some y)\/(h.get b=some y/\ ∀j,j<l.length->i+j<m->ρ (i+j)≠b)
 keep: ∀b,b<h.next->(∀j,j<l.length->i+j<m->ρ (i+j)≠b)->h2.get b=h.get b
theorem c63{x:Option Blk}(e:DA x=true): ∃y,ol ρ (oF Q x)=some y:=by
 unfold DA at e;split at e
 .exact⟨_,rfl⟩
 .cases e
theorem Ul: ∀(l:List (Option Blk)) (i:Nat) (h:Heap),(∀j x,l[j]? =some x->m<=i+j->DA x=true)->(∀j,j<l.length->i+j<m->ρ (i+j)<h.next)->Laid Q ρ m l i h (nD ρ Q m l i h)
 | [],i,h,hr,hb=>by
   refine⟨rfl,?_,λb y e=> .inr (.inr ⟨e,λj hj=>by simp at hj⟩),λ_ _ _=>rfl⟩;show h.next=h.next+(i+0-max i m)
   omega
 |x::r,i,h,hr,hb=>by
  by_cases him:i<m
  .
   have hstep:nD ρ Q m (x::r) i h=nD ρ Q m r (i+1) (h.put (ρ i) (ol ρ (oF Q x))):=by
    simp_all[nD,jm,cond_true]
   have ih:=Ul r (i+1) (h.put (ρ i) (ol ρ (oF Q x))) (λj y hj hm=>hr (j+1) y (by grind) (by omega)) (λj hj hm=>by rw[Heap.next_put];have:=hb (j+1) (by simp;omega) (by omega);grind);rw[hstep];have hmax:Nat.max (i+1) m=m:=S2 (by omega);have hmax':Nat.max i m=m:=S2 (by omega);refine⟨ih.wm,?_,λb y e=> ?_,λb hb' hn=> ?_⟩
   .rw[ih.next,Heap.next_put,hmax,hmax',List.length_cons];omega
   .rcases ih.get b y e with⟨j,z,h1,h2,h3,h4⟩|⟨j,z,h1,h2,h3,h4⟩|⟨h1,h2⟩
    .exact .inl ⟨j+1,z,by grind,by omega,by grind,h4⟩
    .refine .inr (.inl ⟨j+1,z,by trivial,by omega,?_,h4⟩);grind[Heap.next_put]
    .rw[Heap.get_put]at h1;by_cases hbi:b=ρ i
     .rw[e8 hbi]at h1;split at h1
      .exact .inl ⟨0,x,rfl,by omega,hbi.symm,h1⟩
      .cases h1
     grind
   .rw[ih.keep b (by simp_all) (λj hj hm=>by rw[show i+1+j=i+(j+1) by omega];exact hn (j+1) (by grind) (by omega)),Heap.get_put,b9];exactλhh=>hn 0 (by simp) him hh.symm
  .obtain⟨z,hz⟩:=c63 (Q:=Q) (ρ:=ρ) (hr 0 x rfl (by omega));have hstep:nD ρ Q m (x::r) i h=nD ρ Q m r (i+1) (h.new z):=by
    simp_all[nD,jv,cond_false]
   have ih:=Ul r (i+1) (h.new z) (λj y hj hm=>hr (j+1) y (by grind) (by omega)) (λj hj hm=>by omega);rw[hstep];have hmax:Nat.max (i+1) m=i+1:=S3 (by omega);have hmax':Nat.max i m=i:=S3 (by omega);refine⟨ih.wm,?_,λb y e=> ?_,λb hb' hn=> ?_⟩
   .rw[ih.next,Heap.next_new,hmax,hmax',List.length_cons];omega
   .rcases ih.get b y e with⟨j,u,h1,h2,h3,h4⟩|⟨j,u,h1,h2,h3,h4⟩|⟨h1,h2⟩
    .omega
    .refine .inr (.inl ⟨j+1,u,by trivial,by omega,?_,h4⟩);grind[Heap.next_new]
    .rw[Heap.get_new]at h1;by_cases hbi:b=h.next
     .rw[e8 hbi]at h1;split at h1
      .simp at h1;subst h1;exact .inr (.inl ⟨0,x,rfl,by omega,by omega,hz⟩)
      .cases h1
     grind
   .rw[ih.keep b (by rw[Heap.next_new];omega) (λj hj hm=>by omega),Heap.get_new,b9 (by omega)]
end
section
variable{m base:Nat}{a:Fr}
theorem ZG{P:Nat->SX->Prop}: ∀{ps:List AV} {t n:Nat} {es:List SX},MJ m base h a ps t n=some es->(∀j e,es[j]? =some e->P (n+j) e)-> ∀k p,ps[k]? =some p-> ∃n' es',Sf m base n' h p (a.slot (t+k))=some es'/\ ∀j e,es'[j]? =some e->P (n'+j) e
 | [],t,n,es,e,hp,k,p,hk=>by simp at hk
 |q::ps,t,n,es,e,hp,k,p,hk=>by
  simp[MJ]at e;split at e
  .rename_i e1 h1;split at e
   .rename_i e2 h2;simp at e;subst e;cases k with
    |zero=>
     grind
    |succ k=>
     obtain⟨n',es',g1,g2⟩:=ZG h2 (λj e hj=>by
      have:=hp (e1.length+j) e (by rw[o7 (E6 _ _),I4];exact hj);rw[show n+e1.length+j=n+(e1.length+j) by omega];exact this) k p hk
     grind
   .cases e
  .cases e
theorem bS3{P:Nat->SX->Prop}: ∀{ps:List (Option Blk)} {i n:Nat} {es:List SX},Ji m base h ps i n=some es->(∀j e,es[j]? =some e->P (n+j) e)-> ∀k p,ps[k]? =some p-> ∃n' es',sH 1000 base n' p (h.get (bif Nat.blt (i+k) m then i+k else base+(i+k-m)))=some es'/\ ∀j e,es'[j]? =some e->P (n'+j) e
 | [],i,n,es,e,hp,k,p,hk=>by simp at hk
 |q::ps,i,n,es,e,hp,k,p,hk=>by
  simp[Ji]at e;split at e
  .rename_i e1 h1;split at e
   .rename_i e2 h2;simp at e;subst e;cases k with
    |zero=>
     grind
    |succ k=>
     obtain⟨n',es',g1,g2⟩:=bS3 h2 (λj e hj=>by
      have:=hp (e1.length+j) e (by rw[o7 (E6 _ _),I4];exact hj);rw[show n+e1.length+j=n+(e1.length+j) by omega];exact this) k p hk
     grind
   .cases e
  .cases e
theorem cK9{x:AV}{v:Value}(hd:dB I (CB h x).1=true)(r:VR O I x v):VR O I (CB h x).2 v:=by
 cases x with
 |ous b len s=>
  cases hg:h.get b with
  |none=>grind[CB]
  |some y=>
   cases y with
   |arr e sig l=>
    simp[CB,hg]at hd⊢;cases hc:SX.beq len (.op .llen [l])with
    |true=>exact r
    |false=>
     rw[hc]at hd;have:dI I len=dI I (.op .llen [l]):=j5 hd;grind[VR]
   |_=>grind[CB]
 |_=>exact r
theorem bu3: ∀{xs:List AV} {vs:List Value},dB I (yT h xs).1=true->ct O I xs vs->ct O I (yT h xs).2 vs
 | [],vs,hd,r=>r
 |x::xs,vs,hd,⟨v,vr,e,p,q⟩=>by
  obtain⟨d1,d2⟩:=Cb hd;exact⟨v,vr,e,cK9 d1 p,bu3 d2 q⟩
theorem co0{pc:PC}(hp:nG I pc): ∀l:List SX,ck I (KG pc l)=ck I l
 | []=>rfl
 |a::r=>by simp[KG,ck,Qc hp,co0 hp r]
theorem dx2{xs:List AV}{us:List Value}(ra:ct O I xs us)(hl:xs.length<=256):dU O I ⟨uM xs 0 TF.empty,xs.length,[],0,[],none⟩ {tmps:=us.toArray,defers:=[]}:=by
 have:=Yb (fn:=0) (nt:=xs.length) ra (by rw[show Nat.max xs.length xs.length=xs.length from Nat.max_self _];exact hl);rw[show Nat.max xs.length xs.length=xs.length from Nat.max_self _,show xs.length-us.toArray.size=0 by rw[K0,ra.length];exact R2 _]at this;grind
end
theorem RZ{src:List BSrc}{mt:Nat}{post:List (Option Blk)}: ∀{l:List (Option Blk)} {i:Nat},yv src mt post l i=true->src.length<=i+l.length/\ ∀j x,l[j]? =some x->(i+j<src.length->La src mt post x=true)/\(src.length<=i+j->DA x=true)
 | [],i,e=>⟨by grind[yv,cW],λj x hx=>by simp at hx⟩
 |x::l,i,e=>by
  simp only[yv]at e;by_cases hi:i<src.length
  .rw[jm hi]at e;simp at e;obtain⟨h1,h2⟩:=RZ e.2;grind
  .rw[jv hi]at e;simp at e;obtain⟨h1,h2⟩:=RZ e.2;grind
theorem Hw{post:List (Option Blk)}{mt m base:Nat}: ∀{l:List AV} {t:Nat} {o:OwnP},o∈wD post mt m base l t->base<=o.blk
 | [],t,o,ho=>by cases ho
 |p::l,t,o,ho=>by
  cases p<;>simp only[wD]at ho<;>try exact Hw ho
  rename_i i x s;cases hm:Nat.ble m i with
  |false=>rw[hm]at ho;exact Hw ho
  |true=>
   rw[hm]at ho;split at ho
   .rcases m8.1 ho with rfl|ho
    .grind
    .exact Hw ho
   .exact Hw ho
mutual
theorem XS{F:AV->AV}(h1: ∀l,F (.agg l)= .agg (l.map F))(h2: ∀l,F (.tup l)= .tup (l.map F))(h3: ∀x,iM x=true->iM (F x)=true): ∀v:AV,iH (F v)=(iH v).map F
 | .agg l=>by rw[h1];rfl
 | .tup l=>by rw[h2];exact bu4 h1 h2 h3 l
 | .bool a=>by rw[gc (h3 _ rfl)];rfl
 | .int a b=>by rw[gc (h3 _ rfl)];rfl
 | .str a=>by rw[gc (h3 _ rfl)];rfl
 | .nilp=>by rw[gc (h3 _ rfl)];rfl
 | .ptr a b=>by rw[gc (h3 _ rfl)];rfl
 | .glob a=>by rw[gc (h3 _ rfl)];rfl
 | .nils=>by rw[gc (h3 _ rfl)];rfl
 | .sl a b c d=>by rw[gc (h3 _ rfl)];rfl
 | .us a b c d=>by rw[gc (h3 _ rfl)];rfl
 | .es a b c=>by rw[gc (h3 _ rfl)];rfl
 | .es0=>by rw[gc (h3 _ rfl)];rfl
 | .nilm=>by rw[gc (h3 _ rfl)];rfl
 | .map a=>by rw[gc (h3 _ rfl)];rfl
 | .nilf=>by rw[gc (h3 _ rfl)];rfl
 | .func a b c=>by rw[gc (h3 _ rfl)];rfl
 | .yield a=>by rw[gc (h3 _ rfl)];rfl
 | .nili=>by rw[gc (h3 _ rfl)];rfl
 | .iface a b=>by rw[gc (h3 _ rfl)];rfl
 | .opq a=>by rw[gc (h3 _ rfl)];rfl
 | .oint a b=>by rw[gc (h3 _ rfl)];rfl
 | .ostr a=>by rw[gc (h3 _ rfl)];rfl
 | .obool a=>by rw[gc (h3 _ rfl)];rfl
 | .osl a b c d=>by rw[gc (h3 _ rfl)];rfl
 | .optr a b c d=>by rw[gc (h3 _ rfl)];rfl
 | .ous a b c=>by rw[gc (h3 _ rfl)];rfl
 | .atl a=>by rw[gc (h3 _ rfl)];rfl
 | .any=>by rw[gc (h3 _ rfl)];rfl
theorem bu4{F:AV->AV}(h1: ∀l,F (.agg l)= .agg (l.map F))(h2: ∀l,F (.tup l)= .tup (l.map F))(h3: ∀x,iM x=true->iM (F x)=true): ∀l:List AV,sJ (l.map F)=(sJ l).map F
 | []=>rfl
 |a::r=>by simp[l9,sJ,n8,XS h1 h2 h3 a,bu4 h1 h2 h3 r]
end
theorem gE{F o v:AV}(h1:iM o=true)(h2:iM F=true)(h:jH o v=true):jH F v=true:=by
 have hv:iM v=true:=by
  cases o<;>first
   |(exfalso;simp[iM]at h1;done)
   |(simp[jH]at h;cases v<;>first|rfl|grind)
 cases F<;>first
  |(exfalso;simp[iM]at h2;done)
  |(cases v<;>first|rfl|trivial)
mutual
theorem WA{F:AV->AV}(h1: ∀l,F (.agg l)= .agg (l.map F))(h2: ∀l,F (.tup l)= .tup (l.map F))(h3: ∀x,iM x=true->iM (F x)=true): ∀(o v:AV),jH o v=true->jH (F o) v=true
 | .agg l,v,h=>by
   simp_all[jH,k6]
 | .tup l,v,h=>by
   rw[h2];simp[jH]at h⊢;split at h
   .exact co1 h1 h2 h3 l _ h
   .cases h
 | .bool a,v,h=>gE rfl (h3 _ rfl) h
 | .int a b,v,h=>gE rfl (h3 _ rfl) h
 | .str a,v,h=>gE rfl (h3 _ rfl) h
 | .nilp,v,h=>gE rfl (h3 _ rfl) h
 | .ptr a b,v,h=>gE rfl (h3 _ rfl) h
 | .glob a,v,h=>gE rfl (h3 _ rfl) h
 | .nils,v,h=>gE rfl (h3 _ rfl) h
 | .sl a b c d,v,h=>gE rfl (h3 _ rfl) h
 | .us a b c d,v,h=>gE rfl (h3 _ rfl) h
 | .es a b c,v,h=>gE rfl (h3 _ rfl) h
 | .es0,v,h=>gE rfl (h3 _ rfl) h
 | .nilm,v,h=>gE rfl (h3 _ rfl) h
 | .map a,v,h=>gE rfl (h3 _ rfl) h
 | .nilf,v,h=>gE rfl (h3 _ rfl) h
 | .func a b c,v,h=>gE rfl (h3 _ rfl) h
 | .yield a,v,h=>gE rfl (h3 _ rfl) h
 | .nili,v,h=>gE rfl (h3 _ rfl) h
 | .iface a b,v,h=>gE rfl (h3 _ rfl) h
 | .opq a,v,h=>gE rfl (h3 _ rfl) h
 | .oint a b,v,h=>gE rfl (h3 _ rfl) h
 | .ostr a,v,h=>gE rfl (h3 _ rfl) h
 | .obool a,v,h=>gE rfl (h3 _ rfl) h
 | .osl a b c d,v,h=>gE rfl (h3 _ rfl) h
 | .optr a b c d,v,h=>gE rfl (h3 _ rfl) h
 | .ous a b c,v,h=>gE rfl (h3 _ rfl) h
 | .atl a,v,h=>gE rfl (h3 _ rfl) h
 | .any,v,h=>gE rfl (h3 _ rfl) h
theorem co1{F:AV->AV}(h1: ∀l,F (.agg l)= .agg (l.map F))(h2: ∀l,F (.tup l)= .tup (l.map F))(h3: ∀x,iM x=true->iM (F x)=true): ∀(o v:List AV),sQ o v=true->sQ (o.map F) v=true
 | [],v,h=>h
 |a::r,v,h=>by
  simp[sQ,l9]at h⊢;split at h
  .rw[j6]at h⊢;exact⟨WA h1 h2 h3 a _ h.1,co1 h1 h2 h3 r _ h.2⟩
  .cases h
end
theorem Vl(Q:Nat->SX): ∀l:List AV,sa Q l=l.map (jn Q)
 | []=>rfl
 |a::r=>by simp[sa,l9,Vl Q r]
theorem SQ(ρ:Nat->Nat): ∀l:List AV,pH ρ l=l.map (jd ρ)
 | []=>rfl
 |a::r=>by simp[pH,l9,SQ ρ r]
theorem WQ{F:AV->AV}: ∀{ps:List AV} {us:List Value},ps.length=us.length->(∀(k:Nat) (p:AV) (u:Value),ps[k]? =some p->us[k]? =some u->VR O I (F p) u)->ct O I (ps.map F) us
 | [],[],_,_=>rfl
 | [],_::_,h,_=>by cases h
 |_::_,[],h,_=>by cases h
 |p::ps,u::us,h,hk=>⟨u,us,rfl,hk 0 p u rfl rfl,WQ (by grind) (λk q v h1 h2=>hk (k+1) q v (by grind) (by grind))⟩
end Go.Ev
