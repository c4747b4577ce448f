import Derived.Test.YtipefnncbnbliaaGreatE28
set_option linter.unusedSimpArgs false
set_option linter.unusedVariables false
namespace Go.Ev
open Go
variable{sig:List CT}{l nd:SX}{x:AV}{elem:Nat}
variable{I:Opq}{O:bY}{K:Nat->Prop}{w0 w:World}{h:Heap}
theorem CP(I:Opq): ∀l:List SX,Z6 I l=l.map (bU I)
 | []=>rfl
 |a::r=>by simp[Z6,m8,CP I r]
mutual
theorem Eb{es:List SX}: ∀e:SX,fA es.length e=true->bU I (ky es e)=bU (I.upd 0 (Z6 I es)) e
 | .ci _,_=>rfl
 | .cs _,_=>rfl
 | .cb _,_=>rfl
 | .va n,h=>by
   simp[fA,dQ]at h;simp[ky];have:=uV (I:=I) (v0:=0) (l:=Z6 I es) (j:=n) (x:=bU I es[n]) (by rw[CP,B9,k9 h];rfl);simp_all[l9,Option.getD_some,bU]
 | .op p l,h=>by
   simp[ky,bU];rw[OL l h]
 | .app f l,h=>by
   simp[ky,bU];rw[OL l h];rfl
theorem OL{es:List SX}: ∀l:List SX,qp es.length l=true->Z6 I (DN es l)=Z6 (I.upd 0 (Z6 I es)) l
 | [],_=>rfl
 |a::r,h=>by
  simp[qp,j7]at h;simp only[DN,Z6];rw[Eb a h.1,OL r h.2]
end
noncomputable def kU(O:bY)(I:Opq)(sz:Nat)(x:AV):Option Loc:=match x with
 | .osl b off len _=>if 0<dI I len then(O b).map λL=>⟨L.blk,L.off+(dI I off).toNat*sz,(dI I len).toNat*sz⟩else none
 | .ous b len _=>if 0<dI I len then(O b).map λL=>⟨L.blk,L.off,(dI I len).toNat*sz⟩else none
 | .sl b o n _=>if 0<n then(O b).map λL=>⟨L.blk,L.off+o,n*sz⟩else none
 | .us b o n _=>if 0<n then(O b).map λL=>⟨L.blk,L.off+o,n*sz⟩else none
 |_=>none
theorem Zl{e:Nat}{lx:SX}{L:Loc}{o:Option Obj}{p n:Nat}(r:BR O I L o (.arr e sig l))(hp:p+n<=(dL I l).length)(hl:dL I lx=((dL I l).drop p).take n):
 BR O I ⟨L.blk,L.off+p*sig.length,n*sig.length⟩ o (.arr e sig lx):=by
 obtain⟨C,e',lo,hi,q1,q0,q2,q3,q4,q5⟩:=r;have hle:(p+n)*sig.length<=(dL I l).length*sig.length:=A2 _ hp;rw[s8]at hle;have hn:(dL I lx).length=n:=by grind
 refine⟨C,e',lo,hi,q1,q0,by grind,by grind,λi v hv=> ?_,λi hq=> ?_⟩
 .show C[L.off+p*sig.length+i]? =some v;rw[hl]at hv;rw[show L.off+p*sig.length+i=L.off+(p*sig.length+i) by omega];apply q4;have e1:dL I l=(dL I l).take p++(((dL I l).drop p).take n++((dL I l).drop p).drop n):=by
   rw[x7,x7]
  rw[e1,BK,BK];have hl1:(cE sig ((dL I l).take p)).length=p*sig.length:=by rw[iJ,k8];congr 1;omega
  rw[m9 (by omega),hl1,show p*sig.length+i-p*sig.length=i by omega];grind
 .have hq:i<n*sig.length:=hq;have:=q5 (p*sig.length+i) (by omega);grind
theorem Jc{e fz:Nat}{cs:List AV}{lx:SX}{rs:List SX}{L:Loc}{o:Option Obj}{p n:Nat}(r:BR O I L o (.cells e fz cs))(hf:fz<=p)(hp:p+n*sig.length<=cs.length)
 (hrs:mN sig sig.length n ((cs.drop p).take (n*sig.length))=some rs) (hl:dL I lx=Z6 I rs):BR O I ⟨L.blk,L.off+p,n*sig.length⟩ o (.arr e sig lx)/\(dL I lx).length=n:=by
 obtain⟨C,lo,hi,vs,q1,q2,q3,q4,q5,q6,q7,q8⟩:=r;have hsub:cj O I ((cs.drop p).take (n*sig.length)) ((vs.drop p).take (n*sig.length)):=(q5.drop _).take _;obtain⟨z1,z2⟩:=vg hrs (by grind) hsub;refine⟨⟨C,_,lo,hi,q1,.inl rfl,by grind,by grind,λi v hv=> ?_,λi hq=> ?_⟩,by grind⟩
 .grind
 .have hq:i<n*sig.length:=hq;have:=q7 (p+i) (by omega) (by omega);grind
theorem AD{a b:SX}(h:dB I (gZ a b)=true):dB I a=true/\dB I b=true:=by
 simp_all[RN,j7]
structure ViewOk (O:bY) (I:Opq) (w:World) (h:Heap) (elem:Nat) (sig:List CT) (x:AV) (v:Value) (l:SX):Prop where
 br: ∀L,kU O I sig.length x=some L->BR O I L w.heap[L.blk]? (.arr elem sig l)
 sl:VR O I x v->(∃L cap a,kU O I sig.length x=some L/\v= .slice (some a) (dL I l).length cap/\(dL I l).length<=cap/\a=⟨L.blk,L.off,none⟩)\/((dL I l).length=0/\ ∃a cap,v= .slice a 0 cap/\(a=none->cap=0))
theorem bI7{sz:Nat}{L:Loc}(e:kU O I sz x=some L): ∃b M,kh (.view x)=some b/\O b=some M/\M.blk=L.blk:=by
 unfold kU at e;split at e;all_goals first
  |(split at e
    .obtain⟨M,hM,rfl⟩:=o9.1 e;exact⟨_,M,rfl,hM,rfl⟩
    .cases e)
  |cases e
theorem c89{sz:Nat}{b:Nat}(e:Gy sz elem sig x h=some (nd,l))(hb:kh (.view x)=some b): ∃y,h.get b=some y:=by
 cases x<;>simp only[kh,j0,reduceCtorEq]at hb<;>subst hb<;>simp only[Gy]at e<;>split at e<;>first|(rename_i hg;exact⟨_,hg⟩)|cases e
theorem cP2(r:HR O I K w0 h w){v:Value}(e:Gy sig.length elem sig x h=some (nd,l))(hd:dB I nd=true):ViewOk O I w h elem sig x v l:=by
 unfold Gy at e;split at e
 .obtain⟨rfl,rfl⟩:=e;exact⟨λL hL=>by simp[kU,reduceCtorEq]at hL,λrv=> .inr ⟨rfl,none,0,rv,λ_=>rfl⟩⟩
 .rename_i b len s;split at e
  .rename_i e0 sg l0 hg;replace e:=W6 e;obtain⟨hc,e⟩:=e;obtain⟨hc,c3⟩:=W5 hc;obtain⟨c1,c2⟩:=W5 hc;obtain rfl:=Z1.1 c1;obtain rfl:=Z1.1 c2;obtain rfl:=kO c3;have main:0<=dI I len->(dI I len).toNat<=(dL I l0).length->dL I l=(dL I l0).take (dI I len).toNat->ViewOk O I w h e0 sg (.ous b len sg.length) v l:=by
    intro h0 hle hl;have hll:(dL I l).length=(dI I len).toNat:=by rw[hl,k8];omega
    constructor
    .intro L hL;simp only[kU]at hL;split at hL
     .obtain⟨M,hM,rfl⟩:=o9.1 hL;have:=Zl (p:=0) (n:=(dI I len).toNat) (lx:=l) (r.blk b _ M hg hM) (by omega) (by simpa using hl);simpa using this
     .cases hL
    .intro rv;rcases rv with⟨L,cap,hL,hcap,hv,hlc⟩|⟨hv,hz⟩
     .by_cases hp:0<dI I len
      .refine .inl ⟨⟨L.blk,L.off,(dI I len).toNat*sg.length⟩,cap,_,?_,by rw[hll];exact hv,by rw[hll];exact hlc,rfl⟩;simp[kU,e8 hp,hL,Option.map_some]
      .refine .inr ⟨by omega,some ⟨L.blk,L.off,none⟩,cap,?_,λhh=>(by cases hh)⟩;rw[hv,show(dI I len).toNat=0 by omega]
     .exact .inr ⟨by rw[hll,hz];rfl,none,0,hv,λ_=>rfl⟩
   cases hq:SX.beq len (.op .llen [l0])with
   |true=>
    rw[hq]at e;simp at e;obtain⟨rfl,rfl⟩:=e;have hlen:=SX.beq_eq _ _ hq;have:dI I len=((dL I l0).length:Int):=by rw[hlen,mO]
    refine main (by omega) (by omega) ?_;rw[this];simp
   |false=>
    rw[hq]at e;obtain⟨rfl,rfl⟩:=e;rw[ub,j7]at hd;have d1:0<=dI I len:=j6 hd.1;have d2:dI I len<=((dL I l0).length:Int):=j6 hd.2;refine main d1 (by omega) ?_;show((dL I l0).drop (0:Int).toNat).take (dI I len-0).toNat=_;simp
  .cases e
 .rename_i b off len s;split at e
  .rename_i e0 sg l0 hg;replace e:=W6 e;obtain⟨hc,e⟩:=e;obtain⟨hc,c3⟩:=W5 hc;obtain⟨c1,c2⟩:=W5 hc;obtain rfl:=Z1.1 c1;obtain rfl:=Z1.1 c2;obtain rfl:=kO c3;have main:0<=dI I off->0<=dI I len->(dI I off).toNat+(dI I len).toNat<=(dL I l0).length->dL I l=((dL I l0).drop (dI I off).toNat).take (dI I len).toNat->ViewOk O I w h e0 sg (.osl b off len sg.length) v l:=by
    intro h1 h0 hle hl;have hll:(dL I l).length=(dI I len).toNat:=by rw[hl,k8,F8];omega
    constructor
    .intro L hL;simp only[kU]at hL;split at hL
     .obtain⟨M,hM,rfl⟩:=o9.1 hL;exact Zl (r.blk b _ M hg hM) hle hl
     .cases hL
    .intro rv;rcases rv with⟨L,cap,a,hL,hv,hlc,ha⟩|⟨a,cap,hv,hac,hz⟩
     .by_cases hp:0<dI I len
      .refine .inl ⟨⟨L.blk,L.off+(dI I off).toNat*sg.length,(dI I len).toNat*sg.length⟩,cap,a,?_,by rw[hll];exact hv,by rw[hll];exact hlc,ha hp⟩;simp[kU,e8 hp,hL,Option.map_some]
      .refine .inr ⟨by omega,some a,cap,?_,λhh=>(by cases hh)⟩;rw[hv,show(dI I len).toNat=0 by omega]
     .exact .inr ⟨by rw[hll,hz];rfl,a,cap,hv,hac⟩
   cases hq:(SX.beq off (.ci 0)&&SX.beq len (.op .llen [l0]))with
   |true=>
    rw[hq]at e;simp at e;obtain⟨rfl,rfl⟩:=e;rw[j7]at hq;have ho:=SX.beq_eq _ _ hq.1;have hlen:=SX.beq_eq _ _ hq.2;have t1:dI I len=((dL I l0).length:Int):=by rw[hlen,mO]
    have t2:dI I off=0:=by rw[ho,rN]
    refine main (by omega) (by omega) (by omega) ?_;rw[t1,t2];simp
   |false=>
    rw[hq]at e;obtain⟨rfl,rfl⟩:=e;rw[ub,ub,j7,j7]at hd;have d1:0<=dI I off:=j6 hd.1;have d2:0<=dI I len:=j6 hd.2.1;have d3:dI I off+dI I len<=((dL I l0).length:Int):=j6 hd.2.2;refine main d1 d2 (by omega) ?_;show((dL I l0).drop (dI I off).toNat).take (dI I off+dI I len-dI I off).toNat=_;congr 2;omega
  .cases e
 .rename_i b o n c;split at e
  .rename_i e0 fz cs hg;replace e:=W6 e;obtain⟨hc,e⟩:=e;obtain⟨hc,c5⟩:=W5 hc;obtain⟨hc,c4⟩:=W5 hc;obtain⟨hc,c3⟩:=W5 hc;obtain⟨c1,c2⟩:=W5 hc;obtain rfl:=Z1.1 c1;rw[Z5]at c2 c3 c4;rw[dQ]at c5;unfold Kv at e;split at e
   .rename_i rs hrs;obtain⟨rfl,rfl⟩:=e;constructor
    .intro M hM;simp only[kU,e8 c5]at hM;obtain⟨L,hL,rfl⟩:=o9.1 hM;exact(Jc (lx:= .op .row rs) (r.blk b _ L hg hL) c3 c4 hrs rfl).1
    .intro rv;obtain⟨L,hL,hv⟩:=rv;obtain⟨p1,p2⟩:=Jc (lx:= .op .row rs) (r.blk b _ L hg hL) c3 c4 hrs rfl;refine .inl ⟨⟨L.blk,L.off+o,n*sig.length⟩,c,_,?_,by rw[p2];exact hv,by rw[p2];exact c2,rfl⟩;simp[kU,e8 c5,hL,Option.map_some]
   .cases e
  .cases e
 .rename_i b o n s;split at e
  .rename_i e0 fz cs hg;replace e:=W6 e;obtain⟨hc,e⟩:=e;obtain⟨hc,c4⟩:=W5 hc;obtain⟨hc,c3⟩:=W5 hc;obtain⟨hc,c1⟩:=W5 hc;obtain⟨cz,c0⟩:=W5 hc;obtain rfl:=Z1.1 c0;obtain rfl:=Z1.1 c1;rw[dQ]at cz;rw[Z5]at c3 c4;unfold Kv at e;split at e
   .rename_i rs hrs;obtain⟨rfl,rfl⟩:=e;constructor
    .intro M hM;simp only[kU]at hM;split at hM
     .obtain⟨L,hL,rfl⟩:=o9.1 hM;exact(Jc (lx:= .op .row rs) (r.blk b _ L hg hL) c3 c4 hrs rfl).1
     .cases hM
    .intro rv;obtain⟨L,cap,hL,hcap,hv⟩:=rv;have hbr:=r.blk b _ L hg hL;obtain⟨p1,p2⟩:=Jc (lx:= .op .row rs) hbr c3 c4 hrs rfl;by_cases hp:0<n
     .refine .inl ⟨⟨L.blk,L.off+o,n*sig.length⟩,cap,_,?_,by rw[p2];exact hv,?_,rfl⟩
      .simp[kU,e8 hp,hL,Option.map_some]
      .rw[p2];obtain⟨_,_,_,_,_,_,q3,_⟩:=hbr;have:n*sig.length<=cap*sig.length:=by omega
       exact D6 this cz
     .refine .inr ⟨by omega,some ⟨L.blk,L.off+o,none⟩,cap,?_,λhh=>(by cases hh)⟩;rw[hv,show n=0 by omega]
   .cases e
  .cases e
 .cases e
theorem c90{sz:Nat}{b:Nat}(e:BC sz elem sig x h=some (nd,l))(hb:kh (.view x)=some b): ∃y,h.get b=some y:=c89 e hb
theorem bV5(r:HR O I K w0 h w){v:Value}(e:BC sig.length elem sig x h=some (nd,l))(hd:dB I nd=true):ViewOk O I w h elem sig x v l:=by
 have:=cP2 (v:=v) r e hd;refine⟨λL hL=> ?_,this.sl⟩;obtain⟨C,e',lo,hi,q1,q0,q⟩:=this.br L hL;refine⟨C,e',lo,hi,q1,?_,q⟩;grind[d04,Nat.beq,iD,Z1]
theorem dB2(r:HR O I K w0 h w)(e:BC sig.length elem sig x h=some (nd,l))(hd:dB I nd=true)(L:Loc)(hL:kU O I sig.length x=some L):BR O I L w.heap[L.blk]? (.arr elem sig l):=
 (bV5 (v:= .bool true) r e hd).br L hL
end Go.Ev
namespace Go.Ev
open Go
variable{v:Value}{x:AV}{i:Nat}
variable{I aa:Opq}{O aw:bY}{K:Nat->Prop}{w0 w:World}{h:Heap}
def dB3:Option Blk->Nat
 |some (.arr _ sig _)=>sig.length
 |_=>0
noncomputable def na(O:bY)(I:Opq)(src:List BSrc)(blks:List Blk):bY:=λi=>match src[i]? with
 |some (.whole b)=>O b
 |some (.view x)=>kU O I (dB3 blks[i]?) x
 |none=>none
theorem kc{p:AV}(hp:uD p=true)(r:VR O I p v):VR aw aa p v:=by
 cases p<;>simp only[uD,n8]at hp<;>exact r
theorem ER{s:Option BSrc}{b:Nat}(e:xh s b=true):s=some (.whole b):=by
 unfold xh at e;grind[Z1]
theorem bI8{s:Option BSrc}(e:TT s x=true):s=some (.view x):=by
 unfold TT at e;grind[AV.beq_eq]
section
variable{src:List BSrc}{es:List SX}{blks:List Blk}{nb:Nat}
theorem AC{p x:SX}(ae:aa=I.upd 0 (Z6 I es))(hf:fA es.length p=true)(e:SX.beq (ky es p) x=true):bU aa p=bU I x:=by
 grind[Eb,SX.beq_eq]
theorem cP3(I:Opq)(e:SX):bU I (UI e)=bU I e:=by
 unfold UI;split
 .rename_i l k;split
  .rename_i x hx;have:(Z6 I l)[k]? =some (bU I x):=by
    rw[CP,B9,hx];rfl
   show bU I x=(Z6 I l).getD k default;grind
  .rfl
 .rfl
theorem Hi{p x:SX}(ae:aa=I.upd 0 (Z6 I es))(hf:fA es.length p=true)(e:Dy es p x=true):bU aa p=bU I x:=by
 rw[ae,<-Eb p hf,<-cP3,SX.beq_eq _ _ e]
theorem cP4(ae:aa=I.upd 0 (Z6 I es))(hw: ∀i b,src[i]? =some (.whole b)->aw i=O b){s:Nat}{p q:SX}(f1:fA es.length p=true)(f2:fA es.length q=true)(e:Ox src es i p q s x=true)(rv:VR O I x v):VR aw aa (.osl i p q s) v:=by
 unfold Ox at e;split at e
 .obtain⟨e,e4⟩:=W5 e;obtain⟨e,e3⟩:=W5 e;obtain⟨e1,e2⟩:=W5 e;obtain rfl:=Z1.1 e1;have k1:dI aa p=dI I _:=congrArg Val.toI (Hi ae f1 e3);have k2:dI aa q=dI I _:=congrArg Val.toI (Hi ae f2 e4);grind[VR,ER]
 .cases e
theorem cP5(ae:aa=I.upd 0 (Z6 I es))(hw: ∀i b,src[i]? =some (.whole b)->aw i=O b){s:Nat}{q:SX}(f2:fA es.length q=true)(e:Qe src es i q s x=true)(rv:VR O I x v):VR aw aa (.ous i q s) v:=by
 unfold Qe at e;split at e
 .obtain⟨e,e4⟩:=W5 e;obtain⟨e1,e2⟩:=W5 e;obtain rfl:=Z1.1 e1;have k2:dI aa q=dI I _:=congrArg Val.toI (AC ae f2 e4);grind[VR,ER]
 .cases e
theorem cP6(hw: ∀i b,src[i]? =some (.whole b)->aw i=O b){o:Nat}(e:Tr src i o x=true)(rv:VR O I x v):VR aw aa (.ptr i o) v:=by
 unfold Tr at e;split at e
 .obtain⟨e1,e2⟩:=W5 e;obtain rfl:=Z1.1 e1;grind[VR,ER]
 .cases e
theorem cP7(hw: ∀i b,src[i]? =some (.whole b)->aw i=O b)(e:Pa src i x=true)(rv:VR O I x v):VR aw aa (.map i) v:=by
 unfold Pa at e;grind[VR,ER]
theorem df3(hw: ∀i b,src[i]? =some (.whole b)->aw i=O b){o n c:Nat}(e:Qk src i o n c x=true)(rv:VR O I x v):VR aw aa (.sl i o n c) v:=by
 unfold Qk at e;split at e
 .obtain⟨e,e2⟩:=W5 e;obtain⟨e,e4⟩:=W5 e;obtain⟨e1,e3⟩:=W5 e;obtain rfl:=Z1.1 e1;obtain rfl:=Z1.1 e3;obtain rfl:=Z1.1 e4;grind[VR,ER]
 .cases e
theorem dB4(ae:aa=I.upd 0 (Z6 I es)){k:IntKind}{p:SX}(f:fA es.length p=true)(e:Th es k p (jn x)=true)(rv:VR O I x v):v= .int k (dI aa p):=by
 unfold Th at e;split at e
 .rename_i k' x' hx;obtain⟨e1,e2⟩:=W5 e;obtain rfl:=j6 e1;rw[rW hx rv];exact congrArg (λz:Val=>Value.int k z.toI) (Hi ae f e2).symm
 .cases e
mutual
theorem d05(ae:aa=I.upd 0 (Z6 I es))(hw: ∀i b,src[i]? =some (.whole b)->aw i=O b)(hv: ∀i s p q x v,yL p q=true->Hg blks i s q=true->src[i]? =some (.view x)->VR O I x v->VR aw aa (.osl i p q s) v):
 ∀(p x:AV) (v:Value),fj es.length nb p=true->fy src es blks p x=true->VR O I x v->VR aw aa p v
 | .oint k p,x,v,f,e,r=>by exact dB4 ae f e r
 | .ostr p,x,v,f,e,r=>by
   simp[fy]at e;unfold IP at e;split at e
   .rename_i y hy;rw[yv hy r];exact congrArg (λz:Val=>Value.string ⟨z.toS.toArray⟩) (Hi ae f e).symm
   .cases e
 | .obool p,x,v,f,e,r=>by
   simp[fy]at e;unfold IP at e;split at e
   .rename_i y hy;rw[vn hy r];exact congrArg (λz:Val=>Value.bool z.toB) (Hi ae f e).symm
   .cases e
 | .agg ps,x,v,f,e,r=>by
   simp[fy]at e;split at e
   .obtain⟨us,rfl,ru⟩:=r;exact⟨us,rfl,Cg ae hw hv ps _ _ f e ru⟩
   .cases e
 | .iface t p,x,v,f,e,r=>by
   simp[fy]at e;split at e
   .obtain⟨e1,e2⟩:=W5 e;obtain rfl:=Z1.1 e1;obtain⟨y,rfl,ry⟩:=r;exact⟨y,rfl,d05 ae hw hv p _ _ f e2 ry⟩
   .cases e
 | .func fn a b,x,v,f,e,r=>by
   simp[fj,j7]at f;simp[fy]at e;split at e
   .obtain⟨e,e3⟩:=W5 e;obtain⟨e1,e2⟩:=W5 e;obtain rfl:=j6 e1;obtain⟨n,y,z,rfl,r1,r2⟩:=r;exact⟨n,y,z,rfl,Cg ae hw hv a _ _ f.1 e2 r1,Cg ae hw hv b _ _ f.2 e3 r2⟩
   .cases e
 | .ptr i o,x,v,f,e,r=>by grind[fy,cP6]
 | .osl i p q s,x,v,f,e,r=>by
   simp[fj,j7]at f;simp only[fy]at e;cases hq:yL p q with
   |true=>
    grind[bI8]
   |false=>
    grind[cP4]
 | .ous i q s,x,v,f,e,r=>by
   simp[fj,j7]at f;grind[fy,cP5]
 | .bool _,x,v,f,e,r=>by simp[fy]at e;grind[AV.beq_eq,kc]
 | .int _ _,x,v,f,e,r=>by simp[fy]at e;grind[AV.beq_eq,kc]
 | .str _,x,v,f,e,r=>by simp[fy]at e;grind[AV.beq_eq,kc]
 | .nilp,x,v,f,e,r=>by simp[fy]at e;grind[AV.beq_eq,kc]
 | .glob _,x,v,f,e,r=>by simp[fy]at e;grind[AV.beq_eq,kc]
 | .nils,x,v,f,e,r=>by simp[fy]at e;grind[AV.beq_eq,kc]
 | .sl _ _ _ _,x,v,f,e,r=>by grind[fy,df3]
 | .us _ _ _ _,x,v,f,e,r=>by simp[fy]at e;grind[AV.beq_eq,kc]
 | .es _ _ _,x,v,f,e,r=>by simp[fy]at e;grind[AV.beq_eq,kc]
 | .es0,x,v,f,e,r=>by simp[fy]at e;grind[AV.beq_eq,kc]
 | .nilm,x,v,f,e,r=>by simp[fy]at e;grind[AV.beq_eq,kc]
 | .map i,x,v,f,e,r=>by grind[fy,cP7]
 | .nilf,x,v,f,e,r=>by simp[fy]at e;grind[AV.beq_eq,kc]
 | .yield _,x,v,f,e,r=>by simp[fy]at e;grind[AV.beq_eq,kc]
 | .nili,x,v,f,e,r=>by simp[fy]at e;grind[AV.beq_eq,kc]
 | .tup _,x,v,f,e,r=>by simp[fy]at e;grind[AV.beq_eq,kc]
 | .opq _,x,v,f,e,r=>by simp[fy]at e;grind[AV.beq_eq,kc]
 | .optr _ _ _ _,x,v,f,e,r=>by simp[fy]at e;grind[AV.beq_eq,kc]
 | .atl _,x,v,f,e,r=>by simp[fy]at e;grind[AV.beq_eq,kc]
 | .any,x,v,f,e,r=>trivial
theorem Cg(ae:aa=I.upd 0 (Z6 I es))(hw: ∀i b,src[i]? =some (.whole b)->aw i=O b)(hv: ∀i s p q x v,yL p q=true->Hg blks i s q=true->src[i]? =some (.view x)->VR O I x v->VR aw aa (.osl i p q s) v):
 ∀(ps xs:List AV) (vs:List Value),oj es.length nb ps=true->si src es blks ps xs=true->cj O I xs vs->cj aw aa ps vs
 | [],xs,vs,f,e,r=>by
   simp[si]at e;split at e
   .exact r
   .cases e
 |p::ps,xs,vs,f,e,r=>by
  simp[oj,j7]at f;simp[si]at e;split at e
  .obtain⟨e1,e2⟩:=W5 e;obtain⟨v,vr,rfl,r1,r2⟩:=r;exact⟨v,vr,rfl,d05 ae hw hv p _ v f.1 e1 r1,Cg ae hw hv ps _ vr f.2 e2 r2⟩
  .cases e
end
end
theorem Wc: ∀(l:List Blk) (h:Heap),h.next+l.length<=65536->(∀b,h.next<=b->h.get b=none)->(ic l h).next=h.next+l.length/\(ic l h).wm=h.wm/\ ∀b,(ic l h).get b=if b<h.next then h.get b else l[b-h.next]?
 | [],h,_,hf=>⟨rfl,rfl,λb=>by
  grind[ic]⟩
 |x::r,h,hl,hf=>by
  simp at hl;obtain⟨h1,h2,h3⟩:=Wc r (h.new x) (by simp;omega) (λb hb=>by
   simp at hb;rw[Heap.get_new,b9 (by omega)];exact hf b (by omega))
  refine⟨by simp[ic,h1,Heap.next_new,List.length_cons];omega,by simp[ic,h2,Heap.wm_new],λb=> ?_⟩;simp[ic,h3,Heap.next_new,Heap.get_new];grind
@[simp]theorem Heap.get_setwm(h:Heap)(n b:Nat):(h.setwm n).get b=h.get b:=by rfl
@[simp]theorem Heap.next_setwm(h:Heap)(n:Nat):(h.setwm n).next=h.next:=by rfl
@[simp]theorem Heap.wm_setwm(h:Heap)(n:Nat):(h.setwm n).wm=n:=by rfl
theorem FC.heap_ok(c:FC)(hl:c.blks.length<60000):c.heap.next=c.blks.length/\c.heap.wm=c.mt/\ ∀b,c.heap.get b=c.blks[b]? :=by
 obtain⟨h1,h2,h3⟩:=Wc c.blks Heap.empty (by show 0+_<=_;omega) (λb _=>Heap.get_empty b);refine⟨by unfold FC.heap;rw[Heap.next_setwm,h1];exact Nat.zero_add _,by unfold FC.heap;rw[Heap.wm_setwm],λb=> ?_⟩;unfold FC.heap;rw[Heap.get_setwm,h3];rfl
def Qi(O:bY)(src:List BSrc)(mt:Nat)(w:World)(k:Nat):Prop:=k<w.heap.size/\ ∀i b L,mt<=i->src[i]? =some (.whole b)->O b=some L->k≠L.blk
section
variable{src:List BSrc}{es:List SX}{blks:List Blk}{mt:Nat}{args:List AV}
theorem DG: ∀{ps:List Blk} {ss:List BSrc} {nd:SX},Ht src es blks h ps ss=some nd->dB I nd=true->ps.length=ss.length/\ ∀(i:Nat) (p:Blk) (s:BSrc),ps[i]? =some p->ss[i]? =some s-> ∃e,sI src es blks h p s=some e/\dB I e=true
 | [],[],nd,e,hd=>⟨rfl,λi p s h1=>by simp at h1⟩
 | [],_::_,nd,e,hd=>by cases e
 |_::_,[],nd,e,hd=>by cases e
 |p::ps,s::ss,nd,e,hd=>by
  simp[Ht]at e;split at e
  .rename_i a b ha hb;simp at e;subst e;obtain⟨d1,d2⟩:=AD hd;obtain⟨l1,l2⟩:=DG hb d2;grind
  .cases e
theorem cs1{blks:List Blk}{mt:Nat}{i:Nat}{s:BSrc}: ∀{r:List BSrc} {j:Nat},KZ blks mt h i s r j=true-> ∀k t,r[k]? =some t->EG blks mt h i (j+k) (kh s) (kh t)=true
 | [],j,e,k,t,hk=>by simp at hk
 |u::r,j,e,k,t,hk=>by
  simp[KZ,j7]at e;cases k with
  |zero=>grind
  |succ k=>
   rw[show j+(k+1)=j+1+k by omega];exact cs1 e.2 k t hk
theorem Sp{blks:List Blk}{mt:Nat}: ∀{ss:List BSrc} {i:Nat},seps blks mt h ss i=true-> ∀a b s t,a<b->ss[a]? =some s->ss[b]? =some t->EG blks mt h (i+a) (i+b) (kh s) (kh t)=true
 | [],i,e,a,b,s,t,hab,ha,hb=>by simp at ha
 |u::r,i,e,a,b,s,t,hab,ha,hb=>by
  simp[seps,j7]at e;obtain⟨b,rfl⟩: ∃b',b=b'+1:=⟨b-1,by omega⟩;cases a with
  |zero=>
   have:=cs1 e.1 b t hb;grind
  |succ a=>
   have:=Sp e.2 a b s t (by omega) ha hb;grind
theorem Jo{b:Nat}: ∀{l:List AV} {vs:List Value},As b l=true->cj O I l vs->O b≠none
 | [],vs,e,r=>by cases e
 |x::l,vs,e,⟨v,vr,_,r1,r2⟩=>by
  simp[As,s7]at e;rcases e with e|e
  .split at e
   .obtain rfl:=Z1.1 e;obtain⟨L,hL,_⟩:=r1;grind
   .obtain rfl:=Z1.1 e;obtain⟨L,hL,_⟩:=r1;grind
   .cases e
  .exact Jo e r2
theorem cP8(r:HR O I K w0 h w){b c:Nat}(hc:O c≠none)(e:Tk h b c=true):O b≠none:=by
 unfold Tk at e;split at e
 .rename_i hg;cases hL:O c with
  |none=>grind
  |some L=>
   obtain⟨C,lo,hi,vs,_,_,_,_,q5,_⟩:=r.cells hg hL;exact Jo e q5
 .cases e
theorem Vx(r:HR O I K w0 h w){us:List Value}(ra:cj O I args us){b:Nat}: ∀{l:List BSrc},Mk args h b l=true->O b≠none
 | [],e=>by cases e
 |s::l,e=>by
  simp[Mk,s7]at e;rcases e with e|e
  .split at e
   .grind[cP8,Jo]
   .cases e
  .exact Vx r ra e
theorem Mb(r:HR O I K w0 h w){us:List Value}(ra:cj O I args us){all:List BSrc}{post:List (Option Blk)}: ∀{ss:List BSrc} {i:Nat},Gg mt args h all post ss i=true-> ∀k s,ss[k]? =some s->mt<=i+k-> ∃b,s= .whole b/\h.wm<=b/\b<h.next/\(O b≠none\/post[i+k-mt]? =some none\/RowB (h.get b))
 | [],i,e,k,s,hk,hm=>by simp at hk
 |u::ss,i,e,k,s,hk,hm=>by
  simp only[Gg,j7]at e;cases k with
  |zero=>
   simp at hk;subst hk;rw[s7]at e;rcases e with e|e
   .grind[dQ]
   .split at e
    .obtain⟨e,e3⟩:=W5 e;obtain⟨e1,e2⟩:=W5 e;rw[Z5]at e1;rw[dQ]at e2;refine⟨_,rfl,e1,e2,?_⟩;rw[s7,s7,s7]at e3;rcases e3 with((e3|e3)|e3)|e3
     .grind[Vm]
     .grind[Jo]
     .grind[Vx]
     .right;right;unfold dA8 at e3;split at e3
      .rename_i hx;rw[hx];exact .arr _ _ _
      .rename_i hx;rw[hx];exact .bag _ _ _
      grind
    .cases e
  |succ k=>
   have:=Mb r ra e.2 k s hk (by omega);grind
end
structure Bound (c:FC) (nv:Nat) (args:List AV) (h:Heap) (b:Binding):Prop where
 len:b.es.length=nv
 slen:b.src.length=c.blks.length
 argv:si b.src b.es c.blks c.args args=true
 seps:seps c.blks c.mt h b.src 0=true
 mutb:Gg c.mt args h b.src c.post b.src 0=true
 post:zB b.src c.mt c.post c.post c.mt=true
 out:(gY c.out).all (qt b.src c.mt c.post)=true
 blks:Ht b.src b.es c.blks h c.blks b.src=some b.nd
theorem Pu{α:Type}{l:List (Nat×α)}: ∀{n i:Nat} {r:List α},Bo l n i=some r->r.length=n
 |0,i,r,e=>by grind[Bo,Option.some.injEq]
 |n+1,i,r,e=>by
  simp[Bo]at e;split at e
  .rename_i x q h1 h2;simp at e;subst e;simp[Pu h2]
  .cases e
theorem cP9{c:FC}{nv:Nat}{args:List AV}{b:Binding}(e:AL c nv args h=some b):Bound c nv args h b:=by
 unfold AL at e;simp_all;split at e
 .rename_i src es h1 h2;replace e:=W6 e;obtain⟨hc,e⟩:=e;obtain⟨hc,c5⟩:=W5 hc;obtain⟨hc,c4⟩:=W5 hc;obtain⟨hc,c3⟩:=W5 hc;obtain⟨c1,c2⟩:=W5 hc;split at e
  .rename_i nd hnd;simp at e;subst e;exact⟨Pu h2,Pu h1,c1,c2,c3,c4,c5,hnd⟩
  .cases e
 .cases e
structure FcOk (c:FC) (nv:Nat):Prop where
 args:oj nv c.blks.length c.args=true
 blks: ∀(i:Nat) (x:Blk),c.blks[i]? =some x->zY nv c.blks.length (some x)=true/\((∃e fz cs,x= .cells e fz cs)\/(∃e sig l,x= .arr e sig l)\/(∃e sig l,x= .bag e sig l)\/ ∃d ks vs l,x= .marr d ks vs l)
 need:fA nv c.need=true
 outs:qp nv c.outs=true
 mt:c.mt<=c.blks.length
 lt:c.blks.length<60000
theorem cs3{c:FC}{nv:Nat}(e:rM c nv=true):FcOk c nv:=by
 obtain⟨e,e7⟩:=W5 e;obtain⟨e,e6⟩:=W5 e;obtain⟨e,e5⟩:=W5 e;obtain⟨e,e4⟩:=W5 e;obtain⟨e,e3⟩:=W5 e;obtain⟨e1,e2⟩:=W5 e;refine⟨e1,λi x hx=> ?_,e3,e4,Z5.1 e5,dQ.1 e6⟩;grind
theorem cQ0{c:FC}{nv:Nat}{args:List AV}{b:Binding}{us:List Value}(r:HR O I K w0 h w)(ra:cj O I args us)(fo:FcOk c nv)(bo:Bound c nv args h b)(hd:dB I b.nd=true):
 cj (na O I b.src c.blks) (I.upd 0 (Z6 I b.es)) c.args us/\HR (na O I b.src c.blks) (I.upd 0 (Z6 I b.es)) (Qi O b.src c.mt w) w c.heap w:=by
 obtain⟨hn,hwm,eD⟩:=c.heap_ok fo.lt;obtain⟨hl,hB⟩:=DG bo.blks hd;have hw: ∀i x,b.src[i]? =some (.whole x)->na O I b.src c.blks i=O x:=λi x hx=>by grind[na]
 have view: ∀i x e sig q,b.src[i]? =some (.view x)->c.blks[i]? =some (.arr e sig q)-> ∃nd l,BC sig.length e sig x h=some (nd,l)/\dB I nd=true/\bU (I.upd 0 (Z6 I b.es)) q=bU I l/\na O I b.src c.blks i=kU O I sig.length x:=by
  intro i x e sig q hx hp;obtain⟨nd,h1,h2⟩:=hB i _ _ hp hx;simp[sI]at h1;split at h1
  .rename_i nd' l hv;obtain⟨h3,h1⟩:=W6 h1;simp at h1;subst h1;have hf:=(fo.blks i _ hp).1;refine⟨_,l,hv,h2,AC rfl (by rw[bo.len];exact hf) h3,?_⟩;unfold na;rw[hx,hp];rfl
  grind
 have hv: ∀i s p q x v,yL p q=true->Hg c.blks i s q=true->b.src[i]? =some (.view x)->VR O I x v->VR (na O I b.src c.blks) (I.upd 0 (Z6 I b.es)) (.osl i p q s) v:=by
  intro i s p q x v hpq hvb hx hr;unfold Hg at hvb;split at hvb
  .rename_i e sig l hp;obtain⟨h1,h2⟩:=W5 hvb;have h2:=SX.beq_eq _ _ h2;subst h2;obtain⟨nd,lx,g1,g2,g3,g4⟩:=view i x e sig l hx hp;have vs:=(bV5 r g1 g2).sl hr;have hlen:dI (I.upd 0 (Z6 I b.es)) (.op .llen [l])=((dL I lx).length:Int):=by
    exact congrArg (λz:Val=>(z.toL.length:Int)) g3
   have hp0:dI (I.upd 0 (Z6 I b.es)) p=0:=by
    unfold yL at hpq;split at hpq
    .rfl
    .cases hpq
   simp only[VR];rw[hlen,hp0,g4];rcases vs with⟨L,cap,a,k1,k2,k3,k4⟩|⟨k1,a,cap,k2,k3⟩
   .exact .inl ⟨L,cap,a,k1,by simpa using k2,by simpa using k3,λ_=>by simpa using k4⟩
   .exact .inr ⟨a,cap,k2,k3,by rw[k1];rfl⟩
  grind
 have hargs:=Cg (nb:=c.blks.length) (aw:=na O I b.src c.blks) rfl hw hv c.args args us (by rw[bo.len];exact fo.args) bo.argv ra;have base: ∀i L,na O I b.src c.blks i=some L-> ∃s y M,b.src[i]? =some s/\kh s=some y/\O y=some M/\M.blk=L.blk:=by
  intro i L e;unfold na at e;split at e
  .rename_i y hy;exact⟨_,y,L,hy,rfl,e,rfl⟩
  .grind[bI7]
  .cases e
 have liveB: ∀(i:Nat) (s:BSrc) (p:Blk) (y:Nat),b.src[i]? =some s->c.blks[i]? =some p->kh s=some y-> ∃z,h.get y=some z:=by
  intro i s p y hs hp hy;obtain⟨nd,h1,_⟩:=hB i p s hp hs;cases s with
  |whole x=>
   simp[kh,j0]at hy;simp[sI]at h1;grind
  |view x=>
   simp[sI]at h1;grind[c90]
 refine⟨hargs,⟨λi x L hg hL=> ?_,λi j x y L M hgi hgj hL hM hne hwk=> ?_,λi hi=> ?_,λi hi=> ?_,λi L hL=> ?_,λk hk=>hk.1,λk _=>rfl,λi x L hg hwi hL hk=> ?_,i6 _,rfl,rfl,rfl,i6 _⟩⟩
 .rw[eD]at hg;have hs: ∃s,b.src[i]? =some s:=by
   grind
  obtain⟨s,hs⟩:=hs;obtain⟨nd,h1,h2⟩:=hB i x s hg hs;have hf:=(fo.blks i x hg).1;cases s with
  |whole y=>
   simp[sI]at h1;rw[hw i y hs]at hL;split at h1
   .rename_i e fz ps e' fz' xs hgy;obtain⟨h3,_⟩:=W6 h1;obtain⟨h3,h6⟩:=W5 h3;obtain⟨h3,h5⟩:=W5 h3;obtain⟨h3,h4⟩:=W5 h3;obtain rfl:=Z1.1 h3;obtain rfl:=Z1.1 h4;obtain⟨C,lo,hi,vs,q1,q2,q3,q4,q5,q6,q7,q8⟩:=r.blk y _ L hgy hL;have hps:=Cg (nb:=c.blks.length) (aw:=na O I b.src c.blks) rfl hw hv ps xs vs (by rw[bo.len];exact hf) h6 q5;have hll:ps.length=xs.length:=by rw[<-hps.length,<-q5.length]
    exact⟨C,lo,hi,vs,q1,q2,by rw[hll];exact q3,h5,hps,by rw[hll];exact q6,q7,q8⟩
   .rename_i e sig q e' sig' l hgy;obtain⟨h3,_⟩:=W6 h1;obtain⟨h3,h5⟩:=W5 h3;obtain⟨h3,h4⟩:=W5 h3;obtain rfl:=Z1.1 h3;obtain rfl:=kO h4;have hbr:=r.blk y _ L hgy hL;have hden:dL (I.upd 0 (Z6 I b.es)) q=dL I l:=congrArg Val.toL (AC rfl (by rw[bo.len];exact hf) h5);simp[BR]at hbr⊢;rw[hden];exact hbr
   .rename_i e sig q e' sig' l hgy;obtain⟨h3,_⟩:=W6 h1;obtain⟨h3,h5⟩:=W5 h3;obtain⟨h3,h4⟩:=W5 h3;obtain rfl:=Z1.1 h3;obtain rfl:=kO h4;have hbr:=r.blk y _ L hgy hL;have hden:dL (I.upd 0 (Z6 I b.es)) q=dL I l:=congrArg Val.toL (AC rfl (by rw[bo.len];exact hf) h5);simp[BR]at hbr⊢;rw[hden];exact hbr
   .rename_i d ks vs q d' ks' vs' l hgy;obtain⟨j1,_⟩:=W6 h1;obtain⟨j2,h6⟩:=W5 j1;obtain⟨j3,h5⟩:=W5 j2;obtain⟨j4,h4⟩:=W5 j3;obtain rfl:=kO h4;obtain rfl:=kO h5;obtain⟨E,c',g1,g2,g3⟩:=r.blk y _ L hgy hL;have hden:dL (I.upd 0 (Z6 I b.es)) q=dL I l:=congrArg Val.toL (AC rfl (by rw[bo.len];exact hf) h6);exact⟨E,c',g1,by rw[hden];exact g2,g3.weak j4⟩
   .rename_i d ks vs q c' hgy;obtain⟨h3,_⟩:=W6 h1;obtain⟨h3,h6⟩:=W5 h3;obtain⟨E,g1,g2⟩:=r.blk y _ L hgy hL;have hden:dL (I.upd 0 (Z6 I b.es)) q=dL I (.op .row []):=congrArg Val.toL (AC rfl (by rw[bo.len];exact hf) h6);have hE:E.toList=[]:=by generalize E.toList=m at g2;cases g2;rfl
    refine⟨E,c',g1,by rw[hden,hE];rfl,?_⟩;rw[hE];exact(gH.nil c').weak h3
   grind
  |view y=>
   have: ∃e sig q,x= .arr e sig q:=by
    simp[sI]at h1;split at h1
    .exact⟨_,_,_,rfl⟩
    .cases h1
   obtain⟨e,sig,q,rfl⟩:=this;obtain⟨nd',lx,g1,g2,g3,g4⟩:=view i y e sig q hs hg;rw[g4]at hL;have hbr:=dB2 r g1 g2 L hL;have hden:dL (I.upd 0 (Z6 I b.es)) q=dL I lx:=congrArg Val.toL g3;grind[BR]
 .rw[eD]at hgi hgj;obtain⟨s,y1,M1,s1,s2,s3,s4⟩:=base i L hL;obtain⟨t,y2,M2,t1,t2,t3,t4⟩:=base j M hM;obtain⟨z1,hz1⟩:=liveB i s x y1 s1 hgi s2;obtain⟨z2,hz2⟩:=liveB j t y y2 t1 hgj t2;have main: ∀(i j:Nat) (s t:BSrc) (x y:Blk) (y1 y2:Nat) (M1 M2:Loc) (z1 z2:Blk),EG c.blks c.mt h i j (kh s) (kh t)=true->c.blks[i]? =some x->c.blks[j]? =some y->(c.heap.wm<=i\/c.heap.wm<=j\/x.isArr=false\/y.isArr=false)->
   kh s=some y1->kh t=some y2->O y1=some M1->O y2=some M2->h.get y1=some z1->h.get y2=some z2->M1.blk≠M2.blk:=by
   intro i j s t x y y1 y2 M1 M2 z1 z2 hsep hx hy hk e1 e2 b1 b2 g1 g2;unfold EG at hsep;rw[s7]at hsep;rcases hsep with hsep|hsep
   .obtain⟨hsep,a4⟩:=W5 hsep;obtain⟨hsep,a3⟩:=W5 hsep;obtain⟨a1,a2⟩:=W5 hsep;rw[dQ]at a1 a2;rw[hx]at a3;rw[hy]at a4;rcases hk with q|q|q|q
    .omega
    .omega
    .cases x<;>simp only[Blk.isArr,reduceCtorEq]at q<;>cases a3
    .cases y<;>simp only[Blk.isArr,reduceCtorEq]at q<;>cases a4
   .obtain⟨a1,a2⟩:=W5 hsep;rw[e1,e2]at a1 a2;have hne:y1≠y2:=by
     rintro rfl;simp[neB]at a1
    refine r.sep y1 y2 z1 z2 M1 M2 g1 g2 b1 b2 hne ?_;simp[RF,Tm,s7,y6,Z5]at a2;rw[g1,g2]at a2;rcases a2 with((q|q)|q)|q
    .omega
    .omega
    .refine .inr (.inr (.inl ?_));cases z1<;>first|rfl|cases q
    .refine .inr (.inr (.inr ?_));cases z2<;>first|rfl|cases q
  rw[<-s4,<-t4];rcases Nat.lt_or_gt_of_ne hne with hlt|hlt
  .have:=Sp bo.seps i j s t hlt s1 t1;rw[l9,l9]at this;exact main i j s t x y y1 y2 M1 M2 z1 z2 this hgi hgj hwk s2 t2 s3 t3 hz1 hz2
  .have:=Sp bo.seps j i t s hlt t1 s1;rw[l9,l9]at this;refine(main j i t s y x y2 y1 M2 M1 z2 z1 this hgj hgi ?_ t2 s2 t3 s3 hz2 hz1).symm;grind
 .grind[na,List.getElem?_eq_none]
 .grind
 .obtain⟨s,y,M,_,_,h3,h4⟩:=base i L hL;rw[<-h4];exact r.lt y M h3
 .have hs: ∃s,b.src[i]? =some s:=by
   grind
  obtain⟨s,hs⟩:=hs;obtain⟨y,rfl,_,_,_⟩:=Mb r ra bo.mutb i s hs (by omega);rw[hw i y hs]at hL;exact hk.2 i y L hwi hs hL rfl
end Go.Ev
namespace Go.Ev
open Go
variable{es:List SX}
variable{I aa:Opq}{O ac aq:bY}{K:Nat->Prop}{w0 w w':World}{h h':Heap}
def hI:AV->Bool
 | .agg _=>false
 | .tup _=>false
 |_=>true
theorem fE{v:AV}(h:hI v=true):gY v=[v]:=by cases v<;>first|rfl|cases h
theorem df4{out v:AV}(h:hI v=true)(hs:jd out v=true):hI out=true:=by
 cases out<;>first
  |rfl
  |(simp[jd]at hs;split at hs<;>first|cases h|cases hs)
theorem fP{v:AV}{u:Value}(h:hI v=true)(r:VR O I v u): ∃us,cj O I (gY v) us/\ ∀(ac:bY) (aa:Opq) (out:AV),jd out v=true->cj ac aa (gY out) us->VR ac aa out u:=by
 refine⟨[u],by rw[fE h];exact .one r,λac aa out hs ho=> ?_⟩;rw[fE (df4 h hs)]at ho;obtain⟨x,xr,e,p,q⟩:=ho;grind
theorem bv3: ∀{a b:List AV} {x y:List Value},a.length=x.length->cj O I (a++b) (x++y)->cj O I a x/\cj O I b y
 | [],b,[],y,_,r=>⟨rfl,r⟩
 | [],b,_::_,y,h,r=>by cases h
 |_::_,b,[],y,h,r=>by cases h
 |p::a,b,v::x,y,h,⟨v',vr,e,q,s⟩=>by
  obtain⟨rfl,rfl⟩:=e;obtain⟨h1,h2⟩:=bv3 (by grind) s;exact⟨⟨v,x,rfl,q,h1⟩,h2⟩
theorem fU{o v:AV}(ho:hI o=true)(h:jd o v=true):(gY o).length=(gY v).length:=by
 have hv:hI v=true:=by
  cases o<;>first
   |(exfalso;simp[hI]at ho;done)
   |(cases v<;>first|rfl|((cases h;done)))
 grind[fE]
mutual
theorem Ts: ∀{o v:AV},jd o v=true->(gY o).length=(gY v).length
 | .agg a,v,h=>by
   simp[jd]at h;split at h
   .exact Z1.1 h
   .cases h
 | .tup a,v,h=>by
   simp[jd]at h;split at h
   .exact bv4 h
   .cases h
 | .bool _,v,h=>fU rfl h
 | .int _ _,v,h=>fU rfl h
 | .str _,v,h=>fU rfl h
 | .nilp,v,h=>fU rfl h
 | .ptr _ _,v,h=>fU rfl h
 | .glob _,v,h=>fU rfl h
 | .nils,v,h=>fU rfl h
 | .sl _ _ _ _,v,h=>fU rfl h
 | .us _ _ _ _,v,h=>fU rfl h
 | .es _ _ _,v,h=>fU rfl h
 | .es0,v,h=>fU rfl h
 | .nilm,v,h=>fU rfl h
 | .map _,v,h=>fU rfl h
 | .nilf,v,h=>fU rfl h
 | .func _ _ _,v,h=>fU rfl h
 | .yield _,v,h=>fU rfl h
 | .nili,v,h=>fU rfl h
 | .iface _ _,v,h=>fU rfl h
 | .opq _,v,h=>fU rfl h
 | .oint _ _,v,h=>fU rfl h
 | .ostr _,v,h=>fU rfl h
 | .obool _,v,h=>fU rfl h
 | .osl _ _ _ _,v,h=>fU rfl h
 | .optr _ _ _ _,v,h=>fU rfl h
 | .ous _ _ _,v,h=>fU rfl h
 | .atl _,v,h=>fU rfl h
 | .any,v,h=>fU rfl h
theorem bv4: ∀{o v:List AV},oQ o v=true->(rU o).length=(rU v).length
 | [],v,h=>by
   grind[oQ]
 |a::r,v,h=>by
  simp[oQ]at h;split at h
  .rw[j7]at h;simp[rU,k7,Ts h.1,bv4 h.2]
  .cases h
end
mutual
theorem WQ: ∀(v:AV) (u:Value),VR O I v u-> ∃us,cj O I (gY v) us/\ ∀(ac:bY) (aa:Opq) (out:AV),jd out v=true->cj ac aa (gY out) us->VR ac aa out u
 | .agg cs,u,r=>by
   obtain⟨xs,rfl,q⟩:=r;refine⟨xs.toList,q,λac aa out hs ho=> ?_⟩;cases out<;>simp only[jd,n8]at hs;exact⟨xs,rfl,ho⟩
 | .tup vs,u,r=>by
   obtain⟨xs,rfl,q⟩:=r;obtain⟨us,h1,h2⟩:=bV7 vs xs.toList q;refine⟨us,h1,λac aa out hs ho=> ?_⟩;cases out<;>simp only[jd,n8]at hs;exact⟨xs,rfl,h2 ac aa _ hs ho⟩
 | .bool b,u,r=>fP rfl r
 | .int a b,u,r=>fP rfl r
 | .str b,u,r=>fP rfl r
 | .nilp,u,r=>fP rfl r
 | .ptr a b,u,r=>fP rfl r
 | .glob b,u,r=>fP rfl r
 | .nils,u,r=>fP rfl r
 | .sl a b c d,u,r=>fP rfl r
 | .us a b c d,u,r=>fP rfl r
 | .es a b c,u,r=>fP rfl r
 | .es0,u,r=>fP rfl r
 | .nilm,u,r=>fP rfl r
 | .map b,u,r=>fP rfl r
 | .nilf,u,r=>fP rfl r
 | .func a b c,u,r=>fP rfl r
 | .yield b,u,r=>fP rfl r
 | .nili,u,r=>fP rfl r
 | .iface a b,u,r=>fP rfl r
 | .opq b,u,r=>fP rfl r
 | .oint a b,u,r=>fP rfl r
 | .ostr b,u,r=>fP rfl r
 | .obool b,u,r=>fP rfl r
 | .osl a b c d,u,r=>fP rfl r
 | .optr a b c d,u,r=>fP rfl r
 | .ous a b c,u,r=>fP rfl r
 | .atl b,u,r=>fP rfl r
 | .any,u,r=>fP rfl r
theorem bV7: ∀(vs:List AV) (us0:List Value),cj O I vs us0-> ∃us,cj O I (rU vs) us/\ ∀(ac:bY) (aa:Opq) (outs:List AV),oQ outs vs=true->cj ac aa (rU outs) us->cj ac aa outs us0
 | [],us0,r=>by
   refine⟨[],rfl,λac aa outs hs ho=> ?_⟩;cases outs with
   |nil=>exact r
   |cons a b=>grind[oQ]
 |v::vs,us0,⟨u,ur,e,p,q⟩=>by
  obtain⟨us1,a1,a2⟩:=WQ v u p;obtain⟨us2,b1,b2⟩:=bV7 vs ur q;refine⟨us1++us2,a1.append b1,λac aa outs hs ho=> ?_⟩;cases outs with
  |nil=>grind[oQ]
  |cons o os=>
   simp[oQ,j7]at hs;have hl:(gY o).length=us1.length:=by rw[Ts hs.1];exact a1.length.symm
   obtain⟨c1,c2⟩:=bv3 hl ho;exact⟨u,ur,e,a2 ac aa o hs.1 c1,b2 ac aa os hs.2 c2⟩
end
section
variable{Q:Nat->SX}{n:Nat}
theorem sb(g:Agr 0 I aa){p x:SX}(h:mM 1000 n p x=some es)(hp:nE p=true)(hq: ∀j e,es[j]? =some e->bU I (Q (n+j))=bU aa e):bU I (ed 1000 Q p)=bU aa x:=by
 unfold mM at h;unfold ed;unfold nE at hp;split at h
 .obtain⟨h1,h2⟩:=W6 h;simp at h2;subst h2;obtain rfl:=Z1.1 h1;exact hq 0 x rfl
 .grind[fA,SX.beq_eq,qw]
theorem c91(g:Agr 0 I aa){p q x y:SX}(h:xM 1000 n p q x y=some es)(hp:nE p=true)(hpq:nE q=true)(hq: ∀j e,es[j]? =some e->bU I (Q (n+j))=bU aa e):bU I (ed 1000 Q p)=bU aa x/\bU I (ed 1000 Q q)=bU aa y:=by
 unfold xM at h;split at h
 .rename_i e1 h1;split at h
  .rename_i e2 h2;simp at h;subst h;refine⟨sb g h1 hp λj e hj=>hq j e ?_,sb g h2 hpq λj e hj=> ?_⟩
   .grind
   .have:=hq (e1.length+j) e (by rw[m9 (B5 _ _),C3];exact hj);grind
  .cases h
 .cases h
theorem QK{src:List BSrc}{i:Nat}(e:kz src i=true): ∃b,src[i]? =some (.whole b):=by
 grind[kz]
theorem HB{src:List BSrc}{m i b:Nat}(e:src[i]? =some (.whole b)):ft src m i=b:=by grind[ft]
theorem Py(ρ:Nat->Nat)(k:IntKind)(e:SX):iC ρ (oA k e)=oA k e:=by
 unfold oA;split<;>rfl
theorem cs6(k:IntKind)(e:SX):(oA k e).oneA=true:=by
 unfold oA;split<;>rfl
theorem c92{ρ:Nat->Nat}{p:AV}(h:uD p=true):iC ρ (iL Q p)=p:=by
 cases p<;>simp only[uD,n8]at h<;>simp only[iL,iC]
variable{src:List BSrc}{mt base N:Nat}{post:List (Option Blk)}
theorem UC(g:Agr 0 I aa){p x:AV}{u:Value}(hcl:qt src mt post p=true)(hnn:AN src.length p=true)(ha:cF 1000 base n p x=some es)(hq: ∀j e,es[j]? =some e->bU I (Q (n+j))=bU aa e)
 (r:VR O aa x u) (ap: ∀i b,src[i]? =some (.whole b)->aq b=O i):VR aq I (iC (ft src N) (iL Q p)) u:=by
 have plain:uD p=true->(bif AV.beq p x&&fj 1000 base x then some ([]:List SX)else none)=some es->VR aq I (iC (ft src N) (iL Q p)) u:=by
  grind[c92,AV.beq_eq,kc]
 cases p with
 |oint k e=>
  simp[cF]at ha;unfold La at ha;split at ha
  .rename_i k' x' hx;split at ha
   .rename_i hk;subst hk;rw[show iC (ft src N) (iL Q (.oint k e))=oA k (ed 1000 Q e)from Py _ _ _];refine Uj.2 ?_;rw[rW hx r];exact congrArg (λz:Val=>Value.int k z.toI) (sb g ha hcl hq).symm
   .cases ha
  grind
 |ostr e=>
  simp[cF]at ha;unfold uz at ha;split at ha
  .rename_i x' hx;rw[yv hx r];exact congrArg (λz:Val=>Value.string ⟨z.toS.toArray⟩) (sb g ha hcl hq).symm
  grind
 |obool e=>
  simp[cF]at ha;unfold uz at ha;split at ha
  .rename_i x' hx;rw[vn hx r];exact congrArg (λz:Val=>Value.bool z.toB) (sb g ha hcl hq).symm
  grind
 |osl i y z s=>
  simp[qt,j7]at hcl;simp[cF]at ha;unfold EK at ha;split at ha
  .rename_i b' y' z' s';obtain⟨h1,h2⟩:=W6 ha;obtain⟨h1,_⟩:=W5 h1;obtain⟨h1,h3⟩:=W5 h1;obtain rfl:=Z1.1 h1;obtain rfl:=Z1.1 h3;obtain⟨b,hb⟩:=QK hcl.1.1;obtain⟨k1,k2⟩:=c91 g h2 hcl.1.2 hcl.2 hq;have k1:dI I (ed 1000 Q y)=dI aa y':=congrArg Val.toI k1;have k2:dI I (ed 1000 Q z)=dI aa z':=congrArg Val.toI k2;simp[iL,iC,HB hb,VR]at r⊢;rw[k1,k2,ap i b hb];exact r
  grind
 |ous i q s=>
  simp[AN,dQ]at hnn;simp only[qt]at hcl;rw[show Nat.ble src.length i=false by
   cases hh:Nat.ble src.length i with
   |false=>rfl
   |true=>rw[Z5]at hh;omega]at hcl
  simp at hcl;simp[cF]at ha;unfold Fa at ha;split at ha
  .rename_i b' q' s';obtain⟨h1,h2⟩:=W6 ha;obtain⟨h1,_⟩:=W5 h1;obtain⟨h1,h3⟩:=W5 h1;obtain rfl:=Z1.1 h1;obtain rfl:=Z1.1 h3;obtain⟨b,hb⟩:=QK hcl.1;have k1:dI I (ed 1000 Q q)=dI aa q':=congrArg Val.toI (sb g h2 (by unfold nE;rw[hcl.2];rfl) hq);have hy:Ma Q q=ed 1000 Q q:=by
    have:=hcl.2;unfold wk at this;split at this
    .rfl
    .cases this
   simp[iL,iC,HB hb,VR]at r⊢;rw[hy,k1,ap i b hb];exact r
  grind
 |ptr i o=>
  simp[qt]at hcl;simp[cF]at ha;grind[AV.beq_eq,QK,iL,iC,HB,VR]
 |bool _=>exact plain hcl ha
 |int _ _=>exact plain hcl ha
 |str _=>exact plain hcl ha
 |nilp=>exact plain hcl ha
 |glob _=>exact plain hcl ha
 |nils=>exact plain hcl ha
 |nilm=>exact plain hcl ha
 |nilf=>exact plain hcl ha
 |nili=>exact plain hcl ha
 |_=>simp_all[qt,uD,n8]
theorem Xs(g:Agr 0 I aa): ∀{ps xs:List AV} {us:List Value} {n:Nat} {es:List SX},(ps.all λp=>qt src mt post p&&AN src.length p&&p.oneA)=true->mj 1000 base n ps xs=some es->(∀j e,es[j]? =some e->bU I (Q (n+j))=bU aa e)->
 cj O aa xs us->(∀i b,src[i]? =some (.whole b)->aq b=O i)->cj aq I (oC (ft src N) (sy Q ps)) us
 | [],xs,us,n,es,hcl,ha,hq,r,ap=>by
   cases xs with
   |nil=>exact r
   |cons a b=>grind[mj]
 |p::ps,xs,us,n,es,hcl,ha,hq,r,ap=>by
  cases xs with
  |nil=>grind[mj]
  |cons x xs=>
   simp at hcl;simp[mj]at ha;split at ha
   .rename_i e1 h1;split at ha
    .rename_i e2 h2;simp at ha;subst ha;obtain⟨v,vr,rfl,r1,r2⟩:=r;refine⟨v,vr,rfl,UC g hcl.1.1.1 hcl.1.1.2 h1 (λj e hj=>hq j e ?_) r1 ap,Xs g (by simpa using hcl.2) h2 (λj e hj=> ?_) r2 ap⟩
     .have hlt:=(A0.1 hj).1;rw[t8 hlt];exact hj
     .have:=hq (e1.length+j) e (by rw[m9 (B5 _ _),C3];exact hj);rw[show n+e1.length+j=n+(e1.length+j) by omega];exact this
    .cases ha
   grind
theorem cs7(ρ:Nat->Nat): ∀l:List AV,(l.all λp=>qt src mt post p&&AN src.length p&&p.oneA)=true->(oC ρ (sy Q l)).all AV.oneA=true
 | [],_=>rfl
 |a::r,h=>by
  simp at h;simp only[sy,oC,List.all_cons,j7];refine⟨?_,cs7 ρ r (by grind)⟩;have:=h.1.2;cases a<;>simp only[iL,iC]<;>first|exact this|rfl|grind[Py,cs6]
theorem cs8(g:Agr 0 I aa){L:Loc}{o:Option Obj}{p z x:Blk}(hcl:Hk src mt post (some p)=true)(ha:oX 1000 base n p z=some es)(hq: ∀j e,es[j]? =some e->bU I (Q (n+j))=bU aa e)
 (r:BR O aa L o z) (ap: ∀i b,src[i]? =some (.whole b)->aq b=O i) (hx:nT (ft src N) (nw Q (some p))=some x):BR aq I L o x:=by
 cases p with
 |cells e fz ps=>
  cases z<;>simp only[oX,reduceCtorEq]at ha;obtain⟨h1,h2⟩:=W6 ha;obtain⟨h1,h4⟩:=W5 h1;obtain⟨h1,h3⟩:=W5 h1;obtain rfl:=Z1.1 h1;obtain rfl:=Z1.1 h3;simp[nw,nT,j0]at hx;subst hx;obtain⟨C,lo,hi,vs,q1,q2,q3,q4,q5,q6,q7,q8⟩:=r;have hv:=Xs (N:=N) g hcl h2 hq q5 ap;have hl:(oC (ft src N) (sy Q ps)).length=vs.length:=hv.length.symm;have hl2:=q5.length;refine⟨C,lo,hi,vs,q1,q2,by omega,cs7 _ _ hcl,hv,by grind,q7,λhh=>q8 (by rw[<-hh];exact g.fix▸rfl)⟩
 |arr e sig l=>
  cases z<;>simp only[oX,reduceCtorEq]at ha;obtain⟨h1,h2⟩:=W6 ha;obtain⟨h1,h3⟩:=W5 h1;obtain rfl:=Z1.1 h1;obtain rfl:=kO h3;simp[nw,nT,j0]at hx;have k:dL I (ed 1000 Q l)=dL aa _:=congrArg Val.toL (sb g h2 hcl hq);grind[BR]
 |marr d ks vs l=>
  simp[nw,nT,j0]at hx;subst hx;cases z with
  |marr d' ks' vs' x=>
   obtain⟨h1,h2⟩:=W6 ha;obtain⟨h5,h1⟩:=W5 h1;obtain⟨h3,h4⟩:=W5 h1;obtain rfl:=kO h3;obtain rfl:=kO h4;have k:dL I (ed 1000 Q l)=dL aa x:=congrArg Val.toL (sb g h2 hcl hq);obtain⟨E,c,q1,q2,q3⟩:=r;exact⟨E,c,q1,by grind,q3.weak h5⟩
  |map es' c=>
   cases es' with
   |nil=>
    obtain⟨h5,h2⟩:=W6 ha;have k:dL I (ed 1000 Q l)=dL aa (.op .row []):=congrArg Val.toL (sb g h2 hcl hq);obtain⟨E,q1,q2⟩:=r;have hE:E.toList=[]:=by generalize E.toList=z at q2;cases q2;rfl
    refine⟨E,_,q1,?_⟩;rw[hE,k];exact⟨rfl,(gH.nil _).weak h5⟩
   |cons e r=>grind[oX]
  |_=>grind[oX]
 |_=>grind[Hk,Bool.false_eq_true]
end
end Go.Ev
namespace Go.Ev
open Go
variable{I aa:Opq}{O ac aq:bY}{K:Nat->Prop}{w0 w w':World}{h h':Heap}
section
variable{Q:Nat->SX}{ρ:Nat->Nat}{m:Nat}
structure Laid (Q:Nat->SX) (ρ:Nat->Nat) (m:Nat) (l:List (Option Blk)) (i:Nat) (h h2:Heap):Prop where
 wm:h2.wm=h.wm
 next:h2.next=h.next+(i+l.length-Nat.max i m)
 get: ∀b y,h2.get b=some y->(∃j x,l[j]? =some x/\i+j<m/\ρ (i+j)=b/\nT ρ (nw Q x)=some y)\/(∃j x,l[j]? =some x/\m<=i+j/\b=h.next+(i+j-Nat.max i m)/\nT ρ (nw Q x)=some y)\/(h.get b=some y/\ ∀j,j<l.length->i+j<m->ρ (i+j)≠b)
 keep: ∀b,b<h.next->(∀j,j<l.length->i+j<m->ρ (i+j)≠b)->h2.get b=h.get b
theorem c93{x:Option Blk}(e:AX x=true): ∃y,nT ρ (nw Q x)=some y:=by
 unfold AX at e;split at e
 .exact⟨_,rfl⟩
 .cases e
theorem RR: ∀(l:List (Option Blk)) (i:Nat) (h:Heap),(∀j x,l[j]? =some x->m<=i+j->AX x=true)->(∀j,j<l.length->i+j<m->ρ (i+j)<h.next)->Laid Q ρ m l i h (mQ ρ Q m l i h)
 | [],i,h,hr,hb=>by
   refine⟨rfl,?_,λb y e=> .inr (.inr ⟨e,λj hj=>by simp at hj⟩),λ_ _ _=>rfl⟩;show h.next=h.next+(i+0-max i m)
   omega
 |x::r,i,h,hr,hb=>by
  by_cases him:i<m
  .
   have hstep:mQ ρ Q m (x::r) i h=mQ ρ Q m r (i+1) (h.put (ρ i) (nT ρ (nw Q x))):=by
    simp_all[mQ,gO,cond_true]
   have ih:=RR r (i+1) (h.put (ρ i) (nT ρ (nw Q x))) (λj y hj hm=>hr (j+1) y (by grind) (by omega)) (λj hj hm=>by rw[Heap.next_put];have:=hb (j+1) (by simp;omega) (by omega);grind);rw[hstep];have hmax:Nat.max (i+1) m=m:=S0 (by omega);have hmax':Nat.max i m=m:=S0 (by omega);refine⟨ih.wm,?_,λb y e=> ?_,λb hb' hn=> ?_⟩
   .rw[ih.next,Heap.next_put,hmax,hmax',List.length_cons];omega
   .rcases ih.get b y e with⟨j,z,h1,h2,h3,h4⟩|⟨j,z,h1,h2,h3,h4⟩|⟨h1,h2⟩
    .exact .inl ⟨j+1,z,by grind,by omega,by grind,h4⟩
    .refine .inr (.inl ⟨j+1,z,by simpa using h1,by omega,?_,h4⟩);grind[Heap.next_put]
    .rw[Heap.get_put]at h1;by_cases hbi:b=ρ i
     .rw[e8 hbi]at h1;split at h1
      .exact .inl ⟨0,x,rfl,by omega,hbi.symm,h1⟩
      .cases h1
     grind
   .rw[ih.keep b (by simp_all) (λj hj hm=>by rw[show i+1+j=i+(j+1) by omega];exact hn (j+1) (by grind) (by omega)),Heap.get_put,b9];exactλhh=>hn 0 (by simp) him hh.symm
  .obtain⟨z,hz⟩:=c93 (Q:=Q) (ρ:=ρ) (hr 0 x rfl (by omega));have hstep:mQ ρ Q m (x::r) i h=mQ ρ Q m r (i+1) (h.new z):=by
    simp_all[mQ,iE,cond_false]
   have ih:=RR r (i+1) (h.new z) (λj y hj hm=>hr (j+1) y (by grind) (by omega)) (λj hj hm=>by omega);rw[hstep];have hmax:Nat.max (i+1) m=i+1:=S1 (by omega);have hmax':Nat.max i m=i:=S1 (by omega);refine⟨ih.wm,?_,λb y e=> ?_,λb hb' hn=> ?_⟩
   .rw[ih.next,Heap.next_new,hmax,hmax',List.length_cons];omega
   .rcases ih.get b y e with⟨j,u,h1,h2,h3,h4⟩|⟨j,u,h1,h2,h3,h4⟩|⟨h1,h2⟩
    .omega
    .refine .inr (.inl ⟨j+1,u,by simpa using h1,by omega,?_,h4⟩);grind[Heap.next_new]
    .rw[Heap.get_new]at h1;by_cases hbi:b=h.next
     .rw[e8 hbi]at h1;split at h1
      .simp at h1;subst h1;exact .inr (.inl ⟨0,x,rfl,by omega,by omega,hz⟩)
      .cases h1
     grind
   .rw[ih.keep b (by rw[Heap.next_new];omega) (λj hj hm=>by omega),Heap.get_new,b9 (by omega)]
end
section
variable{m base:Nat}{a:Fr}
theorem Yh{P:Nat->SX->Prop}: ∀{ps:List AV} {t n:Nat} {es:List SX},KY m base h a ps t n=some es->(∀j e,es[j]? =some e->P (n+j) e)-> ∀k p,ps[k]? =some p-> ∃n' es',On m base n' h p (a.slot (t+k))=some es'/\ ∀j e,es'[j]? =some e->P (n'+j) e
 | [],t,n,es,e,hp,k,p,hk=>by simp at hk
 |q::ps,t,n,es,e,hp,k,p,hk=>by
  simp[KY]at e;split at e
  .rename_i e1 h1;split at e
   .rename_i e2 h2;simp at e;subst e;cases k with
    |zero=>
     grind
    |succ k=>
     obtain⟨n',es',g1,g2⟩:=Yh h2 (λj e hj=>by
      have:=hp (e1.length+j) e (by rw[m9 (B5 _ _),C3];exact hj);rw[show n+e1.length+j=n+(e1.length+j) by omega];exact this) k p hk
     grind
   .cases e
  .cases e
theorem VM{P:Nat->SX->Prop}: ∀{ps:List (Option Blk)} {i n:Nat} {es:List SX},MD m base h ps i n=some es->(∀j e,es[j]? =some e->P (n+j) e)-> ∀k p,ps[k]? =some p-> ∃n' es',sh 1000 base n' p (h.get (bif Nat.blt (i+k) m then i+k else base+(i+k-m)))=some es'/\ ∀j e,es'[j]? =some e->P (n'+j) e
 | [],i,n,es,e,hp,k,p,hk=>by simp at hk
 |q::ps,i,n,es,e,hp,k,p,hk=>by
  simp[MD]at e;split at e
  .rename_i e1 h1;split at e
   .rename_i e2 h2;simp at e;subst e;cases k with
    |zero=>
     grind
    |succ k=>
     obtain⟨n',es',g1,g2⟩:=VM h2 (λj e hj=>by
      have:=hp (e1.length+j) e (by rw[m9 (B5 _ _),C3];exact hj);rw[show n+e1.length+j=n+(e1.length+j) by omega];exact this) k p hk
     grind
   .cases e
  .cases e
theorem cQ1{x:AV}{v:Value}(hd:dB I (Ba h x).1=true)(r:VR O I x v):VR O I (Ba h x).2 v:=by
 cases x with
 |ous b len s=>
  cases hg:h.get b with
  |none=>grind[Ba]
  |some y=>
   cases y with
   |arr e sig l=>
    simp[Ba,hg]at hd⊢;cases hc:SX.beq len (.op .llen [l])with
    |true=>exact r
    |false=>
     rw[hc]at hd;have:dI I len=dI I (.op .llen [l]):=j6 hd;grind[VR]
   |_=>grind[Ba]
 |_=>exact r
theorem Yt: ∀{xs:List AV} {vs:List Value},dB I (yw h xs).1=true->cj O I xs vs->cj O I (yw h xs).2 vs
 | [],vs,hd,r=>r
 |x::xs,vs,hd,⟨v,vr,e,p,q⟩=>by
  obtain⟨d1,d2⟩:=AD hd;exact⟨v,vr,e,cQ1 d1 p,Yt d2 q⟩
theorem Vs{pc:PC}(hp:nj I pc): ∀l:List SX,Z6 I (Nk pc l)=Z6 I l
 | []=>rfl
 |a::r=>by simp[Nk,Z6,OS hp,Vs hp r]
theorem dB5{xs:List AV}{us:List Value}(ra:cj O I xs us)(hl:xs.length<=256):du O I ⟨pS xs 0 TF.empty,xs.length,[],0,[],none⟩ {tmps:=us.toArray,defers:=[]}:=by
 have:=UH (fn:=0) (nt:=xs.length) ra (by rw[show Nat.max xs.length xs.length=xs.length from Nat.max_self _];exact hl);rw[show Nat.max xs.length xs.length=xs.length from Nat.max_self _,show xs.length-us.toArray.size=0 by rw[G8,ra.length];exact R0 _]at this;grind
end
theorem Re{src:List BSrc}{mt:Nat}{post:List (Option Blk)}: ∀{l:List (Option Blk)} {i:Nat},zB src mt post l i=true->src.length<=i+l.length/\ ∀j x,l[j]? =some x->(i+j<src.length->Hk src mt post x=true)/\(src.length<=i+j->AX x=true)
 | [],i,e=>⟨by grind[zB,Z5],λj x hx=>by simp at hx⟩
 |x::l,i,e=>by
  simp only[zB]at e;by_cases hi:i<src.length
  .rw[gO hi]at e;simp at e;obtain⟨h1,h2⟩:=Re e.2;grind
  .rw[iE hi]at e;simp at e;obtain⟨h1,h2⟩:=Re e.2;grind
theorem Fz{post:List (Option Blk)}{mt m base:Nat}: ∀{l:List AV} {t:Nat} {o:OwnP},o∈uB post mt m base l t->base<=o.blk
 | [],t,o,ho=>by cases ho
 |p::l,t,o,ho=>by
  cases p<;>simp only[uB]at ho<;>try exact Fz ho
  rename_i i x s;cases hm:Nat.ble m i with
  |false=>rw[hm]at ho;exact Fz ho
  |true=>
   rw[hm]at ho;split at ho
   .rcases n5.1 ho with rfl|ho
    .grind
    .exact Fz ho
   .exact Fz ho
mutual
theorem XL{F:AV->AV}(h1: ∀l,F (.agg l)= .agg (l.map F))(h2: ∀l,F (.tup l)= .tup (l.map F))(h3: ∀x,hI x=true->hI (F x)=true): ∀v:AV,gY (F v)=(gY v).map F
 | .agg l=>by rw[h1];rfl
 | .tup l=>by rw[h2];exact WK h1 h2 h3 l
 | .bool a=>by rw[fE (h3 _ rfl)];rfl
 | .int a b=>by rw[fE (h3 _ rfl)];rfl
 | .str a=>by rw[fE (h3 _ rfl)];rfl
 | .nilp=>by rw[fE (h3 _ rfl)];rfl
 | .ptr a b=>by rw[fE (h3 _ rfl)];rfl
 | .glob a=>by rw[fE (h3 _ rfl)];rfl
 | .nils=>by rw[fE (h3 _ rfl)];rfl
 | .sl a b c d=>by rw[fE (h3 _ rfl)];rfl
 | .us a b c d=>by rw[fE (h3 _ rfl)];rfl
 | .es a b c=>by rw[fE (h3 _ rfl)];rfl
 | .es0=>by rw[fE (h3 _ rfl)];rfl
 | .nilm=>by rw[fE (h3 _ rfl)];rfl
 | .map a=>by rw[fE (h3 _ rfl)];rfl
 | .nilf=>by rw[fE (h3 _ rfl)];rfl
 | .func a b c=>by rw[fE (h3 _ rfl)];rfl
 | .yield a=>by rw[fE (h3 _ rfl)];rfl
 | .nili=>by rw[fE (h3 _ rfl)];rfl
 | .iface a b=>by rw[fE (h3 _ rfl)];rfl
 | .opq a=>by rw[fE (h3 _ rfl)];rfl
 | .oint a b=>by rw[fE (h3 _ rfl)];rfl
 | .ostr a=>by rw[fE (h3 _ rfl)];rfl
 | .obool a=>by rw[fE (h3 _ rfl)];rfl
 | .osl a b c d=>by rw[fE (h3 _ rfl)];rfl
 | .optr a b c d=>by rw[fE (h3 _ rfl)];rfl
 | .ous a b c=>by rw[fE (h3 _ rfl)];rfl
 | .atl a=>by rw[fE (h3 _ rfl)];rfl
 | .any=>by rw[fE (h3 _ rfl)];rfl
theorem WK{F:AV->AV}(h1: ∀l,F (.agg l)= .agg (l.map F))(h2: ∀l,F (.tup l)= .tup (l.map F))(h3: ∀x,hI x=true->hI (F x)=true): ∀l:List AV,rU (l.map F)=(rU l).map F
 | []=>rfl
 |a::r=>by simp[m8,rU,u9,XL h1 h2 h3 a,WK h1 h2 h3 r]
end
theorem fT{F o v:AV}(h1:hI o=true)(h2:hI F=true)(h:jd o v=true):jd F v=true:=by
 have hv:hI v=true:=by
  cases o<;>first
   |(exfalso;simp[hI]at h1;done)
   |(simp[jd]at h;cases v<;>first|rfl|grind)
 cases F<;>first
  |(exfalso;simp[hI]at h2;done)
  |(cases v<;>first|rfl|((cases hv;done)))
mutual
theorem d06{F:AV->AV}(h1: ∀l,F (.agg l)= .agg (l.map F))(h2: ∀l,F (.tup l)= .tup (l.map F))(h3: ∀x,hI x=true->hI (F x)=true): ∀(o v:AV),jd o v=true->jd (F o) v=true
 | .agg l,v,h=>by
   simp_all[jd,l5]
 | .tup l,v,h=>by
   rw[h2];simp[jd]at h⊢;split at h
   .exact ct0 h1 h2 h3 l _ h
   .cases h
 | .bool a,v,h=>fT rfl (h3 _ rfl) h
 | .int a b,v,h=>fT rfl (h3 _ rfl) h
 | .str a,v,h=>fT rfl (h3 _ rfl) h
 | .nilp,v,h=>fT rfl (h3 _ rfl) h
 | .ptr a b,v,h=>fT rfl (h3 _ rfl) h
 | .glob a,v,h=>fT rfl (h3 _ rfl) h
 | .nils,v,h=>fT rfl (h3 _ rfl) h
 | .sl a b c d,v,h=>fT rfl (h3 _ rfl) h
 | .us a b c d,v,h=>fT rfl (h3 _ rfl) h
 | .es a b c,v,h=>fT rfl (h3 _ rfl) h
 | .es0,v,h=>fT rfl (h3 _ rfl) h
 | .nilm,v,h=>fT rfl (h3 _ rfl) h
 | .map a,v,h=>fT rfl (h3 _ rfl) h
 | .nilf,v,h=>fT rfl (h3 _ rfl) h
 | .func a b c,v,h=>fT rfl (h3 _ rfl) h
 | .yield a,v,h=>fT rfl (h3 _ rfl) h
 | .nili,v,h=>fT rfl (h3 _ rfl) h
 | .iface a b,v,h=>fT rfl (h3 _ rfl) h
 | .opq a,v,h=>fT rfl (h3 _ rfl) h
 | .oint a b,v,h=>fT rfl (h3 _ rfl) h
 | .ostr a,v,h=>fT rfl (h3 _ rfl) h
 | .obool a,v,h=>fT rfl (h3 _ rfl) h
 | .osl a b c d,v,h=>fT rfl (h3 _ rfl) h
 | .optr a b c d,v,h=>fT rfl (h3 _ rfl) h
 | .ous a b c,v,h=>fT rfl (h3 _ rfl) h
 | .atl a,v,h=>fT rfl (h3 _ rfl) h
 | .any,v,h=>fT rfl (h3 _ rfl) h
theorem ct0{F:AV->AV}(h1: ∀l,F (.agg l)= .agg (l.map F))(h2: ∀l,F (.tup l)= .tup (l.map F))(h3: ∀x,hI x=true->hI (F x)=true): ∀(o v:List AV),oQ o v=true->oQ (o.map F) v=true
 | [],v,h=>h
 |a::r,v,h=>by
  simp[oQ,m8]at h⊢;split at h
  .rw[j7]at h⊢;exact⟨d06 h1 h2 h3 a _ h.1,ct0 h1 h2 h3 r _ h.2⟩
  .cases h
end
theorem NH(Q:Nat->SX): ∀l:List AV,sy Q l=l.map (iL Q)
 | []=>rfl
 |a::r=>by simp[sy,m8,NH Q r]
theorem Ub(ρ:Nat->Nat): ∀l:List AV,oC ρ l=l.map (iC ρ)
 | []=>rfl
 |a::r=>by simp[oC,m8,Ub ρ r]
theorem ct1{F:AV->AV}: ∀{ps:List AV} {us:List Value},ps.length=us.length->(∀(k:Nat) (p:AV) (u:Value),ps[k]? =some p->us[k]? =some u->VR O I (F p) u)->cj O I (ps.map F) us
 | [],[],_,_=>rfl
 | [],_::_,h,_=>by cases h
 |_::_,[],h,_=>by cases h
 |p::ps,u::us,h,hk=>⟨u,us,rfl,hk 0 p u rfl rfl,ct1 (by grind) (λk q v h1 h2=>hk (k+1) q v (by grind) (by grind))⟩
end Go.Ev
