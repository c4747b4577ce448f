import Derived.Test.YtpmabjilbokleaaGreatE28
set_option linter.unusedSimpArgs false
set_option linter.unusedVariables false
namespace Go.Ev
open Go
variable{I:Opq}{O:aQ}{K:Nat->Prop}{w0 w:World}{h:Heap}
theorem Bg(I:Opq): ∀l:List SX,R7 I l=l.map (aM I)
 | []=>rfl
 |a::r=>by simp[R7,n9,Bg I r]
mutual
theorem Dj{es:List SX}: ∀e:SX,Z4 es.length e=true->aM I (gr es e)=aM (I.upd 0 (R7 I es)) e
 | .ci _,_=>rfl
 | .cs _,_=>rfl
 | .cb _,_=>rfl
 | .va n,h=>by
   simp[Z4,T4]at h;simp[gr];have:=rW (I:=I) (v0:=0) (l:=R7 I es) (j:=n) (x:=aM I es[n]) (by rw[Bg,B0,k8 h];rfl);simp_all[l7,Option.getD_some,aM]
 | .op p l,h=>by
   simp[gr,aM];rw[Ku l h]
 | .app f l,h=>by
   simp[gr,aM];rw[Ku l h];rfl
theorem Ku{es:List SX}: ∀l:List SX,mj es.length l=true->R7 I (Ce es l)=R7 (I.upd 0 (R7 I es)) l
 | [],_=>rfl
 |a::r,h=>by
  simp[mj,j7]at h;simp only[Ce,R7];rw[Dj a h.1,Ku r h.2]
end
noncomputable def gV(O:aQ)(I:Opq)(sz:Nat)(x:AV):Option Loc:=match x with
 | .osl b off len _=>if 0<dI I len then(O b).map λL=>⟨L.blk,L.off+(dI I off).toNat*sz,(dI I len).toNat*sz⟩else none
 | .ous b len _=>if 0<dI I len then(O b).map λL=>⟨L.blk,L.off,(dI I len).toNat*sz⟩else none
 | .sl b o n _=>if 0<n then(O b).map λL=>⟨L.blk,L.off+o,n*sz⟩else none
 | .us b o n _=>if 0<n then(O b).map λL=>⟨L.blk,L.off+o,n*sz⟩else none
 |_=>none
theorem YX{sig:List CT}{e:Nat}{l lx:SX}{L:Loc}{o:Option Obj}{p n:Nat}(r:BR O I L o (.arr e sig l))(hp:p+n<=(dL I l).length)(hl:dL I lx=((dL I l).drop p).take n):
 BR O I ⟨L.blk,L.off+p*sig.length,n*sig.length⟩ o (.arr e sig lx):=by
 obtain⟨C,e',lo,hi,q1,q0,q2,q3,q4,q5⟩:=r;have hle:(p+n)*sig.length<=(dL I l).length*sig.length:=y6 _ hp;rw[r9]at hle;have hn:(dL I lx).length=n:=by grind
 refine⟨C,e',lo,hi,q1,q0,by grind,by grind,λi v hv=> ?_,λi hq=> ?_⟩
 .show C[L.off+p*sig.length+i]? =some v;rw[hl]at hv;rw[show L.off+p*sig.length+i=L.off+(p*sig.length+i) by omega];apply q4;have e1:dL I l=(dL I l).take p++(((dL I l).drop p).take n++((dL I l).drop p).drop n):=by
   rw[u5,u5]
  rw[e1,wS,wS];have hl1:(T2 sig ((dL I l).take p)).length=p*sig.length:=by rw[T3,k7];congr 1;omega
  rw[l9 (by omega),hl1,show p*sig.length+i-p*sig.length=i by omega];grind
 .have hq:i<n*sig.length:=hq;have:=q5 (p*sig.length+i) (by omega);grind
theorem Il{sig:List CT}{e fz:Nat}{cs:List AV}{lx:SX}{rs:List SX}{L:Loc}{o:Option Obj}{p n:Nat}(r:BR O I L o (.cells e fz cs))(hf:fz<=p)(hp:p+n*sig.length<=cs.length)
 (hrs:jr sig sig.length n ((cs.drop p).take (n*sig.length))=some rs) (hl:dL I lx=R7 I rs):BR O I ⟨L.blk,L.off+p,n*sig.length⟩ o (.arr e sig lx)/\(dL I lx).length=n:=by
 obtain⟨C,lo,hi,vs,q1,q2,q3,q4,q5,q6,q7,q8⟩:=r;have hsub:aT O I ((cs.drop p).take (n*sig.length)) ((vs.drop p).take (n*sig.length)):=(q5.drop _).take _;obtain⟨z1,z2⟩:=rV hrs (by grind) hsub;refine⟨⟨C,_,lo,hi,q1,.inl rfl,by grind,by grind,λi v hv=> ?_,λi hq=> ?_⟩,by grind⟩
 .grind
 .have hq:i<n*sig.length:=hq;have:=q7 (p+i) (by omega) (by omega);grind
theorem yI{a b:SX}(h:dB I (eF a b)=true):dB I a=true/\dB I b=true:=by
 simp_all[KG,j7]
structure ViewOk (O:aQ) (I:Opq) (w:World) (h:Heap) (elem:Nat) (sig:List CT) (x:AV) (v:Value) (l:SX):Prop where
 br: ∀L,gV O I sig.length x=some L->BR O I L w.heap[L.blk]? (.arr elem sig l)
 sl:VR O I x v->(∃L cap a,gV O I sig.length x=some L/\v= .slice (some a) (dL I l).length cap/\(dL I l).length<=cap/\a=⟨L.blk,L.off,none⟩)\/((dL I l).length=0/\ ∃a cap,v= .slice a 0 cap/\(a=none->cap=0))
theorem bA0{sz:Nat}{x:AV}{L:Loc}(e:gV O I sz x=some L): ∃b M,gw (.view x)=some b/\O b=some M/\M.blk=L.blk:=by
 unfold gV at e;split at e;all_goals first
  |(split at e
    .obtain⟨M,hM,rfl⟩:=o8.1 e;exact⟨_,M,rfl,hM,rfl⟩
    .cases e)
  |cases e
theorem bY8{sz elem:Nat}{sig:List CT}{x:AV}{nd l:SX}{b:Nat}(e:Av sz elem sig x h=some (nd,l))(hb:gw (.view x)=some b): ∃y,h.get b=some y:=by
 cases x<;>simp only[gw,j0,reduceCtorEq]at hb<;>subst hb<;>simp only[Av]at e<;>split at e<;>first|(rename_i hg;exact⟨_,hg⟩)|cases e
theorem cF6(r:HR O I K w0 h w){elem:Nat}{sig:List CT}{x:AV}{v:Value}{nd l:SX}(e:Av sig.length elem sig x h=some (nd,l))(hd:dB I nd=true):ViewOk O I w h elem sig x v l:=by
 unfold Av at e;split at e
 .obtain⟨rfl,rfl⟩:=e;exact⟨λL hL=>by simp[gV,reduceCtorEq]at hL,λrv=> .inr ⟨rfl,none,0,rv,λ_=>rfl⟩⟩
 .rename_i b len s;split at e
  .rename_i e0 sg l0 hg;replace e:=Q9 e;obtain⟨hc,e⟩:=e;obtain⟨hc,c3⟩:=Q8 hc;obtain⟨c1,c2⟩:=Q8 hc;obtain rfl:=R2.1 c1;obtain rfl:=R2.1 c2;obtain rfl:=Y6 c3;have main:0<=dI I len->(dI I len).toNat<=(dL I l0).length->dL I l=(dL I l0).take (dI I len).toNat->ViewOk O I w h e0 sg (.ous b len sg.length) v l:=by
    intro h0 hle hl;have hll:(dL I l).length=(dI I len).toNat:=by rw[hl,k7];omega
    constructor
    .intro L hL;simp only[gV]at hL;split at hL
     .obtain⟨M,hM,rfl⟩:=o8.1 hL;have:=YX (p:=0) (n:=(dI I len).toNat) (lx:=l) (r.blk b _ M hg hM) (by omega) (by simpa using hl);simpa using this
     .cases hL
    .intro rv;rcases rv with⟨L,cap,hL,hcap,hv,hlc⟩|⟨hv,hz⟩
     .by_cases hp:0<dI I len
      .refine .inl ⟨⟨L.blk,L.off,(dI I len).toNat*sg.length⟩,cap,_,?_,by rw[hll];exact hv,by rw[hll];exact hlc,rfl⟩;simp[gV,e8 hp,hL,Option.map_some]
      .refine .inr ⟨by omega,some ⟨L.blk,L.off,none⟩,cap,?_,λhh=>(by cases hh)⟩;rw[hv,show(dI I len).toNat=0 by omega]
     .exact .inr ⟨by rw[hll,hz];rfl,none,0,hv,λ_=>rfl⟩
   cases hq:SX.beq len (.op .llen [l0])with
   |true=>
    rw[hq]at e;simp at e;obtain⟨rfl,rfl⟩:=e;have hlen:=SX.beq_eq _ _ hq;have:dI I len=((dL I l0).length:Int):=by rw[hlen,jt]
    refine main (by omega) (by omega) ?_;rw[this];simp
   |false=>
    rw[hq]at e;obtain⟨rfl,rfl⟩:=e;rw[pE,j7]at hd;have d1:0<=dI I len:=j6 hd.1;have d2:dI I len<=((dL I l0).length:Int):=j6 hd.2;refine main d1 (by omega) ?_;show((dL I l0).drop (0:Int).toNat).take (dI I len-0).toNat=_;simp
  .cases e
 .rename_i b off len s;split at e
  .rename_i e0 sg l0 hg;replace e:=Q9 e;obtain⟨hc,e⟩:=e;obtain⟨hc,c3⟩:=Q8 hc;obtain⟨c1,c2⟩:=Q8 hc;obtain rfl:=R2.1 c1;obtain rfl:=R2.1 c2;obtain rfl:=Y6 c3;have main:0<=dI I off->0<=dI I len->(dI I off).toNat+(dI I len).toNat<=(dL I l0).length->dL I l=((dL I l0).drop (dI I off).toNat).take (dI I len).toNat->ViewOk O I w h e0 sg (.osl b off len sg.length) v l:=by
    intro h1 h0 hle hl;have hll:(dL I l).length=(dI I len).toNat:=by rw[hl,k7,E3];omega
    constructor
    .intro L hL;simp only[gV]at hL;split at hL
     .obtain⟨M,hM,rfl⟩:=o8.1 hL;exact YX (r.blk b _ M hg hM) hle hl
     .cases hL
    .intro rv;rcases rv with⟨L,cap,a,hL,hv,hlc,ha⟩|⟨a,cap,hv,hac,hz⟩
     .by_cases hp:0<dI I len
      .refine .inl ⟨⟨L.blk,L.off+(dI I off).toNat*sg.length,(dI I len).toNat*sg.length⟩,cap,a,?_,by rw[hll];exact hv,by rw[hll];exact hlc,ha hp⟩;simp[gV,e8 hp,hL,Option.map_some]
      .refine .inr ⟨by omega,some a,cap,?_,λhh=>(by cases hh)⟩;rw[hv,show(dI I len).toNat=0 by omega]
     .exact .inr ⟨by rw[hll,hz];rfl,a,cap,hv,hac⟩
   cases hq:(SX.beq off (.ci 0)&&SX.beq len (.op .llen [l0]))with
   |true=>
    rw[hq]at e;simp at e;obtain⟨rfl,rfl⟩:=e;rw[j7]at hq;have ho:=SX.beq_eq _ _ hq.1;have hlen:=SX.beq_eq _ _ hq.2;have t1:dI I len=((dL I l0).length:Int):=by rw[hlen,jt]
    have t2:dI I off=0:=by rw[ho,nE]
    refine main (by omega) (by omega) (by omega) ?_;rw[t1,t2];simp
   |false=>
    rw[hq]at e;obtain⟨rfl,rfl⟩:=e;rw[pE,pE,j7,j7]at hd;have d1:0<=dI I off:=j6 hd.1;have d2:0<=dI I len:=j6 hd.2.1;have d3:dI I off+dI I len<=((dL I l0).length:Int):=j6 hd.2.2;refine main d1 d2 (by omega) ?_;show((dL I l0).drop (dI I off).toNat).take (dI I off+dI I len-dI I off).toNat=_;congr 2;omega
  .cases e
 .rename_i b o n c;split at e
  .rename_i e0 fz cs hg;replace e:=Q9 e;obtain⟨hc,e⟩:=e;obtain⟨hc,c5⟩:=Q8 hc;obtain⟨hc,c4⟩:=Q8 hc;obtain⟨hc,c3⟩:=Q8 hc;obtain⟨c1,c2⟩:=Q8 hc;obtain rfl:=R2.1 c1;rw[R5]at c2 c3 c4;rw[T4]at c5;unfold Je at e;split at e
   .rename_i rs hrs;obtain⟨rfl,rfl⟩:=e;constructor
    .intro M hM;simp only[gV,e8 c5]at hM;obtain⟨L,hL,rfl⟩:=o8.1 hM;exact(Il (lx:= .op .row rs) (r.blk b _ L hg hL) c3 c4 hrs rfl).1
    .intro rv;obtain⟨L,hL,hv⟩:=rv;obtain⟨p1,p2⟩:=Il (lx:= .op .row rs) (r.blk b _ L hg hL) c3 c4 hrs rfl;refine .inl ⟨⟨L.blk,L.off+o,n*sig.length⟩,c,_,?_,by rw[p2];exact hv,by rw[p2];exact c2,rfl⟩;simp[gV,e8 c5,hL,Option.map_some]
   .cases e
  .cases e
 .rename_i b o n s;split at e
  .rename_i e0 fz cs hg;replace e:=Q9 e;obtain⟨hc,e⟩:=e;obtain⟨hc,c4⟩:=Q8 hc;obtain⟨hc,c3⟩:=Q8 hc;obtain⟨hc,c1⟩:=Q8 hc;obtain⟨cz,c0⟩:=Q8 hc;obtain rfl:=R2.1 c0;obtain rfl:=R2.1 c1;rw[T4]at cz;rw[R5]at c3 c4;unfold Je at e;split at e
   .rename_i rs hrs;obtain⟨rfl,rfl⟩:=e;constructor
    .intro M hM;simp only[gV]at hM;split at hM
     .obtain⟨L,hL,rfl⟩:=o8.1 hM;exact(Il (lx:= .op .row rs) (r.blk b _ L hg hL) c3 c4 hrs rfl).1
     .cases hM
    .intro rv;obtain⟨L,cap,hL,hcap,hv⟩:=rv;have hbr:=r.blk b _ L hg hL;obtain⟨p1,p2⟩:=Il (lx:= .op .row rs) hbr c3 c4 hrs rfl;by_cases hp:0<n
     .refine .inl ⟨⟨L.blk,L.off+o,n*sig.length⟩,cap,_,?_,by rw[p2];exact hv,?_,rfl⟩
      .simp[gV,e8 hp,hL,Option.map_some]
      .rw[p2];obtain⟨_,_,_,_,_,_,q3,_⟩:=hbr;have:n*sig.length<=cap*sig.length:=by omega
       exact C0 this cz
     .refine .inr ⟨by omega,some ⟨L.blk,L.off+o,none⟩,cap,?_,λhh=>(by cases hh)⟩;rw[hv,show n=0 by omega]
   .cases e
  .cases e
 .cases e
theorem bY9{sz elem:Nat}{sig:List CT}{x:AV}{nd l:SX}{b:Nat}(e:yP sz elem sig x h=some (nd,l))(hb:gw (.view x)=some b): ∃y,h.get b=some y:=bY8 e hb
theorem TP(r:HR O I K w0 h w){elem:Nat}{sig:List CT}{x:AV}{v:Value}{nd l:SX}(e:yP sig.length elem sig x h=some (nd,l))(hd:dB I nd=true):ViewOk O I w h elem sig x v l:=by
 have:=cF6 (v:=v) r e hd;refine⟨λL hL=> ?_,this.sl⟩;obtain⟨C,e',lo,hi,q1,q0,q⟩:=this.br L hL;refine⟨C,e',lo,hi,q1,?_,q⟩;grind[cQ3,Nat.beq,eQ,R2]
theorem dr2(r:HR O I K w0 h w){elem:Nat}{sig:List CT}{x:AV}{nd l:SX}(e:yP sig.length elem sig x h=some (nd,l))(hd:dB I nd=true)(L:Loc)(hL:gV O I sig.length x=some L):BR O I L w.heap[L.blk]? (.arr elem sig l):=
 (TP (v:= .bool true) r e hd).br L hL
end Go.Ev
namespace Go.Ev
open Go
variable{I aa:Opq}{O aw:aQ}{K:Nat->Prop}{w0 w:World}{h:Heap}
def dr3:Option Blk->Nat
 |some (.arr _ sig _)=>sig.length
 |_=>0
noncomputable def jo(O:aQ)(I:Opq)(src:List BSrc)(blks:List Blk):aQ:=λi=>match src[i]? with
 |some (.whole b)=>O b
 |some (.view x)=>gV O I (dr3 blks[i]?) x
 |none=>none
theorem V5{p:AV}{v:Value}(hp:sc p=true)(r:VR O I p v):VR aw aa p v:=by
 cases p<;>simp only[sc,n5]at hp<;>exact r
theorem BF{s:Option BSrc}{b:Nat}(e:uR s b=true):s=some (.whole b):=by
 unfold uR at e;grind[R2]
theorem bA1{s:Option BSrc}{x:AV}(e:Ka s x=true):s=some (.view x):=by
 unfold Ka at e;grind[AV.beq_eq]
section
variable{src:List BSrc}{es:List SX}{blks:List Blk}{nb:Nat}
theorem yu{p x:SX}(ae:aa=I.upd 0 (R7 I es))(hf:Z4 es.length p=true)(e:SX.beq (gr es p) x=true):aM aa p=aM I x:=by
 grind[Dj,SX.beq_eq]
theorem cF7(I:Opq)(e:SX):aM I (Ot e)=aM I e:=by
 unfold Ot;split
 .rename_i l k;split
  .rename_i x hx;have:(R7 I l)[k]? =some (aM I x):=by
    rw[Bg,B0,hx];rfl
   show aM I x=(R7 I l).getD k default;grind
  .rfl
 .rfl
theorem AI{p x:SX}(ae:aa=I.upd 0 (R7 I es))(hf:Z4 es.length p=true)(e:AC es p x=true):aM aa p=aM I x:=by
 rw[ae,<-Dj p hf,<-cF7,SX.beq_eq _ _ e]
theorem cF8(ae:aa=I.upd 0 (R7 I es))(hw: ∀i b,src[i]? =some (.whole b)->aw i=O b){i s:Nat}{p q:SX}{x:AV}{v:Value}(f1:Z4 es.length p=true)(f2:Z4 es.length q=true)(e:QF src es i p q s x=true)(rv:VR O I x v):VR aw aa (.osl i p q s) v:=by
 unfold QF at e;split at e
 .obtain⟨e,e4⟩:=Q8 e;obtain⟨e,e3⟩:=Q8 e;obtain⟨e1,e2⟩:=Q8 e;obtain rfl:=R2.1 e1;have k1:dI aa p=dI I _:=congrArg Val.toI (AI ae f1 e3);have k2:dI aa q=dI I _:=congrArg Val.toI (AI ae f2 e4);grind[VR,BF]
 .cases e
theorem cF9(ae:aa=I.upd 0 (R7 I es))(hw: ∀i b,src[i]? =some (.whole b)->aw i=O b){i s:Nat}{q:SX}{x:AV}{v:Value}(f2:Z4 es.length q=true)(e:QX src es i q s x=true)(rv:VR O I x v):VR aw aa (.ous i q s) v:=by
 unfold QX at e;split at e
 .obtain⟨e,e4⟩:=Q8 e;obtain⟨e1,e2⟩:=Q8 e;obtain rfl:=R2.1 e1;have k2:dI aa q=dI I _:=congrArg Val.toI (yu ae f2 e4);grind[VR,BF]
 .cases e
theorem cG0(hw: ∀i b,src[i]? =some (.whole b)->aw i=O b){i o:Nat}{x:AV}{v:Value}(e:Mr src i o x=true)(rv:VR O I x v):VR aw aa (.ptr i o) v:=by
 unfold Mr at e;split at e
 .obtain⟨e1,e2⟩:=Q8 e;obtain rfl:=R2.1 e1;grind[VR,BF]
 .cases e
theorem cG1(hw: ∀i b,src[i]? =some (.whole b)->aw i=O b){i:Nat}{x:AV}{v:Value}(e:Og src i x=true)(rv:VR O I x v):VR aw aa (.map i) v:=by
 unfold Og at e;grind[VR,BF]
theorem d54(hw: ∀i b,src[i]? =some (.whole b)->aw i=O b){i o n c:Nat}{x:AV}{v:Value}(e:OU src i o n c x=true)(rv:VR O I x v):VR aw aa (.sl i o n c) v:=by
 unfold OU at e;split at e
 .obtain⟨e,e2⟩:=Q8 e;obtain⟨e,e4⟩:=Q8 e;obtain⟨e1,e3⟩:=Q8 e;obtain rfl:=R2.1 e1;obtain rfl:=R2.1 e3;obtain rfl:=R2.1 e4;grind[VR,BF]
 .cases e
theorem dr4(ae:aa=I.upd 0 (R7 I es)){k:IntKind}{p:SX}{x:AV}{v:Value}(f:Z4 es.length p=true)(e:PN es k p (fx x)=true)(rv:VR O I x v):v= .int k (dI aa p):=by
 unfold PN at e;split at e
 .rename_i k' x' hx;obtain⟨e1,e2⟩:=Q8 e;obtain rfl:=j6 e1;rw[oc hx rv];exact congrArg (λz:Val=>Value.int k z.toI) (AI ae f e2).symm
 .cases e
mutual
theorem cQ4(ae:aa=I.upd 0 (R7 I es))(hw: ∀i b,src[i]? =some (.whole b)->aw i=O b)(hv: ∀i s p q x v,wq p q=true->Dl blks i s q=true->src[i]? =some (.view x)->VR O I x v->VR aw aa (.osl i p q s) v):
 ∀(p x:AV) (v:Value),cq es.length nb p=true->cB src es blks p x=true->VR O I x v->VR aw aa p v
 | .oint k p,x,v,f,e,r=>by exact dr4 ae f e r
 | .ostr p,x,v,f,e,r=>by
   simp[cB]at e;unfold Fg at e;split at e
   .rename_i y hy;rw[sV hy r];exact congrArg (λz:Val=>Value.string ⟨z.toS.toArray⟩) (AI ae f e).symm
   .cases e
 | .obool p,x,v,f,e,r=>by
   simp[cB]at e;unfold Fg at e;split at e
   .rename_i y hy;rw[qt hy r];exact congrArg (λz:Val=>Value.bool z.toB) (AI ae f e).symm
   .cases e
 | .agg ps,x,v,f,e,r=>by
   simp[cB]at e;split at e
   .obtain⟨us,rfl,ru⟩:=r;exact⟨us,rfl,xY ae hw hv ps _ _ f e ru⟩
   .cases e
 | .iface t p,x,v,f,e,r=>by
   simp[cB]at e;split at e
   .obtain⟨e1,e2⟩:=Q8 e;obtain rfl:=R2.1 e1;obtain⟨y,rfl,ry⟩:=r;exact⟨y,rfl,cQ4 ae hw hv p _ _ f e2 ry⟩
   .cases e
 | .func fn a b,x,v,f,e,r=>by
   simp[cq,j7]at f;simp[cB]at e;split at e
   .obtain⟨e,e3⟩:=Q8 e;obtain⟨e1,e2⟩:=Q8 e;obtain rfl:=j6 e1;obtain⟨n,y,z,rfl,r1,r2⟩:=r;exact⟨n,y,z,rfl,xY ae hw hv a _ _ f.1 e2 r1,xY ae hw hv b _ _ f.2 e3 r2⟩
   .cases e
 | .ptr i o,x,v,f,e,r=>by grind[cB,cG0]
 | .osl i p q s,x,v,f,e,r=>by
   simp[cq,j7]at f;simp only[cB]at e;cases hq:wq p q with
   |true=>
    grind[bA1]
   |false=>
    grind[cF8]
 | .ous i q s,x,v,f,e,r=>by
   simp[cq,j7]at f;grind[cB,cF9]
 | .bool _,x,v,f,e,r=>by simp[cB]at e;grind[AV.beq_eq,V5]
 | .int _ _,x,v,f,e,r=>by simp[cB]at e;grind[AV.beq_eq,V5]
 | .str _,x,v,f,e,r=>by simp[cB]at e;grind[AV.beq_eq,V5]
 | .nilp,x,v,f,e,r=>by simp[cB]at e;grind[AV.beq_eq,V5]
 | .glob _,x,v,f,e,r=>by simp[cB]at e;grind[AV.beq_eq,V5]
 | .nils,x,v,f,e,r=>by simp[cB]at e;grind[AV.beq_eq,V5]
 | .sl _ _ _ _,x,v,f,e,r=>by grind[cB,d54]
 | .us _ _ _ _,x,v,f,e,r=>by simp[cB]at e;grind[AV.beq_eq,V5]
 | .es _ _ _,x,v,f,e,r=>by simp[cB]at e;grind[AV.beq_eq,V5]
 | .es0,x,v,f,e,r=>by simp[cB]at e;grind[AV.beq_eq,V5]
 | .nilm,x,v,f,e,r=>by simp[cB]at e;grind[AV.beq_eq,V5]
 | .map i,x,v,f,e,r=>by grind[cB,cG1]
 | .nilf,x,v,f,e,r=>by simp[cB]at e;grind[AV.beq_eq,V5]
 | .yield _,x,v,f,e,r=>by simp[cB]at e;grind[AV.beq_eq,V5]
 | .nili,x,v,f,e,r=>by simp[cB]at e;grind[AV.beq_eq,V5]
 | .tup _,x,v,f,e,r=>by simp[cB]at e;grind[AV.beq_eq,V5]
 | .opq _,x,v,f,e,r=>by simp[cB]at e;grind[AV.beq_eq,V5]
 | .optr _ _ _ _,x,v,f,e,r=>by simp[cB]at e;grind[AV.beq_eq,V5]
 | .atl _,x,v,f,e,r=>by simp[cB]at e;grind[AV.beq_eq,V5]
 | .any,x,v,f,e,r=>trivial
theorem xY(ae:aa=I.upd 0 (R7 I es))(hw: ∀i b,src[i]? =some (.whole b)->aw i=O b)(hv: ∀i s p q x v,wq p q=true->Dl blks i s q=true->src[i]? =some (.view x)->VR O I x v->VR aw aa (.osl i p q s) v):
 ∀(ps xs:List AV) (vs:List Value),kS es.length nb ps=true->oE src es blks ps xs=true->aT O I xs vs->aT aw aa ps vs
 | [],xs,vs,f,e,r=>by
   simp[oE]at e;split at e
   .exact r
   .cases e
 |p::ps,xs,vs,f,e,r=>by
  simp[kS,j7]at f;simp[oE]at e;split at e
  .obtain⟨e1,e2⟩:=Q8 e;obtain⟨v,vr,rfl,r1,r2⟩:=r;exact⟨v,vr,rfl,cQ4 ae hw hv p _ v f.1 e1 r1,xY ae hw hv ps _ vr f.2 e2 r2⟩
  .cases e
end
end
theorem Tm: ∀(l:List Blk) (h:Heap),h.next+l.length<=65536->(∀b,h.next<=b->h.get b=none)->(Z1 l h).next=h.next+l.length/\(Z1 l h).wm=h.wm/\ ∀b,(Z1 l h).get b=if b<h.next then h.get b else l[b-h.next]?
 | [],h,_,hf=>⟨rfl,rfl,λb=>by
  grind[Z1]⟩
 |x::r,h,hl,hf=>by
  simp at hl;obtain⟨h1,h2,h3⟩:=Tm r (h.new x) (by simp;omega) (λb hb=>by
   simp at hb;rw[Heap.get_new,b9 (by omega)];exact hf b (by omega))
  refine⟨by simp[Z1,h1,Heap.next_new,List.length_cons];omega,by simp[Z1,h2,Heap.wm_new],λb=> ?_⟩;simp[Z1,h3,Heap.next_new,Heap.get_new];grind
@[simp]theorem Heap.get_setwm(h:Heap)(n b:Nat):(h.setwm n).get b=h.get b:=by rfl
@[simp]theorem Heap.next_setwm(h:Heap)(n:Nat):(h.setwm n).next=h.next:=by rfl
@[simp]theorem Heap.wm_setwm(h:Heap)(n:Nat):(h.setwm n).wm=n:=by rfl
theorem FC.heap_ok(c:FC)(hl:c.blks.length<60000):c.heap.next=c.blks.length/\c.heap.wm=c.mt/\ ∀b,c.heap.get b=c.blks[b]? :=by
 obtain⟨h1,h2,h3⟩:=Tm c.blks Heap.empty (by show 0+_<=_;omega) (λb _=>Heap.get_empty b);refine⟨by unfold FC.heap;rw[Heap.next_setwm,h1];exact Nat.zero_add _,by unfold FC.heap;rw[Heap.wm_setwm],λb=> ?_⟩;unfold FC.heap;rw[Heap.get_setwm,h3];rfl
def Ls(O:aQ)(src:List BSrc)(mt:Nat)(w:World)(k:Nat):Prop:=k<w.heap.size/\ ∀i b L,mt<=i->src[i]? =some (.whole b)->O b=some L->k≠L.blk
section
variable{src:List BSrc}{es:List SX}{blks:List Blk}{mt:Nat}{args:List AV}
theorem CY: ∀{ps:List Blk} {ss:List BSrc} {nd:SX},At src es blks h ps ss=some nd->dB I nd=true->ps.length=ss.length/\ ∀(i:Nat) (p:Blk) (s:BSrc),ps[i]? =some p->ss[i]? =some s-> ∃e,nL src es blks h p s=some e/\dB I e=true
 | [],[],nd,e,hd=>⟨rfl,λi p s h1=>by simp at h1⟩
 | [],_::_,nd,e,hd=>by cases e
 |_::_,[],nd,e,hd=>by cases e
 |p::ps,s::ss,nd,e,hd=>by
  simp[At]at e;split at e
  .rename_i a b ha hb;simp at e;subst e;obtain⟨d1,d2⟩:=yI hd;obtain⟨l1,l2⟩:=CY hb d2;grind
  .cases e
theorem ch6{blks:List Blk}{mt:Nat}{i:Nat}{s:BSrc}: ∀{r:List BSrc} {j:Nat},EM blks mt h i s r j=true-> ∀k t,r[k]? =some t->zq blks mt h i (j+k) (gw s) (gw t)=true
 | [],j,e,k,t,hk=>by simp at hk
 |u::r,j,e,k,t,hk=>by
  simp[EM,j7]at e;cases k with
  |zero=>grind
  |succ k=>
   rw[show j+(k+1)=j+1+k by omega];exact ch6 e.2 k t hk
theorem JQ{blks:List Blk}{mt:Nat}: ∀{ss:List BSrc} {i:Nat},seps blks mt h ss i=true-> ∀a b s t,a<b->ss[a]? =some s->ss[b]? =some t->zq blks mt h (i+a) (i+b) (gw s) (gw t)=true
 | [],i,e,a,b,s,t,hab,ha,hb=>by simp at ha
 |u::r,i,e,a,b,s,t,hab,ha,hb=>by
  simp[seps,j7]at e;obtain⟨b,rfl⟩: ∃b',b=b'+1:=⟨b-1,by omega⟩;cases a with
  |zero=>
   have:=ch6 e.1 b t hb;grind
  |succ a=>
   have:=JQ e.2 a b s t (by omega) ha hb;grind
theorem Ib{b:Nat}: ∀{l:List AV} {vs:List Value},xE b l=true->aT O I l vs->O b≠none
 | [],vs,e,r=>by cases e
 |x::l,vs,e,⟨v,vr,_,r1,r2⟩=>by
  simp[xE,p8]at e;rcases e with e|e
  .split at e
   .obtain rfl:=R2.1 e;obtain⟨L,hL,_⟩:=r1;grind
   .obtain rfl:=R2.1 e;obtain⟨L,hL,_⟩:=r1;grind
   .cases e
  .exact Ib e r2
theorem cG2(r:HR O I K w0 h w){b c:Nat}(hc:O c≠none)(e:Ox h b c=true):O b≠none:=by
 unfold Ox at e;split at e
 .rename_i hg;cases hL:O c with
  |none=>grind
  |some L=>
   obtain⟨C,lo,hi,vs,_,_,_,_,q5,_⟩:=r.cells hg hL;exact Ib e q5
 .cases e
theorem Za(r:HR O I K w0 h w){us:List Value}(ra:aT O I args us){b:Nat}: ∀{l:List BSrc},GJ args h b l=true->O b≠none
 | [],e=>by cases e
 |s::l,e=>by
  simp[GJ,p8]at e;rcases e with e|e
  .split at e
   .grind[cG2,Ib]
   .cases e
  .exact Za r ra e
theorem Hh(r:HR O I K w0 h w){us:List Value}(ra:aT O I args us){all:List BSrc}{post:List (Option Blk)}: ∀{ss:List BSrc} {i:Nat},Ae mt args h all post ss i=true-> ∀k s,ss[k]? =some s->mt<=i+k-> ∃b,s= .whole b/\h.wm<=b/\b<h.next/\(O b≠none\/post[i+k-mt]? =some none\/RowB (h.get b))
 | [],i,e,k,s,hk,hm=>by simp at hk
 |u::ss,i,e,k,s,hk,hm=>by
  simp only[Ae,j7]at e;cases k with
  |zero=>
   simp at hk;subst hk;rw[p8]at e;rcases e with e|e
   .grind[T4]
   .split at e
    .obtain⟨e,e3⟩:=Q8 e;obtain⟨e1,e2⟩:=Q8 e;rw[R5]at e1;rw[T4]at e2;refine⟨_,rfl,e1,e2,?_⟩;rw[p8,p8,p8]at e3;rcases e3 with((e3|e3)|e3)|e3
     .grind[ch3]
     .grind[Ib]
     .grind[Za]
     .right;right;unfold We at e3;split at e3
      .rename_i hx;rw[hx];exact .arr _ _ _
      .rename_i hx;rw[hx];exact .bag _ _ _
      grind
    .cases e
  |succ k=>
   have:=Hh r ra e.2 k s hk (by omega);grind
end
structure Bound (c:FC) (nv:Nat) (args:List AV) (h:Heap) (b:Binding):Prop where
 len:b.es.length=nv
 slen:b.src.length=c.blks.length
 argv:oE b.src b.es c.blks c.args args=true
 seps:seps c.blks c.mt h b.src 0=true
 mutb:Ae c.mt args h b.src c.post b.src 0=true
 post:tM b.src c.mt c.post c.post c.mt=true
 out:(eh c.out).all (lq b.src c.mt c.post)=true
 blks:At b.src b.es c.blks h c.blks b.src=some b.nd
theorem Nc{α:Type}{l:List (Nat×α)}: ∀{n i:Nat} {r:List α},yV l n i=some r->r.length=n
 |0,i,r,e=>by grind[yV,Option.some.injEq]
 |n+1,i,r,e=>by
  simp[yV]at e;split at e
  .rename_i x q h1 h2;simp at e;subst e;simp[Nc h2]
  .cases e
theorem cG3{c:FC}{nv:Nat}{args:List AV}{b:Binding}(e:yJ c nv args h=some b):Bound c nv args h b:=by
 unfold yJ at e;simp_all;split at e
 .rename_i src es h1 h2;replace e:=Q9 e;obtain⟨hc,e⟩:=e;obtain⟨hc,c5⟩:=Q8 hc;obtain⟨hc,c4⟩:=Q8 hc;obtain⟨hc,c3⟩:=Q8 hc;obtain⟨c1,c2⟩:=Q8 hc;split at e
  .rename_i nd hnd;simp at e;subst e;exact⟨Nc h2,Nc h1,c1,c2,c3,c4,c5,hnd⟩
  .cases e
 .cases e
structure FcOk (c:FC) (nv:Nat):Prop where
 args:kS nv c.blks.length c.args=true
 blks: ∀(i:Nat) (x:Blk),c.blks[i]? =some x->ut nv c.blks.length (some x)=true/\((∃e fz cs,x= .cells e fz cs)\/(∃e sig l,x= .arr e sig l)\/(∃e sig l,x= .bag e sig l)\/ ∃d ks vs l,x= .marr d ks vs l)
 need:Z4 nv c.need=true
 outs:mj nv c.outs=true
 mt:c.mt<=c.blks.length
 lt:c.blks.length<60000
theorem Ts{c:FC}{nv:Nat}(e:ot c nv=true):FcOk c nv:=by
 obtain⟨e,e7⟩:=Q8 e;obtain⟨e,e6⟩:=Q8 e;obtain⟨e,e5⟩:=Q8 e;obtain⟨e,e4⟩:=Q8 e;obtain⟨e,e3⟩:=Q8 e;obtain⟨e1,e2⟩:=Q8 e;refine⟨e1,λi x hx=> ?_,e3,e4,R5.1 e5,T4.1 e6⟩;grind
theorem cG4{c:FC}{nv:Nat}{args:List AV}{b:Binding}{us:List Value}(r:HR O I K w0 h w)(ra:aT O I args us)(fo:FcOk c nv)(bo:Bound c nv args h b)(hd:dB I b.nd=true):
 aT (jo O I b.src c.blks) (I.upd 0 (R7 I b.es)) c.args us/\HR (jo O I b.src c.blks) (I.upd 0 (R7 I b.es)) (Ls O b.src c.mt w) w c.heap w:=by
 obtain⟨hn,hwm,bN⟩:=c.heap_ok fo.lt;obtain⟨hl,hB⟩:=CY bo.blks hd;have hw: ∀i x,b.src[i]? =some (.whole x)->jo O I b.src c.blks i=O x:=λi x hx=>by grind[jo]
 have view: ∀i x e sig q,b.src[i]? =some (.view x)->c.blks[i]? =some (.arr e sig q)-> ∃nd l,yP sig.length e sig x h=some (nd,l)/\dB I nd=true/\aM (I.upd 0 (R7 I b.es)) q=aM I l/\jo O I b.src c.blks i=gV O I sig.length x:=by
  intro i x e sig q hx hp;obtain⟨nd,h1,h2⟩:=hB i _ _ hp hx;simp[nL]at h1;split at h1
  .rename_i nd' l hv;obtain⟨h3,h1⟩:=Q9 h1;simp at h1;subst h1;have hf:=(fo.blks i _ hp).1;refine⟨_,l,hv,h2,yu rfl (by rw[bo.len];exact hf) h3,?_⟩;unfold jo;rw[hx,hp];rfl
  grind
 have hv: ∀i s p q x v,wq p q=true->Dl c.blks i s q=true->b.src[i]? =some (.view x)->VR O I x v->VR (jo O I b.src c.blks) (I.upd 0 (R7 I b.es)) (.osl i p q s) v:=by
  intro i s p q x v hpq hvb hx hr;unfold Dl at hvb;split at hvb
  .rename_i e sig l hp;obtain⟨h1,h2⟩:=Q8 hvb;have h2:=SX.beq_eq _ _ h2;subst h2;obtain⟨nd,lx,g1,g2,g3,g4⟩:=view i x e sig l hx hp;have vs:=(TP r g1 g2).sl hr;have hlen:dI (I.upd 0 (R7 I b.es)) (.op .llen [l])=((dL I lx).length:Int):=by
    exact congrArg (λz:Val=>(z.toL.length:Int)) g3
   have hp0:dI (I.upd 0 (R7 I b.es)) p=0:=by
    unfold wq at hpq;split at hpq
    .rfl
    .cases hpq
   simp only[VR];rw[hlen,hp0,g4];rcases vs with⟨L,cap,a,k1,k2,k3,k4⟩|⟨k1,a,cap,k2,k3⟩
   .exact .inl ⟨L,cap,a,k1,by simpa using k2,by simpa using k3,λ_=>by simpa using k4⟩
   .exact .inr ⟨a,cap,k2,k3,by rw[k1];rfl⟩
  grind
 have hargs:=xY (nb:=c.blks.length) (aw:=jo O I b.src c.blks) rfl hw hv c.args args us (by rw[bo.len];exact fo.args) bo.argv ra;have base: ∀i L,jo O I b.src c.blks i=some L-> ∃s y M,b.src[i]? =some s/\gw s=some y/\O y=some M/\M.blk=L.blk:=by
  intro i L e;unfold jo at e;split at e
  .rename_i y hy;exact⟨_,y,L,hy,rfl,e,rfl⟩
  .grind[bA0]
  .cases e
 have liveB: ∀(i:Nat) (s:BSrc) (p:Blk) (y:Nat),b.src[i]? =some s->c.blks[i]? =some p->gw s=some y-> ∃z,h.get y=some z:=by
  intro i s p y hs hp hy;obtain⟨nd,h1,_⟩:=hB i p s hp hs;cases s with
  |whole x=>
   simp[gw,j0]at hy;simp[nL]at h1;grind
  |view x=>
   simp[nL]at h1;grind[bY9]
 refine⟨hargs,⟨λi x L hg hL=> ?_,λi j x y L M hgi hgj hL hM hne hwk=> ?_,λi hi=> ?_,λi hi=> ?_,λi L hL=> ?_,λk hk=>hk.1,λk _=>rfl,λi x L hg hwi hL hk=> ?_,i6 _,rfl,rfl,rfl,i6 _⟩⟩
 .rw[bN]at hg;have hs: ∃s,b.src[i]? =some s:=by
   grind
  obtain⟨s,hs⟩:=hs;obtain⟨nd,h1,h2⟩:=hB i x s hg hs;have hf:=(fo.blks i x hg).1;cases s with
  |whole y=>
   simp[nL]at h1;rw[hw i y hs]at hL;split at h1
   .rename_i e fz ps e' fz' xs hgy;obtain⟨h3,_⟩:=Q9 h1;obtain⟨h3,h6⟩:=Q8 h3;obtain⟨h3,h5⟩:=Q8 h3;obtain⟨h3,h4⟩:=Q8 h3;obtain rfl:=R2.1 h3;obtain rfl:=R2.1 h4;obtain⟨C,lo,hi,vs,q1,q2,q3,q4,q5,q6,q7,q8⟩:=r.blk y _ L hgy hL;have hps:=xY (nb:=c.blks.length) (aw:=jo O I b.src c.blks) rfl hw hv ps xs vs (by rw[bo.len];exact hf) h6 q5;have hll:ps.length=xs.length:=by rw[<-hps.length,<-q5.length]
    exact⟨C,lo,hi,vs,q1,q2,by rw[hll];exact q3,h5,hps,by rw[hll];exact q6,q7,q8⟩
   .rename_i e sig q e' sig' l hgy;obtain⟨h3,_⟩:=Q9 h1;obtain⟨h3,h5⟩:=Q8 h3;obtain⟨h3,h4⟩:=Q8 h3;obtain rfl:=R2.1 h3;obtain rfl:=Y6 h4;have hbr:=r.blk y _ L hgy hL;have hden:dL (I.upd 0 (R7 I b.es)) q=dL I l:=congrArg Val.toL (yu rfl (by rw[bo.len];exact hf) h5);simp[BR]at hbr⊢;rw[hden];exact hbr
   .rename_i e sig q e' sig' l hgy;obtain⟨h3,_⟩:=Q9 h1;obtain⟨h3,h5⟩:=Q8 h3;obtain⟨h3,h4⟩:=Q8 h3;obtain rfl:=R2.1 h3;obtain rfl:=Y6 h4;have hbr:=r.blk y _ L hgy hL;have hden:dL (I.upd 0 (R7 I b.es)) q=dL I l:=congrArg Val.toL (yu rfl (by rw[bo.len];exact hf) h5);simp[BR]at hbr⊢;rw[hden];exact hbr
   .rename_i d ks vs q d' ks' vs' l hgy;obtain⟨j1,_⟩:=Q9 h1;obtain⟨j2,h6⟩:=Q8 j1;obtain⟨j3,h5⟩:=Q8 j2;obtain⟨j4,h4⟩:=Q8 j3;obtain rfl:=Y6 h4;obtain rfl:=Y6 h5;obtain⟨E,c',g1,g2,g3⟩:=r.blk y _ L hgy hL;have hden:dL (I.upd 0 (R7 I b.es)) q=dL I l:=congrArg Val.toL (yu rfl (by rw[bo.len];exact hf) h6);exact⟨E,c',g1,by rw[hden];exact g2,g3.weak j4⟩
   .rename_i d ks vs q c' hgy;obtain⟨h3,_⟩:=Q9 h1;obtain⟨h3,h6⟩:=Q8 h3;obtain⟨E,g1,g2⟩:=r.blk y _ L hgy hL;have hden:dL (I.upd 0 (R7 I b.es)) q=dL I (.op .row []):=congrArg Val.toL (yu rfl (by rw[bo.len];exact hf) h6);have hE:E.toList=[]:=by generalize E.toList=m at g2;cases g2;rfl
    refine⟨E,c',g1,by rw[hden,hE];rfl,?_⟩;rw[hE];exact(dG.nil c').weak h3
   grind
  |view y=>
   have: ∃e sig q,x= .arr e sig q:=by
    simp[nL]at h1;split at h1
    .exact⟨_,_,_,rfl⟩
    .cases h1
   obtain⟨e,sig,q,rfl⟩:=this;obtain⟨nd',lx,g1,g2,g3,g4⟩:=view i y e sig q hs hg;rw[g4]at hL;have hbr:=dr2 r g1 g2 L hL;have hden:dL (I.upd 0 (R7 I b.es)) q=dL I lx:=congrArg Val.toL g3;grind[BR]
 .rw[bN]at hgi hgj;obtain⟨s,y1,M1,s1,s2,s3,s4⟩:=base i L hL;obtain⟨t,y2,M2,t1,t2,t3,t4⟩:=base j M hM;obtain⟨z1,hz1⟩:=liveB i s x y1 s1 hgi s2;obtain⟨z2,hz2⟩:=liveB j t y y2 t1 hgj t2;have main: ∀(i j:Nat) (s t:BSrc) (x y:Blk) (y1 y2:Nat) (M1 M2:Loc) (z1 z2:Blk),zq c.blks c.mt h i j (gw s) (gw t)=true->c.blks[i]? =some x->c.blks[j]? =some y->(c.heap.wm<=i\/c.heap.wm<=j\/x.isArr=false\/y.isArr=false)->
   gw s=some y1->gw t=some y2->O y1=some M1->O y2=some M2->h.get y1=some z1->h.get y2=some z2->M1.blk≠M2.blk:=by
   intro i j s t x y y1 y2 M1 M2 z1 z2 hsep hx hy hk e1 e2 b1 b2 g1 g2;unfold zq at hsep;rw[p8]at hsep;rcases hsep with hsep|hsep
   .obtain⟨hsep,a4⟩:=Q8 hsep;obtain⟨hsep,a3⟩:=Q8 hsep;obtain⟨a1,a2⟩:=Q8 hsep;rw[T4]at a1 a2;rw[hx]at a3;rw[hy]at a4;rcases hk with q|q|q|q
    .omega
    .omega
    .cases x<;>simp only[Blk.isArr,reduceCtorEq]at q<;>cases a3
    .cases y<;>simp only[Blk.isArr,reduceCtorEq]at q<;>cases a4
   .obtain⟨a1,a2⟩:=Q8 hsep;rw[e1,e2]at a1 a2;have hne:y1≠y2:=by
     rintro rfl;simp[Xo]at a1
    refine r.sep y1 y2 z1 z2 M1 M2 g1 g2 b1 b2 hne ?_;simp[MD,Qo,p8,A6,R5]at a2;rw[g1,g2]at a2;rcases a2 with((q|q)|q)|q
    .omega
    .omega
    .refine .inr (.inr (.inl ?_));cases z1<;>first|rfl|cases q
    .refine .inr (.inr (.inr ?_));cases z2<;>first|rfl|cases q
  rw[<-s4,<-t4];rcases Nat.lt_or_gt_of_ne hne with hlt|hlt
  .have:=JQ bo.seps i j s t hlt s1 t1;rw[l7,l7]at this;exact main i j s t x y y1 y2 M1 M2 z1 z2 this hgi hgj hwk s2 t2 s3 t3 hz1 hz2
  .have:=JQ bo.seps j i t s hlt t1 s1;rw[l7,l7]at this;refine(main j i t s y x y2 y1 M2 M1 z2 z1 this hgj hgi ?_ t2 s2 t3 s3 hz2 hz1).symm;grind
 .grind[jo,List.getElem?_eq_none]
 .grind
 .obtain⟨s,y,M,_,_,h3,h4⟩:=base i L hL;rw[<-h4];exact r.lt y M h3
 .have hs: ∃s,b.src[i]? =some s:=by
   grind
  obtain⟨s,hs⟩:=hs;obtain⟨y,rfl,_,_,_⟩:=Hh r ra bo.mutb i s hs (by omega);rw[hw i y hs]at hL;exact hk.2 i y L hwi hs hL rfl
end Go.Ev
namespace Go.Ev
open Go
variable{I aa:Opq}{O ac au:aQ}{K:Nat->Prop}{w0 w w':World}{h h':Heap}
def eH:AV->Bool
 | .agg _=>false
 | .tup _=>false
 |_=>true
theorem T7{v:AV}(h:eH v=true):eh v=[v]:=by cases v<;>first|rfl|cases h
theorem d55{out v:AV}(h:eH v=true)(hs:ft out v=true):eH out=true:=by
 cases out<;>first
  |rfl
  |(simp[ft]at hs;split at hs<;>first|cases h|cases hs)
theorem cI{v:AV}{u:Value}(h:eH v=true)(r:VR O I v u): ∃us,aT O I (eh v) us/\ ∀(ac:aQ) (aa:Opq) (out:AV),ft out v=true->aT ac aa (eh out) us->VR ac aa out u:=by
 refine⟨[u],by rw[T7 h];exact .one r,λac aa out hs ho=> ?_⟩;rw[T7 (d55 h hs)]at ho;obtain⟨x,xr,e,p,q⟩:=ho;grind
theorem bn0: ∀{a b:List AV} {x y:List Value},a.length=x.length->aT O I (a++b) (x++y)->aT O I a x/\aT O I b y
 | [],b,[],y,_,r=>⟨rfl,r⟩
 | [],b,_::_,y,h,r=>by cases h
 |_::_,b,[],y,h,r=>by cases h
 |p::a,b,v::x,y,h,⟨v',vr,e,q,s⟩=>by
  obtain⟨rfl,rfl⟩:=e;obtain⟨h1,h2⟩:=bn0 (by grind) s;exact⟨⟨v,x,rfl,q,h1⟩,h2⟩
theorem cM{o v:AV}(ho:eH o=true)(h:ft o v=true):(eh o).length=(eh v).length:=by
 have hv:eH v=true:=by
  cases o<;>first
   |(exfalso;simp[eH]at ho;done)
   |(cases v<;>first|rfl|((cases h;done)))
 grind[T7]
mutual
theorem LC: ∀{o v:AV},ft o v=true->(eh o).length=(eh v).length
 | .agg a,v,h=>by
   simp[ft]at h;split at h
   .exact R2.1 h
   .cases h
 | .tup a,v,h=>by
   simp[ft]at h;split at h
   .exact bn1 h
   .cases h
 | .bool _,v,h=>cM rfl h
 | .int _ _,v,h=>cM rfl h
 | .str _,v,h=>cM rfl h
 | .nilp,v,h=>cM rfl h
 | .ptr _ _,v,h=>cM rfl h
 | .glob _,v,h=>cM rfl h
 | .nils,v,h=>cM rfl h
 | .sl _ _ _ _,v,h=>cM rfl h
 | .us _ _ _ _,v,h=>cM rfl h
 | .es _ _ _,v,h=>cM rfl h
 | .es0,v,h=>cM rfl h
 | .nilm,v,h=>cM rfl h
 | .map _,v,h=>cM rfl h
 | .nilf,v,h=>cM rfl h
 | .func _ _ _,v,h=>cM rfl h
 | .yield _,v,h=>cM rfl h
 | .nili,v,h=>cM rfl h
 | .iface _ _,v,h=>cM rfl h
 | .opq _,v,h=>cM rfl h
 | .oint _ _,v,h=>cM rfl h
 | .ostr _,v,h=>cM rfl h
 | .obool _,v,h=>cM rfl h
 | .osl _ _ _ _,v,h=>cM rfl h
 | .optr _ _ _ _,v,h=>cM rfl h
 | .ous _ _ _,v,h=>cM rfl h
 | .atl _,v,h=>cM rfl h
 | .any,v,h=>cM rfl h
theorem bn1: ∀{o v:List AV},kZ o v=true->(nK o).length=(nK v).length
 | [],v,h=>by
   grind[kZ]
 |a::r,v,h=>by
  simp[kZ]at h;split at h
  .rw[j7]at h;simp[nK,l5,LC h.1,bn1 h.2]
  .cases h
end
mutual
theorem UD: ∀(v:AV) (u:Value),VR O I v u-> ∃us,aT O I (eh v) us/\ ∀(ac:aQ) (aa:Opq) (out:AV),ft out v=true->aT ac aa (eh out) us->VR ac aa out u
 | .agg cs,u,r=>by
   obtain⟨xs,rfl,q⟩:=r;refine⟨xs.toList,q,λac aa out hs ho=> ?_⟩;cases out<;>simp only[ft,n5]at hs;exact⟨xs,rfl,ho⟩
 | .tup vs,u,r=>by
   obtain⟨xs,rfl,q⟩:=r;obtain⟨us,h1,h2⟩:=VL vs xs.toList q;refine⟨us,h1,λac aa out hs ho=> ?_⟩;cases out<;>simp only[ft,n5]at hs;exact⟨xs,rfl,h2 ac aa _ hs ho⟩
 | .bool b,u,r=>cI rfl r
 | .int a b,u,r=>cI rfl r
 | .str b,u,r=>cI rfl r
 | .nilp,u,r=>cI rfl r
 | .ptr a b,u,r=>cI rfl r
 | .glob b,u,r=>cI rfl r
 | .nils,u,r=>cI rfl r
 | .sl a b c d,u,r=>cI rfl r
 | .us a b c d,u,r=>cI rfl r
 | .es a b c,u,r=>cI rfl r
 | .es0,u,r=>cI rfl r
 | .nilm,u,r=>cI rfl r
 | .map b,u,r=>cI rfl r
 | .nilf,u,r=>cI rfl r
 | .func a b c,u,r=>cI rfl r
 | .yield b,u,r=>cI rfl r
 | .nili,u,r=>cI rfl r
 | .iface a b,u,r=>cI rfl r
 | .opq b,u,r=>cI rfl r
 | .oint a b,u,r=>cI rfl r
 | .ostr b,u,r=>cI rfl r
 | .obool b,u,r=>cI rfl r
 | .osl a b c d,u,r=>cI rfl r
 | .optr a b c d,u,r=>cI rfl r
 | .ous a b c,u,r=>cI rfl r
 | .atl b,u,r=>cI rfl r
 | .any,u,r=>cI rfl r
theorem VL: ∀(vs:List AV) (us0:List Value),aT O I vs us0-> ∃us,aT O I (nK vs) us/\ ∀(ac:aQ) (aa:Opq) (outs:List AV),kZ outs vs=true->aT ac aa (nK outs) us->aT ac aa outs us0
 | [],us0,r=>by
   refine⟨[],rfl,λac aa outs hs ho=> ?_⟩;cases outs with
   |nil=>exact r
   |cons a b=>grind[kZ]
 |v::vs,us0,⟨u,ur,e,p,q⟩=>by
  obtain⟨us1,a1,a2⟩:=UD v u p;obtain⟨us2,b1,b2⟩:=VL vs ur q;refine⟨us1++us2,a1.append b1,λac aa outs hs ho=> ?_⟩;cases outs with
  |nil=>grind[kZ]
  |cons o os=>
   simp[kZ,j7]at hs;have hl:(eh o).length=us1.length:=by rw[LC hs.1];exact a1.length.symm
   obtain⟨c1,c2⟩:=bn0 hl ho;exact⟨u,ur,e,a2 ac aa o hs.1 c1,b2 ac aa os hs.2 c2⟩
end
section
variable{Q:Nat->SX}{n:Nat}
theorem oz(g:Agr 0 I aa){p x:SX}{es:List SX}(h:je 1000 n p x=some es)(hp:kd p=true)(hq: ∀j e,es[j]? =some e->aM I (Q (n+j))=aM aa e):aM I (bI 1000 Q p)=aM aa x:=by
 unfold je at h;unfold bI;unfold kd at hp;split at h
 .obtain⟨h1,h2⟩:=Q9 h;simp at h2;subst h2;obtain rfl:=R2.1 h1;exact hq 0 x rfl
 .grind[Z4,SX.beq_eq,lG]
theorem bZ0(g:Agr 0 I aa){p q x y:SX}{es:List SX}(h:uZ 1000 n p q x y=some es)(hp:kd p=true)(hpq:kd q=true)(hq: ∀j e,es[j]? =some e->aM I (Q (n+j))=aM aa e):aM I (bI 1000 Q p)=aM aa x/\aM I (bI 1000 Q q)=aM aa y:=by
 unfold uZ at h;split at h
 .rename_i e1 h1;split at h
  .rename_i e2 h2;simp at h;subst h;refine⟨oz g h1 hp λj e hj=>hq j e ?_,oz g h2 hpq λj e hj=> ?_⟩
   .grind
   .have:=hq (e1.length+j) e (by rw[l9 (A7 _ _),B3];exact hj);grind
  .cases h
 .cases h
theorem QB{src:List BSrc}{i:Nat}(e:ji src i=true): ∃b,src[i]? =some (.whole b):=by
 grind[ji]
theorem CB{src:List BSrc}{m i b:Nat}(e:src[i]? =some (.whole b)):cr src m i=b:=by grind[cr]
theorem JM(ρ:Nat->Nat)(k:IntKind)(e:SX):eO ρ (kO k e)=kO k e:=by
 unfold kO;split<;>rfl
theorem ci0(k:IntKind)(e:SX):(kO k e).oneA=true:=by
 unfold kO;split<;>rfl
theorem bZ1{ρ:Nat->Nat}{p:AV}(h:sc p=true):eO ρ (eW Q p)=p:=by
 cases p<;>simp only[sc,n5]at h<;>simp only[eW,eO]
variable{src:List BSrc}{mt base N:Nat}{post:List (Option Blk)}
theorem MR(g:Agr 0 I aa){p x:AV}{u:Value}{es:List SX}(hcl:lq src mt post p=true)(hnn:yo src.length p=true)(ha:Y0 1000 base n p x=some es)(hq: ∀j e,es[j]? =some e->aM I (Q (n+j))=aM aa e)
 (r:VR O aa x u) (ap: ∀i b,src[i]? =some (.whole b)->au b=O i):VR au I (eO (cr src N) (eW Q p)) u:=by
 have plain:sc p=true->(bif AV.beq p x&&cq 1000 base x then some ([]:List SX)else none)=some es->VR au I (eO (cr src N) (eW Q p)) u:=by
  grind[bZ1,AV.beq_eq,V5]
 cases p with
 |oint k e=>
  simp[Y0]at ha;unfold Gn at ha;split at ha
  .rename_i k' x' hx;split at ha
   .rename_i hk;subst hk;rw[show eO (cr src N) (eW Q (.oint k e))=kO k (bI 1000 Q e)from JM _ _ _];refine Kd.2 ?_;rw[oc hx r];exact congrArg (λz:Val=>Value.int k z.toI) (oz g ha hcl hq).symm
   .cases ha
  grind
 |ostr e=>
  simp[Y0]at ha;unfold qL at ha;split at ha
  .rename_i x' hx;rw[sV hx r];exact congrArg (λz:Val=>Value.string ⟨z.toS.toArray⟩) (oz g ha hcl hq).symm
  grind
 |obool e=>
  simp[Y0]at ha;unfold qL at ha;split at ha
  .rename_i x' hx;rw[qt hx r];exact congrArg (λz:Val=>Value.bool z.toB) (oz g ha hcl hq).symm
  grind
 |osl i y z s=>
  simp[lq,j7]at hcl;simp[Y0]at ha;unfold Bl at ha;split at ha
  .rename_i b' y' z' s';obtain⟨h1,h2⟩:=Q9 ha;obtain⟨h1,_⟩:=Q8 h1;obtain⟨h1,h3⟩:=Q8 h1;obtain rfl:=R2.1 h1;obtain rfl:=R2.1 h3;obtain⟨b,hb⟩:=QB hcl.1.1;obtain⟨k1,k2⟩:=bZ0 g h2 hcl.1.2 hcl.2 hq;have k1:dI I (bI 1000 Q y)=dI aa y':=congrArg Val.toI k1;have k2:dI I (bI 1000 Q z)=dI aa z':=congrArg Val.toI k2;simp[eW,eO,CB hb,VR]at r⊢;rw[k1,k2,ap i b hb];exact r
  grind
 |ous i q s=>
  simp[yo,T4]at hnn;simp only[lq]at hcl;rw[show Nat.ble src.length i=false by
   cases hh:Nat.ble src.length i with
   |false=>rfl
   |true=>rw[R5]at hh;omega]at hcl
  simp at hcl;simp[Y0]at ha;unfold DD at ha;split at ha
  .rename_i b' q' s';obtain⟨h1,h2⟩:=Q9 ha;obtain⟨h1,_⟩:=Q8 h1;obtain⟨h1,h3⟩:=Q8 h1;obtain rfl:=R2.1 h1;obtain rfl:=R2.1 h3;obtain⟨b,hb⟩:=QB hcl.1;have k1:dI I (bI 1000 Q q)=dI aa q':=congrArg Val.toI (oz g h2 (by unfold kd;rw[hcl.2];rfl) hq);have hy:Ek Q q=bI 1000 Q q:=by
    have:=hcl.2;unfold tp at this;split at this
    .rfl
    .cases this
   simp[eW,eO,CB hb,VR]at r⊢;rw[hy,k1,ap i b hb];exact r
  grind
 |ptr i o=>
  simp[lq]at hcl;simp[Y0]at ha;grind[AV.beq_eq,QB,eW,eO,CB,VR]
 |bool _=>exact plain hcl ha
 |int _ _=>exact plain hcl ha
 |str _=>exact plain hcl ha
 |nilp=>exact plain hcl ha
 |glob _=>exact plain hcl ha
 |nils=>exact plain hcl ha
 |nilm=>exact plain hcl ha
 |nilf=>exact plain hcl ha
 |nili=>exact plain hcl ha
 |_=>simp_all[lq,sc,n5]
theorem Yb(g:Agr 0 I aa): ∀{ps xs:List AV} {us:List Value} {n:Nat} {es:List SX},(ps.all λp=>lq src mt post p&&yo src.length p&&p.oneA)=true->iT 1000 base n ps xs=some es->(∀j e,es[j]? =some e->aM I (Q (n+j))=aM aa e)->
 aT O aa xs us->(∀i b,src[i]? =some (.whole b)->au b=O i)->aT au I (kY (cr src N) (nH Q ps)) us
 | [],xs,us,n,es,hcl,ha,hq,r,ap=>by
   cases xs with
   |nil=>exact r
   |cons a b=>grind[iT]
 |p::ps,xs,us,n,es,hcl,ha,hq,r,ap=>by
  cases xs with
  |nil=>grind[iT]
  |cons x xs=>
   simp at hcl;simp[iT]at ha;split at ha
   .rename_i e1 h1;split at ha
    .rename_i e2 h2;simp at ha;subst ha;obtain⟨v,vr,rfl,r1,r2⟩:=r;refine⟨v,vr,rfl,MR g hcl.1.1.1 hcl.1.1.2 h1 (λj e hj=>hq j e ?_) r1 ap,Yb g (by simpa using hcl.2) h2 (λj e hj=> ?_) r2 ap⟩
     .have hlt:=(x8.1 hj).1;rw[s8 hlt];exact hj
     .have:=hq (e1.length+j) e (by rw[l9 (A7 _ _),B3];exact hj);rw[show n+e1.length+j=n+(e1.length+j) by omega];exact this
    .cases ha
   grind
theorem ci3(ρ:Nat->Nat): ∀l:List AV,(l.all λp=>lq src mt post p&&yo src.length p&&p.oneA)=true->(kY ρ (nH Q l)).all AV.oneA=true
 | [],_=>rfl
 |a::r,h=>by
  simp at h;simp only[nH,kY,List.all_cons,j7];refine⟨?_,ci3 ρ r (by grind)⟩;have:=h.1.2;cases a<;>simp only[eW,eO]<;>first|exact this|rfl|grind[JM,ci0]
theorem ci4(g:Agr 0 I aa){L:Loc}{o:Option Obj}{p z x:Blk}{es:List SX}(hcl:BS src mt post (some p)=true)(ha:kR 1000 base n p z=some es)(hq: ∀j e,es[j]? =some e->aM I (Q (n+j))=aM aa e)
 (r:BR O aa L o z) (ap: ∀i b,src[i]? =some (.whole b)->au b=O i) (hx:kz (cr src N) (kv Q (some p))=some x):BR au I L o x:=by
 cases p with
 |cells e fz ps=>
  cases z<;>simp only[kR,reduceCtorEq]at ha;obtain⟨h1,h2⟩:=Q9 ha;obtain⟨h1,h4⟩:=Q8 h1;obtain⟨h1,h3⟩:=Q8 h1;obtain rfl:=R2.1 h1;obtain rfl:=R2.1 h3;simp[kv,kz,j0]at hx;subst hx;obtain⟨C,lo,hi,vs,q1,q2,q3,q4,q5,q6,q7,q8⟩:=r;have hv:=Yb (N:=N) g hcl h2 hq q5 ap;have hl:(kY (cr src N) (nH Q ps)).length=vs.length:=hv.length.symm;have hl2:=q5.length;refine⟨C,lo,hi,vs,q1,q2,by omega,ci3 _ _ hcl,hv,by grind,q7,λhh=>q8 (by rw[<-hh];exact g.fix▸rfl)⟩
 |arr e sig l=>
  cases z<;>simp only[kR,reduceCtorEq]at ha;obtain⟨h1,h2⟩:=Q9 ha;obtain⟨h1,h3⟩:=Q8 h1;obtain rfl:=R2.1 h1;obtain rfl:=Y6 h3;simp[kv,kz,j0]at hx;have k:dL I (bI 1000 Q l)=dL aa _:=congrArg Val.toL (oz g h2 hcl hq);grind[BR]
 |marr d ks vs l=>
  simp[kv,kz,j0]at hx;subst hx;cases z with
  |marr d' ks' vs' x=>
   obtain⟨h1,h2⟩:=Q9 ha;obtain⟨h5,h1⟩:=Q8 h1;obtain⟨h3,h4⟩:=Q8 h1;obtain rfl:=Y6 h3;obtain rfl:=Y6 h4;have k:dL I (bI 1000 Q l)=dL aa x:=congrArg Val.toL (oz g h2 hcl hq);obtain⟨E,c,q1,q2,q3⟩:=r;exact⟨E,c,q1,by grind,q3.weak h5⟩
  |map es' c=>
   cases es' with
   |nil=>
    obtain⟨h5,h2⟩:=Q9 ha;have k:dL I (bI 1000 Q l)=dL aa (.op .row []):=congrArg Val.toL (oz g h2 hcl hq);obtain⟨E,q1,q2⟩:=r;have hE:E.toList=[]:=by generalize E.toList=z at q2;cases q2;rfl
    refine⟨E,_,q1,?_⟩;rw[hE,k];exact⟨rfl,(dG.nil _).weak h5⟩
   |cons e r=>grind[kR]
  |_=>grind[kR]
 |_=>grind[BS,Bool.false_eq_true]
end
end Go.Ev
namespace Go.Ev
open Go
variable{I aa:Opq}{O ac au:aQ}{K:Nat->Prop}{w0 w w':World}{h h':Heap}
section
variable{Q:Nat->SX}{ρ:Nat->Nat}{m:Nat}
structure Laid (Q:Nat->SX) (ρ:Nat->Nat) (m:Nat) (l:List (Option Blk)) (i:Nat) (h h2:Heap):Prop where
 wm:h2.wm=h.wm
 next:h2.next=h.next+(i+l.length-Nat.max i m)
 get: ∀b y,h2.get b=some y->(∃j x,l[j]? =some x/\i+j<m/\ρ (i+j)=b/\kz ρ (kv Q x)=some y)\/(∃j x,l[j]? =some x/\m<=i+j/\b=h.next+(i+j-Nat.max i m)/\kz ρ (kv Q x)=some y)\/(h.get b=some y/\ ∀j,j<l.length->i+j<m->ρ (i+j)≠b)
 keep: ∀b,b<h.next->(∀j,j<l.length->i+j<m->ρ (i+j)≠b)->h2.get b=h.get b
theorem bZ2{x:Option Blk}(e:xn x=true): ∃y,kz ρ (kv Q x)=some y:=by
 unfold xn at e;split at e
 .exact⟨_,rfl⟩
 .cases e
theorem MH: ∀(l:List (Option Blk)) (i:Nat) (h:Heap),(∀j x,l[j]? =some x->m<=i+j->xn x=true)->(∀j,j<l.length->i+j<m->ρ (i+j)<h.next)->Laid Q ρ m l i h (jB ρ Q m l i h)
 | [],i,h,hr,hb=>by
   refine⟨rfl,?_,λb y e=> .inr (.inr ⟨e,λj hj=>by simp at hj⟩),λ_ _ _=>rfl⟩;show h.next=h.next+(i+0-max i m)
   omega
 |x::r,i,h,hr,hb=>by
  by_cases him:i<m
  .
   have hstep:jB ρ Q m (x::r) i h=jB ρ Q m r (i+1) (h.put (ρ i) (kz ρ (kv Q x))):=by
    simp_all[jB,dF,cond_true]
   have ih:=MH r (i+1) (h.put (ρ i) (kz ρ (kv Q x))) (λj y hj hm=>hr (j+1) y (by grind) (by omega)) (λj hj hm=>by rw[Heap.next_put];have:=hb (j+1) (by simp;omega) (by omega);grind);rw[hstep];have hmax:Nat.max (i+1) m=m:=P5 (by omega);have hmax':Nat.max i m=m:=P5 (by omega);refine⟨ih.wm,?_,λb y e=> ?_,λb hb' hn=> ?_⟩
   .rw[ih.next,Heap.next_put,hmax,hmax',List.length_cons];omega
   .rcases ih.get b y e with⟨j,z,h1,h2,h3,h4⟩|⟨j,z,h1,h2,h3,h4⟩|⟨h1,h2⟩
    .exact .inl ⟨j+1,z,by grind,by omega,by grind,h4⟩
    .refine .inr (.inl ⟨j+1,z,by simpa using h1,by omega,?_,h4⟩);grind[Heap.next_put]
    .rw[Heap.get_put]at h1;by_cases hbi:b=ρ i
     .rw[e8 hbi]at h1;split at h1
      .exact .inl ⟨0,x,rfl,by omega,hbi.symm,h1⟩
      .cases h1
     grind
   .rw[ih.keep b (by simp_all) (λj hj hm=>by rw[show i+1+j=i+(j+1) by omega];exact hn (j+1) (by grind) (by omega)),Heap.get_put,b9];exactλhh=>hn 0 (by simp) him hh.symm
  .obtain⟨z,hz⟩:=bZ2 (Q:=Q) (ρ:=ρ) (hr 0 x rfl (by omega));have hstep:jB ρ Q m (x::r) i h=jB ρ Q m r (i+1) (h.new z):=by
    simp_all[jB,eM,cond_false]
   have ih:=MH r (i+1) (h.new z) (λj y hj hm=>hr (j+1) y (by grind) (by omega)) (λj hj hm=>by omega);rw[hstep];have hmax:Nat.max (i+1) m=i+1:=P6 (by omega);have hmax':Nat.max i m=i:=P6 (by omega);refine⟨ih.wm,?_,λb y e=> ?_,λb hb' hn=> ?_⟩
   .rw[ih.next,Heap.next_new,hmax,hmax',List.length_cons];omega
   .rcases ih.get b y e with⟨j,u,h1,h2,h3,h4⟩|⟨j,u,h1,h2,h3,h4⟩|⟨h1,h2⟩
    .omega
    .refine .inr (.inl ⟨j+1,u,by simpa using h1,by omega,?_,h4⟩);grind[Heap.next_new]
    .rw[Heap.get_new]at h1;by_cases hbi:b=h.next
     .rw[e8 hbi]at h1;split at h1
      .simp at h1;subst h1;exact .inr (.inl ⟨0,x,rfl,by omega,by omega,hz⟩)
      .cases h1
     grind
   .rw[ih.keep b (by rw[Heap.next_new];omega) (λj hj hm=>by omega),Heap.get_new,b9 (by omega)]
end
section
variable{m base:Nat}{a:Fr}
theorem Xk{P:Nat->SX->Prop}: ∀{ps:List AV} {t n:Nat} {es:List SX},DW m base h a ps t n=some es->(∀j e,es[j]? =some e->P (n+j) e)-> ∀k p,ps[k]? =some p-> ∃n' es',KH m base n' h p (a.slot (t+k))=some es'/\ ∀j e,es'[j]? =some e->P (n'+j) e
 | [],t,n,es,e,hp,k,p,hk=>by simp at hk
 |q::ps,t,n,es,e,hp,k,p,hk=>by
  simp[DW]at e;split at e
  .rename_i e1 h1;split at e
   .rename_i e2 h2;simp at e;subst e;cases k with
    |zero=>
     grind
    |succ k=>
     obtain⟨n',es',g1,g2⟩:=Xk h2 (λj e hj=>by
      have:=hp (e1.length+j) e (by rw[l9 (A7 _ _),B3];exact hj);rw[show n+e1.length+j=n+(e1.length+j) by omega];exact this) k p hk
     grind
   .cases e
  .cases e
theorem YF{P:Nat->SX->Prop}: ∀{ps:List (Option Blk)} {i n:Nat} {es:List SX},EO m base h ps i n=some es->(∀j e,es[j]? =some e->P (n+j) e)-> ∀k p,ps[k]? =some p-> ∃n' es',oe 1000 base n' p (h.get (bif Nat.blt (i+k) m then i+k else base+(i+k-m)))=some es'/\ ∀j e,es'[j]? =some e->P (n'+j) e
 | [],i,n,es,e,hp,k,p,hk=>by simp at hk
 |q::ps,i,n,es,e,hp,k,p,hk=>by
  simp[EO]at e;split at e
  .rename_i e1 h1;split at e
   .rename_i e2 h2;simp at e;subst e;cases k with
    |zero=>
     grind
    |succ k=>
     obtain⟨n',es',g1,g2⟩:=YF h2 (λj e hj=>by
      have:=hp (e1.length+j) e (by rw[l9 (A7 _ _),B3];exact hj);rw[show n+e1.length+j=n+(e1.length+j) by omega];exact this) k p hk
     grind
   .cases e
  .cases e
theorem cG5{x:AV}{v:Value}(hd:dB I (yy h x).1=true)(r:VR O I x v):VR O I (yy h x).2 v:=by
 cases x with
 |ous b len s=>
  cases hg:h.get b with
  |none=>grind[yy]
  |some y=>
   cases y with
   |arr e sig l=>
    simp[yy,hg]at hd⊢;cases hc:SX.beq len (.op .llen [l])with
    |true=>exact r
    |false=>
     rw[hc]at hd;have:dI I len=dI I (.op .llen [l]):=j6 hd;grind[VR]
   |_=>grind[yy]
 |_=>exact r
theorem bn3: ∀{xs:List AV} {vs:List Value},dB I (vX h xs).1=true->aT O I xs vs->aT O I (vX h xs).2 vs
 | [],vs,hd,r=>r
 |x::xs,vs,hd,⟨v,vr,e,p,q⟩=>by
  obtain⟨d1,d2⟩:=yI hd;exact⟨v,vr,e,cG5 d1 p,bn3 d2 q⟩
theorem Td{pc:PC}(hp:jD I pc): ∀l:List SX,R7 I (Gk pc l)=R7 I l
 | []=>rfl
 |a::r=>by simp[Gk,R7,KM hp,Td hp r]
theorem dr5{xs:List AV}{us:List Value}(ra:aT O I xs us)(hl:xs.length<=256):bj O I ⟨lZ xs 0 TF.empty,xs.length,[],0,[],none⟩ {tmps:=us.toArray,defers:=[]}:=by
 have:=Nt (fn:=0) (nt:=xs.length) ra (by rw[show Nat.max xs.length xs.length=xs.length from Nat.max_self _];exact hl);rw[show Nat.max xs.length xs.length=xs.length from Nat.max_self _,show xs.length-us.toArray.size=0 by rw[F8,ra.length];exact Nat.sub_self _]at this;grind
end
theorem NW{src:List BSrc}{mt:Nat}{post:List (Option Blk)}: ∀{l:List (Option Blk)} {i:Nat},tM src mt post l i=true->src.length<=i+l.length/\ ∀j x,l[j]? =some x->(i+j<src.length->BS src mt post x=true)/\(src.length<=i+j->xn x=true)
 | [],i,e=>⟨by grind[tM,R5],λj x hx=>by simp at hx⟩
 |x::l,i,e=>by
  simp only[tM]at e;by_cases hi:i<src.length
  .rw[dF hi]at e;simp at e;obtain⟨h1,h2⟩:=NW e.2;grind
  .rw[eM hi]at e;simp at e;obtain⟨h1,h2⟩:=NW e.2;grind
theorem Cu{post:List (Option Blk)}{mt m base:Nat}: ∀{l:List AV} {t:Nat} {o:OwnP},o∈qI post mt m base l t->base<=o.blk
 | [],t,o,ho=>by cases ho
 |p::l,t,o,ho=>by
  cases p<;>simp only[qI]at ho<;>try exact Cu ho
  rename_i i x s;cases hm:Nat.ble m i with
  |false=>rw[hm]at ho;exact Cu ho
  |true=>
   rw[hm]at ho;split at ho
   .rcases m7.1 ho with rfl|ho
    .grind
    .exact Cu ho
   .exact Cu ho
mutual
theorem TT{F:AV->AV}(h1: ∀l,F (.agg l)= .agg (l.map F))(h2: ∀l,F (.tup l)= .tup (l.map F))(h3: ∀x,eH x=true->eH (F x)=true): ∀v:AV,eh (F v)=(eh v).map F
 | .agg l=>by rw[h1];rfl
 | .tup l=>by rw[h2];exact TB h1 h2 h3 l
 | .bool a=>by rw[T7 (h3 _ rfl)];rfl
 | .int a b=>by rw[T7 (h3 _ rfl)];rfl
 | .str a=>by rw[T7 (h3 _ rfl)];rfl
 | .nilp=>by rw[T7 (h3 _ rfl)];rfl
 | .ptr a b=>by rw[T7 (h3 _ rfl)];rfl
 | .glob a=>by rw[T7 (h3 _ rfl)];rfl
 | .nils=>by rw[T7 (h3 _ rfl)];rfl
 | .sl a b c d=>by rw[T7 (h3 _ rfl)];rfl
 | .us a b c d=>by rw[T7 (h3 _ rfl)];rfl
 | .es a b c=>by rw[T7 (h3 _ rfl)];rfl
 | .es0=>by rw[T7 (h3 _ rfl)];rfl
 | .nilm=>by rw[T7 (h3 _ rfl)];rfl
 | .map a=>by rw[T7 (h3 _ rfl)];rfl
 | .nilf=>by rw[T7 (h3 _ rfl)];rfl
 | .func a b c=>by rw[T7 (h3 _ rfl)];rfl
 | .yield a=>by rw[T7 (h3 _ rfl)];rfl
 | .nili=>by rw[T7 (h3 _ rfl)];rfl
 | .iface a b=>by rw[T7 (h3 _ rfl)];rfl
 | .opq a=>by rw[T7 (h3 _ rfl)];rfl
 | .oint a b=>by rw[T7 (h3 _ rfl)];rfl
 | .ostr a=>by rw[T7 (h3 _ rfl)];rfl
 | .obool a=>by rw[T7 (h3 _ rfl)];rfl
 | .osl a b c d=>by rw[T7 (h3 _ rfl)];rfl
 | .optr a b c d=>by rw[T7 (h3 _ rfl)];rfl
 | .ous a b c=>by rw[T7 (h3 _ rfl)];rfl
 | .atl a=>by rw[T7 (h3 _ rfl)];rfl
 | .any=>by rw[T7 (h3 _ rfl)];rfl
theorem TB{F:AV->AV}(h1: ∀l,F (.agg l)= .agg (l.map F))(h2: ∀l,F (.tup l)= .tup (l.map F))(h3: ∀x,eH x=true->eH (F x)=true): ∀l:List AV,nK (l.map F)=(nK l).map F
 | []=>rfl
 |a::r=>by simp[n9,nK,u4,TT h1 h2 h3 a,TB h1 h2 h3 r]
end
theorem cK{F o v:AV}(h1:eH o=true)(h2:eH F=true)(h:ft o v=true):ft F v=true:=by
 have hv:eH v=true:=by
  cases o<;>first
   |(exfalso;simp[eH]at h1;done)
   |(simp[ft]at h;cases v<;>first|rfl|grind)
 cases F<;>first
  |(exfalso;simp[eH]at h2;done)
  |(cases v<;>first|rfl|((cases hv;done)))
mutual
theorem XS{F:AV->AV}(h1: ∀l,F (.agg l)= .agg (l.map F))(h2: ∀l,F (.tup l)= .tup (l.map F))(h3: ∀x,eH x=true->eH (F x)=true): ∀(o v:AV),ft o v=true->ft (F o) v=true
 | .agg l,v,h=>by
   simp_all[ft,o9]
 | .tup l,v,h=>by
   rw[h2];simp[ft]at h⊢;split at h
   .exact SN h1 h2 h3 l _ h
   .cases h
 | .bool a,v,h=>cK rfl (h3 _ rfl) h
 | .int a b,v,h=>cK rfl (h3 _ rfl) h
 | .str a,v,h=>cK rfl (h3 _ rfl) h
 | .nilp,v,h=>cK rfl (h3 _ rfl) h
 | .ptr a b,v,h=>cK rfl (h3 _ rfl) h
 | .glob a,v,h=>cK rfl (h3 _ rfl) h
 | .nils,v,h=>cK rfl (h3 _ rfl) h
 | .sl a b c d,v,h=>cK rfl (h3 _ rfl) h
 | .us a b c d,v,h=>cK rfl (h3 _ rfl) h
 | .es a b c,v,h=>cK rfl (h3 _ rfl) h
 | .es0,v,h=>cK rfl (h3 _ rfl) h
 | .nilm,v,h=>cK rfl (h3 _ rfl) h
 | .map a,v,h=>cK rfl (h3 _ rfl) h
 | .nilf,v,h=>cK rfl (h3 _ rfl) h
 | .func a b c,v,h=>cK rfl (h3 _ rfl) h
 | .yield a,v,h=>cK rfl (h3 _ rfl) h
 | .nili,v,h=>cK rfl (h3 _ rfl) h
 | .iface a b,v,h=>cK rfl (h3 _ rfl) h
 | .opq a,v,h=>cK rfl (h3 _ rfl) h
 | .oint a b,v,h=>cK rfl (h3 _ rfl) h
 | .ostr a,v,h=>cK rfl (h3 _ rfl) h
 | .obool a,v,h=>cK rfl (h3 _ rfl) h
 | .osl a b c d,v,h=>cK rfl (h3 _ rfl) h
 | .optr a b c d,v,h=>cK rfl (h3 _ rfl) h
 | .ous a b c,v,h=>cK rfl (h3 _ rfl) h
 | .atl a,v,h=>cK rfl (h3 _ rfl) h
 | .any,v,h=>cK rfl (h3 _ rfl) h
theorem SN{F:AV->AV}(h1: ∀l,F (.agg l)= .agg (l.map F))(h2: ∀l,F (.tup l)= .tup (l.map F))(h3: ∀x,eH x=true->eH (F x)=true): ∀(o v:List AV),kZ o v=true->kZ (o.map F) v=true
 | [],v,h=>h
 |a::r,v,h=>by
  simp[kZ,n9]at h⊢;split at h
  .rw[j7]at h⊢;exact⟨XS h1 h2 h3 a _ h.1,SN h1 h2 h3 r _ h.2⟩
  .cases h
end
theorem Pe(Q:Nat->SX): ∀l:List AV,nH Q l=l.map (eW Q)
 | []=>rfl
 |a::r=>by simp[nH,n9,Pe Q r]
theorem QL(ρ:Nat->Nat): ∀l:List AV,kY ρ l=l.map (eO ρ)
 | []=>rfl
 |a::r=>by simp[kY,n9,QL ρ r]
theorem Uc{F:AV->AV}: ∀{ps:List AV} {us:List Value},ps.length=us.length->(∀(k:Nat) (p:AV) (u:Value),ps[k]? =some p->us[k]? =some u->VR O I (F p) u)->aT O I (ps.map F) us
 | [],[],_,_=>rfl
 | [],_::_,h,_=>by cases h
 |_::_,[],h,_=>by cases h
 |p::ps,u::us,h,hk=>⟨u,us,rfl,hk 0 p u rfl rfl,Uc (by grind) (λk q v h1 h2=>hk (k+1) q v (by grind) (by grind))⟩
end Go.Ev
