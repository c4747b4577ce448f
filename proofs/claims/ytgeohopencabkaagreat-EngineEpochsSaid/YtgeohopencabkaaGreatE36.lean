import Derived.Test.YtgeohopencabkaaGreatE28
set_option linter.all false
noncomputable section
namespace Go.Ev
open Go
variable{sig:wD}{l nd:SX}{x:AV}{elem:Nat}
variable{I:Opq}{O:cj}{K:wW}{w0 w:Ac}{h:Heap}
def GV(I:Opq): ∀l:GF,X4 I l=l.map (bZ I)
 | []=>rfl
 |a::r=>by simp[X4,m8,GV I r]
mutual
theorem Fk{es:GF}: ∀e:SX,fh es.length e=true->bZ I (ko es e)=bZ (I.U 0 (X4 I es)) e
 | .C _,_=>rfl
 | .cs _,_=>rfl
 | .cb _,_=>rfl
 | .V n,h=>by simp[fh,Y8]at h;simp[ko];have:=vM (I:=I) (v0:=0) (l:=X4 I es) (j:=n) (x:=bZ I es[n]) (by rw[GV,B9,m7 h];rfl);simp_all[n9,Option.getD_some,bZ]
 | .O p l,h=>by simp[ko,bZ];rw[Sy l h]
 | .Q f l,h=>by simp[ko,bZ];rw[Sy l h];rfl
theorem Sy{es:GF}: ∀l:GF,qL es.length l=true->X4 I (Em es l)=X4 (I.U 0 (X4 I es)) l
 | [],_=>rfl
 |a::r,h=>by simp[qL,j8]at h;simp only[Em,X4];rw[Fk a h.1,Sy r h.2]
end
def kQ(O:cj)(I:Opq)(sz:Nat)(x:AV):aa7:=match x with
 | .osl b off len _=>if 0<dI I len then(O b).map λL=>⟨L.blk,L.off+(dI I off).toNat*sz,(dI I len).toNat*sz⟩else none
 | .U b len _=>if 0<dI I len then(O b).map λL=>⟨L.blk,L.off,(dI I len).toNat*sz⟩else none
 | .sl b o n _=>if 0<n then(O b).map λL=>⟨L.blk,L.off+o,n*sz⟩else none
 | .us b o n _=>if 0<n then(O b).map λL=>⟨L.blk,L.off+o,n*sz⟩else none
 |_=>none
def YP{e:Nat}{lx:SX}{L:Loc}{o:aaY}{p n:Nat}(r:BR O I L o (.A e sig l))(hp:p+n<=(dL I l).length)(hl:dL I lx=((dL I l).drop p).take n):
 BR O I ⟨L.blk,L.off+p*sig.length,n*sig.length⟩ o (.A e sig lx):=by
 obtain⟨C,e',lo,hi,q1,q0,q2,q3,q4,q5⟩:=r;have hle:(p+n)*sig.length<=(dL I l).length*sig.length:=B2 _ hp;rw[x9]at hle;have hn:(dL I lx).length=n:=by grind
 refine⟨C,e',lo,hi,q1,q0,by grind,by grind,λi v hv=> ?_,λi hq=> ?_⟩
 show C[L.off+p*sig.length+i]? =some v;rw[hl]at hv;rw[show L.off+p*sig.length+i=L.off+(p*sig.length+i) by omega];apply q4;have e1:dL I l=(dL I l).take p++(((dL I l).drop p).take n++((dL I l).drop p).drop n):=by rw[y8,y8]
 rw[e1,CZ,CZ];have hl1:(Y2 sig ((dL I l).take p)).length=p*sig.length:=by rw[iR,n8];congr 1;omega
 rw[s9 (by omega),hl1,show p*sig.length+i-p*sig.length=i by omega];grind;have hq:i<n*sig.length:=hq;have:=q5 (p*sig.length+i) (by omega);grind
def MR{e fz:Nat}{cs:zw}{lx:SX}{rs:GF}{L:Loc}{o:aaY}{p n:Nat}(r:BR O I L o (.cells e fz cs))(hf:fz<=p)(hp:p+n*sig.length<=cs.length)
 (hrs:lE sig sig.length n ((cs.drop p).take (n*sig.length))=some rs) (hl:dL I lx=X4 I rs):BR O I ⟨L.blk,L.off+p,n*sig.length⟩ o (.A e sig lx)/\(dL I lx).length=n:=by
 obtain⟨C,lo,hi,vs,q1,q2,q3,q4,q5,q6,q7,q8⟩:=r;have hsub:co O I ((cs.drop p).take (n*sig.length)) ((vs.drop p).take (n*sig.length)):=(q5.drop _).take _;obtain⟨z1,z2⟩:=uG hrs (by grind) hsub;refine⟨⟨C,_,lo,hi,q1,.inl rfl,by grind,by grind,λi v hv=> ?_,λi hq=> ?_⟩,by grind⟩;grind;have hq:i<n*sig.length:=hq;have:=q7 (p+i) (by omega) (by omega);grind
theorem CY{a b:SX}(h:dB I (gL a b)=true):dB I a=true/\dB I b=true:=by simp_all[Ov,j8]
structure ViewOk (O:cj) (I:Opq) (w:Ac) (h:Heap) (elem:Nat) (sig:wD) (x:AV) (v:Zl) (l:SX):Prop where
 br: ∀L,kQ O I sig.length x=some L->BR O I L w.heap[L.blk]? (.A elem sig l)
 sl:VR O I x v->(∃L cap a,kQ O I sig.length x=some L/\v= .slice (some a) (dL I l).length cap/\(dL I l).length<=cap/\a=⟨L.blk,L.off,none⟩)\/((dL I l).length=0/\ ∃a cap,v= .slice a 0 cap/\(a=none->cap=0))
theorem bK0{sz:Nat}{L:Loc}(e:kQ O I sz x=some L): ∃b M,kg (.view x)=some b/\O b=some M/\M.blk=L.blk:=by
 unfold kQ at e;split at e;all_goals first
  |(split at e
    .obtain⟨M,hM,rfl⟩:=u9.1 e;exact⟨_,M,rfl,hM,rfl⟩
    cases e)
  |cases e
def cc4{sz:Nat}{b:Nat}(e:DY sz elem sig x h=some (nd,l))(hb:kg (.view x)=some b): ∃y,h.get b=some y:=by cases x<;>simp only[kg,j5,reduceCtorEq]at hb<;>subst hb<;>simp only[DY]at e<;>split at e<;>first|(rename_i hg;exact⟨_,hg⟩)|cases e
def cZ5(r:HR O I K w0 h w){v:Zl}(e:DY sig.length elem sig x h=some (nd,l))(hd:dB I nd=true):ViewOk O I w h elem sig x v l:=by
 unfold DY at e;split at e;obtain⟨rfl,rfl⟩:=e;exact⟨λL hL=>by simp[kQ,reduceCtorEq]at hL,λrv=> .inr ⟨rfl,none,0,rv,λ_=>rfl⟩⟩;rename_i b len s;split at e
 rename_i e0 sg l0 hg;replace e:=W5 e;obtain⟨hc,e⟩:=e;obtain⟨hc,c3⟩:=W4 hc;obtain⟨c1,c2⟩:=W4 hc;obtain rfl:=X0.1 c1;obtain rfl:=X0.1 c2;obtain rfl:=kK c3;have main:0<=dI I len->(dI I len).toNat<=(dL I l0).length->dL I l=(dL I l0).take (dI I len).toNat->ViewOk O I w h e0 sg (.U b len sg.length) v l:=by
  intro h0 hle hl;have hll:(dL I l).length=(dI I len).toNat:=by rw[hl,n8];omega
  constructor;intro L hL;simp only[kQ]at hL;split at hL;obtain⟨M,hM,rfl⟩:=u9.1 hL;have:=YP (p:=0) (n:=(dI I len).toNat) (lx:=l) (r.blk b _ M hg hM) (by omega) (by simpa using hl);simpa using this;cases hL
  intro rv;rcases rv with⟨L,cap,hL,hcap,hv,hlc⟩|⟨hv,hz⟩
  by_cases hp:0<dI I len;refine .inl ⟨⟨L.blk,L.off,(dI I len).toNat*sg.length⟩,cap,_,?_,by rw[hll];exact hv,by rw[hll];exact hlc,rfl⟩;simp[kQ,i6 hp,hL,Option.map_some];refine .inr ⟨by omega,some ⟨L.blk,L.off,none⟩,cap,?_,λhh=>(by cases hh)⟩;rw[hv,show(dI I len).toNat=0 by omega];exact .inr ⟨by rw[hll,hz];rfl,none,0,hv,λ_=>rfl⟩
 cases hq:SX.beq len (.O .Y [l0])with
 |true=>
  rw[hq]at e;simp at e;obtain⟨rfl,rfl⟩:=e;have hlen:=SX.beq_eq _ _ hq;have:dI I len=((dL I l0).length:Int):=by rw[hlen,kc]
  refine main (by omega) (by omega) ?_;rw[this];simp
 |false=>
  rw[hq]at e;obtain⟨rfl,rfl⟩:=e;rw[tE,j8]at hd;have d1:0<=dI I len:=j7 hd.1;have d2:dI I len<=((dL I l0).length:Int):=j7 hd.2;refine main d1 (by omega) ?_;show((dL I l0).drop (0:Int).toNat).take (dI I len-0).toNat=_;simp
 .cases e
 rename_i b off len s;split at e
 rename_i e0 sg l0 hg;replace e:=W5 e;obtain⟨hc,e⟩:=e;obtain⟨hc,c3⟩:=W4 hc;obtain⟨c1,c2⟩:=W4 hc;obtain rfl:=X0.1 c1;obtain rfl:=X0.1 c2;obtain rfl:=kK c3;have main:0<=dI I off->0<=dI I len->(dI I off).toNat+(dI I len).toNat<=(dL I l0).length->dL I l=((dL I l0).drop (dI I off).toNat).take (dI I len).toNat->ViewOk O I w h e0 sg (.osl b off len sg.length) v l:=by
  intro h1 h0 hle hl;have hll:(dL I l).length=(dI I len).toNat:=by rw[hl,n8,K5];omega
  constructor;intro L hL;simp only[kQ]at hL;split at hL;obtain⟨M,hM,rfl⟩:=u9.1 hL;exact YP (r.blk b _ M hg hM) hle hl;cases hL
  intro rv;rcases rv with⟨L,cap,a,hL,hv,hlc,ha⟩|⟨a,cap,hv,hac,hz⟩
  by_cases hp:0<dI I len;refine .inl ⟨⟨L.blk,L.off+(dI I off).toNat*sg.length,(dI I len).toNat*sg.length⟩,cap,a,?_,by rw[hll];exact hv,by rw[hll];exact hlc,ha hp⟩;simp[kQ,i6 hp,hL,Option.map_some];refine .inr ⟨by omega,some a,cap,?_,λhh=>(by cases hh)⟩;rw[hv,show(dI I len).toNat=0 by omega];exact .inr ⟨by rw[hll,hz];rfl,a,cap,hv,hac⟩
 cases hq:(SX.beq off (.C 0)&&SX.beq len (.O .Y [l0]))with
 |true=>
  rw[hq]at e;simp at e;obtain⟨rfl,rfl⟩:=e;rw[j8]at hq;have ho:=SX.beq_eq _ _ hq.1;have hlen:=SX.beq_eq _ _ hq.2;have t1:dI I len=((dL I l0).length:Int):=by rw[hlen,kc]
  have t2:dI I off=0:=by rw[ho,pF]
  refine main (by omega) (by omega) (by omega) ?_;rw[t1,t2];simp
 |false=>
  rw[hq]at e;obtain⟨rfl,rfl⟩:=e;rw[tE,tE,j8,j8]at hd;have d1:0<=dI I off:=j7 hd.1;have d2:0<=dI I len:=j7 hd.2.1;have d3:dI I off+dI I len<=((dL I l0).length:Int):=j7 hd.2.2;refine main d1 d2 (by omega) ?_;show((dL I l0).drop (dI I off).toNat).take (dI I off+dI I len-dI I off).toNat=_;congr 2;omega
 .cases e
 rename_i b o n c;split at e;rename_i e0 fz cs hg;replace e:=W5 e;obtain⟨hc,e⟩:=e;obtain⟨hc,c5⟩:=W4 hc;obtain⟨hc,c4⟩:=W4 hc;obtain⟨hc,c3⟩:=W4 hc;obtain⟨c1,c2⟩:=W4 hc;obtain rfl:=X0.1 c1;rw[X6]at c2 c3 c4;rw[Y8]at c5;unfold Nk at e;split at e;rename_i rs hrs;obtain⟨rfl,rfl⟩:=e;constructor;intro M hM;simp only[kQ,i6 c5]at hM;obtain⟨L,hL,rfl⟩:=u9.1 hM;exact(MR (lx:= .O .row rs) (r.blk b _ L hg hL) c3 c4 hrs rfl).1;intro rv;obtain⟨L,hL,hv⟩:=rv;obtain⟨p1,p2⟩:=MR (lx:= .O .row rs) (r.blk b _ L hg hL) c3 c4 hrs rfl;refine .inl ⟨⟨L.blk,L.off+o,n*sig.length⟩,c,_,?_,by rw[p2];exact hv,by rw[p2];exact c2,rfl⟩;simp[kQ,i6 c5,hL,Option.map_some];cases e;cases e;rename_i b o n s;split at e;rename_i e0 fz cs hg;replace e:=W5 e;obtain⟨hc,e⟩:=e;obtain⟨hc,c4⟩:=W4 hc;obtain⟨hc,c3⟩:=W4 hc;obtain⟨hc,c1⟩:=W4 hc;obtain⟨cz,c0⟩:=W4 hc;obtain rfl:=X0.1 c0;obtain rfl:=X0.1 c1;rw[Y8]at cz;rw[X6]at c3 c4;unfold Nk at e;split at e;rename_i rs hrs;obtain⟨rfl,rfl⟩:=e;constructor;intro M hM;simp only[kQ]at hM;split at hM;obtain⟨L,hL,rfl⟩:=u9.1 hM;exact(MR (lx:= .O .row rs) (r.blk b _ L hg hL) c3 c4 hrs rfl).1;cases hM;intro rv;obtain⟨L,cap,hL,hcap,hv⟩:=rv;have hbr:=r.blk b _ L hg hL;obtain⟨p1,p2⟩:=MR (lx:= .O .row rs) hbr c3 c4 hrs rfl;by_cases hp:0<n;refine .inl ⟨⟨L.blk,L.off+o,n*sig.length⟩,cap,_,?_,by rw[p2];exact hv,?_,rfl⟩;simp[kQ,i6 hp,hL,Option.map_some]
 rw[p2];obtain⟨_,_,_,_,_,_,q3,_⟩:=hbr;have:n*sig.length<=cap*sig.length:=by omega
 exact E3 this cz;refine .inr ⟨by omega,some ⟨L.blk,L.off+o,none⟩,cap,?_,λhh=>(by cases hh)⟩;rw[hv,show n=0 by omega];cases e;cases e;cases e
theorem cc5{sz:Nat}{b:Nat}(e:BN sz elem sig x h=some (nd,l))(hb:kg (.view x)=some b): ∃y,h.get b=some y:=cc4 e hb
def bY2(r:HR O I K w0 h w){v:Zl}(e:BN sig.length elem sig x h=some (nd,l))(hd:dB I nd=true):ViewOk O I w h elem sig x v l:=by have:=cZ5 (v:=v) r e hd;refine⟨λL hL=> ?_,this.sl⟩;obtain⟨C,e',lo,hi,q1,q0,q⟩:=this.br L hL;refine⟨C,e',lo,hi,q1,?_,q⟩;grind[db6,Nat.beq,iU,X0]
def dN5(r:HR O I K w0 h w)(e:BN sig.length elem sig x h=some (nd,l))(hd:dB I nd=true)(L:Loc)(hL:kQ O I sig.length x=some L):BR O I L w.heap[L.blk]? (.A elem sig l):=
 (bY2 (v:= .bool true) r e hd).br L hL
variable{v:Zl}{x:AV}{i:Nat}
variable{I aa:Opq}{O aw:cj}{K:wW}{w0 w:Ac}{h:Heap}
def dN6:lW->Nat
 |some (.A _ sig _)=>sig.length
 |_=>0
def mT(O:cj)(I:Opq)(src:aaA)(blks:aaM):cj:=λi=>match src[i]? with
 |some (.whole b)=>O b
 |some (.view x)=>kQ O I (dN6 blks[i]?) x
 |none=>none
theorem jv{p:AV}(hp:vS p=true)(r:VR O I p v):VR aw aa p v:=by cases p<;>simp only[vS,n7]at hp<;>exact r
theorem EY{s:abj}{b:Nat}(e:Al s b=true):s=some (.whole b):=by unfold Al at e;grind[X0]
theorem bK1{s:abj}(e:Vc s x=true):s=some (.view x):=by unfold Vc at e;grind[AV.beq_eq]
section
variable{src:aaA}{es:GF}{blks:aaM}{nb:Nat}
def Ch{p x:SX}(ae:aa=I.U 0 (X4 I es))(hf:fh es.length p=true)(e:SX.beq (ko es p) x=true):bZ aa p=bZ I x:=by grind[Fk,SX.beq_eq]
def cZ6(I:Opq)(e:SX):bZ I (Qc e)=bZ I e:=by
 unfold Qc;split;rename_i l k;split
 rename_i x hx;have:(X4 I l)[k]? =some (bZ I x):=by rw[GV,B9,hx];rfl
 show bZ I x=(X4 I l).getD k default;grind;rfl;rfl
def DG{p x:SX}(ae:aa=I.U 0 (X4 I es))(hf:fh es.length p=true)(e:Fo es p x=true):bZ aa p=bZ I x:=by rw[ae,<-Fk p hf,<-cZ6,SX.beq_eq _ _ e]
theorem cZ7(ae:aa=I.U 0 (X4 I es))(hw: ∀i b,src[i]? =some (.whole b)->aw i=O b){s:Nat}{p q:SX}(f1:fh es.length p=true)(f2:fh es.length q=true)(e:Ug src es i p q s x=true)(rv:VR O I x v):VR aw aa (.osl i p q s) v:=by unfold Ug at e;split at e;obtain⟨e,e4⟩:=W4 e;obtain⟨e,e3⟩:=W4 e;obtain⟨e1,e2⟩:=W4 e;obtain rfl:=X0.1 e1;have k1:dI aa p=dI I _:=congrArg Val.I (DG ae f1 e3);have k2:dI aa q=dI I _:=congrArg Val.I (DG ae f2 e4);grind[VR,EY];cases e
theorem cZ8(ae:aa=I.U 0 (X4 I es))(hw: ∀i b,src[i]? =some (.whole b)->aw i=O b){s:Nat}{q:SX}(f2:fh es.length q=true)(e:SC src es i q s x=true)(rv:VR O I x v):VR aw aa (.U i q s) v:=by unfold SC at e;split at e;obtain⟨e,e4⟩:=W4 e;obtain⟨e1,e2⟩:=W4 e;obtain rfl:=X0.1 e1;have k2:dI aa q=dI I _:=congrArg Val.I (Ch ae f2 e4);grind[VR,EY];cases e
theorem cZ9(hw: ∀i b,src[i]? =some (.whole b)->aw i=O b){o:Nat}(e:Oo src i o x=true)(rv:VR O I x v):VR aw aa (.ptr i o) v:=by unfold Oo at e;split at e;obtain⟨e1,e2⟩:=W4 e;obtain rfl:=X0.1 e1;grind[VR,EY];cases e
theorem d00(hw: ∀i b,src[i]? =some (.whole b)->aw i=O b)(e:UN src i x=true)(rv:VR O I x v):VR aw aa (.map i) v:=by unfold UN at e;grind[VR,EY]
theorem dr8(hw: ∀i b,src[i]? =some (.whole b)->aw i=O b){o n c:Nat}(e:UV src i o n c x=true)(rv:VR O I x v):VR aw aa (.sl i o n c) v:=by unfold UV at e;split at e;obtain⟨e,e2⟩:=W4 e;obtain⟨e,e4⟩:=W4 e;obtain⟨e1,e3⟩:=W4 e;obtain rfl:=X0.1 e1;obtain rfl:=X0.1 e3;obtain rfl:=X0.1 e4;grind[VR,EY];cases e
def dN7(ae:aa=I.U 0 (X4 I es)){k:IntKind}{p:SX}(f:fh es.length p=true)(e:Te es k p (jm x)=true)(rv:VR O I x v):v= .int k (dI aa p):=by unfold Te at e;split at e;rename_i k' x' hx;obtain⟨e1,e2⟩:=W4 e;obtain rfl:=j7 e1;rw[ti hx rv];exact congrArg (λz:Val=>Value.int k z.I) (DG ae f e2).symm;cases e
mutual
theorem db7(ae:aa=I.U 0 (X4 I es))(hw: ∀i b,src[i]? =some (.whole b)->aw i=O b)(hv: ∀i s p q x v,Ah p q=true->Hk blks i s q=true->src[i]? =some (.view x)->VR O I x v->VR aw aa (.osl i p q s) v):
 ∀(p x:AV) (v:Zl),eZ es.length nb p=true->fk src es blks p x=true->VR O I x v->VR aw aa p v
 | .Z k p,x,v,f,e,r=>by exact dN7 ae f e r
 | .K p,x,v,f,e,r=>by simp[fk]at e;unfold Kl at e;split at e;rename_i y hy;rw[yp hy r];exact congrArg (λz:Val=>Value.string ⟨z.toS.toArray⟩) (DG ae f e).symm;cases e
 | .H p,x,v,f,e,r=>by simp[fk]at e;unfold Kl at e;split at e;rename_i y hy;rw[vG hy r];exact congrArg (λz:Val=>Value.bool z.Z) (DG ae f e).symm;cases e
 | .agg ps,x,v,f,e,r=>by simp[fk]at e;split at e;obtain⟨us,rfl,ru⟩:=r;exact⟨us,rfl,CX ae hw hv ps _ _ f e ru⟩;cases e
 | .iface t p,x,v,f,e,r=>by simp[fk]at e;split at e;obtain⟨e1,e2⟩:=W4 e;obtain rfl:=X0.1 e1;obtain⟨y,rfl,ry⟩:=r;exact⟨y,rfl,db7 ae hw hv p _ _ f e2 ry⟩;cases e
 | .func fn a b,x,v,f,e,r=>by simp[eZ,j8]at f;simp[fk]at e;split at e;obtain⟨e,e3⟩:=W4 e;obtain⟨e1,e2⟩:=W4 e;obtain rfl:=j7 e1;obtain⟨n,y,z,rfl,r1,r2⟩:=r;exact⟨n,y,z,rfl,CX ae hw hv a _ _ f.1 e2 r1,CX ae hw hv b _ _ f.2 e3 r2⟩;cases e
 | .ptr i o,x,v,f,e,r=>by grind[fk,cZ9]
 | .osl i p q s,x,v,f,e,r=>by
   simp[eZ,j8]at f;simp only[fk]at e;cases hq:Ah p q with
   |true=>
    grind[bK1]
   |false=>
    grind[cZ7]
 | .U i q s,x,v,f,e,r=>by simp[eZ,j8]at f;grind[fk,cZ8]
 | .bool _,x,v,f,e,r=>by simp[fk]at e;grind[AV.beq_eq,jv]
 | .int _ _,x,v,f,e,r=>by simp[fk]at e;grind[AV.beq_eq,jv]
 | .str _,x,v,f,e,r=>by simp[fk]at e;grind[AV.beq_eq,jv]
 | .nilp,x,v,f,e,r=>by simp[fk]at e;grind[AV.beq_eq,jv]
 | .glob _,x,v,f,e,r=>by simp[fk]at e;grind[AV.beq_eq,jv]
 | .N,x,v,f,e,r=>by simp[fk]at e;grind[AV.beq_eq,jv]
 | .sl _ _ _ _,x,v,f,e,r=>by grind[fk,dr8]
 | .us _ _ _ _,x,v,f,e,r=>by simp[fk]at e;grind[AV.beq_eq,jv]
 | .es _ _ _,x,v,f,e,r=>by simp[fk]at e;grind[AV.beq_eq,jv]
 | .es0,x,v,f,e,r=>by simp[fk]at e;grind[AV.beq_eq,jv]
 | .nilm,x,v,f,e,r=>by simp[fk]at e;grind[AV.beq_eq,jv]
 | .map i,x,v,f,e,r=>by grind[fk,d00]
 | .nilf,x,v,f,e,r=>by simp[fk]at e;grind[AV.beq_eq,jv]
 | .yield _,x,v,f,e,r=>by simp[fk]at e;grind[AV.beq_eq,jv]
 | .nili,x,v,f,e,r=>by simp[fk]at e;grind[AV.beq_eq,jv]
 | .V _,x,v,f,e,r=>by simp[fk]at e;grind[AV.beq_eq,jv]
 | .opq _,x,v,f,e,r=>by simp[fk]at e;grind[AV.beq_eq,jv]
 | .optr _ _ _ _,x,v,f,e,r=>by simp[fk]at e;grind[AV.beq_eq,jv]
 | .atl _,x,v,f,e,r=>by simp[fk]at e;grind[AV.beq_eq,jv]
 | .any,x,v,f,e,r=>trivial
theorem CX(ae:aa=I.U 0 (X4 I es))(hw: ∀i b,src[i]? =some (.whole b)->aw i=O b)(hv: ∀i s p q x v,Ah p q=true->Hk blks i s q=true->src[i]? =some (.view x)->VR O I x v->VR aw aa (.osl i p q s) v):
 ∀(ps xs:zw) (vs:List Zl),oe es.length nb ps=true->tu src es blks ps xs=true->co O I xs vs->co aw aa ps vs
 | [],xs,vs,f,e,r=>by simp[tu]at e;split at e;exact r;cases e
 |p::ps,xs,vs,f,e,r=>by simp[oe,j8]at f;simp[tu]at e;split at e;obtain⟨e1,e2⟩:=W4 e;obtain⟨v,vr,rfl,r1,r2⟩:=r;exact⟨v,vr,rfl,db7 ae hw hv p _ v f.1 e1 r1,CX ae hw hv ps _ vr f.2 e2 r2⟩;cases e
end
end
def b24: ∀(l:aaM) (h:Heap),h.next+l.length<=65536->(∀b,h.next<=b->h.get b=none)->(ig l h).next=h.next+l.length/\(ig l h).wm=h.wm/\ ∀b,(ig l h).get b=if b<h.next then h.get b else l[b-h.next]?
 | [],h,_,hf=>⟨rfl,rfl,λb=>by grind[ig]⟩
 |x::r,h,hl,hf=>by simp at hl;obtain⟨h1,h2,h3⟩:=b24 r (h.new x) (by simp;omega) (λb hb=>by simp at hb;rw[Heap.get_new,b9 (by omega)];exact hf b (by omega));refine⟨by simp[ig,h1,Heap.next_new,List.length_cons];omega,by simp[ig,h2,Heap.wm_new],λb=> ?_⟩;simp[ig,h3,Heap.next_new,Heap.get_new];grind
@[simp]def Heap.get_setwm(h:Heap)(n b:Nat):(h.setwm n).get b=h.get b:=by rfl
@[simp]def Heap.next_setwm(h:Heap)(n:Nat):(h.setwm n).next=h.next:=by rfl
@[simp]def Heap.wm_setwm(h:Heap)(n:Nat):(h.setwm n).wm=n:=by rfl
def FC.heap_ok(c:FC)(hl:c.blks.length<60000):c.heap.next=c.blks.length/\c.heap.wm=c.mt/\ ∀b,c.heap.get b=c.blks[b]? :=by obtain⟨h1,h2,h3⟩:=b24 c.blks Heap.empty (by show 0+_<=_;omega) (λb _=>Heap.get_empty b);refine⟨by unfold FC.heap;rw[Heap.next_setwm,h1];exact Nat.zero_add _,by unfold FC.heap;rw[Heap.wm_setwm],λb=> ?_⟩;unfold FC.heap;rw[Heap.get_setwm,h3];rfl
def PN(O:cj)(src:aaA)(mt:Nat)(w:Ac)(k:Nat):Prop:=k<w.heap.size/\ ∀i b L,mt<=i->src[i]? =some (.whole b)->O b=some L->k≠L.blk
section
variable{src:aaA}{es:GF}{blks:aaM}{mt:Nat}{args:zw}
def DS: ∀{ps:aaM} {ss:aaA} {nd:SX},HN src es blks h ps ss=some nd->dB I nd=true->ps.length=ss.length/\ ∀(i:Nat) (p:Blk) (s:BSrc),ps[i]? =some p->ss[i]? =some s-> ∃e,su src es blks h p s=some e/\dB I e=true
 | [],[],nd,e,hd=>⟨rfl,λi p s h1=>by simp at h1⟩
 | [],_::_,nd,e,hd=>by cases e
 |_::_,[],nd,e,hd=>by cases e
 |p::ps,s::ss,nd,e,hd=>by simp[HN]at e;split at e;rename_i a b ha hb;simp at e;subst e;obtain⟨d1,d2⟩:=CY hd;obtain⟨l1,l2⟩:=DS hb d2;grind;cases e
def Yk{blks:aaM}{mt:Nat}{i:Nat}{s:BSrc}: ∀{r:aaA} {j:Nat},Ik blks mt h i s r j=true-> ∀k t,r[k]? =some t->Fv blks mt h i (j+k) (kg s) (kg t)=true
 | [],j,e,k,t,hk=>by simp at hk
 |u::r,j,e,k,t,hk=>by
  simp[Ik,j8]at e;cases k with
  |zero=>grind
  |succ k=>
   rw[show j+(k+1)=j+1+k by omega];exact Yk e.2 k t hk
def TY{blks:aaM}{mt:Nat}: ∀{ss:aaA} {i:Nat},seps blks mt h ss i=true-> ∀a b s t,a<b->ss[a]? =some s->ss[b]? =some t->Fv blks mt h (i+a) (i+b) (kg s) (kg t)=true
 | [],i,e,a,b,s,t,hab,ha,hb=>by simp at ha
 |u::r,i,e,a,b,s,t,hab,ha,hb=>by
  simp[seps,j8]at e;obtain⟨b,rfl⟩: ∃b',b=b'+1:=⟨b-1,by omega⟩;cases a with
  |zero=>
   have:=Yk e.1 b t hb;grind
  |succ a=>
   have:=TY e.2 a b s t (by omega) ha hb;grind
theorem Jp{b:Nat}: ∀{l:zw} {vs:List Zl},Cx b l=true->co O I l vs->O b≠none
 | [],vs,e,r=>by cases e
 |x::l,vs,e,⟨v,vr,_,r1,r2⟩=>by
  simp[Cx,t7]at e;rcases e with e|e
  split at e;obtain rfl:=X0.1 e;obtain⟨L,hL,_⟩:=r1;grind;obtain rfl:=X0.1 e;obtain⟨L,hL,_⟩:=r1;grind;cases e;exact Jp e r2
theorem d01(r:HR O I K w0 h w){b c:Nat}(hc:O c≠none)(e:VI h b c=true):O b≠none:=by
 unfold VI at e;split at e
 rename_i hg;cases hL:O c with
 |none=>grind
 |some L=>
  obtain⟨C,lo,hi,vs,_,_,_,_,q5,_⟩:=r.cells hg hL;exact Jp e q5
 .cases e
theorem bY3(r:HR O I K w0 h w){us:List Zl}(ra:co O I args us){b:Nat}: ∀{l:aaA},MP args h b l=true->O b≠none
 | [],e=>by cases e
 |s::l,e=>by
  simp[MP,t7]at e;rcases e with e|e
  split at e;grind[d01,Jp];cases e;exact bY3 r ra e
def Mi(r:HR O I K w0 h w){us:List Zl}(ra:co O I args us){all:aaA}{post:List lW}: ∀{ss:aaA} {i:Nat},Dy mt args h all post ss i=true-> ∀k s,ss[k]? =some s->mt<=i+k-> ∃b,s= .whole b/\h.wm<=b/\b<h.next/\(O b≠none\/post[i+k-mt]? =some none\/RowB (h.get b))
 | [],i,e,k,s,hk,hm=>by simp at hk
 |u::ss,i,e,k,s,hk,hm=>by
  simp only[Dy,j8]at e;cases k with
  |zero=>
   simp at hk;subst hk;rw[t7]at e;rcases e with e|e
   grind[Y8];split at e
   obtain⟨e,e3⟩:=W4 e;obtain⟨e1,e2⟩:=W4 e;rw[X6]at e1;rw[Y8]at e2;refine⟨_,rfl,e1,e2,?_⟩;rw[t7,t7,t7]at e3;rcases e3 with((e3|e3)|e3)|e3
   grind[cw6];grind[Jp];grind[bY3];right;right;unfold XL at e3;split at e3;rename_i hx;rw[hx];exact .A _ _ _;rename_i hx;rw[hx];exact .bag _ _ _;grind;cases e
  |succ k=>
   have:=Mi r ra e.2 k s hk (by omega);grind
end
structure Bound (c:FC) (nv:Nat) (args:zw) (h:Heap) (b:Binding):Prop where
 len:b.es.length=nv
 slen:b.src.length=c.blks.length
 argv:tu b.src b.es c.blks c.args args=true
 seps:seps c.blks c.mt h b.src 0=true
 mutb:Dy c.mt args h b.src c.post b.src 0=true
 post:zB b.src c.mt c.post c.post c.mt=true
 out:(hZ c.out).all (qp b.src c.mt c.post)=true
 blks:HN b.src b.es c.blks h c.blks b.src=some b.nd
def UO{α:Type}{l:List (Nat×α)}: ∀{n i:Nat} {r:List α},CW l n i=some r->r.length=n
 |0,i,r,e=>by grind[CW,Option.some.injEq]
 |n+1,i,r,e=>by simp[CW]at e;split at e;rename_i x q h1 h2;simp at e;subst e;simp[UO h2];cases e
def d02{c:FC}{nv:Nat}{args:zw}{b:Binding}(e:AZ c nv args h=some b):Bound c nv args h b:=by unfold AZ at e;simp_all;split at e;rename_i src es h1 h2;replace e:=W5 e;obtain⟨hc,e⟩:=e;obtain⟨hc,c5⟩:=W4 hc;obtain⟨hc,c4⟩:=W4 hc;obtain⟨hc,c3⟩:=W4 hc;obtain⟨c1,c2⟩:=W4 hc;split at e;rename_i nd hnd;simp at e;subst e;exact⟨UO h2,UO h1,c1,c2,c3,c4,c5,hnd⟩;cases e;cases e
structure FcOk (c:FC) (nv:Nat):Prop where
 args:oe nv c.blks.length c.args=true
 blks: ∀(i:Nat) (x:Blk),c.blks[i]? =some x->yK nv c.blks.length (some x)=true/\((∃e fz cs,x= .cells e fz cs)\/(∃e sig l,x= .A e sig l)\/(∃e sig l,x= .bag e sig l)\/ ∃d ks vs l,x= .marr d ks vs l)
 N:fh nv c.N=true
 outs:qL nv c.outs=true
 mt:c.mt<=c.blks.length
 lt:c.blks.length<60000
def cx0{c:FC}{nv:Nat}(e:rT c nv=true):FcOk c nv:=by obtain⟨e,e7⟩:=W4 e;obtain⟨e,e6⟩:=W4 e;obtain⟨e,e5⟩:=W4 e;obtain⟨e,e4⟩:=W4 e;obtain⟨e,e3⟩:=W4 e;obtain⟨e1,e2⟩:=W4 e;refine⟨e1,λi x hx=> ?_,e3,e4,X6.1 e5,Y8.1 e6⟩;grind
def d03{c:FC}{nv:Nat}{args:zw}{b:Binding}{us:List Zl}(r:HR O I K w0 h w)(ra:co O I args us)(fo:FcOk c nv)(bo:Bound c nv args h b)(hd:dB I b.nd=true):
 co (mT O I b.src c.blks) (I.U 0 (X4 I b.es)) c.args us/\HR (mT O I b.src c.blks) (I.U 0 (X4 I b.es)) (PN O b.src c.mt w) w c.heap w:=by
 obtain⟨hn,hwm,eK⟩:=c.heap_ok fo.lt;obtain⟨hl,hB⟩:=DS bo.blks hd;have hw: ∀i x,b.src[i]? =some (.whole x)->mT O I b.src c.blks i=O x:=λi x hx=>by grind[mT]
 have view: ∀i x e sig q,b.src[i]? =some (.view x)->c.blks[i]? =some (.A e sig q)-> ∃nd l,BN sig.length e sig x h=some (nd,l)/\dB I nd=true/\bZ (I.U 0 (X4 I b.es)) q=bZ I l/\mT O I b.src c.blks i=kQ O I sig.length x:=by intro i x e sig q hx hp;obtain⟨nd,h1,h2⟩:=hB i _ _ hp hx;simp[su]at h1;split at h1;rename_i nd' l hv;obtain⟨h3,h1⟩:=W5 h1;simp at h1;subst h1;have hf:=(fo.blks i _ hp).1;refine⟨_,l,hv,h2,Ch rfl (by rw[bo.len];exact hf) h3,?_⟩;unfold mT;rw[hx,hp];rfl;grind
 have hv: ∀i s p q x v,Ah p q=true->Hk c.blks i s q=true->b.src[i]? =some (.view x)->VR O I x v->VR (mT O I b.src c.blks) (I.U 0 (X4 I b.es)) (.osl i p q s) v:=by
  intro i s p q x v hpq hvb hx hr;unfold Hk at hvb;split at hvb
  rename_i e sig l hp;obtain⟨h1,h2⟩:=W4 hvb;have h2:=SX.beq_eq _ _ h2;subst h2;obtain⟨nd,lx,g1,g2,g3,g4⟩:=view i x e sig l hx hp;have vs:=(bY2 r g1 g2).sl hr;have hlen:dI (I.U 0 (X4 I b.es)) (.O .Y [l])=((dL I lx).length:Int):=by exact congrArg (λz:Val=>(z.L.length:Int)) g3
  have hp0:dI (I.U 0 (X4 I b.es)) p=0:=by unfold Ah at hpq;split at hpq;rfl;cases hpq
  simp only[VR];rw[hlen,hp0,g4];rcases vs with⟨L,cap,a,k1,k2,k3,k4⟩|⟨k1,a,cap,k2,k3⟩
  exact .inl ⟨L,cap,a,k1,by simpa using k2,by simpa using k3,λ_=>by simpa using k4⟩;exact .inr ⟨a,cap,k2,k3,by rw[k1];rfl⟩;grind
 have hargs:=CX (nb:=c.blks.length) (aw:=mT O I b.src c.blks) rfl hw hv c.args args us (by rw[bo.len];exact fo.args) bo.argv ra;have base: ∀i L,mT O I b.src c.blks i=some L-> ∃s y M,b.src[i]? =some s/\kg s=some y/\O y=some M/\M.blk=L.blk:=by intro i L e;unfold mT at e;split at e;rename_i y hy;exact⟨_,y,L,hy,rfl,e,rfl⟩;grind[bK0];cases e
 have liveB: ∀(i:Nat) (s:BSrc) (p:Blk) (y:Nat),b.src[i]? =some s->c.blks[i]? =some p->kg s=some y-> ∃z,h.get y=some z:=by
  intro i s p y hs hp hy;obtain⟨nd,h1,_⟩:=hB i p s hp hs;cases s with
  |whole x=>
   simp[kg,j5]at hy;simp[su]at h1;grind
  |view x=>
   simp[su]at h1;grind[cc5]
 refine⟨hargs,⟨λi x L hg hL=> ?_,λi j x y L M hgi hgj hL hM hne hwk=> ?_,λi hi=> ?_,λi hi=> ?_,λi L hL=> ?_,λk hk=>hk.1,λk _=>rfl,λi x L hg hwi hL hk=> ?_,j6 _,rfl,rfl,rfl,j6 _⟩⟩
 rw[eK]at hg;have hs: ∃s,b.src[i]? =some s:=by grind
 obtain⟨s,hs⟩:=hs;obtain⟨nd,h1,h2⟩:=hB i x s hg hs;have hf:=(fo.blks i x hg).1;cases s with
 |whole y=>
  simp[su]at h1;rw[hw i y hs]at hL;split at h1
  rename_i e fz ps e' fz' xs hgy;obtain⟨h3,_⟩:=W5 h1;obtain⟨h3,h6⟩:=W4 h3;obtain⟨h3,h5⟩:=W4 h3;obtain⟨h3,h4⟩:=W4 h3;obtain rfl:=X0.1 h3;obtain rfl:=X0.1 h4;obtain⟨C,lo,hi,vs,q1,q2,q3,q4,q5,q6,q7,q8⟩:=r.blk y _ L hgy hL;have hps:=CX (nb:=c.blks.length) (aw:=mT O I b.src c.blks) rfl hw hv ps xs vs (by rw[bo.len];exact hf) h6 q5;have hll:ps.length=xs.length:=by rw[<-hps.length,<-q5.length]
  exact⟨C,lo,hi,vs,q1,q2,by rw[hll];exact q3,h5,hps,by rw[hll];exact q6,q7,q8⟩;rename_i e sig q e' sig' l hgy;obtain⟨h3,_⟩:=W5 h1;obtain⟨h3,h5⟩:=W4 h3;obtain⟨h3,h4⟩:=W4 h3;obtain rfl:=X0.1 h3;obtain rfl:=kK h4;have hbr:=r.blk y _ L hgy hL;have hden:dL (I.U 0 (X4 I b.es)) q=dL I l:=congrArg Val.L (Ch rfl (by rw[bo.len];exact hf) h5);simp[BR]at hbr⊢;rw[hden];exact hbr;rename_i e sig q e' sig' l hgy;obtain⟨h3,_⟩:=W5 h1;obtain⟨h3,h5⟩:=W4 h3;obtain⟨h3,h4⟩:=W4 h3;obtain rfl:=X0.1 h3;obtain rfl:=kK h4;have hbr:=r.blk y _ L hgy hL;have hden:dL (I.U 0 (X4 I b.es)) q=dL I l:=congrArg Val.L (Ch rfl (by rw[bo.len];exact hf) h5);simp[BR]at hbr⊢;rw[hden];exact hbr;rename_i d ks vs q d' ks' vs' l hgy;obtain⟨j1,_⟩:=W5 h1;obtain⟨j2,h6⟩:=W4 j1;obtain⟨j3,h5⟩:=W4 j2;obtain⟨j4,h4⟩:=W4 j3;obtain rfl:=kK h4;obtain rfl:=kK h5;obtain⟨E,c',g1,g2,g3⟩:=r.blk y _ L hgy hL;have hden:dL (I.U 0 (X4 I b.es)) q=dL I l:=congrArg Val.L (Ch rfl (by rw[bo.len];exact hf) h6);exact⟨E,c',g1,by rw[hden];exact g2,g3.weak j4⟩
  rename_i d ks vs q c' hgy;obtain⟨h3,_⟩:=W5 h1;obtain⟨h3,h6⟩:=W4 h3;obtain⟨E,g1,g2⟩:=r.blk y _ L hgy hL;have hden:dL (I.U 0 (X4 I b.es)) q=dL I (.O .row []):=congrArg Val.L (Ch rfl (by rw[bo.len];exact hf) h6);have hE:E.toList=[]:=by generalize E.toList=m at g2;cases g2;rfl
  refine⟨E,c',g1,by rw[hden,hE];rfl,?_⟩;rw[hE];exact(fx.nil c').weak h3;grind
 |view y=>
  have: ∃e sig q,x= .A e sig q:=by simp[su]at h1;split at h1;exact⟨_,_,_,rfl⟩;cases h1
  obtain⟨e,sig,q,rfl⟩:=this;obtain⟨nd',lx,g1,g2,g3,g4⟩:=view i y e sig q hs hg;rw[g4]at hL;have hbr:=dN5 r g1 g2 L hL;have hden:dL (I.U 0 (X4 I b.es)) q=dL I lx:=congrArg Val.L g3;grind[BR]
 .rw[eK]at hgi hgj;obtain⟨s,y1,M1,s1,s2,s3,s4⟩:=base i L hL;obtain⟨t,y2,M2,t1,t2,t3,t4⟩:=base j M hM;obtain⟨z1,hz1⟩:=liveB i s x y1 s1 hgi s2;obtain⟨z2,hz2⟩:=liveB j t y y2 t1 hgj t2;have main: ∀(i j:Nat) (s t:BSrc) (x y:Blk) (y1 y2:Nat) (M1 M2:Loc) (z1 z2:Blk),Fv c.blks c.mt h i j (kg s) (kg t)=true->c.blks[i]? =some x->c.blks[j]? =some y->(c.heap.wm<=i\/c.heap.wm<=j\/x.isArr=false\/y.isArr=false)->
   kg s=some y1->kg t=some y2->O y1=some M1->O y2=some M2->h.get y1=some z1->h.get y2=some z2->M1.blk≠M2.blk:=by
   intro i j s t x y y1 y2 M1 M2 z1 z2 hsep hx hy hk e1 e2 b1 b2 g1 g2;unfold Fv at hsep;rw[t7]at hsep;rcases hsep with hsep|hsep
   obtain⟨hsep,a4⟩:=W4 hsep;obtain⟨hsep,a3⟩:=W4 hsep;obtain⟨a1,a2⟩:=W4 hsep;rw[Y8]at a1 a2;rw[hx]at a3;rw[hy]at a4;rcases hk with q|q|q|q
   omega;omega;cases x<;>simp only[Blk.isArr,reduceCtorEq]at q<;>cases a3;cases y<;>simp only[Blk.isArr,reduceCtorEq]at q<;>cases a4
   obtain⟨a1,a2⟩:=W4 hsep;rw[e1,e2]at a1 a2;have hne:y1≠y2:=by rintro rfl;simp[neB]at a1
   refine r.sep y1 y2 z1 z2 M1 M2 g1 g2 b1 b2 hne ?_;simp[PS,Ti,t7,s7,X6]at a2;rw[g1,g2]at a2;rcases a2 with((q|q)|q)|q
   omega;omega
   refine .inr (.inr (.inl ?_));cases z1<;>first|rfl|cases q
   refine .inr (.inr (.inr ?_));cases z2<;>first|rfl|cases q
  rw[<-s4,<-t4];rcases Nat.lt_or_gt_of_ne hne with hlt|hlt
  have:=TY bo.seps i j s t hlt s1 t1;rw[n9,n9]at this;exact main i j s t x y y1 y2 M1 M2 z1 z2 this hgi hgj hwk s2 t2 s3 t3 hz1 hz2;have:=TY bo.seps j i t s hlt t1 s1;rw[n9,n9]at this;refine(main j i t s y x y2 y1 M2 M1 z2 z1 this hgj hgi ?_ t2 s2 t3 s3 hz2 hz1).symm;grind
 grind[mT,List.getElem?_eq_none];grind;obtain⟨s,y,M,_,_,h3,h4⟩:=base i L hL;rw[<-h4];exact r.lt y M h3
 have hs: ∃s,b.src[i]? =some s:=by grind
 obtain⟨s,hs⟩:=hs;obtain⟨y,rfl,_,_,_⟩:=Mi r ra bo.mutb i s hs (by omega);rw[hw i y hs]at hL;exact hk.2 i y L hwi hs hL rfl
variable{es:GF}
variable{I aa:Opq}{O ac aq:cj}{K:wW}{w0 w w':Ac}{h h':Heap}
def gN:AV->Bool
 | .agg _=>false
 | .V _=>false
 |_=>true
theorem fm{v:AV}(h:gN v=true):hZ v=[v]:=by cases v<;>first|rfl|cases h
def dr9{out v:AV}(h:gN v=true)(hs:iQ out v=true):gN out=true:=by
 cases out<;>first
  |rfl
  |(simp[iQ]at hs;split at hs<;>first|cases h|cases hs)
def fN{v:AV}{u:Zl}(h:gN v=true)(r:VR O I v u): ∃us,co O I (hZ v) us/\ ∀(ac:cj) (aa:Opq) (out:AV),iQ out v=true->co ac aa (hZ out) us->VR ac aa out u:=by refine⟨[u],by rw[fm h];exact .one r,λac aa out hs ho=> ?_⟩;rw[fm (dr9 h hs)]at ho;obtain⟨x,xr,e,p,q⟩:=ho;grind
def WK: ∀{a b:zw} {x y:List Zl},a.length=x.length->co O I (a++b) (x++y)->co O I a x/\co O I b y
 | [],b,[],y,_,r=>⟨rfl,r⟩
 | [],b,_::_,y,h,r=>by cases h
 |_::_,b,[],y,h,r=>by cases h
 |p::a,b,v::x,y,h,⟨v',vr,e,q,s⟩=>by obtain⟨rfl,rfl⟩:=e;obtain⟨h1,h2⟩:=WK (by grind) s;exact⟨⟨v,x,rfl,q,h1⟩,h2⟩
def fH{o v:AV}(ho:gN o=true)(h:iQ o v=true):(hZ o).length=(hZ v).length:=by
 have hv:gN v=true:=by
  cases o<;>first
   |(exfalso;simp[gN]at ho;done)
   |(cases v<;>first|rfl|((cases h;done)))
 grind[fm]
mutual
theorem Uv: ∀{o v:AV},iQ o v=true->(hZ o).length=(hZ v).length
 | .agg a,v,h=>by simp[iQ]at h;split at h;exact X0.1 h;cases h
 | .V a,v,h=>by simp[iQ]at h;split at h;exact Yy h;cases h
 | .bool _,v,h=>fH rfl h
 | .int _ _,v,h=>fH rfl h
 | .str _,v,h=>fH rfl h
 | .nilp,v,h=>fH rfl h
 | .ptr _ _,v,h=>fH rfl h
 | .glob _,v,h=>fH rfl h
 | .N,v,h=>fH rfl h
 | .sl _ _ _ _,v,h=>fH rfl h
 | .us _ _ _ _,v,h=>fH rfl h
 | .es _ _ _,v,h=>fH rfl h
 | .es0,v,h=>fH rfl h
 | .nilm,v,h=>fH rfl h
 | .map _,v,h=>fH rfl h
 | .nilf,v,h=>fH rfl h
 | .func _ _ _,v,h=>fH rfl h
 | .yield _,v,h=>fH rfl h
 | .nili,v,h=>fH rfl h
 | .iface _ _,v,h=>fH rfl h
 | .opq _,v,h=>fH rfl h
 | .Z _ _,v,h=>fH rfl h
 | .K _,v,h=>fH rfl h
 | .H _,v,h=>fH rfl h
 | .osl _ _ _ _,v,h=>fH rfl h
 | .optr _ _ _ _,v,h=>fH rfl h
 | .U _ _ _,v,h=>fH rfl h
 | .atl _,v,h=>fH rfl h
 | .any,v,h=>fH rfl h
theorem Yy: ∀{o v:zw},oH o v=true->(sC o).length=(sC v).length
 | [],v,h=>by grind[oH]
 |a::r,v,h=>by simp[oH]at h;split at h;rw[j8]at h;simp[sC,k9,Uv h.1,Yy h.2];cases h
end
mutual
theorem Xo: ∀(v:AV) (u:Zl),VR O I v u-> ∃us,co O I (hZ v) us/\ ∀(ac:cj) (aa:Opq) (out:AV),iQ out v=true->co ac aa (hZ out) us->VR ac aa out u
 | .agg cs,u,r=>by obtain⟨xs,rfl,q⟩:=r;refine⟨xs.toList,q,λac aa out hs ho=> ?_⟩;cases out<;>simp only[iQ,n7]at hs;exact⟨xs,rfl,ho⟩
 | .V vs,u,r=>by obtain⟨xs,rfl,q⟩:=r;obtain⟨us,h1,h2⟩:=bY4 vs xs.toList q;refine⟨us,h1,λac aa out hs ho=> ?_⟩;cases out<;>simp only[iQ,n7]at hs;exact⟨xs,rfl,h2 ac aa _ hs ho⟩
 | .bool b,u,r=>fN rfl r
 | .int a b,u,r=>fN rfl r
 | .str b,u,r=>fN rfl r
 | .nilp,u,r=>fN rfl r
 | .ptr a b,u,r=>fN rfl r
 | .glob b,u,r=>fN rfl r
 | .N,u,r=>fN rfl r
 | .sl a b c d,u,r=>fN rfl r
 | .us a b c d,u,r=>fN rfl r
 | .es a b c,u,r=>fN rfl r
 | .es0,u,r=>fN rfl r
 | .nilm,u,r=>fN rfl r
 | .map b,u,r=>fN rfl r
 | .nilf,u,r=>fN rfl r
 | .func a b c,u,r=>fN rfl r
 | .yield b,u,r=>fN rfl r
 | .nili,u,r=>fN rfl r
 | .iface a b,u,r=>fN rfl r
 | .opq b,u,r=>fN rfl r
 | .Z a b,u,r=>fN rfl r
 | .K b,u,r=>fN rfl r
 | .H b,u,r=>fN rfl r
 | .osl a b c d,u,r=>fN rfl r
 | .optr a b c d,u,r=>fN rfl r
 | .U a b c,u,r=>fN rfl r
 | .atl b,u,r=>fN rfl r
 | .any,u,r=>fN rfl r
theorem bY4: ∀(vs:zw) (us0:List Zl),co O I vs us0-> ∃us,co O I (sC vs) us/\ ∀(ac:cj) (aa:Opq) (outs:zw),oH outs vs=true->co ac aa (sC outs) us->co ac aa outs us0
 | [],us0,r=>by
   refine⟨[],rfl,λac aa outs hs ho=> ?_⟩;cases outs with
   |nil=>exact r
   |cons a b=>grind[oH]
 |v::vs,us0,⟨u,ur,e,p,q⟩=>by
  obtain⟨us1,a1,a2⟩:=Xo v u p;obtain⟨us2,b1,b2⟩:=bY4 vs ur q;refine⟨us1++us2,a1.append b1,λac aa outs hs ho=> ?_⟩;cases outs with
  |nil=>grind[oH]
  |cons o os=>
   simp[oH,j8]at hs;have hl:(hZ o).length=us1.length:=by rw[Uv hs.1];exact a1.length.symm
   obtain⟨c1,c2⟩:=WK hl ho;exact⟨u,ur,e,a2 ac aa o hs.1 c1,b2 ac aa os hs.2 c2⟩
end
section
variable{Q:Nat->SX}{n:Nat}
def rW(g:Agr 0 I aa){p x:SX}(h:lv 1000 n p x=some es)(hp:nM p=true)(hq: ∀j e,es[j]? =some e->bZ I (Q (n+j))=bZ aa e):bZ I (dX 1000 Q p)=bZ aa x:=by unfold lv at h;unfold dX;unfold nM at hp;split at h;obtain⟨h1,h2⟩:=W5 h;simp at h2;subst h2;obtain rfl:=X0.1 h1;exact hq 0 x rfl;grind[fh,SX.beq_eq,pX]
def cc6(g:Agr 0 I aa){p q x y:SX}(h:xz 1000 n p q x y=some es)(hp:nM p=true)(hpq:nM q=true)(hq: ∀j e,es[j]? =some e->bZ I (Q (n+j))=bZ aa e):bZ I (dX 1000 Q p)=bZ aa x/\bZ I (dX 1000 Q q)=bZ aa y:=by unfold xz at h;split at h;rename_i e1 h1;split at h;rename_i e2 h2;simp at h;subst h;refine⟨rW g h1 hp λj e hj=>hq j e ?_,rW g h2 hpq λj e hj=> ?_⟩;grind;have:=hq (e1.length+j) e (by rw[s9 (D8 _ _),I6];exact hj);grind;cases h;cases h
theorem Uj{src:aaA}{i:Nat}(e:ku src i=true): ∃b,src[i]? =some (.whole b):=by grind[ku]
theorem EL{src:aaA}{m i b:Nat}(e:src[i]? =some (.whole b)):fc src m i=b:=by grind[fc]
theorem Py(ρ:Nat->Nat)(k:IntKind)(e:SX):io ρ (oO k e)=oO k e:=by unfold oO;split<;>rfl
theorem cx3(k:IntKind)(e:SX):(oO k e).oneA=true:=by unfold oO;split<;>rfl
theorem cc7{ρ:Nat->Nat}{p:AV}(h:vS p=true):io ρ (iF Q p)=p:=by cases p<;>simp only[vS,n7]at h<;>simp only[iF,io]
variable{src:aaA}{mt base N:Nat}{post:List lW}
def OJ(g:Agr 0 I aa){p x:AV}{u:Zl}(hcl:qp src mt post p=true)(hnn:BH src.length p=true)(ha:cF 1000 base n p x=some es)(hq: ∀j e,es[j]? =some e->bZ I (Q (n+j))=bZ aa e)
 (r:VR O aa x u) (ap: ∀i b,src[i]? =some (.whole b)->aq b=O i):VR aq I (io (fc src N) (iF Q p)) u:=by
 have plain:vS p=true->(bif AV.beq p x&&eZ 1000 base x then some ([]:GF)else none)=some es->VR aq I (io (fc src N) (iF Q p)) u:=by grind[cc7,AV.beq_eq,jv]
 cases p with
 |Z k e=>
  simp[cF]at ha;unfold LZ at ha;split at ha;rename_i k' x' hx;split at ha;rename_i hk;subst hk;rw[show io (fc src N) (iF Q (.Z k e))=oO k (dX 1000 Q e)from Py _ _ _];refine NX.2 ?_;rw[ti hx r];exact congrArg (λz:Val=>Value.int k z.I) (rW g ha hcl hq).symm;cases ha;grind
 |K e=>
  simp[cF]at ha;unfold vt at ha;split at ha;rename_i x' hx;rw[yp hx r];exact congrArg (λz:Val=>Value.string ⟨z.toS.toArray⟩) (rW g ha hcl hq).symm;grind
 |H e=>
  simp[cF]at ha;unfold vt at ha;split at ha;rename_i x' hx;rw[vG hx r];exact congrArg (λz:Val=>Value.bool z.Z) (rW g ha hcl hq).symm;grind
 |osl i y z s=>
  simp[qp,j8]at hcl;simp[cF]at ha;unfold Hc at ha;split at ha;rename_i b' y' z' s';obtain⟨h1,h2⟩:=W5 ha;obtain⟨h1,_⟩:=W4 h1;obtain⟨h1,h3⟩:=W4 h1;obtain rfl:=X0.1 h1;obtain rfl:=X0.1 h3;obtain⟨b,hb⟩:=Uj hcl.1.1;obtain⟨k1,k2⟩:=cc6 g h2 hcl.1.2 hcl.2 hq;have k1:dI I (dX 1000 Q y)=dI aa y':=congrArg Val.I k1;have k2:dI I (dX 1000 Q z)=dI aa z':=congrArg Val.I k2;simp[iF,io,EL hb,VR]at r⊢;rw[k1,k2,ap i b hb];exact r;grind
 |U i q s=>
  simp[BH,Y8]at hnn;simp only[qp]at hcl;rw[show Nat.ble src.length i=false by
   cases hh:Nat.ble src.length i with
   |false=>rfl
   |true=>rw[X6]at hh;omega]at hcl
  simp at hcl;simp[cF]at ha;unfold Dv at ha;split at ha
  rename_i b' q' s';obtain⟨h1,h2⟩:=W5 ha;obtain⟨h1,_⟩:=W4 h1;obtain⟨h1,h3⟩:=W4 h1;obtain rfl:=X0.1 h1;obtain rfl:=X0.1 h3;obtain⟨b,hb⟩:=Uj hcl.1;have k1:dI I (dX 1000 Q q)=dI aa q':=congrArg Val.I (rW g h2 (by unfold nM;rw[hcl.2];rfl) hq);have hy:Ma Q q=dX 1000 Q q:=by have:=hcl.2;unfold yl at this;split at this;rfl;cases this
  simp[iF,io,EL hb,VR]at r⊢;rw[hy,k1,ap i b hb];exact r;grind
 |ptr i o=>
  simp[qp]at hcl;simp[cF]at ha;grind[AV.beq_eq,Uj,iF,io,EL,VR]
 |bool _=>exact plain hcl ha
 |int _ _=>exact plain hcl ha
 |str _=>exact plain hcl ha
 |nilp=>exact plain hcl ha
 |glob _=>exact plain hcl ha
 |N=>exact plain hcl ha
 |nilm=>exact plain hcl ha
 |nilf=>exact plain hcl ha
 |nili=>exact plain hcl ha
 |_=>simp_all[qp,vS,n7]
def Zm(g:Agr 0 I aa): ∀{ps xs:zw} {us:List Zl} {n:Nat} {es:GF},(ps.all λp=>qp src mt post p&&BH src.length p&&p.oneA)=true->lN 1000 base n ps xs=some es->(∀j e,es[j]? =some e->bZ I (Q (n+j))=bZ aa e)->
 co O aa xs us->(∀i b,src[i]? =some (.whole b)->aq b=O i)->co aq I (oG (fc src N) (sc Q ps)) us
 | [],xs,us,n,es,hcl,ha,hq,r,ap=>by
   cases xs with
   |nil=>exact r
   |cons a b=>grind[lN]
 |p::ps,xs,us,n,es,hcl,ha,hq,r,ap=>by
  cases xs with
  |nil=>grind[lN]
  |cons x xs=>
   simp at hcl;simp[lN]at ha;split at ha;rename_i e1 h1;split at ha;rename_i e2 h2;simp at ha;subst ha;obtain⟨v,vr,rfl,r1,r2⟩:=r;refine⟨v,vr,rfl,OJ g hcl.1.1.1 hcl.1.1.2 h1 (λj e hj=>hq j e ?_) r1 ap,Zm g (by simpa using hcl.2) h2 (λj e hj=> ?_) r2 ap⟩;have hlt:=(A6.1 hj).1;rw[y5 hlt];exact hj;have:=hq (e1.length+j) e (by rw[s9 (D8 _ _),I6];exact hj);rw[show n+e1.length+j=n+(e1.length+j) by omega];exact this;cases ha;grind
def YO(ρ:Nat->Nat): ∀l:zw,(l.all λp=>qp src mt post p&&BH src.length p&&p.oneA)=true->(oG ρ (sc Q l)).all AV.oneA=true
 | [],_=>rfl
 |a::r,h=>by simp at h;simp only[sc,oG,List.all_cons,j8];refine⟨?_,YO ρ r (by grind)⟩;have:=h.1.2;cases a<;>simp only[iF,io]<;>first|exact this|rfl|grind[Py,cx3]
def cx5(g:Agr 0 I aa){L:Loc}{o:aaY}{p z x:Blk}(hcl:Ea src mt post (some p)=true)(ha:om 1000 base n p z=some es)(hq: ∀j e,es[j]? =some e->bZ I (Q (n+j))=bZ aa e)
 (r:BR O aa L o z) (ap: ∀i b,src[i]? =some (.whole b)->aq b=O i) (hx:nG (fc src N) (nS Q (some p))=some x):BR aq I L o x:=by
 cases p with
 |cells e fz ps=>
  cases z<;>simp only[om,reduceCtorEq]at ha;obtain⟨h1,h2⟩:=W5 ha;obtain⟨h1,h4⟩:=W4 h1;obtain⟨h1,h3⟩:=W4 h1;obtain rfl:=X0.1 h1;obtain rfl:=X0.1 h3;simp[nS,nG,j5]at hx;subst hx;obtain⟨C,lo,hi,vs,q1,q2,q3,q4,q5,q6,q7,q8⟩:=r;have hv:=Zm (N:=N) g hcl h2 hq q5 ap;have hl:(oG (fc src N) (sc Q ps)).length=vs.length:=hv.length.symm;have hl2:=q5.length;refine⟨C,lo,hi,vs,q1,q2,by omega,YO _ _ hcl,hv,by grind,q7,λhh=>q8 (by rw[<-hh];exact g.fix▸rfl)⟩
 |A e sig l=>
  cases z<;>simp only[om,reduceCtorEq]at ha;obtain⟨h1,h2⟩:=W5 ha;obtain⟨h1,h3⟩:=W4 h1;obtain rfl:=X0.1 h1;obtain rfl:=kK h3;simp[nS,nG,j5]at hx;have k:dL I (dX 1000 Q l)=dL aa _:=congrArg Val.L (rW g h2 hcl hq);grind[BR]
 |marr d ks vs l=>
  simp[nS,nG,j5]at hx;subst hx;cases z with
  |marr d' ks' vs' x=>
   obtain⟨h1,h2⟩:=W5 ha;obtain⟨h5,h1⟩:=W4 h1;obtain⟨h3,h4⟩:=W4 h1;obtain rfl:=kK h3;obtain rfl:=kK h4;have k:dL I (dX 1000 Q l)=dL aa x:=congrArg Val.L (rW g h2 hcl hq);obtain⟨E,c,q1,q2,q3⟩:=r;exact⟨E,c,q1,by grind,q3.weak h5⟩
  |map es' c=>
   cases es' with
   |nil=>
    obtain⟨h5,h2⟩:=W5 ha;have k:dL I (dX 1000 Q l)=dL aa (.O .row []):=congrArg Val.L (rW g h2 hcl hq);obtain⟨E,q1,q2⟩:=r;have hE:E.toList=[]:=by generalize E.toList=z at q2;cases q2;rfl
    refine⟨E,_,q1,?_⟩;rw[hE,k];exact⟨rfl,(fx.nil _).weak h5⟩
   |cons e r=>grind[om]
  |_=>grind[om]
 |_=>grind[Ea,Bool.false_eq_true]
end
variable{I aa:Opq}{O ac aq:cj}{K:wW}{w0 w w':Ac}{h h':Heap}
section
variable{Q:Nat->SX}{ρ:Nat->Nat}{m:Nat}
structure Laid (Q:Nat->SX) (ρ:Nat->Nat) (m:Nat) (l:List lW) (i:Nat) (h h2:Heap):Prop where
 wm:h2.wm=h.wm
 next:h2.next=h.next+(i+l.length-Nat.max i m)
 get: ∀b y,h2.get b=some y->(∃j x,l[j]? =some x/\i+j<m/\ρ (i+j)=b/\nG ρ (nS Q x)=some y)\/(∃j x,l[j]? =some x/\m<=i+j/\b=h.next+(i+j-Nat.max i m)/\nG ρ (nS Q x)=some y)\/(h.get b=some y/\ ∀j,j<l.length->i+j<m->ρ (i+j)≠b)
 keep: ∀b,b<h.next->(∀j,j<l.length->i+j<m->ρ (i+j)≠b)->h2.get b=h.get b
def cc8{x:lW}(e:CR x=true): ∃y,nG ρ (nS Q x)=some y:=by unfold CR at e;split at e;exact⟨_,rfl⟩;cases e
def QW: ∀(l:List lW) (i:Nat) (h:Heap),(∀j x,l[j]? =some x->m<=i+j->CR x=true)->(∀j,j<l.length->i+j<m->ρ (i+j)<h.next)->Laid Q ρ m l i h (mW ρ Q m l i h)
 | [],i,h,hr,hb=>by
   refine⟨rfl,?_,λb y e=> .inr (.inr ⟨e,λj hj=>by simp at hj⟩),λ_ _ _=>rfl⟩;show h.next=h.next+(i+0-max i m)
   omega
 |x::r,i,h,hr,hb=>by
  by_cases him:i<m
  .
   have hstep:mW ρ Q m (x::r) i h=mW ρ Q m r (i+1) (h.put (ρ i) (nG ρ (nS Q x))):=by simp_all[mW,gW,cond_true]
   have ih:=QW r (i+1) (h.put (ρ i) (nG ρ (nS Q x))) (λj y hj hm=>hr (j+1) y (by grind) (by omega)) (λj hj hm=>by rw[Heap.next_put];have:=hb (j+1) (by simp;omega) (by omega);grind);rw[hstep];have hmax:Nat.max (i+1) m=m:=R7 (by omega);have hmax':Nat.max i m=m:=R7 (by omega);refine⟨ih.wm,?_,λb y e=> ?_,λb hb' hn=> ?_⟩
   .rw[ih.next,Heap.next_put,hmax,hmax',List.length_cons];omega
   rcases ih.get b y e with⟨j,z,h1,h2,h3,h4⟩|⟨j,z,h1,h2,h3,h4⟩|⟨h1,h2⟩
   exact .inl ⟨j+1,z,by grind,by omega,by grind,h4⟩;refine .inr (.inl ⟨j+1,z,by simpa using h1,by omega,?_,h4⟩);grind[Heap.next_put];rw[Heap.get_put]at h1;by_cases hbi:b=ρ i;rw[i6 hbi]at h1;split at h1;exact .inl ⟨0,x,rfl,by omega,hbi.symm,h1⟩;cases h1;grind;rw[ih.keep b (by simp_all) (λj hj hm=>by rw[show i+1+j=i+(j+1) by omega];exact hn (j+1) (by grind) (by omega)),Heap.get_put,b9];exactλhh=>hn 0 (by simp) him hh.symm
  .obtain⟨z,hz⟩:=cc8 (Q:=Q) (ρ:=ρ) (hr 0 x rfl (by omega));have hstep:mW ρ Q m (x::r) i h=mW ρ Q m r (i+1) (h.new z):=by
    simp_all[mW,iv,cond_false]
   have ih:=QW r (i+1) (h.new z) (λj y hj hm=>hr (j+1) y (by grind) (by omega)) (λj hj hm=>by omega);rw[hstep];have hmax:Nat.max (i+1) m=i+1:=R8 (by omega);have hmax':Nat.max i m=i:=R8 (by omega);refine⟨ih.wm,?_,λb y e=> ?_,λb hb' hn=> ?_⟩
   .rw[ih.next,Heap.next_new,hmax,hmax',List.length_cons];omega
   .rcases ih.get b y e with⟨j,u,h1,h2,h3,h4⟩|⟨j,u,h1,h2,h3,h4⟩|⟨h1,h2⟩
    .omega
    refine .inr (.inl ⟨j+1,u,by simpa using h1,by omega,?_,h4⟩);grind[Heap.next_new]
    .rw[Heap.get_new]at h1;by_cases hbi:b=h.next
     .rw[i6 hbi]at h1;split at h1;simp at h1;subst h1;exact .inr (.inl ⟨0,x,rfl,by omega,by omega,hz⟩);cases h1
     grind
   rw[ih.keep b (by rw[Heap.next_new];omega) (λj hj hm=>by omega),Heap.get_new,b9 (by omega)]
end
section
variable{m base:Nat}{a:Fr}
def bY5{P:Nat->SX->Prop}: ∀{ps:zw} {t n:Nat} {es:GF},LJ m base h a ps t n=some es->(∀j e,es[j]? =some e->P (n+j) e)-> ∀k p,ps[k]? =some p-> ∃n' es',Rs m base n' h p (a.slot (t+k))=some es'/\ ∀j e,es'[j]? =some e->P (n'+j) e
 | [],t,n,es,e,hp,k,p,hk=>by simp at hk
 |q::ps,t,n,es,e,hp,k,p,hk=>by
  simp[LJ]at e;split at e;rename_i e1 h1;split at e
  rename_i e2 h2;simp at e;subst e;cases k with
  |zero=>
   grind
  |succ k=>
   obtain⟨n',es',g1,g2⟩:=bY5 h2 (λj e hj=>by have:=hp (e1.length+j) e (by rw[s9 (D8 _ _),I6];exact hj);rw[show n+e1.length+j=n+(e1.length+j) by omega];exact this) k p hk;grind
  .cases e
  cases e
def bY6{P:Nat->SX->Prop}: ∀{ps:List lW} {i n:Nat} {es:GF},LY m base h ps i n=some es->(∀j e,es[j]? =some e->P (n+j) e)-> ∀k p,ps[k]? =some p-> ∃n' es',sU 1000 base n' p (h.get (bif Nat.blt (i+k) m then i+k else base+(i+k-m)))=some es'/\ ∀j e,es'[j]? =some e->P (n'+j) e
 | [],i,n,es,e,hp,k,p,hk=>by simp at hk
 |q::ps,i,n,es,e,hp,k,p,hk=>by
  simp[LY]at e;split at e;rename_i e1 h1;split at e
  rename_i e2 h2;simp at e;subst e;cases k with
  |zero=>
   grind
  |succ k=>
   obtain⟨n',es',g1,g2⟩:=bY6 h2 (λj e hj=>by have:=hp (e1.length+j) e (by rw[s9 (D8 _ _),I6];exact hj);rw[show n+e1.length+j=n+(e1.length+j) by omega];exact this) k p hk;grind
  .cases e
  cases e
def d04{x:AV}{v:Zl}(hd:dB I (Ca h x).1=true)(r:VR O I x v):VR O I (Ca h x).2 v:=by
 cases x with
 |U b len s=>
  cases hg:h.get b with
  |none=>grind[Ca]
  |some y=>
   cases y with
   |A e sig l=>
    simp[Ca,hg]at hd⊢;cases hc:SX.beq len (.O .Y [l])with
    |true=>exact r
    |false=>
     rw[hc]at hd;have:dI I len=dI I (.O .Y [l]):=j7 hd;grind[VR]
   |_=>grind[Ca]
 |_=>exact r
def bx0: ∀{xs:zw} {vs:List Zl},dB I (wK h xs).1=true->co O I xs vs->co O I (wK h xs).2 vs
 | [],vs,hd,r=>r
 |x::xs,vs,hd,⟨v,vr,e,p,q⟩=>by obtain⟨d1,d2⟩:=CY hd;exact⟨v,vr,e,d04 d1 p,bx0 d2 q⟩
def XX{pc:PC}(hp:mP I pc): ∀l:GF,X4 I (II pc l)=X4 I l
 | []=>rfl
 |a::r=>by simp[II,X4,UT hp,XX hp r]
def dN8{xs:zw}{us:List Zl}(ra:co O I xs us)(hl:xs.length<=256):cS O I ⟨qN xs 0 TF.empty,xs.length,[],0,[],none⟩ {tmps:=us.toArray,defers:=[]}:=by have:=PB (fn:=0) (nt:=xs.length) ra (by rw[show Nat.max xs.length xs.length=xs.length from Nat.max_self _];exact hl);rw[show Nat.max xs.length xs.length=xs.length from Nat.max_self _,show xs.length-us.toArray.size=0 by rw[I4,ra.length];exact F5 _]at this;grind
end
def UA{src:aaA}{mt:Nat}{post:List lW}: ∀{l:List lW} {i:Nat},zB src mt post l i=true->src.length<=i+l.length/\ ∀j x,l[j]? =some x->(i+j<src.length->Ea src mt post x=true)/\(src.length<=i+j->CR x=true)
 | [],i,e=>⟨by grind[zB,X6],λj x hx=>by simp at hx⟩
 |x::l,i,e=>by simp only[zB]at e;by_cases hi:i<src.length;rw[gW hi]at e;simp at e;obtain⟨h1,h2⟩:=UA e.2;grind;rw[iv hi]at e;simp at e;obtain⟨h1,h2⟩:=UA e.2;grind
def FM{post:List lW}{mt m base:Nat}: ∀{l:zw} {t:Nat} {o:OwnP},o∈vn post mt m base l t->base<=o.blk
 | [],t,o,ho=>by cases ho
 |p::l,t,o,ho=>by
  cases p<;>simp only[vn]at ho<;>try exact FM ho
  rename_i i x s;cases hm:Nat.ble m i with
  |false=>rw[hm]at ho;exact FM ho
  |true=>
   rw[hm]at ho;split at ho
   rcases p7.1 ho with rfl|ho
   grind;exact FM ho;exact FM ho
mutual
theorem bY7{F:AV->AV}(h1: ∀l,F (.agg l)= .agg (l.map F))(h2: ∀l,F (.V l)= .V (l.map F))(h3: ∀x,gN x=true->gN (F x)=true): ∀v:AV,hZ (F v)=(hZ v).map F
 | .agg l=>by rw[h1];rfl
 | .V l=>by rw[h2];exact Zc h1 h2 h3 l
 | .bool a=>by rw[fm (h3 _ rfl)];rfl
 | .int a b=>by rw[fm (h3 _ rfl)];rfl
 | .str a=>by rw[fm (h3 _ rfl)];rfl
 | .nilp=>by rw[fm (h3 _ rfl)];rfl
 | .ptr a b=>by rw[fm (h3 _ rfl)];rfl
 | .glob a=>by rw[fm (h3 _ rfl)];rfl
 | .N=>by rw[fm (h3 _ rfl)];rfl
 | .sl a b c d=>by rw[fm (h3 _ rfl)];rfl
 | .us a b c d=>by rw[fm (h3 _ rfl)];rfl
 | .es a b c=>by rw[fm (h3 _ rfl)];rfl
 | .es0=>by rw[fm (h3 _ rfl)];rfl
 | .nilm=>by rw[fm (h3 _ rfl)];rfl
 | .map a=>by rw[fm (h3 _ rfl)];rfl
 | .nilf=>by rw[fm (h3 _ rfl)];rfl
 | .func a b c=>by rw[fm (h3 _ rfl)];rfl
 | .yield a=>by rw[fm (h3 _ rfl)];rfl
 | .nili=>by rw[fm (h3 _ rfl)];rfl
 | .iface a b=>by rw[fm (h3 _ rfl)];rfl
 | .opq a=>by rw[fm (h3 _ rfl)];rfl
 | .Z a b=>by rw[fm (h3 _ rfl)];rfl
 | .K a=>by rw[fm (h3 _ rfl)];rfl
 | .H a=>by rw[fm (h3 _ rfl)];rfl
 | .osl a b c d=>by rw[fm (h3 _ rfl)];rfl
 | .optr a b c d=>by rw[fm (h3 _ rfl)];rfl
 | .U a b c=>by rw[fm (h3 _ rfl)];rfl
 | .atl a=>by rw[fm (h3 _ rfl)];rfl
 | .any=>by rw[fm (h3 _ rfl)];rfl
theorem Zc{F:AV->AV}(h1: ∀l,F (.agg l)= .agg (l.map F))(h2: ∀l,F (.V l)= .V (l.map F))(h3: ∀x,gN x=true->gN (F x)=true): ∀l:zw,sC (l.map F)=(sC l).map F
 | []=>rfl
 |a::r=>by simp[m8,sC,s6,bY7 h1 h2 h3 a,Zc h1 h2 h3 r]
end
def fJ{F o v:AV}(h1:gN o=true)(h2:gN F=true)(h:iQ o v=true):iQ F v=true:=by
 have hv:gN v=true:=by
  cases o<;>first
   |(exfalso;simp[gN]at h1;done)
   |(simp[iQ]at h;cases v<;>first|rfl|grind)
 cases F<;>first
  |(exfalso;simp[gN]at h2;done)
  |(cases v<;>first|rfl|((cases hv;done)))
mutual
theorem YR{F:AV->AV}(h1: ∀l,F (.agg l)= .agg (l.map F))(h2: ∀l,F (.V l)= .V (l.map F))(h3: ∀x,gN x=true->gN (F x)=true): ∀(o v:AV),iQ o v=true->iQ (F o) v=true
 | .agg l,v,h=>by simp_all[iQ,k7]
 | .V l,v,h=>by rw[h2];simp[iQ]at h⊢;split at h;exact cx7 h1 h2 h3 l _ h;cases h
 | .bool a,v,h=>fJ rfl (h3 _ rfl) h
 | .int a b,v,h=>fJ rfl (h3 _ rfl) h
 | .str a,v,h=>fJ rfl (h3 _ rfl) h
 | .nilp,v,h=>fJ rfl (h3 _ rfl) h
 | .ptr a b,v,h=>fJ rfl (h3 _ rfl) h
 | .glob a,v,h=>fJ rfl (h3 _ rfl) h
 | .N,v,h=>fJ rfl (h3 _ rfl) h
 | .sl a b c d,v,h=>fJ rfl (h3 _ rfl) h
 | .us a b c d,v,h=>fJ rfl (h3 _ rfl) h
 | .es a b c,v,h=>fJ rfl (h3 _ rfl) h
 | .es0,v,h=>fJ rfl (h3 _ rfl) h
 | .nilm,v,h=>fJ rfl (h3 _ rfl) h
 | .map a,v,h=>fJ rfl (h3 _ rfl) h
 | .nilf,v,h=>fJ rfl (h3 _ rfl) h
 | .func a b c,v,h=>fJ rfl (h3 _ rfl) h
 | .yield a,v,h=>fJ rfl (h3 _ rfl) h
 | .nili,v,h=>fJ rfl (h3 _ rfl) h
 | .iface a b,v,h=>fJ rfl (h3 _ rfl) h
 | .opq a,v,h=>fJ rfl (h3 _ rfl) h
 | .Z a b,v,h=>fJ rfl (h3 _ rfl) h
 | .K a,v,h=>fJ rfl (h3 _ rfl) h
 | .H a,v,h=>fJ rfl (h3 _ rfl) h
 | .osl a b c d,v,h=>fJ rfl (h3 _ rfl) h
 | .optr a b c d,v,h=>fJ rfl (h3 _ rfl) h
 | .U a b c,v,h=>fJ rfl (h3 _ rfl) h
 | .atl a,v,h=>fJ rfl (h3 _ rfl) h
 | .any,v,h=>fJ rfl (h3 _ rfl) h
theorem cx7{F:AV->AV}(h1: ∀l,F (.agg l)= .agg (l.map F))(h2: ∀l,F (.V l)= .V (l.map F))(h3: ∀x,gN x=true->gN (F x)=true): ∀(o v:zw),oH o v=true->oH (o.map F) v=true
 | [],v,h=>h
 |a::r,v,h=>by simp[oH,m8]at h⊢;split at h;rw[j8]at h⊢;exact⟨YR h1 h2 h3 a _ h.1,cx7 h1 h2 h3 r _ h.2⟩;cases h
end
def VM(Q:Nat->SX): ∀l:zw,sc Q l=l.map (iF Q)
 | []=>rfl
 |a::r=>by simp[sc,m8,VM Q r]
def Rv(ρ:Nat->Nat): ∀l:zw,oG ρ l=l.map (io ρ)
 | []=>rfl
 |a::r=>by simp[oG,m8,Rv ρ r]
def YN{F:AV->AV}: ∀{ps:zw} {us:List Zl},ps.length=us.length->(∀(k:Nat) (p:AV) (u:Zl),ps[k]? =some p->us[k]? =some u->VR O I (F p) u)->co O I (ps.map F) us
 | [],[],_,_=>rfl
 | [],_::_,h,_=>by cases h
 |_::_,[],h,_=>by cases h
 |p::ps,u::us,h,hk=>⟨u,us,rfl,hk 0 p u rfl rfl,YN (by grind) (λk q v h1 h2=>hk (k+1) q v (by grind) (by grind))⟩
