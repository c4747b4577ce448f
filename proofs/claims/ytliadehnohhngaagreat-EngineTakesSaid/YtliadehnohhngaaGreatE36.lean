import Derived.Test.YtliadehnohhngaaGreatE28
set_option linter.all false
noncomputable section
namespace Go.Ev
open Go
variable{sig:zd}{l nd:SX}{x:AV}{elem:Nat}
variable{I:Opq}{O:cn}{K:zI}{w0 w:yM}{h:Heap}
def Jf(I:Opq): ∀l:Jn,Y6 I l=l.map (bZ I)
 | []=>rfl
 |a::r=>by simp[Y6,m8,Jf I r]
mutual
theorem GQ{es:Jn}: ∀e:SX,fT es.length e=true->bZ I (lG es e)=bZ (I.U 0 (Y6 I es)) e
 | .C _,_=>rfl
 | .cs _,_=>rfl
 | .cb _,_=>rfl
 | .V n,h=>by simp[fT,eH]at h;simp[lG];have:=wR (I:=I) (v0:=0) (l:=Y6 I es) (j:=n) (x:=bZ I es[n]) (by rw[Jf,D8,m7 h];rfl);simp_all[m9,Option.getD_some,bZ]
 | .O p l,h=>by simp[lG,bZ];rw[Vy l h]
 | .Q f l,h=>by simp[lG,bZ];rw[Vy l h];rfl
theorem Vy{es:Jn}: ∀l:Jn,tf es.length l=true->Y6 I (Gu es l)=Y6 (I.U 0 (Y6 I es)) l
 | [],_=>rfl
 |a::r,h=>by simp[tf,j8]at h;simp only[Gu,Y6];rw[GQ a h.1,Vy r h.2]
end
def mN(O:cn)(I:Opq)(sz:Nat)(x:AV):aa8:=match x with
 | .S b off len _=>if 0<dI I len then(O b).map λL=>⟨L.blk,L.off+(dI I off).toNat*sz,(dI I len).toNat*sz⟩else none
 | .U b len _=>if 0<dI I len then(O b).map λL=>⟨L.blk,L.off,(dI I len).toNat*sz⟩else none
 | .sl b o n _=>if 0<n then(O b).map λL=>⟨L.blk,L.off+o,n*sz⟩else none
 | .us b o n _=>if 0<n then(O b).map λL=>⟨L.blk,L.off+o,n*sz⟩else none
 |_=>none
def c13{e:Nat}{lx:SX}{L:Loc}{o:aaV}{p n:Nat}(r:BR O I L o (.A e sig l))(hp:p+n<=(dL I l).length)(hl:dL I lx=((dL I l).drop p).take n):
 BR O I ⟨L.blk,L.off+p*sig.length,n*sig.length⟩ o (.A e sig lx):=by
 obtain⟨C,e',lo,hi,q1,q0,q2,q3,q4,q5⟩:=r;have hle:(p+n)*sig.length<=(dL I l).length*sig.length:=B4 _ hp;rw[x7]at hle;have hn:(dL I lx).length=n:=by grind
 refine⟨C,e',lo,hi,q1,q0,by grind,by grind,λi v hv=> ?_,λi hq=> ?_⟩
 show C[L.off+p*sig.length+i]? =some v;rw[hl]at hv;rw[show L.off+p*sig.length+i=L.off+(p*sig.length+i) by omega];apply q4;have e1:dL I l=(dL I l).take p++(((dL I l).drop p).take n++((dL I l).drop p).drop n):=by rw[A3,A3]
 rw[e1,Dv,Dv];have hl1:(cN sig ((dL I l).take p)).length=p*sig.length:=by rw[jL,l5];congr 1;omega
 rw[s6 (by omega),hl1,show p*sig.length+i-p*sig.length=i by omega];grind;have hq:i<n*sig.length:=hq;have:=q5 (p*sig.length+i) (by omega);grind
def LR{e fz:Nat}{cs:Fz}{lx:SX}{rs:Jn}{L:Loc}{o:aaV}{p n:Nat}(r:BR O I L o (.cells e fz cs))(hf:fz<=p)(hp:p+n*sig.length<=cs.length)
 (hrs:pB sig sig.length n ((cs.drop p).take (n*sig.length))=some rs) (hl:dL I lx=Y6 I rs):BR O I ⟨L.blk,L.off+p,n*sig.length⟩ o (.A e sig lx)/\(dL I lx).length=n:=by
 obtain⟨C,lo,hi,vs,q1,q2,q3,q4,q5,q6,q7,q8⟩:=r;have hsub:ct O I ((cs.drop p).take (n*sig.length)) ((vs.drop p).take (n*sig.length)):=(q5.drop _).take _;obtain⟨z1,z2⟩:=BA hrs (by grind) hsub;refine⟨⟨C,_,lo,hi,q1,.inl rfl,by grind,by grind,λi v hv=> ?_,λi hq=> ?_⟩,by grind⟩;grind;have hq:i<n*sig.length:=hq;have:=q7 (p+i) (by omega) (by omega);grind
theorem Dp{a b:SX}(h:dB I (iC a b)=true):dB I a=true/\dB I b=true:=by simp_all[UH,j8]
structure ViewOk (O:cn) (I:Opq) (w:yM) (h:Heap) (elem:Nat) (sig:zd) (x:AV) (v:AS) (l:SX):Prop where
 br: ∀L,mN O I sig.length x=some L->BR O I L w.heap[L.blk]? (.A elem sig l)
 sl:VR O I x v->(∃L cap a,mN O I sig.length x=some L/\v= .slice (some a) (dL I l).length cap/\(dL I l).length<=cap/\a=⟨L.blk,L.off,none⟩)\/((dL I l).length=0/\ ∃a cap,v= .slice a 0 cap/\(a=none->cap=0))
theorem bO0{sz:Nat}{L:Loc}(e:mN O I sz x=some L): ∃b M,lI (.view x)=some b/\O b=some M/\M.blk=L.blk:=by
 unfold mN at e;split at e;all_goals first
  |(split at e
    .obtain⟨M,hM,rfl⟩:=u9.1 e;exact⟨_,M,rfl,hM,rfl⟩
    cases e)
  |cases e
def ce8{sz:Nat}{b:Nat}(e:Gh sz elem sig x h=some (nd,l))(hb:lI (.view x)=some b): ∃y,h.get b=some y:=by cases x<;>simp only[lI,j0,reduceCtorEq]at hb<;>subst hb<;>simp only[Gh]at e<;>split at e<;>first|(rename_i hg;exact⟨_,hg⟩)|cases e
def cY5(r:HR O I K w0 h w){v:AS}(e:Gh sig.length elem sig x h=some (nd,l))(hd:dB I nd=true):ViewOk O I w h elem sig x v l:=by
 unfold Gh at e;split at e;obtain⟨rfl,rfl⟩:=e;exact⟨λL hL=>by trivial,λrv=> .inr ⟨rfl,none,0,rv,λ_=>rfl⟩⟩;rename_i b len s;split at e
 rename_i e0 sg l0 hg;replace e:=W8 e;obtain⟨hc,e⟩:=e;obtain⟨hc,c3⟩:=W7 hc;obtain⟨c1,c2⟩:=W7 hc;obtain rfl:=Y0.1 c1;obtain rfl:=Y0.1 c2;obtain rfl:=me c3;have main:0<=dI I len->(dI I len).toNat<=(dL I l0).length->dL I l=(dL I l0).take (dI I len).toNat->ViewOk O I w h e0 sg (.U b len sg.length) v l:=by
  intro h0 hle hl;have hll:(dL I l).length=(dI I len).toNat:=by rw[hl,l5];omega
  constructor;intro L hL;simp only[mN]at hL;split at hL;obtain⟨M,hM,rfl⟩:=u9.1 hL;have:=c13 (p:=0) (n:=(dI I len).toNat) (lx:=l) (r.blk b _ M hg hM) (by omega) (by trivial);simpa using this;cases hL
  intro rv;rcases rv with⟨L,cap,hL,hcap,hv,hlc⟩|⟨hv,hz⟩
  by_cases hp:0<dI I len;refine .inl ⟨⟨L.blk,L.off,(dI I len).toNat*sg.length⟩,cap,_,?_,by rw[hll];exact hv,by rw[hll];exact hlc,rfl⟩;simp[mN,c9 hp,hL,Option.map_some];refine .inr ⟨by omega,some ⟨L.blk,L.off,none⟩,cap,?_,λhh=>(by cases hh)⟩;rw[hv,show(dI I len).toNat=0 by omega];exact .inr ⟨by rw[hll,hz];rfl,none,0,hv,λ_=>rfl⟩
 cases hq:SX.beq len (.O .Y [l0])with
 |true=>
  rw[hq]at e;simp at e;obtain⟨rfl,rfl⟩:=e;have hlen:=SX.beq_eq _ _ hq;have:dI I len=((dL I l0).length:Int):=by rw[hlen,oz]
  refine main (by omega) (by omega) ?_;rw[this];simp
 |false=>
  rw[hq]at e;obtain⟨rfl,rfl⟩:=e;rw[uX,j8]at hd;have d1:0<=dI I len:=j6 hd.1;have d2:dI I len<=((dL I l0).length:Int):=j6 hd.2;refine main d1 (by omega) ?_;show((dL I l0).drop (0:Int).toNat).take (dI I len-0).toNat=_;simp
 .cases e
 rename_i b off len s;split at e
 rename_i e0 sg l0 hg;replace e:=W8 e;obtain⟨hc,e⟩:=e;obtain⟨hc,c3⟩:=W7 hc;obtain⟨c1,c2⟩:=W7 hc;obtain rfl:=Y0.1 c1;obtain rfl:=Y0.1 c2;obtain rfl:=me c3;have main:0<=dI I off->0<=dI I len->(dI I off).toNat+(dI I len).toNat<=(dL I l0).length->dL I l=((dL I l0).drop (dI I off).toNat).take (dI I len).toNat->ViewOk O I w h e0 sg (.S b off len sg.length) v l:=by
  intro h1 h0 hle hl;have hll:(dL I l).length=(dI I len).toNat:=by rw[hl,l5,J8];omega
  constructor;intro L hL;simp only[mN]at hL;split at hL;obtain⟨M,hM,rfl⟩:=u9.1 hL;exact c13 (r.blk b _ M hg hM) hle hl;cases hL
  intro rv;rcases rv with⟨L,cap,a,hL,hv,hlc,ha⟩|⟨a,cap,hv,hac,hz⟩
  by_cases hp:0<dI I len;refine .inl ⟨⟨L.blk,L.off+(dI I off).toNat*sg.length,(dI I len).toNat*sg.length⟩,cap,a,?_,by rw[hll];exact hv,by rw[hll];exact hlc,ha hp⟩;simp[mN,c9 hp,hL,Option.map_some];refine .inr ⟨by omega,some a,cap,?_,λhh=>(by cases hh)⟩;rw[hv,show(dI I len).toNat=0 by omega];exact .inr ⟨by rw[hll,hz];rfl,a,cap,hv,hac⟩
 cases hq:(SX.beq off (.C 0)&&SX.beq len (.O .Y [l0]))with
 |true=>
  rw[hq]at e;simp at e;obtain⟨rfl,rfl⟩:=e;rw[j8]at hq;have ho:=SX.beq_eq _ _ hq.1;have hlen:=SX.beq_eq _ _ hq.2;have t1:dI I len=((dL I l0).length:Int):=by rw[hlen,oz]
  have t2:dI I off=0:=by rw[ho,tH]
  refine main (by omega) (by omega) (by omega) ?_;rw[t1,t2];simp
 |false=>
  rw[hq]at e;obtain⟨rfl,rfl⟩:=e;rw[uX,uX,j8,j8]at hd;have d1:0<=dI I off:=j6 hd.1;have d2:0<=dI I len:=j6 hd.2.1;have d3:dI I off+dI I len<=((dL I l0).length:Int):=j6 hd.2.2;refine main d1 d2 (by omega) ?_;show((dL I l0).drop (dI I off).toNat).take (dI I off+dI I len-dI I off).toNat=_;congr 2;omega
 .cases e
 rename_i b o n c;split at e;rename_i e0 fz cs hg;replace e:=W8 e;obtain⟨hc,e⟩:=e;obtain⟨hc,c5⟩:=W7 hc;obtain⟨hc,c4⟩:=W7 hc;obtain⟨hc,c3⟩:=W7 hc;obtain⟨c1,c2⟩:=W7 hc;obtain rfl:=Y0.1 c1;rw[cV]at c2 c3 c4;rw[eH]at c5;unfold OH at e;split at e;rename_i rs hrs;obtain⟨rfl,rfl⟩:=e;constructor;intro M hM;simp only[mN,c9 c5]at hM;obtain⟨L,hL,rfl⟩:=u9.1 hM;exact(LR (lx:= .O .row rs) (r.blk b _ L hg hL) c3 c4 hrs rfl).1;intro rv;obtain⟨L,hL,hv⟩:=rv;obtain⟨p1,p2⟩:=LR (lx:= .O .row rs) (r.blk b _ L hg hL) c3 c4 hrs rfl;refine .inl ⟨⟨L.blk,L.off+o,n*sig.length⟩,c,_,?_,by rw[p2];exact hv,by rw[p2];exact c2,rfl⟩;simp[mN,c9 c5,hL,Option.map_some];cases e;cases e;rename_i b o n s;split at e;rename_i e0 fz cs hg;replace e:=W8 e;obtain⟨hc,e⟩:=e;obtain⟨hc,c4⟩:=W7 hc;obtain⟨hc,c3⟩:=W7 hc;obtain⟨hc,c1⟩:=W7 hc;obtain⟨cz,c0⟩:=W7 hc;obtain rfl:=Y0.1 c0;obtain rfl:=Y0.1 c1;rw[eH]at cz;rw[cV]at c3 c4;unfold OH at e;split at e;rename_i rs hrs;obtain⟨rfl,rfl⟩:=e;constructor;intro M hM;simp only[mN]at hM;split at hM;obtain⟨L,hL,rfl⟩:=u9.1 hM;exact(LR (lx:= .O .row rs) (r.blk b _ L hg hL) c3 c4 hrs rfl).1;cases hM;intro rv;obtain⟨L,cap,hL,hcap,hv⟩:=rv;have hbr:=r.blk b _ L hg hL;obtain⟨p1,p2⟩:=LR (lx:= .O .row rs) hbr c3 c4 hrs rfl;by_cases hp:0<n;refine .inl ⟨⟨L.blk,L.off+o,n*sig.length⟩,cap,_,?_,by rw[p2];exact hv,?_,rfl⟩;simp[mN,c9 hp,hL,Option.map_some]
 rw[p2];obtain⟨_,_,_,_,_,_,q3,_⟩:=hbr;have:n*sig.length<=cap*sig.length:=by omega
 exact E6 this cz;refine .inr ⟨by omega,some ⟨L.blk,L.off+o,none⟩,cap,?_,λhh=>(by cases hh)⟩;rw[hv,show n=0 by omega];cases e;cases e;cases e
theorem ce9{sz:Nat}{b:Nat}(e:DK sz elem sig x h=some (nd,l))(hb:lI (.view x)=some b): ∃y,h.get b=some y:=ce8 e hb
def c14(r:HR O I K w0 h w){v:AS}(e:DK sig.length elem sig x h=some (nd,l))(hd:dB I nd=true):ViewOk O I w h elem sig x v l:=by have:=cY5 (v:=v) r e hd;refine⟨λL hL=> ?_,this.sl⟩;obtain⟨C,e',lo,hi,q1,q0,q⟩:=this.br L hL;refine⟨C,e',lo,hi,q1,?_,q⟩;grind[d99,Nat.beq,jP,Y0]
def dN7(r:HR O I K w0 h w)(e:DK sig.length elem sig x h=some (nd,l))(hd:dB I nd=true)(L:Loc)(hL:mN O I sig.length x=some L):BR O I L w.heap[L.blk]? (.A elem sig l):=
 (c14 (v:= .bool true) r e hd).br L hL
variable{v:AS}{x:AV}{i:Nat}
variable{I aa:Opq}{O au:cn}{K:zI}{w0 w:yM}{h:Heap}
def dN8:sP->Nat
 |some (.A _ sig _)=>sig.length
 |_=>0
def oH(O:cn)(I:Opq)(src:aaA)(blks:aaL):cn:=λi=>match src[i]? with
 |some (.whole b)=>O b
 |some (.view x)=>mN O I (dN8 blks[i]?) x
 |none=>none
theorem tz{p:AV}(hp:Br p=true)(r:VR O I p v):VR au aa p v:=by cases p<;>simp only[Br,n9]at hp<;>exact r
theorem GH{s:abj}{b:Nat}(e:ye s b=true):s=some (.whole b):=by unfold ye at e;grind[Y0]
theorem bO1{s:abj}(e:SA s x=true):s=some (.view x):=by unfold SA at e;grind[AV.beq_eq]
section
variable{src:aaA}{es:Jn}{blks:aaL}{nb:Nat}
def Fp{p x:SX}(ae:aa=I.U 0 (Y6 I es))(hf:fT es.length p=true)(e:SX.beq (lG es p) x=true):bZ aa p=bZ I x:=by grind[GQ,SX.beq_eq]
def cY6(I:Opq)(e:SX):bZ I (VQ e)=bZ I e:=by
 unfold VQ;split;rename_i l k;split
 rename_i x hx;have:(Y6 I l)[k]? =some (bZ I x):=by rw[Jf,D8,hx];rfl
 show bZ I x=(Y6 I l).getD k default;grind;rfl;rfl
def Fy{p x:SX}(ae:aa=I.U 0 (Y6 I es))(hf:fT es.length p=true)(e:Hn es p x=true):bZ aa p=bZ I x:=by rw[ae,<-GQ p hf,<-cY6,SX.beq_eq _ _ e]
theorem cY7(ae:aa=I.U 0 (Y6 I es))(hw: ∀i b,src[i]? =some (.whole b)->au i=O b){s:Nat}{p q:SX}(f1:fT es.length p=true)(f2:fT es.length q=true)(e:XJ src es i p q s x=true)(rv:VR O I x v):VR au aa (.S i p q s) v:=by unfold XJ at e;split at e;obtain⟨e,e4⟩:=W7 e;obtain⟨e,e3⟩:=W7 e;obtain⟨e1,e2⟩:=W7 e;obtain rfl:=Y0.1 e1;have k1:dI aa p=dI I _:=congrArg Val.I (Fy ae f1 e3);have k2:dI aa q=dI I _:=congrArg Val.I (Fy ae f2 e4);grind[VR,GH];cases e
theorem cY8(ae:aa=I.U 0 (Y6 I es))(hw: ∀i b,src[i]? =some (.whole b)->au i=O b){s:Nat}{q:SX}(f2:fT es.length q=true)(e:SM src es i q s x=true)(rv:VR O I x v):VR au aa (.U i q s) v:=by unfold SM at e;split at e;obtain⟨e,e4⟩:=W7 e;obtain⟨e1,e2⟩:=W7 e;obtain rfl:=Y0.1 e1;have k2:dI aa q=dI I _:=congrArg Val.I (Fp ae f2 e4);grind[VR,GH];cases e
theorem cY9(hw: ∀i b,src[i]? =some (.whole b)->au i=O b){o:Nat}(e:RS src i o x=true)(rv:VR O I x v):VR au aa (.ptr i o) v:=by unfold RS at e;split at e;obtain⟨e1,e2⟩:=W7 e;obtain rfl:=Y0.1 e1;grind[VR,GH];cases e
theorem cZ0(hw: ∀i b,src[i]? =some (.whole b)->au i=O b)(e:WT src i x=true)(rv:VR O I x v):VR au aa (.map i) v:=by unfold WT at e;grind[VR,GH]
theorem dp7(hw: ∀i b,src[i]? =some (.whole b)->au i=O b){o n c:Nat}(e:Sn src i o n c x=true)(rv:VR O I x v):VR au aa (.sl i o n c) v:=by unfold Sn at e;split at e;obtain⟨e,e2⟩:=W7 e;obtain⟨e,e4⟩:=W7 e;obtain⟨e1,e3⟩:=W7 e;obtain rfl:=Y0.1 e1;obtain rfl:=Y0.1 e3;obtain rfl:=Y0.1 e4;grind[VR,GH];cases e
def dN9(ae:aa=I.U 0 (Y6 I es)){k:IntKind}{p:SX}(f:fT es.length p=true)(e:Ym es k p (kr x)=true)(rv:VR O I x v):v= .int k (dI aa p):=by unfold Ym at e;split at e;rename_i k' x' hx;obtain⟨e1,e2⟩:=W7 e;obtain rfl:=j6 e1;rw[uf hx rv];exact congrArg (λz:Val=>Value.int k z.I) (Fy ae f e2).symm;cases e
mutual
theorem dO0(ae:aa=I.U 0 (Y6 I es))(hw: ∀i b,src[i]? =some (.whole b)->au i=O b)(hv: ∀i s p q x v,Ai p q=true->HS blks i s q=true->src[i]? =some (.view x)->VR O I x v->VR au aa (.S i p q s) v):
 ∀(p x:AV) (v:AS),ib es.length nb p=true->jw src es blks p x=true->VR O I x v->VR au aa p v
 | .Z k p,x,v,f,e,r=>by exact dN9 ae f e r
 | .K p,x,v,f,e,r=>by simp[jw]at e;unfold NI at e;split at e;rename_i y hy;rw[Js hy r];exact congrArg (λz:Val=>Value.string ⟨z.S.toArray⟩) (Fy ae f e).symm;cases e
 | .H p,x,v,f,e,r=>by simp[jw]at e;unfold NI at e;split at e;rename_i y hy;rw[xM hy r];exact congrArg (λz:Val=>Value.bool z.Z) (Fy ae f e).symm;cases e
 | .agg ps,x,v,f,e,r=>by simp[jw]at e;split at e;obtain⟨us,rfl,ru⟩:=r;exact⟨us,rfl,DJ ae hw hv ps _ _ f e ru⟩;cases e
 | .iface t p,x,v,f,e,r=>by trivial
 | .func fn a b,x,v,f,e,r=>by simp[ib,j8]at f;simp[jw]at e;split at e;obtain⟨e,e3⟩:=W7 e;obtain⟨e1,e2⟩:=W7 e;obtain rfl:=j6 e1;obtain⟨n,y,z,rfl,r1,r2⟩:=r;exact⟨n,y,z,rfl,DJ ae hw hv a _ _ f.1 e2 r1,DJ ae hw hv b _ _ f.2 e3 r2⟩;cases e
 | .ptr i o,x,v,f,e,r=>by grind[jw,cY9]
 | .S i p q s,x,v,f,e,r=>by
   simp[ib,j8]at f;simp only[jw]at e;cases hq:Ai p q with
   |true=>
    grind[bO1]
   |false=>
    grind[cY7]
 | .U i q s,x,v,f,e,r=>by simp[ib,j8]at f;grind[jw,cY8]
 | .bool _,x,v,f,e,r=>by simp[jw]at e;grind[AV.beq_eq,tz]
 | .int _ _,x,v,f,e,r=>by simp[jw]at e;grind[AV.beq_eq,tz]
 | .str _,x,v,f,e,r=>by simp[jw]at e;grind[AV.beq_eq,tz]
 | .nilp,x,v,f,e,r=>by simp[jw]at e;grind[AV.beq_eq,tz]
 | .glob _,x,v,f,e,r=>by simp[jw]at e;grind[AV.beq_eq,tz]
 | .N,x,v,f,e,r=>by simp[jw]at e;grind[AV.beq_eq,tz]
 | .sl _ _ _ _,x,v,f,e,r=>by grind[jw,dp7]
 | .us _ _ _ _,x,v,f,e,r=>by trivial
 | .es _ _ _,x,v,f,e,r=>by trivial
 | .es0,x,v,f,e,r=>by trivial
 | .nilm,x,v,f,e,r=>by simp[jw]at e;grind[AV.beq_eq,tz]
 | .map i,x,v,f,e,r=>by grind[jw,cZ0]
 | .nilf,x,v,f,e,r=>by simp[jw]at e;grind[AV.beq_eq,tz]
 | .yield _,x,v,f,e,r=>by trivial
 | .nili,x,v,f,e,r=>by simp[jw]at e;grind[AV.beq_eq,tz]
 | .V _,x,v,f,e,r=>by trivial
 | .opq _,x,v,f,e,r=>by trivial
 | .optr _ _ _ _,x,v,f,e,r=>by trivial
 | .atl _,x,v,f,e,r=>by trivial
 | .any,x,v,f,e,r=>trivial
theorem DJ(ae:aa=I.U 0 (Y6 I es))(hw: ∀i b,src[i]? =some (.whole b)->au i=O b)(hv: ∀i s p q x v,Ai p q=true->HS blks i s q=true->src[i]? =some (.view x)->VR O I x v->VR au aa (.S i p q s) v):
 ∀(ps xs:Fz) (vs:List AS),pP es.length nb ps=true->uj src es blks ps xs=true->ct O I xs vs->ct au aa ps vs
 | [],xs,vs,f,e,r=>by simp[uj]at e;split at e;exact r;cases e
 |p::ps,xs,vs,f,e,r=>by simp[pP,j8]at f;simp[uj]at e;split at e;obtain⟨e1,e2⟩:=W7 e;obtain⟨v,vr,rfl,r1,r2⟩:=r;exact⟨v,vr,rfl,dO0 ae hw hv p _ v f.1 e1 r1,DJ ae hw hv ps _ vr f.2 e2 r2⟩;cases e
end
end
def b51: ∀(l:aaL) (h:Heap),h.next+l.length<=65536->(∀b,h.next<=b->h.get b=none)->(jh l h).next=h.next+l.length/\(jh l h).wm=h.wm/\ ∀b,(jh l h).get b=if b<h.next then h.get b else l[b-h.next]?
 | [],h,_,hf=>⟨rfl,rfl,λb=>by grind[jh]⟩
 |x::r,h,hl,hf=>by simp at hl;obtain⟨h1,h2,h3⟩:=b51 r (h.new x) (by simp;omega) (λb hb=>by simp at hb;rw[Heap.get_new,b9 (by omega)];exact hf b (by omega));refine⟨by simp[jh,h1,Heap.next_new,List.length_cons];omega,by trivial,λb=> ?_⟩;simp[jh,h3,Heap.next_new,Heap.get_new];grind
@[simp]def Heap.get_setwm(h:Heap)(n b:Nat):(h.setwm n).get b=h.get b:=by rfl
@[simp]def Heap.next_setwm(h:Heap)(n:Nat):(h.setwm n).next=h.next:=by rfl
@[simp]def Heap.wm_setwm(h:Heap)(n:Nat):(h.setwm n).wm=n:=by rfl
def FC.heap_ok(c:FC)(hl:c.blks.length<60000):c.heap.next=c.blks.length/\c.heap.wm=c.mt/\ ∀b,c.heap.get b=c.blks[b]? :=by obtain⟨h1,h2,h3⟩:=b51 c.blks Heap.empty (by show 0+_<=_;omega) (λb _=>Heap.get_empty b);refine⟨by unfold FC.heap;rw[Heap.next_setwm,h1];exact Nat.zero_add _,by trivial,λb=> ?_⟩;unfold FC.heap;rw[Heap.get_setwm,h3];rfl
def Wg(O:cn)(src:aaA)(mt:Nat)(w:yM)(k:Nat):Prop:=k<w.heap.size/\ ∀i b L,mt<=i->src[i]? =some (.whole b)->O b=some L->k≠L.blk
section
variable{src:aaA}{es:Jn}{blks:aaL}{mt:Nat}{args:Fz}
def IJ: ∀{ps:aaL} {ss:aaA} {nd:SX},Jc src es blks h ps ss=some nd->dB I nd=true->ps.length=ss.length/\ ∀(i:Nat) (p:Blk) (s:BSrc),ps[i]? =some p->ss[i]? =some s-> ∃e,uD src es blks h p s=some e/\dB I e=true
 | [],[],nd,e,hd=>⟨rfl,λi p s h1=>by simp at h1⟩
 | [],_::_,nd,e,hd=>by cases e
 |_::_,[],nd,e,hd=>by cases e
 |p::ps,s::ss,nd,e,hd=>by simp[Jc]at e;split at e;rename_i a b ha hb;simp at e;subst e;obtain⟨d1,d2⟩:=Dp hd;obtain⟨l1,l2⟩:=IJ hb d2;grind;cases e
def cw9{blks:aaL}{mt:Nat}{i:Nat}{s:BSrc}: ∀{r:aaA} {j:Nat},QM blks mt h i s r j=true-> ∀k t,r[k]? =some t->HT blks mt h i (j+k) (lI s) (lI t)=true
 | [],j,e,k,t,hk=>by simp at hk
 |u::r,j,e,k,t,hk=>by
  simp[QM,j8]at e;cases k with
  |zero=>grind
  |succ k=>
   rw[show j+(k+1)=j+1+k by omega];exact cw9 e.2 k t hk
def Yr{blks:aaL}{mt:Nat}: ∀{ss:aaA} {i:Nat},seps blks mt h ss i=true-> ∀a b s t,a<b->ss[a]? =some s->ss[b]? =some t->HT blks mt h (i+a) (i+b) (lI s) (lI t)=true
 | [],i,e,a,b,s,t,hab,ha,hb=>by simp at ha
 |u::r,i,e,a,b,s,t,hab,ha,hb=>by
  simp[seps,j8]at e;obtain⟨b,rfl⟩: ∃b',b=b'+1:=⟨b-1,by omega⟩;cases a with
  |zero=>
   have:=cw9 e.1 b t hb;grind
  |succ a=>
   have:=Yr e.2 a b s t (by omega) ha hb;grind
theorem KC{b:Nat}: ∀{l:Fz} {vs:List AS},DP b l=true->ct O I l vs->O b≠none
 | [],vs,e,r=>by cases e
 |x::l,vs,e,⟨v,vr,_,r1,r2⟩=>by
  simp[DP,s9]at e;rcases e with e|e
  split at e;obtain rfl:=Y0.1 e;obtain⟨L,hL,_⟩:=r1;grind;obtain rfl:=Y0.1 e;obtain⟨L,hL,_⟩:=r1;grind;cases e;exact KC e r2
theorem cZ1(r:HR O I K w0 h w){b c:Nat}(hc:O c≠none)(e:XB h b c=true):O b≠none:=by
 unfold XB at e;split at e
 rename_i hg;cases hL:O c with
 |none=>grind
 |some L=>
  obtain⟨C,lo,hi,vs,_,_,_,_,q5,_⟩:=r.cells hg hL;exact KC e q5
 .cases e
theorem c15(r:HR O I K w0 h w){us:List AS}(ra:ct O I args us){b:Nat}: ∀{l:aaA},KI args h b l=true->O b≠none
 | [],e=>by cases e
 |s::l,e=>by
  simp[KI,s9]at e;rcases e with e|e
  split at e;grind[cZ1,KC];cases e;exact c15 r ra e
def OC(r:HR O I K w0 h w){us:List AS}(ra:ct O I args us){all:aaA}{post:List sP}: ∀{ss:aaA} {i:Nat},In mt args h all post ss i=true-> ∀k s,ss[k]? =some s->mt<=i+k-> ∃b,s= .whole b/\h.wm<=b/\b<h.next/\(O b≠none\/post[i+k-mt]? =some none\/RowB (h.get b))
 | [],i,e,k,s,hk,hm=>by simp at hk
 |u::ss,i,e,k,s,hk,hm=>by
  simp only[In,j8]at e;cases k with
  |zero=>
   simp at hk;subst hk;rw[s9]at e;rcases e with e|e
   grind[eH];split at e
   obtain⟨e,e3⟩:=W7 e;obtain⟨e1,e2⟩:=W7 e;rw[cV]at e1;rw[eH]at e2;refine⟨_,rfl,e1,e2,?_⟩;rw[s9,s9,s9]at e3;rcases e3 with((e3|e3)|e3)|e3
   grind[cw6];grind[KC];grind[c15];right;right;unfold ZZ at e3;split at e3;rename_i hx;rw[hx];exact .A _ _ _;rename_i hx;rw[hx];exact .bag _ _ _;grind;cases e
  |succ k=>
   have:=OC r ra e.2 k s hk (by omega);grind
end
structure Bound (c:FC) (nv:Nat) (args:Fz) (h:Heap) (b:Binding):Prop where
 len:b.es.length=nv
 slen:b.src.length=c.blks.length
 argv:uj b.src b.es c.blks c.args args=true
 seps:seps c.blks c.mt h b.src 0=true
 mutb:In c.mt args h b.src c.post b.src 0=true
 post:Am b.src c.mt c.post c.post c.mt=true
 out:(iY c.out).all (ux b.src c.mt c.post)=true
 blks:Jc b.src b.es c.blks h c.blks b.src=some b.nd
def QZ{α:Type}{l:List (Nat×α)}: ∀{n i:Nat} {r:List α},DF l n i=some r->r.length=n
 |0,i,r,e=>by grind[DF,Option.some.injEq]
 |n+1,i,r,e=>by simp[DF]at e;split at e;rename_i x q h1 h2;simp at e;subst e;simp[QZ h2];cases e
def cZ2{c:FC}{nv:Nat}{args:Fz}{b:Binding}(e:Ep c nv args h=some b):Bound c nv args h b:=by unfold Ep at e;simp_all;split at e;rename_i src es h1 h2;replace e:=W8 e;obtain⟨hc,e⟩:=e;obtain⟨hc,c5⟩:=W7 hc;obtain⟨hc,c4⟩:=W7 hc;obtain⟨hc,c3⟩:=W7 hc;obtain⟨c1,c2⟩:=W7 hc;split at e;rename_i nd hnd;simp at e;subst e;exact⟨QZ h2,QZ h1,c1,c2,c3,c4,c5,hnd⟩;cases e;cases e
structure FcOk (c:FC) (nv:Nat):Prop where
 args:pP nv c.blks.length c.args=true
 blks: ∀(i:Nat) (x:Blk),c.blks[i]? =some x->AE nv c.blks.length (some x)=true/\((∃e fz cs,x= .cells e fz cs)\/(∃e sig l,x= .A e sig l)\/(∃e sig l,x= .bag e sig l)\/ ∃d ks vs l,x= .marr d ks vs l)
 N:fT nv c.N=true
 outs:tf nv c.outs=true
 mt:c.mt<=c.blks.length
 lt:c.blks.length<60000
def cx0{c:FC}{nv:Nat}(e:um c nv=true):FcOk c nv:=by obtain⟨e,e7⟩:=W7 e;obtain⟨e,e6⟩:=W7 e;obtain⟨e,e5⟩:=W7 e;obtain⟨e,e4⟩:=W7 e;obtain⟨e,e3⟩:=W7 e;obtain⟨e1,e2⟩:=W7 e;refine⟨e1,λi x hx=> ?_,e3,e4,cV.1 e5,eH.1 e6⟩;grind
def cZ3{c:FC}{nv:Nat}{args:Fz}{b:Binding}{us:List AS}(r:HR O I K w0 h w)(ra:ct O I args us)(fo:FcOk c nv)(bo:Bound c nv args h b)(hd:dB I b.nd=true):
 ct (oH O I b.src c.blks) (I.U 0 (Y6 I b.es)) c.args us/\HR (oH O I b.src c.blks) (I.U 0 (Y6 I b.es)) (Wg O b.src c.mt w) w c.heap w:=by
 obtain⟨hn,hwm,fc⟩:=c.heap_ok fo.lt;obtain⟨hl,hB⟩:=IJ bo.blks hd;have hw: ∀i x,b.src[i]? =some (.whole x)->oH O I b.src c.blks i=O x:=λi x hx=>by grind[oH]
 have view: ∀i x e sig q,b.src[i]? =some (.view x)->c.blks[i]? =some (.A e sig q)-> ∃nd l,DK sig.length e sig x h=some (nd,l)/\dB I nd=true/\bZ (I.U 0 (Y6 I b.es)) q=bZ I l/\oH O I b.src c.blks i=mN O I sig.length x:=by intro i x e sig q hx hp;obtain⟨nd,h1,h2⟩:=hB i _ _ hp hx;simp[uD]at h1;split at h1;rename_i nd' l hv;obtain⟨h3,h1⟩:=W8 h1;simp at h1;subst h1;have hf:=(fo.blks i _ hp).1;refine⟨_,l,hv,h2,Fp rfl (by rw[bo.len];exact hf) h3,?_⟩;unfold oH;rw[hx,hp];rfl;grind
 have hv: ∀i s p q x v,Ai p q=true->HS c.blks i s q=true->b.src[i]? =some (.view x)->VR O I x v->VR (oH O I b.src c.blks) (I.U 0 (Y6 I b.es)) (.S i p q s) v:=by
  intro i s p q x v hpq hvb hx hr;unfold HS at hvb;split at hvb
  rename_i e sig l hp;obtain⟨h1,h2⟩:=W7 hvb;have h2:=SX.beq_eq _ _ h2;subst h2;obtain⟨nd,lx,g1,g2,g3,g4⟩:=view i x e sig l hx hp;have vs:=(c14 r g1 g2).sl hr;have hlen:dI (I.U 0 (Y6 I b.es)) (.O .Y [l])=((dL I lx).length:Int):=by exact congrArg (λz:Val=>(z.L.length:Int)) g3
  have hp0:dI (I.U 0 (Y6 I b.es)) p=0:=by unfold Ai at hpq;split at hpq;rfl;cases hpq
  simp only[VR];rw[hlen,hp0,g4];rcases vs with⟨L,cap,a,k1,k2,k3,k4⟩|⟨k1,a,cap,k2,k3⟩
  exact .inl ⟨L,cap,a,k1,by simpa using k2,by simpa using k3,λ_=>by simpa using k4⟩;exact .inr ⟨a,cap,k2,k3,by rw[k1];rfl⟩;grind
 have hargs:=DJ (nb:=c.blks.length) (au:=oH O I b.src c.blks) rfl hw hv c.args args us (by rw[bo.len];exact fo.args) bo.argv ra;have base: ∀i L,oH O I b.src c.blks i=some L-> ∃s y M,b.src[i]? =some s/\lI s=some y/\O y=some M/\M.blk=L.blk:=by intro i L e;unfold oH at e;split at e;rename_i y hy;exact⟨_,y,L,hy,rfl,e,rfl⟩;grind[bO0];cases e
 have liveB: ∀(i:Nat) (s:BSrc) (p:Blk) (y:Nat),b.src[i]? =some s->c.blks[i]? =some p->lI s=some y-> ∃z,h.get y=some z:=by
  intro i s p y hs hp hy;obtain⟨nd,h1,_⟩:=hB i p s hp hs;cases s with
  |whole x=>
   simp[lI,j0]at hy;simp[uD]at h1;grind
  |view x=>
   simp[uD]at h1;grind[ce9]
 refine⟨hargs,⟨λi x L hg hL=> ?_,λi j x y L M hgi hgj hL hM hne hwk=> ?_,λi hi=> ?_,λi hi=> ?_,λi L hL=> ?_,λk hk=>hk.1,λk _=>rfl,λi x L hg hwi hL hk=> ?_,j5 _,rfl,rfl,rfl,j5 _⟩⟩
 rw[fc]at hg;have hs: ∃s,b.src[i]? =some s:=by grind
 obtain⟨s,hs⟩:=hs;obtain⟨nd,h1,h2⟩:=hB i x s hg hs;have hf:=(fo.blks i x hg).1;cases s with
 |whole y=>
  simp[uD]at h1;rw[hw i y hs]at hL;split at h1
  rename_i e fz ps e' fz' xs hgy;obtain⟨h3,_⟩:=W8 h1;obtain⟨h3,h6⟩:=W7 h3;obtain⟨h3,h5⟩:=W7 h3;obtain⟨h3,h4⟩:=W7 h3;obtain rfl:=Y0.1 h3;obtain rfl:=Y0.1 h4;obtain⟨C,lo,hi,vs,q1,q2,q3,q4,q5,q6,q7,q8⟩:=r.blk y _ L hgy hL;have hps:=DJ (nb:=c.blks.length) (au:=oH O I b.src c.blks) rfl hw hv ps xs vs (by rw[bo.len];exact hf) h6 q5;have hll:ps.length=xs.length:=by rw[<-hps.length,<-q5.length]
  exact⟨C,lo,hi,vs,q1,q2,by rw[hll];exact q3,h5,hps,by rw[hll];exact q6,q7,q8⟩;rename_i e sig q e' sig' l hgy;obtain⟨h3,_⟩:=W8 h1;obtain⟨h3,h5⟩:=W7 h3;obtain⟨h3,h4⟩:=W7 h3;obtain rfl:=Y0.1 h3;obtain rfl:=me h4;have hbr:=r.blk y _ L hgy hL;have hden:dL (I.U 0 (Y6 I b.es)) q=dL I l:=congrArg Val.L (Fp rfl (by rw[bo.len];exact hf) h5);simp[BR]at hbr⊢;rw[hden];exact hbr;rename_i e sig q e' sig' l hgy;obtain⟨h3,_⟩:=W8 h1;obtain⟨h3,h5⟩:=W7 h3;obtain⟨h3,h4⟩:=W7 h3;obtain rfl:=Y0.1 h3;obtain rfl:=me h4;have hbr:=r.blk y _ L hgy hL;have hden:dL (I.U 0 (Y6 I b.es)) q=dL I l:=congrArg Val.L (Fp rfl (by rw[bo.len];exact hf) h5);simp[BR]at hbr⊢;rw[hden];exact hbr;rename_i d ks vs q d' ks' vs' l hgy;obtain⟨j1,_⟩:=W8 h1;obtain⟨j2,h6⟩:=W7 j1;obtain⟨j3,h5⟩:=W7 j2;obtain⟨j4,h4⟩:=W7 j3;obtain rfl:=me h4;obtain rfl:=me h5;obtain⟨E,c',g1,g2,g3⟩:=r.blk y _ L hgy hL;have hden:dL (I.U 0 (Y6 I b.es)) q=dL I l:=congrArg Val.L (Fp rfl (by rw[bo.len];exact hf) h6);exact⟨E,c',g1,by rw[hden];exact g2,g3.weak j4⟩
  rename_i d ks vs q c' hgy;obtain⟨h3,_⟩:=W8 h1;obtain⟨h3,h6⟩:=W7 h3;obtain⟨E,g1,g2⟩:=r.blk y _ L hgy hL;have hden:dL (I.U 0 (Y6 I b.es)) q=dL I (.O .row []):=congrArg Val.L (Fp rfl (by rw[bo.len];exact hf) h6);have hE:E.toList=[]:=by generalize E.toList=m at g2;cases g2;rfl
  refine⟨E,c',g1,by rw[hden,hE];rfl,?_⟩;rw[hE];exact(gO.nil c').weak h3;grind
 |view y=>
  have: ∃e sig q,x= .A e sig q:=by simp[uD]at h1;split at h1;exact⟨_,_,_,rfl⟩;cases h1
  obtain⟨e,sig,q,rfl⟩:=this;obtain⟨nd',lx,g1,g2,g3,g4⟩:=view i y e sig q hs hg;rw[g4]at hL;have hbr:=dN7 r g1 g2 L hL;have hden:dL (I.U 0 (Y6 I b.es)) q=dL I lx:=congrArg Val.L g3;grind[BR]
 .rw[fc]at hgi hgj;obtain⟨s,y1,M1,s1,s2,s3,s4⟩:=base i L hL;obtain⟨t,y2,M2,t1,t2,t3,t4⟩:=base j M hM;obtain⟨z1,hz1⟩:=liveB i s x y1 s1 hgi s2;obtain⟨z2,hz2⟩:=liveB j t y y2 t1 hgj t2;have main: ∀(i j:Nat) (s t:BSrc) (x y:Blk) (y1 y2:Nat) (M1 M2:Loc) (z1 z2:Blk),HT c.blks c.mt h i j (lI s) (lI t)=true->c.blks[i]? =some x->c.blks[j]? =some y->(c.heap.wm<=i\/c.heap.wm<=j\/x.isArr=false\/y.isArr=false)->
   lI s=some y1->lI t=some y2->O y1=some M1->O y2=some M2->h.get y1=some z1->h.get y2=some z2->M1.blk≠M2.blk:=by
   intro i j s t x y y1 y2 M1 M2 z1 z2 hsep hx hy hk e1 e2 b1 b2 g1 g2;unfold HT at hsep;rw[s9]at hsep;rcases hsep with hsep|hsep
   obtain⟨hsep,a4⟩:=W7 hsep;obtain⟨hsep,a3⟩:=W7 hsep;obtain⟨a1,a2⟩:=W7 hsep;rw[eH]at a1 a2;rw[hx]at a3;rw[hy]at a4;rcases hk with q|q|q|q
   omega;omega;cases x<;>simp only[Blk.isArr,reduceCtorEq]at q<;>cases a3;cases y<;>simp only[Blk.isArr,reduceCtorEq]at q<;>cases a4
   obtain⟨a1,a2⟩:=W7 hsep;rw[e1,e2]at a1 a2;have hne:y1≠y2:=by rintro rfl;simp[neB]at a1
   refine r.sep y1 y2 z1 z2 M1 M2 g1 g2 b1 b2 hne ?_;simp[Tm,WM,s9,s8,cV]at a2;rw[g1,g2]at a2;rcases a2 with((q|q)|q)|q
   omega;omega
   refine .inr (.inr (.inl ?_));cases z1<;>first|rfl|cases q
   refine .inr (.inr (.inr ?_));cases z2<;>first|rfl|cases q
  rw[<-s4,<-t4];rcases Nat.lt_or_gt_of_ne hne with hlt|hlt
  have:=Yr bo.seps i j s t hlt s1 t1;rw[m9,m9]at this;exact main i j s t x y y1 y2 M1 M2 z1 z2 this hgi hgj hwk s2 t2 s3 t3 hz1 hz2;have:=Yr bo.seps j i t s hlt t1 s1;rw[m9,m9]at this;refine(main j i t s y x y2 y1 M2 M1 z2 z1 this hgj hgi ?_ t2 s2 t3 s3 hz2 hz1).symm;grind
 grind[oH,List.getElem?_eq_none];grind;obtain⟨s,y,M,_,_,h3,h4⟩:=base i L hL;rw[<-h4];exact r.lt y M h3
 have hs: ∃s,b.src[i]? =some s:=by grind
 obtain⟨s,hs⟩:=hs;obtain⟨y,rfl,_,_,_⟩:=OC r ra bo.mutb i s hs (by omega);rw[hw i y hs]at hL;exact hk.2 i y L hwi hs hL rfl
variable{es:Jn}
variable{I aa:Opq}{O ac aq:cn}{K:zI}{w0 w w':yM}{h h':Heap}
def iR:AV->Bool
 | .agg _=>false
 | .V _=>false
 |_=>true
theorem fU{v:AV}(h:iR v=true):iY v=[v]:=by cases v<;>first|rfl|cases h
def dp8{out v:AV}(h:iR v=true)(hs:jW out v=true):iR out=true:=by
 cases out<;>first
  |rfl
  |(simp[jW]at hs;split at hs<;>first|cases h|cases hs)
def gA{v:AV}{u:AS}(h:iR v=true)(r:VR O I v u): ∃us,ct O I (iY v) us/\ ∀(ac:cn) (aa:Opq) (out:AV),jW out v=true->ct ac aa (iY out) us->VR ac aa out u:=by refine⟨[u],by rw[fU h];exact .one r,λac aa out hs ho=> ?_⟩;rw[fU (dp8 h hs)]at ho;obtain⟨x,xr,e,p,q⟩:=ho;grind
def bB4: ∀{a b:Fz} {x y:List AS},a.length=x.length->ct O I (a++b) (x++y)->ct O I a x/\ct O I b y
 | [],b,[],y,_,r=>⟨rfl,r⟩
 | [],b,_::_,y,h,r=>by cases h
 |_::_,b,[],y,h,r=>by cases h
 |p::a,b,v::x,y,h,⟨v',vr,e,q,s⟩=>by obtain⟨rfl,rfl⟩:=e;obtain⟨h1,h2⟩:=bB4 (by grind) s;exact⟨⟨v,x,rfl,q,h1⟩,h2⟩
def gy{o v:AV}(ho:iR o=true)(h:jW o v=true):(iY o).length=(iY v).length:=by
 have hv:iR v=true:=by
  cases o<;>first
   |(exfalso;simp[iR]at ho;done)
   |(cases v<;>first|rfl|trivial)
 grind[fU]
mutual
theorem WB: ∀{o v:AV},jW o v=true->(iY o).length=(iY v).length
 | .agg a,v,h=>by simp[jW]at h;split at h;exact Y0.1 h;cases h
 | .V a,v,h=>by simp[jW]at h;split at h;exact bB5 h;cases h
 | .bool _,v,h=>gy rfl h
 | .int _ _,v,h=>gy rfl h
 | .str _,v,h=>gy rfl h
 | .nilp,v,h=>gy rfl h
 | .ptr _ _,v,h=>gy rfl h
 | .glob _,v,h=>gy rfl h
 | .N,v,h=>gy rfl h
 | .sl _ _ _ _,v,h=>gy rfl h
 | .us _ _ _ _,v,h=>gy rfl h
 | .es _ _ _,v,h=>gy rfl h
 | .es0,v,h=>gy rfl h
 | .nilm,v,h=>gy rfl h
 | .map _,v,h=>gy rfl h
 | .nilf,v,h=>gy rfl h
 | .func _ _ _,v,h=>gy rfl h
 | .yield _,v,h=>gy rfl h
 | .nili,v,h=>gy rfl h
 | .iface _ _,v,h=>gy rfl h
 | .opq _,v,h=>gy rfl h
 | .Z _ _,v,h=>gy rfl h
 | .K _,v,h=>gy rfl h
 | .H _,v,h=>gy rfl h
 | .S _ _ _ _,v,h=>gy rfl h
 | .optr _ _ _ _,v,h=>gy rfl h
 | .U _ _ _,v,h=>gy rfl h
 | .atl _,v,h=>gy rfl h
 | .any,v,h=>gy rfl h
theorem bB5: ∀{o v:Fz},tW o v=true->(tJ o).length=(tJ v).length
 | [],v,h=>by grind[tW]
 |a::r,v,h=>by simp[tW]at h;split at h;rw[j8]at h;simp[tJ,k7,WB h.1,bB5 h.2];cases h
end
mutual
theorem cx1: ∀(v:AV) (u:AS),VR O I v u-> ∃us,ct O I (iY v) us/\ ∀(ac:cn) (aa:Opq) (out:AV),jW out v=true->ct ac aa (iY out) us->VR ac aa out u
 | .agg cs,u,r=>by obtain⟨xs,rfl,q⟩:=r;refine⟨xs.toList,q,λac aa out hs ho=> ?_⟩;cases out<;>simp only[jW,n9]at hs;exact⟨xs,rfl,ho⟩
 | .V vs,u,r=>by obtain⟨xs,rfl,q⟩:=r;obtain⟨us,h1,h2⟩:=c16 vs xs.toList q;refine⟨us,h1,λac aa out hs ho=> ?_⟩;cases out<;>simp only[jW,n9]at hs;exact⟨xs,rfl,h2 ac aa _ hs ho⟩
 | .bool b,u,r=>gA rfl r
 | .int a b,u,r=>gA rfl r
 | .str b,u,r=>gA rfl r
 | .nilp,u,r=>gA rfl r
 | .ptr a b,u,r=>gA rfl r
 | .glob b,u,r=>gA rfl r
 | .N,u,r=>gA rfl r
 | .sl a b c d,u,r=>gA rfl r
 | .us a b c d,u,r=>gA rfl r
 | .es a b c,u,r=>gA rfl r
 | .es0,u,r=>gA rfl r
 | .nilm,u,r=>gA rfl r
 | .map b,u,r=>gA rfl r
 | .nilf,u,r=>gA rfl r
 | .func a b c,u,r=>gA rfl r
 | .yield b,u,r=>gA rfl r
 | .nili,u,r=>gA rfl r
 | .iface a b,u,r=>gA rfl r
 | .opq b,u,r=>gA rfl r
 | .Z a b,u,r=>gA rfl r
 | .K b,u,r=>gA rfl r
 | .H b,u,r=>gA rfl r
 | .S a b c d,u,r=>gA rfl r
 | .optr a b c d,u,r=>gA rfl r
 | .U a b c,u,r=>gA rfl r
 | .atl b,u,r=>gA rfl r
 | .any,u,r=>gA rfl r
theorem c16: ∀(vs:Fz) (us0:List AS),ct O I vs us0-> ∃us,ct O I (tJ vs) us/\ ∀(ac:cn) (aa:Opq) (outs:Fz),tW outs vs=true->ct ac aa (tJ outs) us->ct ac aa outs us0
 | [],us0,r=>by
   refine⟨[],rfl,λac aa outs hs ho=> ?_⟩;cases outs with
   |nil=>exact r
   |cons a b=>trivial
 |v::vs,us0,⟨u,ur,e,p,q⟩=>by
  obtain⟨us1,a1,a2⟩:=cx1 v u p;obtain⟨us2,b1,b2⟩:=c16 vs ur q;refine⟨us1++us2,a1.append b1,λac aa outs hs ho=> ?_⟩;cases outs with
  |nil=>trivial
  |cons o os=>
   simp[tW,j8]at hs;have hl:(iY o).length=us1.length:=by rw[WB hs.1];exact a1.length.symm
   obtain⟨c1,c2⟩:=bB4 hl ho;exact⟨u,ur,e,a2 ac aa o hs.1 c1,b2 ac aa os hs.2 c2⟩
end
section
variable{Q:Nat->SX}{n:Nat}
def tK(g:Agr 0 I aa){p x:SX}(h:og 1000 n p x=some es)(hp:pA p=true)(hq: ∀j e,es[j]? =some e->bZ I (Q (n+j))=bZ aa e):bZ I (eC 1000 Q p)=bZ aa x:=by unfold og at h;unfold eC;unfold pA at hp;split at h;obtain⟨h1,h2⟩:=W8 h;simp at h2;subst h2;obtain rfl:=Y0.1 h1;exact hq 0 x rfl;grind[fT,SX.beq_eq,sf]
def cf0(g:Agr 0 I aa){p q x y:SX}(h:Cd 1000 n p q x y=some es)(hp:pA p=true)(hpq:pA q=true)(hq: ∀j e,es[j]? =some e->bZ I (Q (n+j))=bZ aa e):bZ I (eC 1000 Q p)=bZ aa x/\bZ I (eC 1000 Q q)=bZ aa y:=by unfold Cd at h;split at h;rename_i e1 h1;split at h;rename_i e2 h2;simp at h;subst h;refine⟨tK g h1 hp λj e hj=>hq j e ?_,tK g h2 hpq λj e hj=> ?_⟩;grind;have:=hq (e1.length+j) e (by rw[s6 (E2 _ _),G9];exact hj);grind;cases h;cases h
theorem Tn{src:aaA}{i:Nat}(e:lQ src i=true): ∃b,src[i]? =some (.whole b):=by grind[lQ]
theorem If{src:aaA}{m i b:Nat}(e:src[i]? =some (.whole b)):fQ src m i=b:=by grind[fQ]
theorem Yi(ρ:Nat->Nat)(k:IntKind)(e:SX):jb ρ (pT k e)=pT k e:=by unfold pT;split<;>rfl
theorem cx3(k:IntKind)(e:SX):(pT k e).oneA=true:=by unfold pT;split<;>rfl
theorem cf1{ρ:Nat->Nat}{p:AV}(h:Br p=true):jb ρ (jq Q p)=p:=by cases p<;>simp only[Br,n9]at h<;>simp only[jq,jb]
variable{src:aaA}{mt base N:Nat}{post:List sP}
def TD(g:Agr 0 I aa){p x:AV}{u:AS}(hcl:ux src mt post p=true)(hnn:EP src.length p=true)(ha:ef 1000 base n p x=some es)(hq: ∀j e,es[j]? =some e->bZ I (Q (n+j))=bZ aa e)
 (r:VR O aa x u) (ao: ∀i b,src[i]? =some (.whole b)->aq b=O i):VR aq I (jb (fQ src N) (jq Q p)) u:=by
 have plain:Br p=true->(bif AV.beq p x&&ib 1000 base x then some ([]:Jn)else none)=some es->VR aq I (jb (fQ src N) (jq Q p)) u:=by grind[cf1,AV.beq_eq,tz]
 cases p with
 |Z k e=>
  simp[ef]at ha;unfold Na at ha;split at ha;rename_i k' x' hx;split at ha;rename_i hk;subst hk;rw[show jb (fQ src N) (jq Q (.Z k e))=pT k (eC 1000 Q e)from Yi _ _ _];refine Rp.2 ?_;rw[uf hx r];exact congrArg (λz:Val=>Value.int k z.I) (tK g ha hcl hq).symm;cases ha;grind
 |K e=>
  simp[ef]at ha;unfold xf at ha;split at ha;rename_i x' hx;rw[Js hx r];exact congrArg (λz:Val=>Value.string ⟨z.S.toArray⟩) (tK g ha hcl hq).symm;grind
 |H e=>
  simp[ef]at ha;unfold xf at ha;split at ha;rename_i x' hx;rw[xM hx r];exact congrArg (λz:Val=>Value.bool z.Z) (tK g ha hcl hq).symm;grind
 |S i y z s=>
  simp[ux,j8]at hcl;simp[ef]at ha;unfold JO at ha;split at ha;rename_i b' y' z' s';obtain⟨h1,h2⟩:=W8 ha;obtain⟨h1,_⟩:=W7 h1;obtain⟨h1,h3⟩:=W7 h1;obtain rfl:=Y0.1 h1;obtain rfl:=Y0.1 h3;obtain⟨b,hb⟩:=Tn hcl.1.1;obtain⟨k1,k2⟩:=cf0 g h2 hcl.1.2 hcl.2 hq;have k1:dI I (eC 1000 Q y)=dI aa y':=congrArg Val.I k1;have k2:dI I (eC 1000 Q z)=dI aa z':=congrArg Val.I k2;simp[jq,jb,If hb,VR]at r⊢;rw[k1,k2,ao i b hb];exact r;grind
 |U i q s=>
  simp[EP,eH]at hnn;simp only[ux]at hcl;rw[show Nat.ble src.length i=false by
   cases hh:Nat.ble src.length i with
   |false=>rfl
   |true=>rw[cV]at hh;omega]at hcl
  simp at hcl;simp[ef]at ha;unfold FL at ha;split at ha
  rename_i b' q' s';obtain⟨h1,h2⟩:=W8 ha;obtain⟨h1,_⟩:=W7 h1;obtain⟨h1,h3⟩:=W7 h1;obtain rfl:=Y0.1 h1;obtain rfl:=Y0.1 h3;obtain⟨b,hb⟩:=Tn hcl.1;have k1:dI I (eC 1000 Q q)=dI aa q':=congrArg Val.I (tK g h2 (by unfold pA;rw[hcl.2];rfl) hq);have hy:Pk Q q=eC 1000 Q q:=by have:=hcl.2;unfold AB at this;split at this;rfl;trivial
  simp[jq,jb,If hb,VR]at r⊢;rw[hy,k1,ao i b hb];exact r;grind
 |ptr i o=>
  simp[ux]at hcl;simp[ef]at ha;grind[AV.beq_eq,Tn,jq,jb,If,VR]
 |bool _=>exact plain hcl ha
 |int _ _=>exact plain hcl ha
 |str _=>exact plain hcl ha
 |nilp=>exact plain hcl ha
 |glob _=>exact plain hcl ha
 |N=>exact plain hcl ha
 |nilm=>exact plain hcl ha
 |nilf=>exact plain hcl ha
 |nili=>exact plain hcl ha
 |_=>trivial
def bB6(g:Agr 0 I aa): ∀{ps xs:Fz} {us:List AS} {n:Nat} {es:Jn},(ps.all λp=>ux src mt post p&&EP src.length p&&p.oneA)=true->qN 1000 base n ps xs=some es->(∀j e,es[j]? =some e->bZ I (Q (n+j))=bZ aa e)->
 ct O aa xs us->(∀i b,src[i]? =some (.whole b)->aq b=O i)->ct aq I (qp (fQ src N) (uI Q ps)) us
 | [],xs,us,n,es,hcl,ha,hq,r,ao=>by
   cases xs with
   |nil=>exact r
   |cons a b=>grind[qN]
 |p::ps,xs,us,n,es,hcl,ha,hq,r,ao=>by
  cases xs with
  |nil=>grind[qN]
  |cons x xs=>
   simp at hcl;simp[qN]at ha;split at ha;rename_i e1 h1;split at ha;rename_i e2 h2;simp at ha;subst ha;obtain⟨v,vr,rfl,r1,r2⟩:=r;refine⟨v,vr,rfl,TD g hcl.1.1.1 hcl.1.1.2 h1 (λj e hj=>hq j e ?_) r1 ao,bB6 g (by simpa using hcl.2) h2 (λj e hj=> ?_) r2 ao⟩;have hlt:=(B7.1 hj).1;rw[x9 hlt];exact hj;have:=hq (e1.length+j) e (by rw[s6 (E2 _ _),G9];exact hj);rw[show n+e1.length+j=n+(e1.length+j) by omega];exact this;cases ha;grind
def cx4(ρ:Nat->Nat): ∀l:Fz,(l.all λp=>ux src mt post p&&EP src.length p&&p.oneA)=true->(qp ρ (uI Q l)).all AV.oneA=true
 | [],_=>rfl
 |a::r,h=>by simp at h;simp only[uI,qp,List.all_cons,j8];refine⟨?_,cx4 ρ r (by grind)⟩;have:=h.1.2;cases a<;>simp only[jq,jb]<;>first|exact this|rfl|grind[Yi,cx3]
def cx5(g:Agr 0 I aa){L:Loc}{o:aaV}{p z x:Blk}(hcl:Oz src mt post (some p)=true)(ha:pZ 1000 base n p z=some es)(hq: ∀j e,es[j]? =some e->bZ I (Q (n+j))=bZ aa e)
 (r:BR O aa L o z) (ao: ∀i b,src[i]? =some (.whole b)->aq b=O i) (hx:oT (fQ src N) (oV Q (some p))=some x):BR aq I L o x:=by
 cases p with
 |cells e fz ps=>
  cases z<;>simp only[pZ,reduceCtorEq]at ha;obtain⟨h1,h2⟩:=W8 ha;obtain⟨h1,h4⟩:=W7 h1;obtain⟨h1,h3⟩:=W7 h1;obtain rfl:=Y0.1 h1;obtain rfl:=Y0.1 h3;simp[oV,oT,j0]at hx;subst hx;obtain⟨C,lo,hi,vs,q1,q2,q3,q4,q5,q6,q7,q8⟩:=r;have hv:=bB6 (N:=N) g hcl h2 hq q5 ao;have hl:(qp (fQ src N) (uI Q ps)).length=vs.length:=hv.length.symm;have hl2:=q5.length;refine⟨C,lo,hi,vs,q1,q2,by omega,cx4 _ _ hcl,hv,by grind,q7,λhh=>q8 (by rw[<-hh];exact g.fix▸rfl)⟩
 |A e sig l=>
  cases z<;>simp only[pZ,reduceCtorEq]at ha;obtain⟨h1,h2⟩:=W8 ha;obtain⟨h1,h3⟩:=W7 h1;obtain rfl:=Y0.1 h1;obtain rfl:=me h3;simp[oV,oT,j0]at hx;have k:dL I (eC 1000 Q l)=dL aa _:=congrArg Val.L (tK g h2 hcl hq);grind[BR]
 |marr d ks vs l=>
  simp[oV,oT,j0]at hx;subst hx;cases z with
  |marr d' ks' vs' x=>
   obtain⟨h1,h2⟩:=W8 ha;obtain⟨h5,h1⟩:=W7 h1;obtain⟨h3,h4⟩:=W7 h1;obtain rfl:=me h3;obtain rfl:=me h4;have k:dL I (eC 1000 Q l)=dL aa x:=congrArg Val.L (tK g h2 hcl hq);obtain⟨E,c,q1,q2,q3⟩:=r;exact⟨E,c,q1,by grind,q3.weak h5⟩
  |map es' c=>
   cases es' with
   |nil=>
    obtain⟨h5,h2⟩:=W8 ha;have k:dL I (eC 1000 Q l)=dL aa (.O .row []):=congrArg Val.L (tK g h2 hcl hq);obtain⟨E,q1,q2⟩:=r;have hE:E.toList=[]:=by generalize E.toList=z at q2;cases q2;rfl
    refine⟨E,_,q1,?_⟩;rw[hE,k];exact⟨rfl,(gO.nil _).weak h5⟩
   |cons e r=>grind[pZ]
  |_=>grind[pZ]
 |_=>trivial
end
variable{I aa:Opq}{O ac aq:cn}{K:zI}{w0 w w':yM}{h h':Heap}
section
variable{Q:Nat->SX}{ρ:Nat->Nat}{m:Nat}
structure Laid (Q:Nat->SX) (ρ:Nat->Nat) (m:Nat) (l:List sP) (i:Nat) (h h2:Heap):Prop where
 wm:h2.wm=h.wm
 next:h2.next=h.next+(i+l.length-Nat.max i m)
 get: ∀b y,h2.get b=some y->(∃j x,l[j]? =some x/\i+j<m/\ρ (i+j)=b/\oT ρ (oV Q x)=some y)\/(∃j x,l[j]? =some x/\m<=i+j/\b=h.next+(i+j-Nat.max i m)/\oT ρ (oV Q x)=some y)\/(h.get b=some y/\ ∀j,j<l.length->i+j<m->ρ (i+j)≠b)
 keep: ∀b,b<h.next->(∀j,j<l.length->i+j<m->ρ (i+j)≠b)->h2.get b=h.get b
def cf2{x:sP}(e:DG x=true): ∃y,oT ρ (oV Q x)=some y:=by unfold DG at e;split at e;exact⟨_,rfl⟩;cases e
def WQ: ∀(l:List sP) (i:Nat) (h:Heap),(∀j x,l[j]? =some x->m<=i+j->DG x=true)->(∀j,j<l.length->i+j<m->ρ (i+j)<h.next)->Laid Q ρ m l i h (ol ρ Q m l i h)
 | [],i,h,hr,hb=>by
   refine⟨rfl,?_,λb y e=> .inr (.inr ⟨e,λj hj=>by simp at hj⟩),λ_ _ _=>rfl⟩;show h.next=h.next+(i+0-max i m)
   omega
 |x::r,i,h,hr,hb=>by
  by_cases him:i<m
  .
   have hstep:ol ρ Q m (x::r) i h=ol ρ Q m r (i+1) (h.put (ρ i) (oT ρ (oV Q x))):=by simp_all[ol,jv,cond_true]
   have ih:=WQ r (i+1) (h.put (ρ i) (oT ρ (oV Q x))) (λj y hj hm=>hr (j+1) y (by grind) (by omega)) (λj hj hm=>by rw[Heap.next_put];have:=hb (j+1) (by simp;omega) (by omega);grind);rw[hstep];have hmax:Nat.max (i+1) m=m:=S0 (by omega);have hmax':Nat.max i m=m:=S0 (by omega);refine⟨ih.wm,?_,λb y e=> ?_,λb hb' hn=> ?_⟩
   .rw[ih.next,Heap.next_put,hmax,hmax',List.length_cons];omega
   rcases ih.get b y e with⟨j,z,h1,h2,h3,h4⟩|⟨j,z,h1,h2,h3,h4⟩|⟨h1,h2⟩
   exact .inl ⟨j+1,z,by grind,by omega,by grind,h4⟩;refine .inr (.inl ⟨j+1,z,by trivial,by omega,?_,h4⟩);grind[Heap.next_put];rw[Heap.get_put]at h1;by_cases hbi:b=ρ i;rw[c9 hbi]at h1;split at h1;exact .inl ⟨0,x,rfl,by omega,hbi.symm,h1⟩;cases h1;grind;rw[ih.keep b (by simp_all) (λj hj hm=>by rw[show i+1+j=i+(j+1) by omega];exact hn (j+1) (by grind) (by omega)),Heap.get_put,b9];exactλhh=>hn 0 (by simp) him hh.symm
  .obtain⟨z,hz⟩:=cf2 (Q:=Q) (ρ:=ρ) (hr 0 x rfl (by omega));have hstep:ol ρ Q m (x::r) i h=ol ρ Q m r (i+1) (h.new z):=by
    simp_all[ol,jA,cond_false]
   have ih:=WQ r (i+1) (h.new z) (λj y hj hm=>hr (j+1) y (by grind) (by omega)) (λj hj hm=>by omega);rw[hstep];have hmax:Nat.max (i+1) m=i+1:=S1 (by omega);have hmax':Nat.max i m=i:=S1 (by omega);refine⟨ih.wm,?_,λb y e=> ?_,λb hb' hn=> ?_⟩
   .rw[ih.next,Heap.next_new,hmax,hmax',List.length_cons];omega
   .rcases ih.get b y e with⟨j,u,h1,h2,h3,h4⟩|⟨j,u,h1,h2,h3,h4⟩|⟨h1,h2⟩
    .omega
    refine .inr (.inl ⟨j+1,u,by trivial,by omega,?_,h4⟩);grind[Heap.next_new]
    .rw[Heap.get_new]at h1;by_cases hbi:b=h.next
     .rw[c9 hbi]at h1;split at h1;simp at h1;subst h1;exact .inr (.inl ⟨0,x,rfl,by omega,by omega,hz⟩);cases h1
     grind
   rw[ih.keep b (by rw[Heap.next_new];omega) (λj hj hm=>by omega),Heap.get_new,b9 (by omega)]
end
section
variable{m base:Nat}{a:Fr}
def c17{P:Nat->SX->Prop}: ∀{ps:Fz} {t n:Nat} {es:Jn},Lp m base h a ps t n=some es->(∀j e,es[j]? =some e->P (n+j) e)-> ∀k p,ps[k]? =some p-> ∃n' es',Tt m base n' h p (a.slot (t+k))=some es'/\ ∀j e,es'[j]? =some e->P (n'+j) e
 | [],t,n,es,e,hp,k,p,hk=>by simp at hk
 |q::ps,t,n,es,e,hp,k,p,hk=>by
  simp[Lp]at e;split at e;rename_i e1 h1;split at e
  rename_i e2 h2;simp at e;subst e;cases k with
  |zero=>
   grind
  |succ k=>
   obtain⟨n',es',g1,g2⟩:=c17 h2 (λj e hj=>by have:=hp (e1.length+j) e (by rw[s6 (E2 _ _),G9];exact hj);rw[show n+e1.length+j=n+(e1.length+j) by omega];exact this) k p hk;grind
  .cases e
  cases e
def c18{P:Nat->SX->Prop}: ∀{ps:List sP} {i n:Nat} {es:Jn},Qu m base h ps i n=some es->(∀j e,es[j]? =some e->P (n+j) e)-> ∀k p,ps[k]? =some p-> ∃n' es',ud 1000 base n' p (h.get (bif Nat.blt (i+k) m then i+k else base+(i+k-m)))=some es'/\ ∀j e,es'[j]? =some e->P (n'+j) e
 | [],i,n,es,e,hp,k,p,hk=>by simp at hk
 |q::ps,i,n,es,e,hp,k,p,hk=>by
  simp[Qu]at e;split at e;rename_i e1 h1;split at e
  rename_i e2 h2;simp at e;subst e;cases k with
  |zero=>
   grind
  |succ k=>
   obtain⟨n',es',g1,g2⟩:=c18 h2 (λj e hj=>by have:=hp (e1.length+j) e (by rw[s6 (E2 _ _),G9];exact hj);rw[show n+e1.length+j=n+(e1.length+j) by omega];exact this) k p hk;grind
  .cases e
  cases e
def cZ4{x:AV}{v:AS}(hd:dB I (Fh h x).1=true)(r:VR O I x v):VR O I (Fh h x).2 v:=by
 cases x with
 |U b len s=>
  cases hg:h.get b with
  |none=>grind[Fh]
  |some y=>
   cases y with
   |A e sig l=>
    simp[Fh,hg]at hd⊢;cases hc:SX.beq len (.O .Y [l])with
    |true=>exact r
    |false=>
     rw[hc]at hd;have:dI I len=dI I (.O .Y [l]):=j6 hd;grind[VR]
   |_=>grind[Fh]
 |_=>exact r
def bB7: ∀{xs:Fz} {vs:List AS},dB I (CH h xs).1=true->ct O I xs vs->ct O I (CH h xs).2 vs
 | [],vs,hd,r=>r
 |x::xs,vs,hd,⟨v,vr,e,p,q⟩=>by obtain⟨d1,d2⟩:=Dp hd;exact⟨v,vr,e,cZ4 d1 p,bB7 d2 q⟩
def cx6{pc:PC}(hp:oL I pc): ∀l:Jn,Y6 I (KR pc l)=Y6 I l
 | []=>rfl
 |a::r=>by simp[KR,Y6,UC hp,cx6 hp r]
def dO1{xs:Fz}{us:List AS}(ra:ct O I xs us)(hl:xs.length<=256):dA O I ⟨vd xs 0 TF.empty,xs.length,[],0,[],none⟩ {tmps:=us.toArray,defers:=[]}:=by have:=c10 (fn:=0) (nt:=xs.length) ra (by rw[show Nat.max xs.length xs.length=xs.length from Nat.max_self _];exact hl);rw[show Nat.max xs.length xs.length=xs.length from Nat.max_self _,show xs.length-us.toArray.size=0 by rw[K4,ra.length];exact J7 _]at this;grind
end
def TT{src:aaA}{mt:Nat}{post:List sP}: ∀{l:List sP} {i:Nat},Am src mt post l i=true->src.length<=i+l.length/\ ∀j x,l[j]? =some x->(i+j<src.length->Oz src mt post x=true)/\(src.length<=i+j->DG x=true)
 | [],i,e=>⟨by grind[Am,cV],λj x hx=>by simp at hx⟩
 |x::l,i,e=>by simp only[Am]at e;by_cases hi:i<src.length;rw[jv hi]at e;simp at e;obtain⟨h1,h2⟩:=TT e.2;grind;rw[jA hi]at e;simp at e;obtain⟨h1,h2⟩:=TT e.2;grind
def JU{post:List sP}{mt m base:Nat}: ∀{l:Fz} {t:Nat} {o:OwnP},o∈xH post mt m base l t->base<=o.blk
 | [],t,o,ho=>by cases ho
 |p::l,t,o,ho=>by
  cases p<;>simp only[xH]at ho<;>try exact JU ho
  rename_i i x s;cases hm:Nat.ble m i with
  |false=>rw[hm]at ho;exact JU ho
  |true=>
   rw[hm]at ho;split at ho
   rcases n8.1 ho with rfl|ho
   grind;exact JU ho;exact JU ho
mutual
theorem c19{F:AV->AV}(h1: ∀l,F (.agg l)= .agg (l.map F))(h2: ∀l,F (.V l)= .V (l.map F))(h3: ∀x,iR x=true->iR (F x)=true): ∀v:AV,iY (F v)=(iY v).map F
 | .agg l=>by rw[h1];rfl
 | .V l=>by rw[h2];exact bB8 h1 h2 h3 l
 | .bool a=>by rw[fU (h3 _ rfl)];rfl
 | .int a b=>by rw[fU (h3 _ rfl)];rfl
 | .str a=>by rw[fU (h3 _ rfl)];rfl
 | .nilp=>by rw[fU (h3 _ rfl)];rfl
 | .ptr a b=>by rw[fU (h3 _ rfl)];rfl
 | .glob a=>by rw[fU (h3 _ rfl)];rfl
 | .N=>by rw[fU (h3 _ rfl)];rfl
 | .sl a b c d=>by rw[fU (h3 _ rfl)];rfl
 | .us a b c d=>by rw[fU (h3 _ rfl)];rfl
 | .es a b c=>by rw[fU (h3 _ rfl)];rfl
 | .es0=>by rw[fU (h3 _ rfl)];rfl
 | .nilm=>by rw[fU (h3 _ rfl)];rfl
 | .map a=>by rw[fU (h3 _ rfl)];rfl
 | .nilf=>by rw[fU (h3 _ rfl)];rfl
 | .func a b c=>by rw[fU (h3 _ rfl)];rfl
 | .yield a=>by rw[fU (h3 _ rfl)];rfl
 | .nili=>by rw[fU (h3 _ rfl)];rfl
 | .iface a b=>by rw[fU (h3 _ rfl)];rfl
 | .opq a=>by rw[fU (h3 _ rfl)];rfl
 | .Z a b=>by rw[fU (h3 _ rfl)];rfl
 | .K a=>by rw[fU (h3 _ rfl)];rfl
 | .H a=>by rw[fU (h3 _ rfl)];rfl
 | .S a b c d=>by rw[fU (h3 _ rfl)];rfl
 | .optr a b c d=>by rw[fU (h3 _ rfl)];rfl
 | .U a b c=>by rw[fU (h3 _ rfl)];rfl
 | .atl a=>by rw[fU (h3 _ rfl)];rfl
 | .any=>by rw[fU (h3 _ rfl)];rfl
theorem bB8{F:AV->AV}(h1: ∀l,F (.agg l)= .agg (l.map F))(h2: ∀l,F (.V l)= .V (l.map F))(h3: ∀x,iR x=true->iR (F x)=true): ∀l:Fz,tJ (l.map F)=(tJ l).map F
 | []=>rfl
 |a::r=>by simp[m8,tJ,r9,c19 h1 h2 h3 a,bB8 h1 h2 h3 r]
end
def gD{F o v:AV}(h1:iR o=true)(h2:iR F=true)(h:jW o v=true):jW F v=true:=by
 have hv:iR v=true:=by
  cases o<;>first
   |(exfalso;simp[iR]at h1;done)
   |(simp[jW]at h;cases v<;>first|rfl|grind)
 cases F<;>first
  |(exfalso;simp[iR]at h2;done)
  |(cases v<;>first|rfl|trivial)
mutual
theorem da0{F:AV->AV}(h1: ∀l,F (.agg l)= .agg (l.map F))(h2: ∀l,F (.V l)= .V (l.map F))(h3: ∀x,iR x=true->iR (F x)=true): ∀(o v:AV),jW o v=true->jW (F o) v=true
 | .agg l,v,h=>by simp_all[jW,k6]
 | .V l,v,h=>by rw[h2];simp[jW]at h⊢;split at h;exact cx7 h1 h2 h3 l _ h;cases h
 | .bool a,v,h=>gD rfl (h3 _ rfl) h
 | .int a b,v,h=>gD rfl (h3 _ rfl) h
 | .str a,v,h=>gD rfl (h3 _ rfl) h
 | .nilp,v,h=>gD rfl (h3 _ rfl) h
 | .ptr a b,v,h=>gD rfl (h3 _ rfl) h
 | .glob a,v,h=>gD rfl (h3 _ rfl) h
 | .N,v,h=>gD rfl (h3 _ rfl) h
 | .sl a b c d,v,h=>gD rfl (h3 _ rfl) h
 | .us a b c d,v,h=>gD rfl (h3 _ rfl) h
 | .es a b c,v,h=>gD rfl (h3 _ rfl) h
 | .es0,v,h=>gD rfl (h3 _ rfl) h
 | .nilm,v,h=>gD rfl (h3 _ rfl) h
 | .map a,v,h=>gD rfl (h3 _ rfl) h
 | .nilf,v,h=>gD rfl (h3 _ rfl) h
 | .func a b c,v,h=>gD rfl (h3 _ rfl) h
 | .yield a,v,h=>gD rfl (h3 _ rfl) h
 | .nili,v,h=>gD rfl (h3 _ rfl) h
 | .iface a b,v,h=>gD rfl (h3 _ rfl) h
 | .opq a,v,h=>gD rfl (h3 _ rfl) h
 | .Z a b,v,h=>gD rfl (h3 _ rfl) h
 | .K a,v,h=>gD rfl (h3 _ rfl) h
 | .H a,v,h=>gD rfl (h3 _ rfl) h
 | .S a b c d,v,h=>gD rfl (h3 _ rfl) h
 | .optr a b c d,v,h=>gD rfl (h3 _ rfl) h
 | .U a b c,v,h=>gD rfl (h3 _ rfl) h
 | .atl a,v,h=>gD rfl (h3 _ rfl) h
 | .any,v,h=>gD rfl (h3 _ rfl) h
theorem cx7{F:AV->AV}(h1: ∀l,F (.agg l)= .agg (l.map F))(h2: ∀l,F (.V l)= .V (l.map F))(h3: ∀x,iR x=true->iR (F x)=true): ∀(o v:Fz),tW o v=true->tW (o.map F) v=true
 | [],v,h=>h
 |a::r,v,h=>by simp[tW,m8]at h⊢;split at h;rw[j8]at h⊢;exact⟨da0 h1 h2 h3 a _ h.1,cx7 h1 h2 h3 r _ h.2⟩;cases h
end
def VL(Q:Nat->SX): ∀l:Fz,uI Q l=l.map (jq Q)
 | []=>rfl
 |a::r=>by simp[uI,m8,VL Q r]
def VN(ρ:Nat->Nat): ∀l:Fz,qp ρ l=l.map (jb ρ)
 | []=>rfl
 |a::r=>by simp[qp,m8,VN ρ r]
def cx8{F:AV->AV}: ∀{ps:Fz} {us:List AS},ps.length=us.length->(∀(k:Nat) (p:AV) (u:AS),ps[k]? =some p->us[k]? =some u->VR O I (F p) u)->ct O I (ps.map F) us
 | [],[],_,_=>rfl
 | [],_::_,h,_=>by cases h
 |_::_,[],h,_=>by cases h
 |p::ps,u::us,h,hk=>⟨u,us,rfl,hk 0 p u rfl rfl,cx8 (by grind) (λk q v h1 h2=>hk (k+1) q v (by grind) (by grind))⟩
