import Derived.Test.YtdbiooidpgafaaaGreatE32
import Derived.Test.YtdbiooidpgafaaaGreatE2f
set_option linter.unusedSimpArgs false
set_option linter.unusedVariables false
namespace Go.Ev
open Go
variable{ω:Opq}{β:Bij}{K:Nat→Prop}{w0 w:World}{h:Heap}
theorem aw6(ω:Opq): ∀l:List SX,Q4 ω l=l.map (den ω)
 | []=>rfl
 |a::r=>by simp only[Q4,k6,aw6 ω r]
mutual
theorem aj7{es:List SX}: ∀e:SX,V4 es.length e=true→den ω (a71 es e)=den (ω.upd 0 (Q4 ω es)) e
 | .ci _,_=>rfl
 | .cs _,_=>rfl
 | .cb _,_=>rfl
 | .va n,h=>by
   simp only[V4,R1]at h
   simp only[a71]
   rw[i6,j8 h]
   have:=bh4 (ω:=ω) (v0:=0) (l:=Q4 ω es) (j:=n) (x:=den ω es[n]) (by rw[aw6,A1,j8 h];rfl)
   rw[j7]at this
   simp only[Option.getD_some,den]
   exact this.symm
 | .op p l,h=>by
   simp only[V4]at h
   simp only[a71,den]
   rw[aB0 l h]
 | .app f l,h=>by
   simp only[V4]at h
   simp only[a71,den]
   rw[aB0 l h];rfl
theorem aB0{es:List SX}: ∀l:List SX,aa0 es.length l=true→Q4 ω (aP3 es l)=Q4 (ω.upd 0 (Q4 ω es)) l
 | [],_=>rfl
 |a::r,h=>by
  simp only[aa0,e9]at h
  simp only[aP3,Q4]
  rw[aj7 a h.1,aB0 r h.2]
end
noncomputable def a85(β:Bij)(ω:Opq)(sz:Nat)(x:AV):Option Loc:=match x with
 | .osl b off len _=>if 0<dI ω len then(β b).map fun L=>⟨L.blk,L.off+(dI ω off).toNat*sz,(dI ω len).toNat*sz⟩else none
 | .ous b len _=>if 0<dI ω len then(β b).map fun L=>⟨L.blk,L.off,(dI ω len).toNat*sz⟩else none
 | .sl b o n _=>if 0<n then(β b).map fun L=>⟨L.blk,L.off+o,n*sz⟩else none
 | .us b o n _=>if 0<n then(β b).map fun L=>⟨L.blk,L.off+o,n*sz⟩else none
 |_=>none
theorem bF3{sig:List CT}{e:Nat}{l lx:SX}{L:Loc}{o:Option Obj}{p n:Nat}(r:BR β ω L o (.arr e sig l))(hp:p+n≤(dL ω l).length)(hl:dL ω lx=((dL ω l).drop p).take n):
 BR β ω ⟨L.blk,L.off+p*sig.length,n*sig.length⟩ o (.arr e sig lx):=by
 obtain⟨C,e',lo,hi,q1,q0,q2,q3,q4,q5⟩:=r
 have hle:(p+n)*sig.length≤(dL ω l).length*sig.length:=z8 _ hp
 rw[p8]at hle
 have hn:(dL ω lx).length=n:=by rw[hl,j0,n9];omega
 refine⟨C,e',lo,hi,q1,q0,by show L.off+p*sig.length+n*sig.length≤C.size;omega,by rw[hn];exact e8 _,fun i v hv=> ?_,fun i hq=> ?_⟩
 ·show C[L.off+p*sig.length+i]? =some v
  rw[hl]at hv
  rw[show L.off+p*sig.length+i=L.off+(p*sig.length+i) by omega]
  apply q4
  have e1:dL ω l=(dL ω l).take p++(((dL ω l).drop p).take n++((dL ω l).drop p).drop n):=by
   rw[t8,t8]
  rw[e1,au9,au9]
  have hl1:(R3 sig ((dL ω l).take p)).length=p*sig.length:=by rw[S1,j0];congr 1;omega
  rw[k8 (by omega),hl1,show p*sig.length+i-p*sig.length=i by omega]
  rw[k9]
  ·exact hv
  ·rcases i4 i (R3 sig (((dL ω l).drop p).take n)).length with hh|hh
   ·exact hh
   ·rw[l8 hh]at hv;cases hv
 ·have hq:i<n*sig.length:=hq
  have:=q5 (p*sig.length+i) (by omega)
  show¬(lo≤L.off+p*sig.length+i∧L.off+p*sig.length+i<hi)
  rw[show L.off+p*sig.length+i=L.off+(p*sig.length+i) by omega];exact this
theorem an0{sig:List CT}{e fz:Nat}{cs:List AV}{lx:SX}{rs:List SX}{L:Loc}{o:Option Obj}{p n:Nat}(r:BR β ω L o (.cells e fz cs))(hf:fz≤p)(hp:p+n*sig.length≤cs.length)
 (hrs:aq7 sig sig.length n ((cs.drop p).take (n*sig.length))=some rs) (hl:dL ω lx=Q4 ω rs):BR β ω ⟨L.blk,L.off+p,n*sig.length⟩ o (.arr e sig lx)∧(dL ω lx).length=n:=by
 obtain⟨C,lo,hi,vs,q1,q2,q3,q4,q5,q6,q7,q8⟩:=r
 have hvl:=q5.length
 have hsub:VRs β ω ((cs.drop p).take (n*sig.length)) ((vs.drop p).take (n*sig.length)):=(q5.drop _).take _
 obtain⟨z1,z2⟩:=ac1 hrs (by simp;omega) hsub
 refine⟨⟨C,_,lo,hi,q1,.inl rfl,by show L.off+p+n*sig.length≤C.size;omega,by rw[hl,z2];exact e8 _,fun i v hv=> ?_,fun i hq=> ?_⟩,by rw[hl,z2]⟩
 ·show C[L.off+p+i]? =some v
  rw[hl,←z1]at hv
  have hlt:i<n*sig.length:=by
   rcases i4 i (n*sig.length)with hh|hh
   ·exact hh
   ·rw[l8 (by simp;omega)]at hv;cases hv
  rw[show L.off+p+i=L.off+(p+i) by omega,q6 (p+i) (by omega)]
  rw[p9,if_pos hlt,r9]at hv
  exact hv
 ·have hq:i<n*sig.length:=hq
  have:=q7 (p+i) (by omega) (by omega)
  show¬(lo≤L.off+p+i∧L.off+p+i<hi)
  rw[show L.off+p+i=L.off+(p+i) by omega];exact this
theorem aZ0{a b:SX}(h:dB ω (aJ6 a b)=true):dB ω a=true∧dB ω b=true:=by
 rw[br9,e9]at h;exact h
structure ViewOk (β:Bij) (ω:Opq) (w:World) (h:Heap) (elem:Nat) (sig:List CT) (x:AV) (v:Value) (l:SX):Prop where
 br: ∀L,a85 β ω sig.length x=some L→BR β ω L w.heap[L.blk]? (.arr elem sig l)
 sl:VR β ω x v→(∃L cap a,a85 β ω sig.length x=some L∧v= .slice (some a) (dL ω l).length cap∧(dL ω l).length≤cap∧a=⟨L.blk,L.off,none⟩)∨((dL ω l).length=0∧ ∃a cap,v= .slice a 0 cap∧(a=none→cap=0))
theorem bu9{sz:Nat}{x:AV}{L:Loc}(e:a85 β ω sz x=some L): ∃b M,a72 (.view x)=some b∧β b=some M∧M.blk=L.blk:=by
 unfold a85 at e
 split at e
 all_goals first
  |(split at e
    ·obtain⟨M,hM,rfl⟩:=l5.1 e
     exact⟨_,M,rfl,hM,rfl⟩
    ·cases e)
  |cases e
theorem bQ6{sz elem:Nat}{sig:List CT}{x:AV}{nd l:SX}{b:Nat}(e:c80 sz elem sig x h=some (nd,l))(hb:a72 (.view x)=some b): ∃y,h.get b=some y:=by
 cases x<;>simp only[a72,b9,reduceCtorEq]at hb<;>subst hb<;>simp only[c80]at e<;>split at e<;>first|(rename_i hg;exact⟨_,hg⟩)|cases e
theorem ct8(r:HR β ω K w0 h w){elem:Nat}{sig:List CT}{x:AV}{v:Value}{nd l:SX}(e:c80 sig.length elem sig x h=some (nd,l))(hd:dB ω nd=true):ViewOk β ω w h elem sig x v l:=by
 unfold c80 at e
 split at e
 ·simp only[b9,i3]at e
  obtain⟨rfl,rfl⟩:=e
  exact⟨fun L hL=>by simp only[a85,reduceCtorEq]at hL,fun rv=> .inr ⟨rfl,none,0,rv,fun _=>rfl⟩⟩
 ·rename_i b len s
  split at e
  ·rename_i e0 sg l0 hg
   replace e:=P7 e
   obtain⟨hc,e⟩:=e
   obtain⟨hc,c3⟩:=P8 hc
   obtain⟨c1,c2⟩:=P8 hc
   obtain rfl:=P9.1 c1
   obtain rfl:=P9.1 c2
   obtain rfl:=V9 c3
   have main:0≤dI ω len→(dI ω len).toNat≤(dL ω l0).length→dL ω l=(dL ω l0).take (dI ω len).toNat→ViewOk β ω w h e0 sg (.ous b len sg.length) v l:=by
    intro h0 hle hl
    have hll:(dL ω l).length=(dI ω len).toNat:=by rw[hl,j0];omega
    constructor
    ·intro L hL
     simp only[a85]at hL
     split at hL
     ·obtain⟨M,hM,rfl⟩:=l5.1 hL
      have:=bF3 (p:=0) (n:=(dI ω len).toNat) (lx:=l) (r.blk b _ M hg hM) (by omega) (by simpa using hl)
      simpa using this
     ·cases hL
    ·intro rv
     simp only[VR]at rv
     rcases rv with⟨L,cap,hL,hcap,hv,hlc⟩|⟨hv,hz⟩
     ·by_cases hp:0<dI ω len
      ·refine .inl ⟨⟨L.blk,L.off,(dI ω len).toNat*sg.length⟩,cap,_,?_,by rw[hll];exact hv,by rw[hll];exact hlc,rfl⟩
       simp only[a85,if_pos hp,hL,Option.map_some]
      ·refine .inr ⟨by rw[hll];omega,some ⟨L.blk,L.off,none⟩,cap,?_,fun hh=>(by cases hh)⟩
       rw[hv,show(dI ω len).toNat=0 by omega]
     ·exact .inr ⟨by rw[hll,hz];rfl,none,0,hv,fun _=>rfl⟩
   cases hq:SX.beq len (.op .llen [l0])with
   |true=>
    rw[hq]at e
    simp only[cond_true,b9,i3]at e
    obtain⟨rfl,rfl⟩:=e
    have hlen:=SX.beq_eq _ _ hq
    have:dI ω len=((dL ω l0).length:Int):=by rw[hlen,W6]
    refine main (by omega) (by omega) ?_
    rw[this];simp
   |false=>
    rw[hq]at e
    simp only[cond_false,b9,i3]at e
    obtain⟨rfl,rfl⟩:=e
    rw[ae7,e9]at hd
    have d1:0≤dI ω len:=of_decide_eq_true hd.1
    have d2:dI ω len≤((dL ω l0).length:Int):=of_decide_eq_true hd.2
    refine main d1 (by omega) ?_
    show((dL ω l0).drop (0:Int).toNat).take (dI ω len-0).toNat=_
    simp
  ·cases e
 ·rename_i b off len s
  split at e
  ·rename_i e0 sg l0 hg
   replace e:=P7 e
   obtain⟨hc,e⟩:=e
   obtain⟨hc,c3⟩:=P8 hc
   obtain⟨c1,c2⟩:=P8 hc
   obtain rfl:=P9.1 c1
   obtain rfl:=P9.1 c2
   obtain rfl:=V9 c3
   have main:0≤dI ω off→0≤dI ω len→(dI ω off).toNat+(dI ω len).toNat≤(dL ω l0).length→dL ω l=((dL ω l0).drop (dI ω off).toNat).take (dI ω len).toNat→ViewOk β ω w h e0 sg (.osl b off len sg.length) v l:=by
    intro h1 h0 hle hl
    have hll:(dL ω l).length=(dI ω len).toNat:=by rw[hl,j0,n9];omega
    constructor
    ·intro L hL
     simp only[a85]at hL
     split at hL
     ·obtain⟨M,hM,rfl⟩:=l5.1 hL
      exact bF3 (r.blk b _ M hg hM) hle hl
     ·cases hL
    ·intro rv
     simp only[VR]at rv
     rcases rv with⟨L,cap,a,hL,hv,hlc,ha⟩|⟨a,cap,hv,hac,hz⟩
     ·by_cases hp:0<dI ω len
      ·refine .inl ⟨⟨L.blk,L.off+(dI ω off).toNat*sg.length,(dI ω len).toNat*sg.length⟩,cap,a,?_,by rw[hll];exact hv,by rw[hll];exact hlc,ha hp⟩
       simp only[a85,if_pos hp,hL,Option.map_some]
      ·refine .inr ⟨by rw[hll];omega,some a,cap,?_,fun hh=>(by cases hh)⟩
       rw[hv,show(dI ω len).toNat=0 by omega]
     ·exact .inr ⟨by rw[hll,hz];rfl,a,cap,hv,hac⟩
   cases hq:(SX.beq off (.ci 0)&&SX.beq len (.op .llen [l0]))with
   |true=>
    rw[hq]at e
    simp only[cond_true,b9,i3]at e
    obtain⟨rfl,rfl⟩:=e
    rw[e9]at hq
    have ho:=SX.beq_eq _ _ hq.1
    have hlen:=SX.beq_eq _ _ hq.2
    have t1:dI ω len=((dL ω l0).length:Int):=by rw[hlen,W6]
    have t2:dI ω off=0:=by rw[ho,aM0]
    refine main (by omega) (by omega) (by omega) ?_
    rw[t1,t2];simp
   |false=>
    rw[hq]at e
    simp only[cond_false,b9,i3]at e
    obtain⟨rfl,rfl⟩:=e
    rw[ae7,ae7,e9,e9]at hd
    have d1:0≤dI ω off:=of_decide_eq_true hd.1
    have d2:0≤dI ω len:=of_decide_eq_true hd.2.1
    have d3:dI ω off+dI ω len≤((dL ω l0).length:Int):=of_decide_eq_true hd.2.2
    refine main d1 d2 (by omega) ?_
    show((dL ω l0).drop (dI ω off).toNat).take (dI ω off+dI ω len-dI ω off).toNat=_
    congr 2;omega
  ·cases e
 ·rename_i b o n c
  split at e
  ·rename_i e0 fz cs hg
   replace e:=P7 e
   obtain⟨hc,e⟩:=e
   obtain⟨hc,c5⟩:=P8 hc
   obtain⟨hc,c4⟩:=P8 hc
   obtain⟨hc,c3⟩:=P8 hc
   obtain⟨c1,c2⟩:=P8 hc
   obtain rfl:=P9.1 c1
   rw[Q2]at c2 c3 c4
   rw[R1]at c5
   unfold ct2 at e
   split at e
   ·rename_i rs hrs
    simp only[b9,i3]at e
    obtain⟨rfl,rfl⟩:=e
    constructor
    ·intro M hM
     simp only[a85,if_pos c5]at hM
     obtain⟨L,hL,rfl⟩:=l5.1 hM
     exact(an0 (lx:= .op .row rs) (r.blk b _ L hg hL) c3 c4 hrs rfl).1
    ·intro rv
     simp only[VR]at rv
     obtain⟨L,hL,hv⟩:=rv
     obtain⟨p1,p2⟩:=an0 (lx:= .op .row rs) (r.blk b _ L hg hL) c3 c4 hrs rfl
     refine .inl ⟨⟨L.blk,L.off+o,n*sig.length⟩,c,_,?_,by rw[p2];exact hv,by rw[p2];exact c2,rfl⟩
     simp only[a85,if_pos c5,hL,Option.map_some]
   ·cases e
  ·cases e
 ·rename_i b o n s
  split at e
  ·rename_i e0 fz cs hg
   replace e:=P7 e
   obtain⟨hc,e⟩:=e
   obtain⟨hc,c4⟩:=P8 hc
   obtain⟨hc,c3⟩:=P8 hc
   obtain⟨hc,c1⟩:=P8 hc
   obtain⟨cz,c0⟩:=P8 hc
   obtain rfl:=P9.1 c0
   obtain rfl:=P9.1 c1
   rw[R1]at cz
   rw[Q2]at c3 c4
   unfold ct2 at e
   split at e
   ·rename_i rs hrs
    simp only[b9,i3]at e
    obtain⟨rfl,rfl⟩:=e
    constructor
    ·intro M hM
     simp only[a85]at hM
     split at hM
     ·obtain⟨L,hL,rfl⟩:=l5.1 hM
      exact(an0 (lx:= .op .row rs) (r.blk b _ L hg hL) c3 c4 hrs rfl).1
     ·cases hM
    ·intro rv
     simp only[VR]at rv
     obtain⟨L,cap,hL,hcap,hv⟩:=rv
     have hbr:=r.blk b _ L hg hL
     obtain⟨p1,p2⟩:=an0 (lx:= .op .row rs) hbr c3 c4 hrs rfl
     by_cases hp:0<n
     ·refine .inl ⟨⟨L.blk,L.off+o,n*sig.length⟩,cap,_,?_,by rw[p2];exact hv,?_,rfl⟩
      ·simp only[a85,if_pos hp,hL,Option.map_some]
      ·rw[p2]
       obtain⟨_,_,_,_,_,_,q3,_⟩:=hbr
       have:n*sig.length≤cap*sig.length:=by omega
       exact B4 this cz
     ·refine .inr ⟨by rw[p2];omega,some ⟨L.blk,L.off+o,none⟩,cap,?_,fun hh=>(by cases hh)⟩
      rw[hv,show n=0 by omega]
   ·cases e
  ·cases e
 ·cases e
theorem bQ7{sz elem:Nat}{sig:List CT}{x:AV}{nd l:SX}{b:Nat}(e:bQ1 sz elem sig x h=some (nd,l))(hb:a72 (.view x)=some b): ∃y,h.get b=some y:=bQ6 e hb
theorem bF4(r:HR β ω K w0 h w){elem:Nat}{sig:List CT}{x:AV}{v:Value}{nd l:SX}(e:bQ1 sig.length elem sig x h=some (nd,l))(hd:dB ω nd=true):ViewOk β ω w h elem sig x v l:=by
 have:=ct8 (v:=v) r e hd
 refine⟨fun L hL=> ?_,this.sl⟩
 obtain⟨C,e',lo,hi,q1,q0,q⟩:=this.br L hL
 refine⟨C,e',lo,hi,q1,?_,q⟩
 unfold cC3 at q0
 cases hb:Nat.beq elem aV8 with
 |true=>exact .inr (P9.1 hb)
 |false=>rw[hb]at q0;exact q0
theorem d45(r:HR β ω K w0 h w){elem:Nat}{sig:List CT}{x:AV}{nd l:SX}(e:bQ1 sig.length elem sig x h=some (nd,l))(hd:dB ω nd=true)(L:Loc)(hL:a85 β ω sig.length x=some L):BR β ω L w.heap[L.blk]? (.arr elem sig l):=
 (bF4 (v:= .bool true) r e hd).br L hL
end Go.Ev
namespace Go.Ev
open Go
variable{ω ω':Opq}{β βc:Bij}{K:Nat→Prop}{w0 w:World}{h:Heap}
def d46:Option Blk→Nat
 |some (.arr _ sig _)=>sig.length
 |_=>0
noncomputable def bnd(β:Bij)(ω:Opq)(src:List BSrc)(blks:List Blk):Bij:=fun i=>match src[i]? with
  |some (.whole b)=>β b
  |some (.view x)=>a85 β ω (d46 blks[i]?) x
  |none=>none
theorem T8{p:AV}{v:Value}(hp:aE3 p=true)(r:VR β ω p v):VR βc ω' p v:=by
 cases p<;>simp only[aE3,k7]at hp<;>exact r
theorem af1{s:Option BSrc}{b:Nat}(e:as4 s b=true):s=some (.whole b):=by
 unfold as4 at e
 split at e
 ·obtain rfl:=P9.1 e;rfl
 ·cases e
theorem bv0{s:Option BSrc}{x:AV}(e:b56 s x=true):s=some (.view x):=by
 unfold b56 at e
 split at e
 ·rw[AV.beq_eq _ _ e]
 ·cases e
section
variable{src:List BSrc}{es:List SX}{blks:List Blk}{nb:Nat}
theorem aB1{p x:SX}(hω:ω'=ω.upd 0 (Q4 ω es))(hf:V4 es.length p=true)(e:SX.beq (a71 es p) x=true):den ω' p=den ω x:=by
 rw[hω,←aj7 p hf,SX.beq_eq _ _ e]
theorem ct9(ω:Opq)(e:SX):den ω (di7 e)=den ω e:=by
 unfold di7
 split
 ·rename_i l k
  split
  ·rename_i x hx
   have:(Q4 ω l)[k]? =some (den ω x):=by
    rw[aw6,A1,hx];rfl
   show den ω x=R6 [.vl (Q4 ω l)] (Int.ofNat 0) (Int.ofNat k)
   show den ω x=(Q4 ω l).getD k default
   rw[i6,this];rfl
  ·rfl
 ·rfl
theorem aP8{p x:SX}(hω:ω'=ω.upd 0 (Q4 ω es))(hf:V4 es.length p=true)(e:d39 es p x=true):den ω' p=den ω x:=by
 rw[hω,←aj7 p hf,←ct9,SX.beq_eq _ _ e]
theorem cu0(hω:ω'=ω.upd 0 (Q4 ω es))(hw: ∀i b,src[i]? =some (.whole b)→βc i=β b){i s:Nat}{p q:SX}{x:AV}{v:Value}(f1:V4 es.length p=true)(f2:V4 es.length q=true)(e:cN1 src es i p q s x=true)(rv:VR β ω x v):VR βc ω' (.osl i p q s) v:=by
 unfold cN1 at e
 split at e
 ·obtain⟨e,e4⟩:=P8 e
  obtain⟨e,e3⟩:=P8 e
  obtain⟨e1,e2⟩:=P8 e
  obtain rfl:=P9.1 e1
  have k1:dI ω' p=dI ω _:=congrArg Val.toI (aP8 hω f1 e3)
  have k2:dI ω' q=dI ω _:=congrArg Val.toI (aP8 hω f2 e4)
  simp only[VR]at rv⊢
  rw[k1,k2,hw _ _ (af1 e2)];exact rv
 ·cases e
theorem cu1(hω:ω'=ω.upd 0 (Q4 ω es))(hw: ∀i b,src[i]? =some (.whole b)→βc i=β b){i s:Nat}{q:SX}{x:AV}{v:Value}(f2:V4 es.length q=true)(e:cN2 src es i q s x=true)(rv:VR β ω x v):VR βc ω' (.ous i q s) v:=by
 unfold cN2 at e
 split at e
 ·obtain⟨e,e4⟩:=P8 e
  obtain⟨e1,e2⟩:=P8 e
  obtain rfl:=P9.1 e1
  have k2:dI ω' q=dI ω _:=congrArg Val.toI (aB1 hω f2 e4)
  simp only[VR]at rv⊢
  rw[k2,hw _ _ (af1 e2)];exact rv
 ·cases e
theorem cu2(hw: ∀i b,src[i]? =some (.whole b)→βc i=β b){i o:Nat}{x:AV}{v:Value}(e:cN3 src i o x=true)(rv:VR β ω x v):VR βc ω' (.ptr i o) v:=by
 unfold cN3 at e
 split at e
 ·obtain⟨e1,e2⟩:=P8 e
  obtain rfl:=P9.1 e1
  simp only[VR]at rv⊢
  rw[hw _ _ (af1 e2)];exact rv
 ·cases e
theorem cu3(hw: ∀i b,src[i]? =some (.whole b)→βc i=β b){i:Nat}{x:AV}{v:Value}(e:cN4 src i x=true)(rv:VR β ω x v):VR βc ω' (.map i) v:=by
 unfold cN4 at e
 split at e
 ·simp only[VR]at rv⊢
  rw[hw _ _ (af1 e)];exact rv
 ·cases e
theorem cN8(hw: ∀i b,src[i]? =some (.whole b)→βc i=β b){i o n c:Nat}{x:AV}{v:Value}(e:di8 src i o n c x=true)(rv:VR β ω x v):VR βc ω' (.sl i o n c) v:=by
 unfold di8 at e
 split at e
 ·obtain⟨e,e2⟩:=P8 e
  obtain⟨e,e4⟩:=P8 e
  obtain⟨e1,e3⟩:=P8 e
  obtain rfl:=P9.1 e1
  obtain rfl:=P9.1 e3
  obtain rfl:=P9.1 e4
  simp only[VR]at rv⊢
  rw[hw _ _ (af1 e2)];exact rv
 ·cases e
theorem d47(hω:ω'=ω.upd 0 (Q4 ω es)){k:IntKind}{p:SX}{x:AV}{v:Value}(f:V4 es.length p=true)(e:ckI es k p (b09 x)=true)(rv:VR β ω x v):v= .int k (dI ω' p):=by
 unfold ckI at e
 split at e
 ·rename_i k' x' hx
  obtain⟨e1,e2⟩:=P8 e
  obtain rfl:=of_decide_eq_true e1
  rw[aa6 hx rv]
  exact congrArg (fun z:Val=>Value.int k z.toI) (aP8 hω f e2).symm
 ·cases e
mutual
theorem cC4(hω:ω'=ω.upd 0 (Q4 ω es))(hw: ∀i b,src[i]? =some (.whole b)→βc i=β b)(hv: ∀i s p q x v,aP4 p q=true→c81 blks i s q=true→src[i]? =some (.view x)→VR β ω x v→VR βc ω' (.osl i p q s) v):
 ∀(p x:AV) (v:Value),okA es.length nb p=true→ckA src es blks p x=true→VR β ω x v→VR βc ω' p v
 | .oint k p,x,v,f,e,r=>by simp only[okA]at f;simp only[ckA]at e;exact d47 hω f e r
 | .ostr p,x,v,f,e,r=>by
   simp only[okA]at f;simp only[ckA]at e
   unfold ckX at e
   split at e
   ·rename_i y hy
    show v= .string ⟨(dS ω' p).toArray⟩
    rw[ai7 hy r]
    exact congrArg (fun z:Val=>Value.string ⟨z.toS.toArray⟩) (aP8 hω f e).symm
   ·cases e
 | .obool p,x,v,f,e,r=>by
   simp only[okA]at f;simp only[ckA]at e
   unfold ckX at e
   split at e
   ·rename_i y hy
    show v= .bool (dB ω' p)
    rw[ai8 hy r]
    exact congrArg (fun z:Val=>Value.bool z.toB) (aP8 hω f e).symm
   ·cases e
 | .agg ps,x,v,f,e,r=>by
   simp only[okA]at f;simp only[ckA]at e
   split at e
   ·obtain⟨us,rfl,ru⟩:=r
    exact⟨us,rfl,aB2 hω hw hv ps _ _ f e ru⟩
   ·cases e
 | .iface t p,x,v,f,e,r=>by
   simp only[okA]at f;simp only[ckA]at e
   split at e
   ·obtain⟨e1,e2⟩:=P8 e
    obtain rfl:=P9.1 e1
    obtain⟨y,rfl,ry⟩:=r
    exact⟨y,rfl,cC4 hω hw hv p _ _ f e2 ry⟩
   ·cases e
 | .func fn a b,x,v,f,e,r=>by
   simp only[okA,e9]at f;simp only[ckA]at e
   split at e
   ·obtain⟨e,e3⟩:=P8 e
    obtain⟨e1,e2⟩:=P8 e
    obtain rfl:=of_decide_eq_true e1
    obtain⟨n,y,z,rfl,r1,r2⟩:=r
    exact⟨n,y,z,rfl,aB2 hω hw hv a _ _ f.1 e2 r1,aB2 hω hw hv b _ _ f.2 e3 r2⟩
   ·cases e
 | .ptr i o,x,v,f,e,r=>by simp only[ckA]at e;exact cu2 hw e r
 | .osl i p q s,x,v,f,e,r=>by
   simp only[okA,e9]at f;simp only[ckA]at e
   cases hq:aP4 p q with
   |true=>
    rw[hq]at e
    simp only[cond_true]at e
    obtain⟨e1,e2⟩:=P8 e
    exact hv i s p q x v hq e1 (bv0 e2) r
   |false=>
    rw[hq]at e
    exact cu0 hω hw f.1.2 f.2 e r
 | .ous i q s,x,v,f,e,r=>by
   simp only[okA,e9]at f;simp only[ckA]at e
   exact cu1 hω hw f.2 e r
 | .bool _,x,v,f,e,r=>by simp only[ckA]at e;obtain⟨e1,e2⟩:=P8 e;rw[←AV.beq_eq _ _ e2]at r;exact T8 e1 r
 | .int _ _,x,v,f,e,r=>by simp only[ckA]at e;obtain⟨e1,e2⟩:=P8 e;rw[←AV.beq_eq _ _ e2]at r;exact T8 e1 r
 | .str _,x,v,f,e,r=>by simp only[ckA]at e;obtain⟨e1,e2⟩:=P8 e;rw[←AV.beq_eq _ _ e2]at r;exact T8 e1 r
 | .nilp,x,v,f,e,r=>by simp only[ckA]at e;obtain⟨e1,e2⟩:=P8 e;rw[←AV.beq_eq _ _ e2]at r;exact T8 e1 r
 | .glob _,x,v,f,e,r=>by simp only[ckA]at e;obtain⟨e1,e2⟩:=P8 e;rw[←AV.beq_eq _ _ e2]at r;exact T8 e1 r
 | .nils,x,v,f,e,r=>by simp only[ckA]at e;obtain⟨e1,e2⟩:=P8 e;rw[←AV.beq_eq _ _ e2]at r;exact T8 e1 r
 | .sl _ _ _ _,x,v,f,e,r=>by simp only[ckA]at e;exact cN8 hw e r
 | .us _ _ _ _,x,v,f,e,r=>by simp only[ckA]at e;obtain⟨e1,e2⟩:=P8 e;rw[←AV.beq_eq _ _ e2]at r;exact T8 e1 r
 | .es _ _ _,x,v,f,e,r=>by simp only[ckA]at e;obtain⟨e1,e2⟩:=P8 e;rw[←AV.beq_eq _ _ e2]at r;exact T8 e1 r
 | .es0,x,v,f,e,r=>by simp only[ckA]at e;obtain⟨e1,e2⟩:=P8 e;rw[←AV.beq_eq _ _ e2]at r;exact T8 e1 r
 | .nilm,x,v,f,e,r=>by simp only[ckA]at e;obtain⟨e1,e2⟩:=P8 e;rw[←AV.beq_eq _ _ e2]at r;exact T8 e1 r
 | .map i,x,v,f,e,r=>by simp only[ckA]at e;exact cu3 hw e r
 | .nilf,x,v,f,e,r=>by simp only[ckA]at e;obtain⟨e1,e2⟩:=P8 e;rw[←AV.beq_eq _ _ e2]at r;exact T8 e1 r
 | .yield _,x,v,f,e,r=>by simp only[ckA]at e;obtain⟨e1,e2⟩:=P8 e;rw[←AV.beq_eq _ _ e2]at r;exact T8 e1 r
 | .nili,x,v,f,e,r=>by simp only[ckA]at e;obtain⟨e1,e2⟩:=P8 e;rw[←AV.beq_eq _ _ e2]at r;exact T8 e1 r
 | .tup _,x,v,f,e,r=>by simp only[ckA]at e;obtain⟨e1,e2⟩:=P8 e;rw[←AV.beq_eq _ _ e2]at r;exact T8 e1 r
 | .opq _,x,v,f,e,r=>by simp only[ckA]at e;obtain⟨e1,e2⟩:=P8 e;rw[←AV.beq_eq _ _ e2]at r;exact T8 e1 r
 | .optr _ _ _ _,x,v,f,e,r=>by simp only[ckA]at e;obtain⟨e1,e2⟩:=P8 e;rw[←AV.beq_eq _ _ e2]at r;exact T8 e1 r
 | .atl _,x,v,f,e,r=>by simp only[ckA]at e;obtain⟨e1,e2⟩:=P8 e;rw[←AV.beq_eq _ _ e2]at r;exact T8 e1 r
 | .any,x,v,f,e,r=>trivial
theorem aB2(hω:ω'=ω.upd 0 (Q4 ω es))(hw: ∀i b,src[i]? =some (.whole b)→βc i=β b)(hv: ∀i s p q x v,aP4 p q=true→c81 blks i s q=true→src[i]? =some (.view x)→VR β ω x v→VR βc ω' (.osl i p q s) v):
 ∀(ps xs:List AV) (vs:List Value),bS7 es.length nb ps=true→ck7 src es blks ps xs=true→VRs β ω xs vs→VRs βc ω' ps vs
 | [],xs,vs,f,e,r=>by
   simp only[ck7]at e
   split at e
   ·exact r
   ·cases e
 |p::ps,xs,vs,f,e,r=>by
  simp only[bS7,e9]at f
  simp only[ck7]at e
  split at e
  ·obtain⟨e1,e2⟩:=P8 e
   obtain⟨v,vr,rfl,r1,r2⟩:=r
   exact⟨v,vr,rfl,cC4 hω hw hv p _ v f.1 e1 r1,aB2 hω hw hv ps _ vr f.2 e2 r2⟩
  ·cases e
end
end
theorem aP9: ∀(l:List Blk) (h:Heap),h.next+l.length≤65536→(∀b,h.next≤b→h.get b=none)→(W0 l h).next=h.next+l.length∧(W0 l h).wm=h.wm∧ ∀b,(W0 l h).get b=if b<h.next then h.get b else l[b-h.next]?
 | [],h,_,hf=>⟨rfl,rfl,fun b=>by
  simp only[W0]
  split
  ·rfl
  ·rw[hf b (by omega)];rfl⟩
 |x::r,h,hl,hf=>by
  simp only[List.length_cons]at hl
  obtain⟨h1,h2,h3⟩:=aP9 r (h.new x) (by simp only[Heap.next_new];omega) (fun b hb=>by
    simp only[Heap.next_new]at hb
    rw[Heap.get_new,if_neg (by omega)];exact hf b (by omega))
  refine⟨by simp only[W0,h1,Heap.next_new,List.length_cons];omega,by simp only[W0,h2,Heap.wm_new],fun b=> ?_⟩
  simp only[W0,h3,Heap.next_new,Heap.get_new]
  by_cases hb:b<h.next
  ·rw[if_pos (by omega),if_neg (by omega),if_pos hb]
  ·rw[if_neg hb]
   by_cases he:b=h.next
   ·subst he
    rw[if_pos (by omega),if_pos rfl,if_pos (by omega),E4];rfl
   ·rw[if_neg (by omega),show b-h.next=(b-(h.next+1))+1 by omega];rfl
@[simp]theorem Heap.get_setwm(h:Heap)(n b:Nat):(h.setwm n).get b=h.get b:=by cases h;rfl
@[simp]theorem Heap.next_setwm(h:Heap)(n:Nat):(h.setwm n).next=h.next:=by cases h;rfl
@[simp]theorem Heap.wm_setwm(h:Heap)(n:Nat):(h.setwm n).wm=n:=by cases h;rfl
theorem FC.heap_ok(c:FC)(hl:c.blks.length<60000):c.heap.next=c.blks.length∧c.heap.wm=c.mt∧ ∀b,c.heap.get b=c.blks[b]? :=by
 obtain⟨h1,h2,h3⟩:=aP9 c.blks Heap.empty (by show 0+_≤_;omega) (fun b _=>Heap.get_empty b)
 refine⟨by unfold FC.heap;rw[Heap.next_setwm,h1];exact Nat.zero_add _,by unfold FC.heap;rw[Heap.wm_setwm],fun b=> ?_⟩
 unfold FC.heap
 rw[Heap.get_setwm,h3]
 rw[if_neg (by exact Nat.not_lt_zero b)];rfl
def Kfc(β:Bij)(src:List BSrc)(mt:Nat)(w:World)(k:Nat):Prop:=k<w.heap.size∧ ∀i b L,mt≤i→src[i]? =some (.whole b)→β b=some L→k≠L.blk
section
variable{src:List BSrc}{es:List SX}{blks:List Blk}{mt:Nat}{args:List AV}
theorem aQ0: ∀{ps:List Blk} {ss:List BSrc} {nd:SX},d40 src es blks h ps ss=some nd→dB ω nd=true→ps.length=ss.length∧ ∀(i:Nat) (p:Blk) (s:BSrc),ps[i]? =some p→ss[i]? =some s→ ∃e,ckB src es blks h p s=some e∧dB ω e=true
 | [],[],nd,e,hd=>⟨rfl,fun i p s h1=>by simp at h1⟩
 | [],_::_,nd,e,hd=>by cases e
 |_::_,[],nd,e,hd=>by cases e
 |p::ps,s::ss,nd,e,hd=>by
  simp only[d40]at e
  split at e
  ·rename_i a b ha hb
   simp only[b9]at e
   subst e
   obtain⟨d1,d2⟩:=aZ0 hd
   obtain⟨l1,l2⟩:=aQ0 hb d2
   refine⟨by simp[l1],fun i p' s' h1 h2=> ?_⟩
   cases i with
   |zero=>
    simp only[List.getElem?_cons_zero,b9]at h1 h2
    subst h1;subst h2;exact⟨a,ha,d1⟩
   |succ i=>
    simp only[List.getElem?_cons_succ]at h1 h2
    exact l2 i p' s' h1 h2
  ·cases e
theorem c85{blks:List Blk}{mt:Nat}{i:Nat}{s:BSrc}: ∀{r:List BSrc} {j:Nat},dd1 blks mt h i s r j=true→ ∀k t,r[k]? =some t→d42 blks mt h i (j+k) (a72 s) (a72 t)=true
 | [],j,e,k,t,hk=>by simp at hk
 |u::r,j,e,k,t,hk=>by
  simp only[dd1,e9]at e
  cases k with
  |zero=>simp only[List.getElem?_cons_zero,b9]at hk;subst hk;exact e.1
  |succ k=>
   simp only[List.getElem?_cons_succ]at hk
   rw[show j+(k+1)=j+1+k by omega];exact c85 e.2 k t hk
theorem bv1{blks:List Blk}{mt:Nat}: ∀{ss:List BSrc} {i:Nat},seps blks mt h ss i=true→ ∀a b s t,a<b→ss[a]? =some s→ss[b]? =some t→d42 blks mt h (i+a) (i+b) (a72 s) (a72 t)=true
 | [],i,e,a,b,s,t,hab,ha,hb=>by simp at ha
 |u::r,i,e,a,b,s,t,hab,ha,hb=>by
  simp only[seps,e9]at e
  obtain⟨b,rfl⟩: ∃b',b=b'+1:=⟨b-1,by omega⟩
  simp only[List.getElem?_cons_succ]at hb
  cases a with
  |zero=>
   simp only[List.getElem?_cons_zero,b9]at ha;subst ha
   have:=c85 e.1 b t hb
   rw[Nat.add_zero,show i+(b+1)=i+1+b by omega];exact this
  |succ a=>
   simp only[List.getElem?_cons_succ]at ha
   have:=bv1 e.2 a b s t (by omega) ha hb
   rw[show i+(a+1)=i+1+a by omega,show i+(b+1)=i+1+b by omega];exact this
theorem aw7{b:Nat}: ∀{l:List AV} {vs:List Value},aY6 b l=true→VRs β ω l vs→β b≠none
 | [],vs,e,r=>by cases e
 |x::l,vs,e,⟨v,vr,_,r1,r2⟩=>by
  simp only[aY6,n5]at e
  rcases e with e|e
  ·split at e
   ·obtain rfl:=P9.1 e
    obtain⟨L,hL,_⟩:=r1
    rw[hL];simp
   ·obtain rfl:=P9.1 e
    obtain⟨L,hL,_⟩:=r1
    rw[hL];simp
   ·cases e
  ·exact aw7 e r2
theorem cu4(r:HR β ω K w0 h w){b c:Nat}(hc:β c≠none)(e:cN5 h b c=true):β b≠none:=by
 unfold cN5 at e
 split at e
 ·rename_i hg
  cases hL:β c with
  |none=>exact absurd hL hc
  |some L=>
   obtain⟨C,lo,hi,vs,_,_,_,_,q5,_⟩:=r.cells hg hL
   exact aw7 e q5
 ·cases e
theorem bF5(r:HR β ω K w0 h w){us:List Value}(ra:VRs β ω args us){b:Nat}: ∀{l:List BSrc},ct3 args h b l=true→β b≠none
 | [],e=>by cases e
 |s::l,e=>by
  simp only[ct3,n5]at e
  rcases e with e|e
  ·split at e
   ·obtain⟨e1,e2⟩:=P8 e
    exact cu4 r (aw7 e1 ra) e2
   ·cases e
  ·exact bF5 r ra e
theorem aH5(r:HR β ω K w0 h w){us:List Value}(ra:VRs β ω args us){all:List BSrc}{post:List (Option Blk)}: ∀{ss:List BSrc} {i:Nat},c83 mt args h all post ss i=true→ ∀k s,ss[k]? =some s→mt≤i+k→ ∃b,s= .whole b∧h.wm≤b∧b<h.next∧(β b≠none∨post[i+k-mt]? =some none∨RowB (h.get b))
 | [],i,e,k,s,hk,hm=>by simp at hk
 |u::ss,i,e,k,s,hk,hm=>by
  simp only[c83,e9]at e
  cases k with
  |zero=>
   simp only[List.getElem?_cons_zero,b9]at hk;subst hk
   have e:=e.1
   rw[n5]at e
   rcases e with e|e
   ·rw[R1]at e;omega
   ·split at e
    ·obtain⟨e,e3⟩:=P8 e
     obtain⟨e1,e2⟩:=P8 e
     rw[Q2]at e1
     rw[R1]at e2
     refine⟨_,rfl,e1,e2,?_⟩
     rw[n5,n5,n5]at e3
     rcases e3 with((e3|e3)|e3)|e3
     ·right;left
      unfold c82 at e3
      split at e3
      ·rename_i hx;exact hx
      ·cases e3
     ·exact .inl (aw7 e3 ra)
     ·exact .inl (bF5 r ra e3)
     ·right;right
      unfold d41 at e3
      split at e3
      ·rename_i hx;rw[hx];exact .arr _ _ _
      ·rename_i hx;rw[hx];exact .bag _ _ _
      ·cases e3
    ·cases e
  |succ k=>
   simp only[List.getElem?_cons_succ]at hk
   have:=aH5 r ra e.2 k s hk (by omega)
   rw[show i+(k+1)=i+1+k by omega];exact this
end
structure Bound (c:FC) (nv:Nat) (args:List AV) (h:Heap) (b:Binding):Prop where
 len:b.es.length=nv
 slen:b.src.length=c.blks.length
 argv:ck7 b.src b.es c.blks c.args args=true
 seps:seps c.blks c.mt h b.src 0=true
 mutb:c83 c.mt args h b.src c.post b.src 0=true
 post:aP6 b.src c.mt c.post c.post c.mt=true
 out:(a91 c.out).all (clA b.src c.mt c.post)=true
 blks:d40 b.src b.es c.blks h c.blks b.src=some b.nd
theorem aj8{α:Type}{l:List (Nat×α)}: ∀{n i:Nat} {r:List α},bQ2 l n i=some r→r.length=n
 |0,i,r,e=>by simp only[bQ2,b9]at e;subst e;rfl
 |n+1,i,r,e=>by
  simp only[bQ2]at e
  split at e
  ·rename_i x q h1 h2
   simp only[b9]at e;subst e
   simp[aj8 h2]
  ·cases e
theorem cu5{c:FC}{nv:Nat}{args:List AV}{b:Binding}(e:bu7 c nv args h=some b):Bound c nv args h b:=by
 unfold bu7 at e
 simp only at e
 split at e
 ·rename_i src es h1 h2
  replace e:=P7 e
  obtain⟨hc,e⟩:=e
  obtain⟨hc,c5⟩:=P8 hc
  obtain⟨hc,c4⟩:=P8 hc
  obtain⟨hc,c3⟩:=P8 hc
  obtain⟨c1,c2⟩:=P8 hc
  split at e
  ·rename_i nd hnd
   simp only[b9]at e;subst e
   exact⟨aj8 h2,aj8 h1,c1,c2,c3,c4,c5,hnd⟩
  ·cases e
 ·cases e
structure FcOk (c:FC) (nv:Nat):Prop where
 args:bS7 nv c.blks.length c.args=true
 blks: ∀(i:Nat) (x:Blk),c.blks[i]? =some x→okB nv c.blks.length (some x)=true∧((∃e fz cs,x= .cells e fz cs)∨(∃e sig l,x= .arr e sig l)∨(∃e sig l,x= .bag e sig l)∨ ∃d ks vs l,x= .marr d ks vs l)
 need:V4 nv c.need=true
 outs:aa0 nv c.outs=true
 mt:c.mt≤c.blks.length
 lt:c.blks.length<60000
theorem c86{c:FC}{nv:Nat}(e:ck8 c nv=true):FcOk c nv:=by
 unfold ck8 at e
 obtain⟨e,e7⟩:=P8 e
 obtain⟨e,e6⟩:=P8 e
 obtain⟨e,e5⟩:=P8 e
 obtain⟨e,e4⟩:=P8 e
 obtain⟨e,e3⟩:=P8 e
 obtain⟨e1,e2⟩:=P8 e
 rw[j5]at e2 e7
 refine⟨e1,fun i x hx=> ?_,e3,e4,Q2.1 e5,R1.1 e6⟩
 have hm:=D6 hx
 refine⟨e2 x hm,?_⟩
 have:=e7 x hm
 split at this
 ·exact .inl ⟨_,_,_,rfl⟩
 ·exact .inr (.inl ⟨_,_,_,rfl⟩)
 ·exact .inr (.inr (.inl ⟨_,_,_,rfl⟩))
 ·exact .inr (.inr (.inr ⟨_,_,_,_,rfl⟩))
 ·cases this
theorem cu6{c:FC}{nv:Nat}{args:List AV}{b:Binding}{us:List Value}(r:HR β ω K w0 h w)(ra:VRs β ω args us)(fo:FcOk c nv)(bo:Bound c nv args h b)(hd:dB ω b.nd=true):
 VRs (bnd β ω b.src c.blks) (ω.upd 0 (Q4 ω b.es)) c.args us∧HR (bnd β ω b.src c.blks) (ω.upd 0 (Q4 ω b.es)) (Kfc β b.src c.mt w) w c.heap w:=by
 obtain⟨hn,hwm,a87⟩:=c.heap_ok fo.lt
 obtain⟨hl,hB⟩:=aQ0 bo.blks hd
 have hw: ∀i x,b.src[i]? =some (.whole x)→bnd β ω b.src c.blks i=β x:=fun i x hx=>by unfold bnd;rw[hx]
 have hfix: ∀e,(ω.upd 0 (Q4 ω b.es)).fix e=ω.fix e:=fun _=>rfl
 have view: ∀i x e sig q,b.src[i]? =some (.view x)→c.blks[i]? =some (.arr e sig q)→ ∃nd l,bQ1 sig.length e sig x h=some (nd,l)∧dB ω nd=true∧den (ω.upd 0 (Q4 ω b.es)) q=den ω l∧bnd β ω b.src c.blks i=a85 β ω sig.length x:=by
  intro i x e sig q hx hp
  obtain⟨nd,h1,h2⟩:=hB i _ _ hp hx
  simp only[ckB]at h1
  split at h1
  ·rename_i nd' l hv
   obtain⟨h3,h1⟩:=P7 h1
   simp only[b9]at h1;subst h1
   have hf:=(fo.blks i _ hp).1
   simp only[okB]at hf
   refine⟨_,l,hv,h2,aB1 rfl (by rw[bo.len];exact hf) h3,?_⟩
   unfold bnd;rw[hx,hp];rfl
  ·cases h1
 have hv: ∀i s p q x v,aP4 p q=true→c81 c.blks i s q=true→b.src[i]? =some (.view x)→VR β ω x v→VR (bnd β ω b.src c.blks) (ω.upd 0 (Q4 ω b.es)) (.osl i p q s) v:=by
  intro i s p q x v hpq hvb hx hr
  unfold c81 at hvb
  split at hvb
  ·rename_i e sig l hp
   obtain⟨h1,h2⟩:=P8 hvb
   obtain rfl:=P9.1 h1
   have h2:=SX.beq_eq _ _ h2
   subst h2
   obtain⟨nd,lx,g1,g2,g3,g4⟩:=view i x e sig l hx hp
   have vs:=(bF4 r g1 g2).sl hr
   have hlen:dI (ω.upd 0 (Q4 ω b.es)) (.op .llen [l])=((dL ω lx).length:Int):=by
    rw[W6];exact congrArg (fun z:Val=>(z.toL.length:Int)) g3
   have hp0:dI (ω.upd 0 (Q4 ω b.es)) p=0:=by
    unfold aP4 at hpq
    split at hpq
    ·rfl
    ·cases hpq
   simp only[VR]
   rw[hlen,hp0,g4]
   rcases vs with⟨L,cap,a,k1,k2,k3,k4⟩|⟨k1,a,cap,k2,k3⟩
   ·exact .inl ⟨L,cap,a,k1,by simpa using k2,by simpa using k3,fun _=>by simpa using k4⟩
   ·exact .inr ⟨a,cap,k2,k3,by rw[k1];rfl⟩
  ·cases hvb
 have hargs:=aB2 (nb:=c.blks.length) (βc:=bnd β ω b.src c.blks) rfl hw hv c.args args us (by rw[bo.len];exact fo.args) bo.argv ra
 have base: ∀i L,bnd β ω b.src c.blks i=some L→ ∃s y M,b.src[i]? =some s∧a72 s=some y∧β y=some M∧M.blk=L.blk:=by
  intro i L e
  unfold bnd at e
  split at e
  ·rename_i y hy;exact⟨_,y,L,hy,rfl,e,rfl⟩
  ·rename_i x hx
   obtain⟨y,M,h1,h2,h3⟩:=bu9 e
   exact⟨_,y,M,hx,h1,h2,h3⟩
  ·cases e
 have liveB: ∀(i:Nat) (s:BSrc) (p:Blk) (y:Nat),b.src[i]? =some s→c.blks[i]? =some p→a72 s=some y→ ∃z,h.get y=some z:=by
  intro i s p y hs hp hy
  obtain⟨nd,h1,_⟩:=hB i p s hp hs
  cases s with
  |whole x=>
   simp only[a72,b9]at hy;subst hy
   simp only[ckB]at h1
   split at h1
   ·rename_i hg;exact⟨_,hg⟩
   ·rename_i hg;exact⟨_,hg⟩
   ·rename_i hg;exact⟨_,hg⟩
   ·rename_i hg;exact⟨_,hg⟩
   ·rename_i hg;exact⟨_,hg⟩
   ·cases h1
  |view x=>
   simp only[ckB]at h1
   split at h1
   ·split at h1
    ·rename_i hv;exact bQ7 hv hy
    ·cases h1
   ·cases h1
 refine⟨hargs,⟨fun i x L hg hL=> ?_,fun i j x y L M hgi hgj hL hM hne hwk=> ?_,fun i hi=> ?_,fun i hi=> ?_,fun i L hL=> ?_,fun k hk=>hk.1,fun k _=>rfl,fun i x L hg hwi hL hk=> ?_,e8 _,rfl,rfl,rfl,e8 _⟩⟩
 ·rw[a87]at hg
  have hs: ∃s,b.src[i]? =some s:=by
   have:i<b.src.length:=by rw[bo.slen];exact(m9.1 hg).1
   exact⟨_,j8 this⟩
  obtain⟨s,hs⟩:=hs
  obtain⟨nd,h1,h2⟩:=hB i x s hg hs
  have hf:=(fo.blks i x hg).1
  cases s with
  |whole y=>
   simp only[ckB]at h1
   rw[hw i y hs]at hL
   split at h1
   ·rename_i e fz ps e' fz' xs hgy
    obtain⟨h3,_⟩:=P7 h1
    obtain⟨h3,h6⟩:=P8 h3
    obtain⟨h3,h5⟩:=P8 h3
    obtain⟨h3,h4⟩:=P8 h3
    obtain rfl:=P9.1 h3
    obtain rfl:=P9.1 h4
    obtain⟨C,lo,hi,vs,q1,q2,q3,q4,q5,q6,q7,q8⟩:=r.blk y _ L hgy hL
    simp only[okB]at hf
    have hps:=aB2 (nb:=c.blks.length) (βc:=bnd β ω b.src c.blks) rfl hw hv ps xs vs (by rw[bo.len];exact hf) h6 q5
    have hll:ps.length=xs.length:=by rw[←hps.length,←q5.length]
    exact⟨C,lo,hi,vs,q1,q2,by rw[hll];exact q3,h5,hps,by rw[hll];exact q6,q7,q8⟩
   ·rename_i e sig q e' sig' l hgy
    obtain⟨h3,_⟩:=P7 h1
    obtain⟨h3,h5⟩:=P8 h3
    obtain⟨h3,h4⟩:=P8 h3
    obtain rfl:=P9.1 h3
    obtain rfl:=V9 h4
    have hbr:=r.blk y _ L hgy hL
    simp only[okB]at hf
    have hden:dL (ω.upd 0 (Q4 ω b.es)) q=dL ω l:=congrArg Val.toL (aB1 rfl (by rw[bo.len];exact hf) h5)
    simp only[BR]at hbr⊢
    rw[hden];exact hbr
   ·rename_i e sig q e' sig' l hgy
    obtain⟨h3,_⟩:=P7 h1
    obtain⟨h3,h5⟩:=P8 h3
    obtain⟨h3,h4⟩:=P8 h3
    obtain rfl:=P9.1 h3
    obtain rfl:=V9 h4
    have hbr:=r.blk y _ L hgy hL
    simp only[okB]at hf
    have hden:dL (ω.upd 0 (Q4 ω b.es)) q=dL ω l:=congrArg Val.toL (aB1 rfl (by rw[bo.len];exact hf) h5)
    simp only[BR]at hbr⊢
    rw[hden];exact hbr
   ·rename_i d ks vs q d' ks' vs' l hgy
    obtain⟨j1,_⟩:=P7 h1
    obtain⟨j2,h6⟩:=P8 j1
    obtain⟨j3,h5⟩:=P8 j2
    obtain⟨j4,h4⟩:=P8 j3
    obtain rfl:=V9 h4
    obtain rfl:=V9 h5
    obtain⟨E,c',g1,g2,g3⟩:=r.blk y _ L hgy hL
    simp only[okB]at hf
    have hden:dL (ω.upd 0 (Q4 ω b.es)) q=dL ω l:=congrArg Val.toL (aB1 rfl (by rw[bo.len];exact hf) h6)
    exact⟨E,c',g1,by rw[hden];exact g2,g3.weak j4⟩
   ·rename_i d ks vs q c' hgy
    obtain⟨h3,_⟩:=P7 h1
    obtain⟨h3,h6⟩:=P8 h3
    obtain⟨E,g1,g2⟩:=r.blk y _ L hgy hL
    simp only[okB]at hf
    have hden:dL (ω.upd 0 (Q4 ω b.es)) q=dL ω (.op .row []):=congrArg Val.toL (aB1 rfl (by rw[bo.len];exact hf) h6)
    have hE:E.toList=[]:=by generalize E.toList=m at g2;cases g2;rfl
    refine⟨E,c',g1,by rw[hden,hE];rfl,?_⟩
    rw[hE]
    exact(Y4.nil c').weak h3
   ·cases h1
  |view y=>
   have: ∃e sig q,x= .arr e sig q:=by
    simp only[ckB]at h1
    split at h1
    ·exact⟨_,_,_,rfl⟩
    ·cases h1
   obtain⟨e,sig,q,rfl⟩:=this
   obtain⟨nd',lx,g1,g2,g3,g4⟩:=view i y e sig q hs hg
   rw[g4]at hL
   have hbr:=d45 r g1 g2 L hL
   have hden:dL (ω.upd 0 (Q4 ω b.es)) q=dL ω lx:=congrArg Val.toL g3
   simp only[BR]at hbr⊢
   rw[hden];exact hbr
 ·rw[a87]at hgi hgj
  obtain⟨s,y1,M1,s1,s2,s3,s4⟩:=base i L hL
  obtain⟨t,y2,M2,t1,t2,t3,t4⟩:=base j M hM
  obtain⟨z1,hz1⟩:=liveB i s x y1 s1 hgi s2
  obtain⟨z2,hz2⟩:=liveB j t y y2 t1 hgj t2
  have main: ∀(i j:Nat) (s t:BSrc) (x y:Blk) (y1 y2:Nat) (M1 M2:Loc) (z1 z2:Blk),d42 c.blks c.mt h i j (a72 s) (a72 t)=true→c.blks[i]? =some x→c.blks[j]? =some y→(c.heap.wm≤i∨c.heap.wm≤j∨x.isArr=false∨y.isArr=false)→
   a72 s=some y1→a72 t=some y2→β y1=some M1→β y2=some M2→h.get y1=some z1→h.get y2=some z2→M1.blk≠M2.blk:=by
   intro i j s t x y y1 y2 M1 M2 z1 z2 hsep hx hy hk e1 e2 b1 b2 g1 g2
   unfold d42 at hsep
   rw[n5]at hsep
   rcases hsep with hsep|hsep
   ·exfalso
    obtain⟨hsep,a4⟩:=P8 hsep
    obtain⟨hsep,a3⟩:=P8 hsep
    obtain⟨a1,a2⟩:=P8 hsep
    rw[R1]at a1 a2
    rw[hwm]at hk
    rw[hx]at a3
    rw[hy]at a4
    rcases hk with q|q|q|q
    ·omega
    ·omega
    ·cases x<;>simp only[Blk.isArr,reduceCtorEq]at q<;>cases a3
    ·cases y<;>simp only[Blk.isArr,reduceCtorEq]at q<;>cases a4
   ·obtain⟨a1,a2⟩:=P8 hsep
    rw[e1,e2]at a1 a2
    have hne:y1≠y2:=by
     rintro rfl
     simp[neB]at a1
    refine r.sep y1 y2 z1 z2 M1 M2 g1 g2 b1 b2 hne ?_
    simp only[geB,di9,n5,x5,Q2]at a2
    rw[g1,g2]at a2
    rcases a2 with((q|q)|q)|q
    ·exact .inl q
    ·exact .inr (.inl q)
    ·refine .inr (.inr (.inl ?_));cases z1<;>first|rfl|cases q
    ·refine .inr (.inr (.inr ?_));cases z2<;>first|rfl|cases q
  rw[←s4,←t4]
  rcases Nat.lt_or_gt_of_ne hne with hlt|hlt
  ·have:=bv1 bo.seps i j s t hlt s1 t1
   rw[j7,j7]at this
   exact main i j s t x y y1 y2 M1 M2 z1 z2 this hgi hgj hwk s2 t2 s3 t3 hz1 hz2
  ·have:=bv1 bo.seps j i t s hlt t1 s1
   rw[j7,j7]at this
   refine(main j i t s y x y2 y1 M2 M1 z2 z1 this hgj hgi ?_ t2 s2 t3 s3 hz2 hz1).symm
   rcases hwk with q|q|q|q
   ·exact .inr (.inl q)
   ·exact .inl q
   ·exact .inr (.inr (.inr q))
   ·exact .inr (.inr (.inl q))
 ·unfold bnd
  rw[l8 (by rw[bo.slen,←hn];exact hi)]
 ·rw[a87,l8 (by rw[←hn];exact hi)]
 ·obtain⟨s,y,M,_,_,h3,h4⟩:=base i L hL
  rw[←h4];exact r.lt y M h3
 ·rw[hwm]at hwi
  rw[a87]at hg
  have hs: ∃s,b.src[i]? =some s:=by
   have:i<b.src.length:=by rw[bo.slen];exact(m9.1 hg).1
   exact⟨_,j8 this⟩
  obtain⟨s,hs⟩:=hs
  obtain⟨y,rfl,_,_,_⟩:=aH5 r ra bo.mutb i s hs (by omega)
  rw[hw i y hs]at hL
  exact hk.2 i y L hwi hs hL rfl
end Go.Ev
namespace Go.Ev
open Go
variable{ω ω':Opq}{β β' βF:Bij}{K:Nat→Prop}{w0 w w':World}{h h':Heap}
def a02:AV→Bool
 | .agg _=>false
 | .tup _=>false
 |_=>true
theorem R5{v:AV}(h:a02 v=true):a91 v=[v]:=by cases v<;>first|rfl|cases h
theorem cN9{out v:AV}(h:a02 v=true)(hs:a06 out v=true):a02 out=true:=by
 cases out<;>first
  |rfl
  |(simp only[a06]at hs;split at hs<;>first|cases h|cases hs)
theorem a54{v:AV}{u:Value}(h:a02 v=true)(r:VR β ω v u): ∃us,VRs β ω (a91 v) us∧ ∀(β':Bij) (ω':Opq) (out:AV),a06 out v=true→VRs β' ω' (a91 out) us→VR β' ω' out u:=by
 refine⟨[u],by rw[R5 h];exact .one r,fun β' ω' out hs ho=> ?_⟩
 rw[R5 (cN9 h hs)]at ho
 obtain⟨x,xr,e,p,q⟩:=ho
 simp only[B8]at e
 rw[e.1];exact p
theorem bi3: ∀{a b:List AV} {x y:List Value},a.length=x.length→VRs β ω (a++b) (x++y)→VRs β ω a x∧VRs β ω b y
 | [],b,[],y,_,r=>⟨rfl,r⟩
 | [],b,_::_,y,h,r=>by cases h
 |_::_,b,[],y,h,r=>by cases h
 |p::a,b,v::x,y,h,⟨v',vr,e,q,s⟩=>by
  simp only[List.cons_append,B8]at e
  obtain⟨rfl,rfl⟩:=e
  obtain⟨h1,h2⟩:=bi3 (by simpa using h) s
  exact⟨⟨v,x,rfl,q,h1⟩,h2⟩
theorem a56{o v:AV}(ho:a02 o=true)(h:a06 o v=true):(a91 o).length=(a91 v).length:=by
 have hv:a02 v=true:=by
  cases o<;>first
   |(exfalso;simp[a02]at ho;done)
   |(simp only[a06]at h;cases v<;>first|rfl|((cases h;done)))
 rw[R5 ho,R5 hv];rfl
mutual
theorem b58: ∀{o v:AV},a06 o v=true→(a91 o).length=(a91 v).length
 | .agg a,v,h=>by
   simp only[a06]at h
   split at h
   ·exact P9.1 h
   ·cases h
 | .tup a,v,h=>by
   simp only[a06]at h
   split at h
   ·exact bi4 h
   ·cases h
 | .bool _,v,h=>a56 rfl h
 | .int _ _,v,h=>a56 rfl h
 | .str _,v,h=>a56 rfl h
 | .nilp,v,h=>a56 rfl h
 | .ptr _ _,v,h=>a56 rfl h
 | .glob _,v,h=>a56 rfl h
 | .nils,v,h=>a56 rfl h
 | .sl _ _ _ _,v,h=>a56 rfl h
 | .us _ _ _ _,v,h=>a56 rfl h
 | .es _ _ _,v,h=>a56 rfl h
 | .es0,v,h=>a56 rfl h
 | .nilm,v,h=>a56 rfl h
 | .map _,v,h=>a56 rfl h
 | .nilf,v,h=>a56 rfl h
 | .func _ _ _,v,h=>a56 rfl h
 | .yield _,v,h=>a56 rfl h
 | .nili,v,h=>a56 rfl h
 | .iface _ _,v,h=>a56 rfl h
 | .opq _,v,h=>a56 rfl h
 | .oint _ _,v,h=>a56 rfl h
 | .ostr _,v,h=>a56 rfl h
 | .obool _,v,h=>a56 rfl h
 | .osl _ _ _ _,v,h=>a56 rfl h
 | .optr _ _ _ _,v,h=>a56 rfl h
 | .ous _ _ _,v,h=>a56 rfl h
 | .atl _,v,h=>a56 rfl h
 | .any,v,h=>a56 rfl h
theorem bi4: ∀{o v:List AV},a80 o v=true→(ap2 o).length=(ap2 v).length
 | [],v,h=>by
   simp only[a80]at h
   split at h
   ·rfl
   ·cases h
 |a::r,v,h=>by
  simp only[a80]at h
  split at h
  ·rw[e9]at h
   simp only[ap2,j9,b58 h.1,bi4 h.2]
  ·cases h
end
mutual
theorem c87: ∀(v:AV) (u:Value),VR β ω v u→ ∃us,VRs β ω (a91 v) us∧ ∀(β':Bij) (ω':Opq) (out:AV),a06 out v=true→VRs β' ω' (a91 out) us→VR β' ω' out u
 | .agg cs,u,r=>by
   obtain⟨xs,rfl,q⟩:=r
   refine⟨xs.toList,q,fun β' ω' out hs ho=> ?_⟩
   cases out<;>simp only[a06,k7]at hs
   exact⟨xs,rfl,ho⟩
 | .tup vs,u,r=>by
   obtain⟨xs,rfl,q⟩:=r
   obtain⟨us,h1,h2⟩:=bF6 vs xs.toList q
   refine⟨us,h1,fun β' ω' out hs ho=> ?_⟩
   cases out<;>simp only[a06,k7]at hs
   exact⟨xs,rfl,h2 β' ω' _ hs ho⟩
 | .bool b,u,r=>a54 rfl r
 | .int a b,u,r=>a54 rfl r
 | .str b,u,r=>a54 rfl r
 | .nilp,u,r=>a54 rfl r
 | .ptr a b,u,r=>a54 rfl r
 | .glob b,u,r=>a54 rfl r
 | .nils,u,r=>a54 rfl r
 | .sl a b c d,u,r=>a54 rfl r
 | .us a b c d,u,r=>a54 rfl r
 | .es a b c,u,r=>a54 rfl r
 | .es0,u,r=>a54 rfl r
 | .nilm,u,r=>a54 rfl r
 | .map b,u,r=>a54 rfl r
 | .nilf,u,r=>a54 rfl r
 | .func a b c,u,r=>a54 rfl r
 | .yield b,u,r=>a54 rfl r
 | .nili,u,r=>a54 rfl r
 | .iface a b,u,r=>a54 rfl r
 | .opq b,u,r=>a54 rfl r
 | .oint a b,u,r=>a54 rfl r
 | .ostr b,u,r=>a54 rfl r
 | .obool b,u,r=>a54 rfl r
 | .osl a b c d,u,r=>a54 rfl r
 | .optr a b c d,u,r=>a54 rfl r
 | .ous a b c,u,r=>a54 rfl r
 | .atl b,u,r=>a54 rfl r
 | .any,u,r=>a54 rfl r
theorem bF6: ∀(vs:List AV) (us0:List Value),VRs β ω vs us0→ ∃us,VRs β ω (ap2 vs) us∧ ∀(β':Bij) (ω':Opq) (outs:List AV),a80 outs vs=true→VRs β' ω' (ap2 outs) us→VRs β' ω' outs us0
 | [],us0,r=>by
   refine⟨[],rfl,fun β' ω' outs hs ho=> ?_⟩
   cases outs with
   |nil=>exact r
   |cons a b=>simp only[a80]at hs;cases hs
 |v::vs,us0,⟨u,ur,e,p,q⟩=>by
  obtain⟨us1,a1,a2⟩:=c87 v u p
  obtain⟨us2,b1,b2⟩:=bF6 vs ur q
  refine⟨us1++us2,a1.append b1,fun β' ω' outs hs ho=> ?_⟩
  cases outs with
  |nil=>simp only[a80]at hs;cases hs
  |cons o os=>
   simp only[a80,e9]at hs
   have hl:(a91 o).length=us1.length:=by rw[b58 hs.1];exact a1.length.symm
   obtain⟨c1,c2⟩:=bi3 hl ho
   exact⟨u,ur,e,a2 β' ω' o hs.1 c1,b2 β' ω' os hs.2 c2⟩
end
section
variable{Q:Nat→SX}{n:Nat}
theorem a12(g:Agr 0 ω ω'){p x:SX}{es:List SX}(h:bp3 1000 n p x=some es)(hp:bQ3 p=true)(hq: ∀j e,es[j]? =some e→den ω (Q (n+j))=den ω' e):den ω (W8 1000 Q p)=den ω' x:=by
 unfold bp3 at h
 unfold W8
 unfold bQ3 at hp
 split at h
 ·rename_i m hm
  obtain⟨h1,h2⟩:=P7 h
  simp only[b9]at h2;subst h2
  obtain rfl:=P9.1 h1
  exact hq 0 x rfl
 ·rename_i hm
  obtain⟨h1,_⟩:=P7 h
  obtain⟨h1,_⟩:=P8 h1
  rw[hm]at hp
  have hp:V4 0 p=true:=hp
  rw[←SX.beq_eq _ _ h1]
  exact(ab2 g p hp).symm
theorem bQ8(g:Agr 0 ω ω'){p q x y:SX}{es:List SX}(h:bp4 1000 n p q x y=some es)(hp:bQ3 p=true)(hpq:bQ3 q=true)(hq: ∀j e,es[j]? =some e→den ω (Q (n+j))=den ω' e):den ω (W8 1000 Q p)=den ω' x∧den ω (W8 1000 Q q)=den ω' y:=by
 unfold bp4 at h
 split at h
 ·rename_i e1 h1
  split at h
  ·rename_i e2 h2
   simp only[b9]at h;subst h
   refine⟨a12 g h1 hp fun j e hj=>hq j e ?_,a12 g h2 hpq fun j e hj=> ?_⟩
   ·have hlt:=(m9.1 hj).1
    rw[k9 hlt];exact hj
   ·have:=hq (e1.length+j) e (by rw[k8 (x8 _ _),A5];exact hj)
    rw[show n+e1.length+j=n+(e1.length+j) by omega];exact this
  ·cases h
 ·cases h
theorem c88{src:List BSrc}{i:Nat}(e:isW src i=true): ∃b,src[i]? =some (.whole b):=by
 unfold isW at e
 split at e
 ·rename_i b hb;exact⟨b,hb⟩
 ·cases e
theorem aQ1{src:List BSrc}{m i b:Nat}(e:src[i]? =some (.whole b)):as5 src m i=b:=by unfold as5;rw[e]
theorem aQ2(ρ:Nat→Nat)(k:IntKind)(e:SX):aT9 ρ (bS6 k e)=bS6 k e:=by
 unfold bS6
 split<;>rfl
theorem c89(k:IntKind)(e:SX):(bS6 k e).oneA=true:=by
 unfold bS6
 split<;>rfl
theorem bQ9{ρ:Nat→Nat}{p:AV}(h:aE3 p=true):aT9 ρ (ae0 Q p)=p:=by
 cases p<;>simp only[aE3,k7]at h<;>simp only[ae0,aT9]
variable{src:List BSrc}{mt base N:Nat}{post:List (Option Blk)}
theorem b59(g:Agr 0 ω ω'){p x:AV}{u:Value}{es:List SX}(hcl:clA src mt post p=true)(hnn:aY7 src.length p=true)(ha:T6 1000 base n p x=some es)(hq: ∀j e,es[j]? =some e→den ω (Q (n+j))=den ω' e)
 (r:VR β ω' x u) (hβ: ∀i b,src[i]? =some (.whole b)→βF b=β i):VR βF ω (aT9 (as5 src N) (ae0 Q p)) u:=by
 have plain:aE3 p=true→(bif AV.beq p x&&okA 1000 base x then some ([]:List SX)else none)=some es→VR βF ω (aT9 (as5 src N) (ae0 Q p)) u:=by
  intro hp h
  obtain⟨h1,_⟩:=P7 h
  obtain⟨h1,_⟩:=P8 h1
  rw[bQ9 hp]
  rw[←AV.beq_eq _ _ h1]at r
  exact T8 hp r
 cases p with
 |oint k e=>
  simp only[clA]at hcl
  simp only[T6]at ha
  unfold db9 at ha
  split at ha
  ·rename_i k' x' hx
   split at ha
   ·rename_i hk;subst hk
    rw[show aT9 (as5 src N) (ae0 Q (.oint k e))=bS6 k (W8 1000 Q e)from aQ2 _ _ _]
    refine bs0.2 ?_
    show u= .int k (dI ω (W8 1000 Q e))
    rw[aa6 hx r]
    exact congrArg (fun z:Val=>Value.int k z.toI) (a12 g ha hcl hq).symm
   ·cases ha
  ·cases ha
 |ostr e=>
  simp only[clA]at hcl
  simp only[T6]at ha
  unfold cA0 at ha
  split at ha
  ·rename_i x' hx
   show u= .string ⟨(dS ω (W8 1000 Q e)).toArray⟩
   rw[ai7 hx r]
   exact congrArg (fun z:Val=>Value.string ⟨z.toS.toArray⟩) (a12 g ha hcl hq).symm
  ·cases ha
 |obool e=>
  simp only[clA]at hcl
  simp only[T6]at ha
  unfold cA0 at ha
  split at ha
  ·rename_i x' hx
   show u= .bool (dB ω (W8 1000 Q e))
   rw[ai8 hx r]
   exact congrArg (fun z:Val=>Value.bool z.toB) (a12 g ha hcl hq).symm
  ·cases ha
 |osl i y z s=>
  simp only[clA,e9]at hcl
  simp only[T6]at ha
  unfold bc3 at ha
  split at ha
  ·rename_i b' y' z' s'
   obtain⟨h1,h2⟩:=P7 ha
   obtain⟨h1,_⟩:=P8 h1
   obtain⟨h1,h3⟩:=P8 h1
   obtain rfl:=P9.1 h1
   obtain rfl:=P9.1 h3
   obtain⟨b,hb⟩:=c88 hcl.1.1
   obtain⟨k1,k2⟩:=bQ8 g h2 hcl.1.2 hcl.2 hq
   have k1:dI ω (W8 1000 Q y)=dI ω' y':=congrArg Val.toI k1
   have k2:dI ω (W8 1000 Q z)=dI ω' z':=congrArg Val.toI k2
   simp only[ae0,aT9,aQ1 hb,VR]at r⊢
   rw[k1,k2,hβ i b hb];exact r
  ·cases ha
 |ous i q s=>
  simp only[aY7,R1]at hnn
  simp only[clA]at hcl
  rw[show Nat.ble src.length i=false by
   cases hh:Nat.ble src.length i with
   |false=>rfl
   |true=>rw[Q2]at hh;omega]at hcl
  simp only[cond_false,e9]at hcl
  simp only[T6]at ha
  unfold bc4 at ha
  split at ha
  ·rename_i b' q' s'
   obtain⟨h1,h2⟩:=P7 ha
   obtain⟨h1,_⟩:=P8 h1
   obtain⟨h1,h3⟩:=P8 h1
   obtain rfl:=P9.1 h1
   obtain rfl:=P9.1 h3
   obtain⟨b,hb⟩:=c88 hcl.1
   have k1:dI ω (W8 1000 Q q)=dI ω' q':=congrArg Val.toI (a12 g h2 (by unfold bQ3;rw[hcl.2];rfl) hq)
   have hy:ct4 Q q=W8 1000 Q q:=by
    have:=hcl.2
    unfold bp2 at this
    split at this
    ·rfl
    ·cases this
   simp only[ae0,aT9,aQ1 hb,VR]at r⊢
   rw[hy,k1,hβ i b hb];exact r
  ·cases ha
 |ptr i o=>
  simp only[clA]at hcl
  simp only[T6]at ha
  obtain⟨h1,_⟩:=P7 ha
  obtain⟨h1,_⟩:=P8 h1
  rw[←AV.beq_eq _ _ h1]at r
  obtain⟨b,hb⟩:=c88 hcl
  simp only[ae0,aT9,aQ1 hb,VR]at r⊢
  rw[hβ i b hb];exact r
 |bool _=>simp only[T6]at ha;exact plain hcl ha
 |int _ _=>simp only[T6]at ha;exact plain hcl ha
 |str _=>simp only[T6]at ha;exact plain hcl ha
 |nilp=>simp only[T6]at ha;exact plain hcl ha
 |glob _=>simp only[T6]at ha;exact plain hcl ha
 |nils=>simp only[T6]at ha;exact plain hcl ha
 |nilm=>simp only[T6]at ha;exact plain hcl ha
 |nilf=>simp only[T6]at ha;exact plain hcl ha
 |nili=>simp only[T6]at ha;exact plain hcl ha
 |_=>simp only[clA,aE3,k7]at hcl
theorem bi5(g:Agr 0 ω ω'): ∀{ps xs:List AV} {us:List Value} {n:Nat} {es:List SX},(ps.all fun p=>clA src mt post p&&aY7 src.length p&&p.oneA)=true→aq8 1000 base n ps xs=some es→(∀j e,es[j]? =some e→den ω (Q (n+j))=den ω' e)→
 VRs β ω' xs us→(∀i b,src[i]? =some (.whole b)→βF b=β i)→VRs βF ω (aF7 (as5 src N) (ap3 Q ps)) us
 | [],xs,us,n,es,hcl,ha,hq,r,hβ=>by
   cases xs with
   |nil=>exact r
   |cons a b=>simp only[aq8]at ha;cases ha
 |p::ps,xs,us,n,es,hcl,ha,hq,r,hβ=>by
  cases xs with
  |nil=>simp only[aq8]at ha;cases ha
  |cons x xs=>
   simp only[List.all_cons,e9]at hcl
   simp only[aq8]at ha
   split at ha
   ·rename_i e1 h1
    split at ha
    ·rename_i e2 h2
     simp only[b9]at ha;subst ha
     obtain⟨v,vr,rfl,r1,r2⟩:=r
     refine⟨v,vr,rfl,b59 g hcl.1.1.1 hcl.1.1.2 h1 (fun j e hj=>hq j e ?_) r1 hβ,bi5 g (by simpa using hcl.2) h2 (fun j e hj=> ?_) r2 hβ⟩
     ·have hlt:=(m9.1 hj).1
      rw[k9 hlt];exact hj
     ·have:=hq (e1.length+j) e (by rw[k8 (x8 _ _),A5];exact hj)
      rw[show n+e1.length+j=n+(e1.length+j) by omega];exact this
    ·cases ha
   ·cases ha
theorem c90(ρ:Nat→Nat): ∀l:List AV,(l.all fun p=>clA src mt post p&&aY7 src.length p&&p.oneA)=true→(aF7 ρ (ap3 Q l)).all AV.oneA=true
 | [],_=>rfl
 |a::r,h=>by
  simp only[List.all_cons,e9]at h
  simp only[ap3,aF7,List.all_cons,e9]
  refine⟨?_,c90 ρ r (by simpa using h.2)⟩
  have:=h.1.2
  cases a<;>simp only[ae0,aT9]<;>first|exact this|rfl|(rw[aQ2];exact c89 _ _)
theorem c91(g:Agr 0 ω ω'){L:Loc}{o:Option Obj}{p z x:Blk}{es:List SX}(hcl:clB src mt post (some p)=true)(ha:bp5 1000 base n p z=some es)(hq: ∀j e,es[j]? =some e→den ω (Q (n+j))=den ω' e)
 (r:BR β ω' L o z) (hβ: ∀i b,src[i]? =some (.whole b)→βF b=β i) (hx:aA9 (as5 src N) (af0 Q (some p))=some x):BR βF ω L o x:=by
 cases p with
 |cells e fz ps=>
  cases z<;>simp only[bp5,reduceCtorEq]at ha
  obtain⟨h1,h2⟩:=P7 ha
  obtain⟨h1,h4⟩:=P8 h1
  obtain⟨h1,h3⟩:=P8 h1
  obtain rfl:=P9.1 h1
  obtain rfl:=P9.1 h3
  simp only[af0,aA9,b9]at hx
  subst hx
  simp only[clB]at hcl
  obtain⟨C,lo,hi,vs,q1,q2,q3,q4,q5,q6,q7,q8⟩:=r
  have hv:=bi5 (N:=N) g hcl h2 hq q5 hβ
  have hl:(aF7 (as5 src N) (ap3 Q ps)).length=vs.length:=hv.length.symm
  have hl2:=q5.length
  refine⟨C,lo,hi,vs,q1,q2,by rw[hl,hl2];exact q3,c90 _ _ hcl,hv,by rw[hl,hl2];exact q6,q7,fun hh=>q8 (by rw[←hh];exact g.fix▸rfl)⟩
 |arr e sig l=>
  cases z<;>simp only[bp5,reduceCtorEq]at ha
  obtain⟨h1,h2⟩:=P7 ha
  obtain⟨h1,h3⟩:=P8 h1
  obtain rfl:=P9.1 h1
  obtain rfl:=V9 h3
  simp only[af0,aA9,b9]at hx
  subst hx
  simp only[clB]at hcl
  have k:dL ω (W8 1000 Q l)=dL ω' _:=congrArg Val.toL (a12 g h2 hcl hq)
  simp only[BR]at r⊢
  rw[k];exact r
 |marr d ks vs l=>
  simp only[af0,aA9,b9]at hx
  subst hx
  simp only[clB]at hcl
  cases z with
  |marr d' ks' vs' x=>
   simp only[bp5]at ha
   obtain⟨h1,h2⟩:=P7 ha
   obtain⟨h5,h1⟩:=P8 h1
   obtain⟨h3,h4⟩:=P8 h1
   obtain rfl:=V9 h3
   obtain rfl:=V9 h4
   have k:dL ω (W8 1000 Q l)=dL ω' x:=congrArg Val.toL (a12 g h2 hcl hq)
   obtain⟨E,c,q1,q2,q3⟩:=r
   exact⟨E,c,q1,by rw[k];exact q2,q3.weak h5⟩
  |map es' c=>
   cases es' with
   |nil=>
    simp only[bp5]at ha
    obtain⟨h5,h2⟩:=P7 ha
    have k:dL ω (W8 1000 Q l)=dL ω' (.op .row []):=congrArg Val.toL (a12 g h2 hcl hq)
    obtain⟨E,q1,q2⟩:=r
    have hE:E.toList=[]:=by generalize E.toList=z at q2;cases q2;rfl
    refine⟨E,_,q1,?_⟩
    rw[hE,k]
    exact⟨rfl,(Y4.nil _).weak h5⟩
   |cons e r=>simp[bp5]at ha
  |_=>simp[bp5]at ha
 |_=>simp only[clB,k7]at hcl
end
end Go.Ev
namespace Go.Ev
open Go
variable{ω ω':Opq}{β β' βF:Bij}{K:Nat→Prop}{w0 w w':World}{h h':Heap}
section
variable{Q:Nat→SX}{ρ:Nat→Nat}{m:Nat}
structure Laid (Q:Nat→SX) (ρ:Nat→Nat) (m:Nat) (l:List (Option Blk)) (i:Nat) (h h2:Heap):Prop where
 wm:h2.wm=h.wm
 next:h2.next=h.next+(i+l.length-Nat.max i m)
 get: ∀b y,h2.get b=some y→(∃j x,l[j]? =some x∧i+j<m∧ρ (i+j)=b∧aA9 ρ (af0 Q x)=some y)∨(∃j x,l[j]? =some x∧m≤i+j∧b=h.next+(i+j-Nat.max i m)∧aA9 ρ (af0 Q x)=some y)∨(h.get b=some y∧ ∀j,j<l.length→i+j<m→ρ (i+j)≠b)
 keep: ∀b,b<h.next→(∀j,j<l.length→i+j<m→ρ (i+j)≠b)→h2.get b=h.get b
theorem bR0{x:Option Blk}(e:bQ4 x=true): ∃y,aA9 ρ (af0 Q x)=some y:=by
 unfold bQ4 at e
 split at e
 ·exact⟨_,rfl⟩
 ·cases e
theorem aB3: ∀(l:List (Option Blk)) (i:Nat) (h:Heap),(∀j x,l[j]? =some x→m≤i+j→bQ4 x=true)→(∀j,j<l.length→i+j<m→ρ (i+j)<h.next)→Laid Q ρ m l i h (a37 ρ Q m l i h)
 | [],i,h,hr,hb=>by
   refine⟨rfl,?_,fun b y e=> .inr (.inr ⟨e,fun j hj=>by simp at hj⟩),fun _ _ _=>rfl⟩
   show h.next=h.next+(i+0-max i m)
   omega
 |x::r,i,h,hr,hb=>by
  by_cases him:i<m
  ·
   have hstep:a37 ρ Q m (x::r) i h=a37 ρ Q m r (i+1) (h.put (ρ i) (aA9 ρ (af0 Q x))):=by
    simp only[a37,a88 him,cond_true]
   have hρ:ρ i<h.next:=hb 0 (by simp) him
   have ih:=aB3 r (i+1) (h.put (ρ i) (aA9 ρ (af0 Q x))) (fun j y hj hm=>hr (j+1) y (by simpa using hj) (by omega)) (fun j hj hm=>by rw[Heap.next_put];have:=hb (j+1) (by simp;omega) (by omega);rw[show i+(j+1)=i+1+j by omega]at this;exact this)
   rw[hstep]
   have hmax:Nat.max (i+1) m=m:=K4 (by omega)
   have hmax':Nat.max i m=m:=K4 (by omega)
   refine⟨ih.wm,?_,fun b y e=> ?_,fun b hb' hn=> ?_⟩
   ·rw[ih.next,Heap.next_put,hmax,hmax',List.length_cons];omega
   ·rcases ih.get b y e with⟨j,z,h1,h2,h3,h4⟩|⟨j,z,h1,h2,h3,h4⟩|⟨h1,h2⟩
    ·exact .inl ⟨j+1,z,by simpa using h1,by omega,by rw[show i+(j+1)=i+1+j by omega];exact h3,h4⟩
    ·refine .inr (.inl ⟨j+1,z,by simpa using h1,by omega,?_,h4⟩)
     rw[h3,Heap.next_put,hmax,hmax'];omega
    ·rw[Heap.get_put]at h1
     by_cases hbi:b=ρ i
     ·rw[if_pos hbi]at h1
      split at h1
      ·exact .inl ⟨0,x,rfl,by omega,hbi.symm,h1⟩
      ·cases h1
     ·rw[if_neg hbi]at h1
      refine .inr (.inr ⟨h1,fun j hj hm=> ?_⟩)
      cases j with
      |zero=>exact fun hh=>hbi hh.symm
      |succ j=>
       rw[show i+(j+1)=i+1+j by omega]
       exact h2 j (by simpa using hj) (by omega)
   ·rw[ih.keep b (by rw[Heap.next_put];exact hb') (fun j hj hm=>by rw[show i+1+j=i+(j+1) by omega];exact hn (j+1) (by simp;omega) (by omega)),Heap.get_put,if_neg]
    exact fun hh=>hn 0 (by simp) him hh.symm
  ·obtain⟨z,hz⟩:=bR0 (Q:=Q) (ρ:=ρ) (hr 0 x rfl (by omega))
   have hstep:a37 ρ Q m (x::r) i h=a37 ρ Q m r (i+1) (h.new z):=by
    simp only[a37,ab7 him,cond_false,hz]
   have ih:=aB3 r (i+1) (h.new z) (fun j y hj hm=>hr (j+1) y (by simpa using hj) (by omega)) (fun j hj hm=>by omega)
   rw[hstep]
   have hmax:Nat.max (i+1) m=i+1:=O2 (by omega)
   have hmax':Nat.max i m=i:=O2 (by omega)
   refine⟨ih.wm,?_,fun b y e=> ?_,fun b hb' hn=> ?_⟩
   ·rw[ih.next,Heap.next_new,hmax,hmax',List.length_cons];omega
   ·rcases ih.get b y e with⟨j,u,h1,h2,h3,h4⟩|⟨j,u,h1,h2,h3,h4⟩|⟨h1,h2⟩
    ·omega
    ·refine .inr (.inl ⟨j+1,u,by simpa using h1,by omega,?_,h4⟩)
     rw[h3,Heap.next_new,hmax,hmax'];omega
    ·rw[Heap.get_new]at h1
     by_cases hbi:b=h.next
     ·rw[if_pos hbi]at h1
      split at h1
      ·simp only[b9]at h1;subst h1
       exact .inr (.inl ⟨0,x,rfl,by omega,by rw[hmax'];omega,hz⟩)
      ·cases h1
     ·rw[if_neg hbi]at h1
      exact .inr (.inr ⟨h1,fun j hj hm=>by omega⟩)
   ·rw[ih.keep b (by rw[Heap.next_new];omega) (fun j hj hm=>by omega),Heap.get_new,if_neg (by omega)]
end
section
variable{m base:Nat}{a:Fr}
theorem bF7{P:Nat→SX→Prop}: ∀{ps:List AV} {t n:Nat} {es:List SX},ct6 m base h a ps t n=some es→(∀j e,es[j]? =some e→P (n+j) e)→ ∀k p,ps[k]? =some p→ ∃n' es',cN7 m base n' h p (a.slot (t+k))=some es'∧ ∀j e,es'[j]? =some e→P (n'+j) e
 | [],t,n,es,e,hp,k,p,hk=>by simp at hk
 |q::ps,t,n,es,e,hp,k,p,hk=>by
  simp only[ct6]at e
  split at e
  ·rename_i e1 h1
   split at e
   ·rename_i e2 h2
    simp only[b9]at e;subst e
    cases k with
    |zero=>
     simp only[List.getElem?_cons_zero,b9]at hk;subst hk
     refine⟨n,e1,h1,fun j e hj=>hp j e ?_⟩
     have hlt:=(m9.1 hj).1
     rw[k9 hlt];exact hj
    |succ k=>
     simp only[List.getElem?_cons_succ]at hk
     obtain⟨n',es',g1,g2⟩:=bF7 h2 (fun j e hj=>by
      have:=hp (e1.length+j) e (by rw[k8 (x8 _ _),A5];exact hj)
      rw[show n+e1.length+j=n+(e1.length+j) by omega];exact this) k p hk
     exact⟨n',es',by rw[show t+(k+1)=t+1+k by omega];exact g1,g2⟩
   ·cases e
  ·cases e
theorem bF8{P:Nat→SX→Prop}: ∀{ps:List (Option Blk)} {i n:Nat} {es:List SX},ct7 m base h ps i n=some es→(∀j e,es[j]? =some e→P (n+j) e)→ ∀k p,ps[k]? =some p→ ∃n' es',aU4 1000 base n' p (h.get (bif Nat.blt (i+k) m then i+k else base+(i+k-m)))=some es'∧ ∀j e,es'[j]? =some e→P (n'+j) e
 | [],i,n,es,e,hp,k,p,hk=>by simp at hk
 |q::ps,i,n,es,e,hp,k,p,hk=>by
  simp only[ct7]at e
  split at e
  ·rename_i e1 h1
   split at e
   ·rename_i e2 h2
    simp only[b9]at e;subst e
    cases k with
    |zero=>
     simp only[List.getElem?_cons_zero,b9]at hk;subst hk
     refine⟨n,e1,h1,fun j e hj=>hp j e ?_⟩
     have hlt:=(m9.1 hj).1
     rw[k9 hlt];exact hj
    |succ k=>
     simp only[List.getElem?_cons_succ]at hk
     obtain⟨n',es',g1,g2⟩:=bF8 h2 (fun j e hj=>by
      have:=hp (e1.length+j) e (by rw[k8 (x8 _ _),A5];exact hj)
      rw[show n+e1.length+j=n+(e1.length+j) by omega];exact this) k p hk
     exact⟨n',es',by rw[show i+(k+1)=i+1+k by omega];exact g1,g2⟩
   ·cases e
  ·cases e
theorem cu7{x:AV}{v:Value}(hd:dB ω (bQ5 h x).1=true)(r:VR β ω x v):VR β ω (bQ5 h x).2 v:=by
 cases x with
 |ous b len s=>
  cases hg:h.get b with
  |none=>simp only[bQ5,hg];exact r
  |some y=>
   cases y with
   |arr e sig l=>
    simp only[bQ5,hg]at hd⊢
    cases hc:SX.beq len (.op .llen [l])with
    |true=>exact r
    |false=>
     rw[hc]at hd
     have:dI ω len=dI ω (.op .llen [l]):=of_decide_eq_true hd
     show VR β ω (.ous b (.op .llen [l]) s) v
     simp only[VR]at r⊢
     rw[←this];exact r
   |_=>simp only[bQ5,hg];exact r
 |_=>exact r
theorem bi6: ∀{xs:List AV} {vs:List Value},dB ω (aY9 h xs).1=true→VRs β ω xs vs→VRs β ω (aY9 h xs).2 vs
 | [],vs,hd,r=>r
 |x::xs,vs,hd,⟨v,vr,e,p,q⟩=>by
  simp only[aY9]at hd⊢
  obtain⟨d1,d2⟩:=aZ0 hd
  exact⟨v,vr,e,cu7 d1 p,bi6 d2 q⟩
theorem c92{pc:PC}(hp:bt2 ω pc): ∀l:List SX,Q4 ω (dd2 pc l)=Q4 ω l
 | []=>rfl
 |a::r=>by simp only[dd2,Q4,bt3 hp,c92 hp r]
theorem d48{xs:List AV}{us:List Value}(ra:VRs β ω xs us)(hl:xs.length≤256):FrR β ω ⟨aa2 xs 0 TF.empty,xs.length,[],0,[],none⟩ {tmps:=us.toArray,defers:=[]}:=by
 have:=b53 (fn:=0) (nt:=xs.length) ra (by rw[show Nat.max xs.length xs.length=xs.length from Nat.max_self _];exact hl)
 rw[show Nat.max xs.length xs.length=xs.length from Nat.max_self _,show xs.length-us.toArray.size=0 by rw[A9,ra.length];exact E4 _]at this
 simpa using this
end
theorem aQ3{src:List BSrc}{mt:Nat}{post:List (Option Blk)}: ∀{l:List (Option Blk)} {i:Nat},aP6 src mt post l i=true→src.length≤i+l.length∧ ∀j x,l[j]? =some x→(i+j<src.length→clB src mt post x=true)∧(src.length≤i+j→bQ4 x=true)
 | [],i,e=>⟨by simp only[aP6,Q2]at e;simpa using e,fun j x hx=>by simp at hx⟩
 |x::l,i,e=>by
  simp only[aP6]at e
  by_cases hi:i<src.length
  ·rw[a88 hi]at e
   simp only[cond_true,e9]at e
   obtain⟨h1,h2⟩:=aQ3 e.2
   refine⟨by simp only[List.length_cons];omega,fun j y hy=> ?_⟩
   cases j with
   |zero=>
    simp only[List.getElem?_cons_zero,b9]at hy;subst hy
    exact⟨fun _=>e.1,fun hh=>by omega⟩
   |succ j=>
    simp only[List.getElem?_cons_succ]at hy
    have:=h2 j y hy
    rw[show i+(j+1)=i+1+j by omega];exact this
  ·rw[ab7 hi]at e
   simp only[cond_false,e9]at e
   obtain⟨h1,h2⟩:=aQ3 e.2
   refine⟨by simp only[List.length_cons];omega,fun j y hy=> ?_⟩
   cases j with
   |zero=>
    simp only[List.getElem?_cons_zero,b9]at hy;subst hy
    exact⟨fun hh=>by omega,fun _=>e.1⟩
   |succ j=>
    simp only[List.getElem?_cons_succ]at hy
    have:=h2 j y hy
    rw[show i+(j+1)=i+1+j by omega];exact this
theorem aj9{post:List (Option Blk)}{mt m base:Nat}: ∀{l:List AV} {t:Nat} {o:OwnP},o∈bi2 post mt m base l t→base≤o.blk
 | [],t,o,ho=>by cases ho
 |p::l,t,o,ho=>by
  cases p<;>simp only[bi2]at ho<;>try exact aj9 ho
  rename_i i x s
  cases hm:Nat.ble m i with
  |false=>rw[hm]at ho;exact aj9 ho
  |true=>
   rw[hm]at ho
   simp only[cond_true]at ho
   split at ho
   ·rcases k5.1 ho with rfl|ho
    ·exact x8 _ _
    ·exact aj9 ho
   ·exact aj9 ho
mutual
theorem bF9{F:AV→AV}(h1: ∀l,F (.agg l)= .agg (l.map F))(h2: ∀l,F (.tup l)= .tup (l.map F))(h3: ∀x,a02 x=true→a02 (F x)=true): ∀v:AV,a91 (F v)=(a91 v).map F
 | .agg l=>by rw[h1];rfl
 | .tup l=>by rw[h2];exact bi7 h1 h2 h3 l
 | .bool a=>by rw[R5 (h3 _ rfl)];rfl
 | .int a b=>by rw[R5 (h3 _ rfl)];rfl
 | .str a=>by rw[R5 (h3 _ rfl)];rfl
 | .nilp=>by rw[R5 (h3 _ rfl)];rfl
 | .ptr a b=>by rw[R5 (h3 _ rfl)];rfl
 | .glob a=>by rw[R5 (h3 _ rfl)];rfl
 | .nils=>by rw[R5 (h3 _ rfl)];rfl
 | .sl a b c d=>by rw[R5 (h3 _ rfl)];rfl
 | .us a b c d=>by rw[R5 (h3 _ rfl)];rfl
 | .es a b c=>by rw[R5 (h3 _ rfl)];rfl
 | .es0=>by rw[R5 (h3 _ rfl)];rfl
 | .nilm=>by rw[R5 (h3 _ rfl)];rfl
 | .map a=>by rw[R5 (h3 _ rfl)];rfl
 | .nilf=>by rw[R5 (h3 _ rfl)];rfl
 | .func a b c=>by rw[R5 (h3 _ rfl)];rfl
 | .yield a=>by rw[R5 (h3 _ rfl)];rfl
 | .nili=>by rw[R5 (h3 _ rfl)];rfl
 | .iface a b=>by rw[R5 (h3 _ rfl)];rfl
 | .opq a=>by rw[R5 (h3 _ rfl)];rfl
 | .oint a b=>by rw[R5 (h3 _ rfl)];rfl
 | .ostr a=>by rw[R5 (h3 _ rfl)];rfl
 | .obool a=>by rw[R5 (h3 _ rfl)];rfl
 | .osl a b c d=>by rw[R5 (h3 _ rfl)];rfl
 | .optr a b c d=>by rw[R5 (h3 _ rfl)];rfl
 | .ous a b c=>by rw[R5 (h3 _ rfl)];rfl
 | .atl a=>by rw[R5 (h3 _ rfl)];rfl
 | .any=>by rw[R5 (h3 _ rfl)];rfl
theorem bi7{F:AV→AV}(h1: ∀l,F (.agg l)= .agg (l.map F))(h2: ∀l,F (.tup l)= .tup (l.map F))(h3: ∀x,a02 x=true→a02 (F x)=true): ∀l:List AV,ap2 (l.map F)=(ap2 l).map F
 | []=>rfl
 |a::r=>by simp only[k6,ap2,o9,bF9 h1 h2 h3 a,bi7 h1 h2 h3 r]
end
theorem sh1{F o v:AV}(h1:a02 o=true)(h2:a02 F=true)(h:a06 o v=true):a06 F v=true:=by
 have hv:a02 v=true:=by
  cases o<;>first
   |(exfalso;simp[a02]at h1;done)
   |(simp only[a06]at h;cases v<;>first|rfl|((cases h;done)))
 cases F<;>first
  |(exfalso;simp[a02]at h2;done)
  |(simp only[a06];cases v<;>first|rfl|((cases hv;done)))
mutual
theorem cC5{F:AV→AV}(h1: ∀l,F (.agg l)= .agg (l.map F))(h2: ∀l,F (.tup l)= .tup (l.map F))(h3: ∀x,a02 x=true→a02 (F x)=true): ∀(o v:AV),a06 o v=true→a06 (F o) v=true
 | .agg l,v,h=>by
   rw[h1]
   simp only[a06]at h⊢
   split at h
   ·rw[m7];exact h
   ·cases h
 | .tup l,v,h=>by
   rw[h2]
   simp only[a06]at h⊢
   split at h
   ·exact c93 h1 h2 h3 l _ h
   ·cases h
 | .bool a,v,h=>sh1 rfl (h3 _ rfl) h
 | .int a b,v,h=>sh1 rfl (h3 _ rfl) h
 | .str a,v,h=>sh1 rfl (h3 _ rfl) h
 | .nilp,v,h=>sh1 rfl (h3 _ rfl) h
 | .ptr a b,v,h=>sh1 rfl (h3 _ rfl) h
 | .glob a,v,h=>sh1 rfl (h3 _ rfl) h
 | .nils,v,h=>sh1 rfl (h3 _ rfl) h
 | .sl a b c d,v,h=>sh1 rfl (h3 _ rfl) h
 | .us a b c d,v,h=>sh1 rfl (h3 _ rfl) h
 | .es a b c,v,h=>sh1 rfl (h3 _ rfl) h
 | .es0,v,h=>sh1 rfl (h3 _ rfl) h
 | .nilm,v,h=>sh1 rfl (h3 _ rfl) h
 | .map a,v,h=>sh1 rfl (h3 _ rfl) h
 | .nilf,v,h=>sh1 rfl (h3 _ rfl) h
 | .func a b c,v,h=>sh1 rfl (h3 _ rfl) h
 | .yield a,v,h=>sh1 rfl (h3 _ rfl) h
 | .nili,v,h=>sh1 rfl (h3 _ rfl) h
 | .iface a b,v,h=>sh1 rfl (h3 _ rfl) h
 | .opq a,v,h=>sh1 rfl (h3 _ rfl) h
 | .oint a b,v,h=>sh1 rfl (h3 _ rfl) h
 | .ostr a,v,h=>sh1 rfl (h3 _ rfl) h
 | .obool a,v,h=>sh1 rfl (h3 _ rfl) h
 | .osl a b c d,v,h=>sh1 rfl (h3 _ rfl) h
 | .optr a b c d,v,h=>sh1 rfl (h3 _ rfl) h
 | .ous a b c,v,h=>sh1 rfl (h3 _ rfl) h
 | .atl a,v,h=>sh1 rfl (h3 _ rfl) h
 | .any,v,h=>sh1 rfl (h3 _ rfl) h
theorem c93{F:AV→AV}(h1: ∀l,F (.agg l)= .agg (l.map F))(h2: ∀l,F (.tup l)= .tup (l.map F))(h3: ∀x,a02 x=true→a02 (F x)=true): ∀(o v:List AV),a80 o v=true→a80 (o.map F) v=true
 | [],v,h=>h
 |a::r,v,h=>by
  simp only[a80,k6]at h⊢
  split at h
  ·rw[e9]at h⊢
   exact⟨cC5 h1 h2 h3 a _ h.1,c93 h1 h2 h3 r _ h.2⟩
  ·cases h
end
theorem aB4(Q:Nat→SX): ∀l:List AV,ap3 Q l=l.map (ae0 Q)
 | []=>rfl
 |a::r=>by simp only[ap3,k6,aB4 Q r]
theorem aQ4(ρ:Nat→Nat): ∀l:List AV,aF7 ρ l=l.map (aT9 ρ)
 | []=>rfl
 |a::r=>by simp only[aF7,k6,aQ4 ρ r]
theorem c94{F:AV→AV}: ∀{ps:List AV} {us:List Value},ps.length=us.length→(∀(k:Nat) (p:AV) (u:Value),ps[k]? =some p→us[k]? =some u→VR β ω (F p) u)→VRs β ω (ps.map F) us
 | [],[],_,_=>rfl
 | [],_::_,h,_=>by cases h
 |_::_,[],h,_=>by cases h
 |p::ps,u::us,h,hk=>⟨u,us,rfl,hk 0 p u rfl rfl,c94 (by simpa using h) (fun k q v h1 h2=>hk (k+1) q v (by simpa using h1) (by simpa using h2))⟩
end Go.Ev
