import Derived.Test.YtbfbcanipfnfeaaE32
import Derived.Test.YtbfbcanipfnfeaaE2f
set_option linter.unusedSimpArgs false
set_option linter.unusedVariables false
namespace Go.Ev
open Go
variable{ω:Opq}{β:Bij}{K:Nat→Prop}{w0 w:World}{h:Heap}
theorem at1(ω:Opq): ∀l:List SX,N2 ω l=l.map (den ω)
 | []=>rfl
 |a::r=>by simp only[N2,j9,at1 ω r]
mutual
theorem ag9{es:List SX}: ∀e:SX,R5 es.length e=true→den ω (a80 es e)=den (ω.upd 0 (N2 ω es)) e
 | .ci _,_=>rfl
 | .cs _,_=>rfl
 | .cb _,_=>rfl
 | .va n,h=>by
   simp only[R5,N9]at h
   simp only[a80]
   rw[d9,j0 h]
   have:=bd1 (ω:=ω) (v0:=0) (l:=N2 ω es) (j:=n) (x:=den ω es[n]) (by rw[at1,r5,j0 h];rfl)
   rw[i3]at this
   simp only[Option.getD_some,den]
   exact this.symm
 | .op p l,h=>by
   simp only[R5]at h
   simp only[a80,den]
   rw[ax6 l h]
 | .app f l,h=>by
   simp only[R5]at h
   simp only[a80,den]
   rw[ax6 l h];rfl
theorem ax6{es:List SX}: ∀l:List SX,a65 es.length l=true→N2 ω (aM8 es l)=N2 (ω.upd 0 (N2 ω es)) l
 | [],_=>rfl
 |a::r,h=>by
  simp only[a65,d6]at h
  simp only[aM8,N2]
  rw[ag9 a h.1,ax6 r h.2]
end
noncomputable def a47(β:Bij)(ω:Opq)(sz:Nat)(x:AV):Option Loc:=match x with
 | .osl b off len _=>if 0<dI ω len then(β b).map fun L=>⟨L.blk,L.off+(dI ω off).toNat*sz,(dI ω len).toNat*sz⟩else none
 | .ous b len _=>if 0<dI ω len then(β b).map fun L=>⟨L.blk,L.off,(dI ω len).toNat*sz⟩else none
 | .sl b o n _=>if 0<n then(β b).map fun L=>⟨L.blk,L.off+o,n*sz⟩else none
 | .us b o n _=>if 0<n then(β b).map fun L=>⟨L.blk,L.off+o,n*sz⟩else none
 |_=>none
theorem bz7{sig:List CT}{e:Nat}{l lx:SX}{L:Loc}{o:Option Obj}{p n:Nat}(r:BR β ω L o (.arr e sig l))(hp:p+n≤(dL ω l).length)(hl:dL ω lx=((dL ω l).drop p).take n):
 BR β ω ⟨L.blk,L.off+p*sig.length,n*sig.length⟩ o (.arr e sig lx):=by
 obtain⟨C,e',lo,hi,q1,q0,q2,q3,q4,q5⟩:=r
 have hle:(p+n)*sig.length≤(dL ω l).length*sig.length:=t8 _ hp
 rw[l7]at hle
 have hn:(dL ω lx).length=n:=by rw[hl,e9,l6];omega
 refine⟨C,e',lo,hi,q1,q0,by show L.off+p*sig.length+n*sig.length≤C.size;omega,by rw[hn];exact b9 _,fun i v hv=> ?_,fun i hq=> ?_⟩
 ·show C[L.off+p*sig.length+i]? =some v
  rw[hl]at hv
  rw[show L.off+p*sig.length+i=L.off+(p*sig.length+i) by omega]
  apply q4
  have e1:dL ω l=(dL ω l).take p++(((dL ω l).drop p).take n++((dL ω l).drop p).drop n):=by
   rw[p8,p8]
  rw[e1,ab2,ab2]
  have hl1:(N7 sig ((dL ω l).take p)).length=p*sig.length:=by rw[O3,e9];congr 1;omega
  rw[j3 (by omega),hl1,show p*sig.length+i-p*sig.length=i by omega]
  rw[j5]
  ·exact hv
  ·rcases d8 i (N7 sig (((dL ω l).drop p).take n)).length with hh|hh
   ·exact hh
   ·rw[j7 hh]at hv;cases hv
 ·have hq:i<n*sig.length:=hq
  have:=q5 (p*sig.length+i) (by omega)
  show¬(lo≤L.off+p*sig.length+i∧L.off+p*sig.length+i<hi)
  rw[show L.off+p*sig.length+i=L.off+(p*sig.length+i) by omega];exact this
theorem ak4{sig:List CT}{e fz:Nat}{cs:List AV}{lx:SX}{rs:List SX}{L:Loc}{o:Option Obj}{p n:Nat}(r:BR β ω L o (.cells e fz cs))(hf:fz≤p)(hp:p+n*sig.length≤cs.length)
 (hrs:an3 sig sig.length n ((cs.drop p).take (n*sig.length))=some rs) (hl:dL ω lx=N2 ω rs):BR β ω ⟨L.blk,L.off+p,n*sig.length⟩ o (.arr e sig lx)∧(dL ω lx).length=n:=by
 obtain⟨C,lo,hi,vs,q1,q2,q3,q4,q5,q6,q7,q8⟩:=r
 have hvl:=q5.length
 have hsub:VRs β ω ((cs.drop p).take (n*sig.length)) ((vs.drop p).take (n*sig.length)):=(q5.drop _).take _
 obtain⟨z1,z2⟩:=a57 hrs (by simp;omega) hsub
 refine⟨⟨C,_,lo,hi,q1,.inl rfl,by show L.off+p+n*sig.length≤C.size;omega,by rw[hl,z2];exact b9 _,fun i v hv=> ?_,fun i hq=> ?_⟩,by rw[hl,z2]⟩
 ·show C[L.off+p+i]? =some v
  rw[hl,←z1]at hv
  have hlt:i<n*sig.length:=by
   rcases d8 i (n*sig.length)with hh|hh
   ·exact hh
   ·rw[j7 (by simp;omega)]at hv;cases hv
  rw[show L.off+p+i=L.off+(p+i) by omega,q6 (p+i) (by omega)]
  rw[n8,if_pos hlt,o9]at hv
  exact hv
 ·have hq:i<n*sig.length:=hq
  have:=q7 (p+i) (by omega) (by omega)
  show¬(lo≤L.off+p+i∧L.off+p+i<hi)
  rw[show L.off+p+i=L.off+(p+i) by omega];exact this
theorem aX1{a b:SX}(h:dB ω (aG1 a b)=true):dB ω a=true∧dB ω b=true:=by
 rw[bm3,d6]at h;exact h
structure ViewOk (β:Bij) (ω:Opq) (w:World) (h:Heap) (elem:Nat) (sig:List CT) (x:AV) (v:Value) (l:SX):Prop where
 br: ∀L,a47 β ω sig.length x=some L→BR β ω L w.heap[L.blk]? (.arr elem sig l)
 sl:VR β ω x v→(∃L cap a,a47 β ω sig.length x=some L∧v= .slice (some a) (dL ω l).length cap∧(dL ω l).length≤cap∧a=⟨L.blk,L.off,none⟩)∨((dL ω l).length=0∧ ∃a cap,v= .slice a 0 cap∧(a=none→cap=0))
theorem bp1{sz:Nat}{x:AV}{L:Loc}(e:a47 β ω sz x=some L): ∃b M,a31 (.view x)=some b∧β b=some M∧M.blk=L.blk:=by
 unfold a47 at e
 split at e
 all_goals first
  |(split at e
    ·obtain⟨M,hM,rfl⟩:=j4.1 e
     exact⟨_,M,rfl,hM,rfl⟩
    ·cases e)
  |cases e
theorem bL0{sz elem:Nat}{sig:List CT}{x:AV}{nd l:SX}{b:Nat}(e:c29 sz elem sig x h=some (nd,l))(hb:a31 (.view x)=some b): ∃y,h.get b=some y:=by
 cases x<;>simp only[a31,a8,reduceCtorEq]at hb<;>subst hb<;>simp only[c29]at e<;>split at e<;>first|(rename_i hg;exact⟨_,hg⟩)|cases e
theorem cl0(r:HR β ω K w0 h w){elem:Nat}{sig:List CT}{x:AV}{v:Value}{nd l:SX}(e:c29 sig.length elem sig x h=some (nd,l))(hd:dB ω nd=true):ViewOk β ω w h elem sig x v l:=by
 unfold c29 at e
 split at e
 ·simp only[a8,d7]at e
  obtain⟨rfl,rfl⟩:=e
  exact⟨fun L hL=>by simp only[a47,reduceCtorEq]at hL,fun rv=> .inr ⟨rfl,none,0,rv,fun _=>rfl⟩⟩
 ·rename_i b len s
  split at e
  ·rename_i e0 sg l0 hg
   replace e:=M7 e
   obtain⟨hc,e⟩:=e
   obtain⟨hc,c3⟩:=M6 hc
   obtain⟨c1,c2⟩:=M6 hc
   obtain rfl:=M8.1 c1
   obtain rfl:=M8.1 c2
   obtain rfl:=V6 c3
   have main:0≤dI ω len→(dI ω len).toNat≤(dL ω l0).length→dL ω l=(dL ω l0).take (dI ω len).toNat→ViewOk β ω w h e0 sg (.ous b len sg.length) v l:=by
    intro h0 hle hl
    have hll:(dL ω l).length=(dI ω len).toNat:=by rw[hl,e9];omega
    constructor
    ·intro L hL
     simp only[a47]at hL
     split at hL
     ·obtain⟨M,hM,rfl⟩:=j4.1 hL
      have:=bz7 (p:=0) (n:=(dI ω len).toNat) (lx:=l) (r.blk b _ M hg hM) (by omega) (by simpa using hl)
      simpa using this
     ·cases hL
    ·intro rv
     simp only[VR]at rv
     rcases rv with⟨L,cap,hL,hcap,hv,hlc⟩|⟨hv,hz⟩
     ·by_cases hp:0<dI ω len
      ·refine .inl ⟨⟨L.blk,L.off,(dI ω len).toNat*sg.length⟩,cap,_,?_,by rw[hll];exact hv,by rw[hll];exact hlc,rfl⟩
       simp only[a47,if_pos hp,hL,Option.map_some]
      ·refine .inr ⟨by rw[hll];omega,some ⟨L.blk,L.off,none⟩,cap,?_,fun hh=>(by cases hh)⟩
       rw[hv,show(dI ω len).toNat=0 by omega]
     ·exact .inr ⟨by rw[hll,hz];rfl,none,0,hv,fun _=>rfl⟩
   cases hq:SX.beq len (.op .llen [l0])with
   |true=>
    rw[hq]at e
    simp only[cond_true,a8,d7]at e
    obtain⟨rfl,rfl⟩:=e
    have hlen:=SX.beq_eq _ _ hq
    have:dI ω len=((dL ω l0).length:Int):=by rw[hlen,S9]
    refine main (by omega) (by omega) ?_
    rw[this];simp
   |false=>
    rw[hq]at e
    simp only[cond_false,a8,d7]at e
    obtain⟨rfl,rfl⟩:=e
    rw[ae3,d6]at hd
    have d1:0≤dI ω len:=of_decide_eq_true hd.1
    have d2:dI ω len≤((dL ω l0).length:Int):=of_decide_eq_true hd.2
    refine main d1 (by omega) ?_
    show((dL ω l0).drop (0:Int).toNat).take (dI ω len-0).toNat=_
    simp
  ·cases e
 ·rename_i b off len s
  split at e
  ·rename_i e0 sg l0 hg
   replace e:=M7 e
   obtain⟨hc,e⟩:=e
   obtain⟨hc,c3⟩:=M6 hc
   obtain⟨c1,c2⟩:=M6 hc
   obtain rfl:=M8.1 c1
   obtain rfl:=M8.1 c2
   obtain rfl:=V6 c3
   have main:0≤dI ω off→0≤dI ω len→(dI ω off).toNat+(dI ω len).toNat≤(dL ω l0).length→dL ω l=((dL ω l0).drop (dI ω off).toNat).take (dI ω len).toNat→ViewOk β ω w h e0 sg (.osl b off len sg.length) v l:=by
    intro h1 h0 hle hl
    have hll:(dL ω l).length=(dI ω len).toNat:=by rw[hl,e9,l6];omega
    constructor
    ·intro L hL
     simp only[a47]at hL
     split at hL
     ·obtain⟨M,hM,rfl⟩:=j4.1 hL
      exact bz7 (r.blk b _ M hg hM) hle hl
     ·cases hL
    ·intro rv
     simp only[VR]at rv
     rcases rv with⟨L,cap,a,hL,hv,hlc,ha⟩|⟨a,cap,hv,hac,hz⟩
     ·by_cases hp:0<dI ω len
      ·refine .inl ⟨⟨L.blk,L.off+(dI ω off).toNat*sg.length,(dI ω len).toNat*sg.length⟩,cap,a,?_,by rw[hll];exact hv,by rw[hll];exact hlc,ha hp⟩
       simp only[a47,if_pos hp,hL,Option.map_some]
      ·refine .inr ⟨by rw[hll];omega,some a,cap,?_,fun hh=>(by cases hh)⟩
       rw[hv,show(dI ω len).toNat=0 by omega]
     ·exact .inr ⟨by rw[hll,hz];rfl,a,cap,hv,hac⟩
   cases hq:(SX.beq off (.ci 0)&&SX.beq len (.op .llen [l0]))with
   |true=>
    rw[hq]at e
    simp only[cond_true,a8,d7]at e
    obtain⟨rfl,rfl⟩:=e
    rw[d6]at hq
    have ho:=SX.beq_eq _ _ hq.1
    have hlen:=SX.beq_eq _ _ hq.2
    have t1:dI ω len=((dL ω l0).length:Int):=by rw[hlen,S9]
    have t2:dI ω off=0:=by rw[ho,aI7]
    refine main (by omega) (by omega) (by omega) ?_
    rw[t1,t2];simp
   |false=>
    rw[hq]at e
    simp only[cond_false,a8,d7]at e
    obtain⟨rfl,rfl⟩:=e
    rw[ae3,ae3,d6,d6]at hd
    have d1:0≤dI ω off:=of_decide_eq_true hd.1
    have d2:0≤dI ω len:=of_decide_eq_true hd.2.1
    have d3:dI ω off+dI ω len≤((dL ω l0).length:Int):=of_decide_eq_true hd.2.2
    refine main d1 d2 (by omega) ?_
    show((dL ω l0).drop (dI ω off).toNat).take (dI ω off+dI ω len-dI ω off).toNat=_
    congr 2;omega
  ·cases e
 ·rename_i b o n c
  split at e
  ·rename_i e0 fz cs hg
   replace e:=M7 e
   obtain⟨hc,e⟩:=e
   obtain⟨hc,c5⟩:=M6 hc
   obtain⟨hc,c4⟩:=M6 hc
   obtain⟨hc,c3⟩:=M6 hc
   obtain⟨c1,c2⟩:=M6 hc
   obtain rfl:=M8.1 c1
   rw[N1]at c2 c3 c4
   rw[N9]at c5
   unfold ck3 at e
   split at e
   ·rename_i rs hrs
    simp only[a8,d7]at e
    obtain⟨rfl,rfl⟩:=e
    constructor
    ·intro M hM
     simp only[a47,if_pos c5]at hM
     obtain⟨L,hL,rfl⟩:=j4.1 hM
     exact(ak4 (lx:= .op .row rs) (r.blk b _ L hg hL) c3 c4 hrs rfl).1
    ·intro rv
     simp only[VR]at rv
     obtain⟨L,hL,hv⟩:=rv
     obtain⟨p1,p2⟩:=ak4 (lx:= .op .row rs) (r.blk b _ L hg hL) c3 c4 hrs rfl
     refine .inl ⟨⟨L.blk,L.off+o,n*sig.length⟩,c,_,?_,by rw[p2];exact hv,by rw[p2];exact c2,rfl⟩
     simp only[a47,if_pos c5,hL,Option.map_some]
   ·cases e
  ·cases e
 ·rename_i b o n s
  split at e
  ·rename_i e0 fz cs hg
   replace e:=M7 e
   obtain⟨hc,e⟩:=e
   obtain⟨hc,c4⟩:=M6 hc
   obtain⟨hc,c3⟩:=M6 hc
   obtain⟨hc,c1⟩:=M6 hc
   obtain⟨cz,c0⟩:=M6 hc
   obtain rfl:=M8.1 c0
   obtain rfl:=M8.1 c1
   rw[N9]at cz
   rw[N1]at c3 c4
   unfold ck3 at e
   split at e
   ·rename_i rs hrs
    simp only[a8,d7]at e
    obtain⟨rfl,rfl⟩:=e
    constructor
    ·intro M hM
     simp only[a47]at hM
     split at hM
     ·obtain⟨L,hL,rfl⟩:=j4.1 hM
      exact(ak4 (lx:= .op .row rs) (r.blk b _ L hg hL) c3 c4 hrs rfl).1
     ·cases hM
    ·intro rv
     simp only[VR]at rv
     obtain⟨L,cap,hL,hcap,hv⟩:=rv
     have hbr:=r.blk b _ L hg hL
     obtain⟨p1,p2⟩:=ak4 (lx:= .op .row rs) hbr c3 c4 hrs rfl
     by_cases hp:0<n
     ·refine .inl ⟨⟨L.blk,L.off+o,n*sig.length⟩,cap,_,?_,by rw[p2];exact hv,?_,rfl⟩
      ·simp only[a47,if_pos hp,hL,Option.map_some]
      ·rw[p2]
       obtain⟨_,_,_,_,_,_,q3,_⟩:=hbr
       have:n*sig.length≤cap*sig.length:=by omega
       exact A1 this cz
     ·refine .inr ⟨by rw[p2];omega,some ⟨L.blk,L.off+o,none⟩,cap,?_,fun hh=>(by cases hh)⟩
      rw[hv,show n=0 by omega]
   ·cases e
  ·cases e
 ·cases e
theorem bL1{sz elem:Nat}{sig:List CT}{x:AV}{nd l:SX}{b:Nat}(e:bK6 sz elem sig x h=some (nd,l))(hb:a31 (.view x)=some b): ∃y,h.get b=some y:=bL0 e hb
theorem bz8(r:HR β ω K w0 h w){elem:Nat}{sig:List CT}{x:AV}{v:Value}{nd l:SX}(e:bK6 sig.length elem sig x h=some (nd,l))(hd:dB ω nd=true):ViewOk β ω w h elem sig x v l:=by
 have:=cl0 (v:=v) r e hd
 refine⟨fun L hL=> ?_,this.sl⟩
 obtain⟨C,e',lo,hi,q1,q0,q⟩:=this.br L hL
 refine⟨C,e',lo,hi,q1,?_,q⟩
 unfold cs6 at q0
 cases hb:Nat.beq elem an1 with
 |true=>exact .inr (M8.1 hb)
 |false=>rw[hb]at q0;exact q0
theorem cX8(r:HR β ω K w0 h w){elem:Nat}{sig:List CT}{x:AV}{nd l:SX}(e:bK6 sig.length elem sig x h=some (nd,l))(hd:dB ω nd=true)(L:Loc)(hL:a47 β ω sig.length x=some L):BR β ω L w.heap[L.blk]? (.arr elem sig l):=
 (bz8 (v:= .bool true) r e hd).br L hL
end Go.Ev
namespace Go.Ev
open Go
variable{ω ω':Opq}{β βc:Bij}{K:Nat→Prop}{w0 w:World}{h:Heap}
def cX9:Option Blk→Nat
 |some (.arr _ sig _)=>sig.length
 |_=>0
noncomputable def bnd(β:Bij)(ω:Opq)(src:List BSrc)(blks:List Blk):Bij:=fun i=>match src[i]? with
  |some (.whole b)=>β b
  |some (.view x)=>a47 β ω (cX9 blks[i]?) x
  |none=>none
theorem Q0{p:AV}{v:Value}(hp:aA1 p=true)(r:VR β ω p v):VR βc ω' p v:=by
 cases p<;>simp only[aA1,i4]at hp<;>exact r
theorem ak5{s:Option BSrc}{b:Nat}(e:ax5 s b=true):s=some (.whole b):=by
 unfold ax5 at e
 split at e
 ·obtain rfl:=M8.1 e;rfl
 ·cases e
theorem bp2{s:Option BSrc}{x:AV}(e:b35 s x=true):s=some (.view x):=by
 unfold b35 at e
 split at e
 ·rw[AV.beq_eq _ _ e]
 ·cases e
section
variable{src:List BSrc}{es:List SX}{blks:List Blk}{nb:Nat}
theorem b37{p x:SX}(hω:ω'=ω.upd 0 (N2 ω es))(hf:R5 es.length p=true)(e:SX.beq (a80 es p) x=true):den ω' p=den ω x:=by
 rw[hω,←ag9 p hf,SX.beq_eq _ _ e]
theorem cl1(ω:Opq)(e:SX):den ω (da1 e)=den ω e:=by
 unfold da1
 split
 ·rename_i l k
  split
  ·rename_i x hx
   have:(N2 ω l)[k]? =some (den ω x):=by
    rw[at1,r5,hx];rfl
   show den ω x=Q5 [.vl (N2 ω l)] (Int.ofNat 0) (Int.ofNat k)
   show den ω x=(N2 ω l).getD k default
   rw[d9,this];rfl
  ·rfl
 ·rfl
theorem aN3{p x:SX}(hω:ω'=ω.upd 0 (N2 ω es))(hf:R5 es.length p=true)(e:cX3 es p x=true):den ω' p=den ω x:=by
 rw[hω,←ag9 p hf,←cl1,SX.beq_eq _ _ e]
theorem cl2(hω:ω'=ω.upd 0 (N2 ω es))(hw: ∀i b,src[i]? =some (.whole b)→βc i=β b){i s:Nat}{p q:SX}{x:AV}{v:Value}(f1:R5 es.length p=true)(f2:R5 es.length q=true)(e:cD9 src es i p q s x=true)(rv:VR β ω x v):VR βc ω' (.osl i p q s) v:=by
 unfold cD9 at e
 split at e
 ·obtain⟨e,e4⟩:=M6 e
  obtain⟨e,e3⟩:=M6 e
  obtain⟨e1,e2⟩:=M6 e
  obtain rfl:=M8.1 e1
  have k1:dI ω' p=dI ω _:=congrArg Val.toI (aN3 hω f1 e3)
  have k2:dI ω' q=dI ω _:=congrArg Val.toI (aN3 hω f2 e4)
  simp only[VR]at rv⊢
  rw[k1,k2,hw _ _ (ak5 e2)];exact rv
 ·cases e
theorem cl3(hω:ω'=ω.upd 0 (N2 ω es))(hw: ∀i b,src[i]? =some (.whole b)→βc i=β b){i s:Nat}{q:SX}{x:AV}{v:Value}(f2:R5 es.length q=true)(e:cE0 src es i q s x=true)(rv:VR β ω x v):VR βc ω' (.ous i q s) v:=by
 unfold cE0 at e
 split at e
 ·obtain⟨e,e4⟩:=M6 e
  obtain⟨e1,e2⟩:=M6 e
  obtain rfl:=M8.1 e1
  have k2:dI ω' q=dI ω _:=congrArg Val.toI (b37 hω f2 e4)
  simp only[VR]at rv⊢
  rw[k2,hw _ _ (ak5 e2)];exact rv
 ·cases e
theorem cl4(hw: ∀i b,src[i]? =some (.whole b)→βc i=β b){i o:Nat}{x:AV}{v:Value}(e:cE1 src i o x=true)(rv:VR β ω x v):VR βc ω' (.ptr i o) v:=by
 unfold cE1 at e
 split at e
 ·obtain⟨e1,e2⟩:=M6 e
  obtain rfl:=M8.1 e1
  simp only[VR]at rv⊢
  rw[hw _ _ (ak5 e2)];exact rv
 ·cases e
theorem cE5(hw: ∀i b,src[i]? =some (.whole b)→βc i=β b){i o n c:Nat}{x:AV}{v:Value}(e:da2 src i o n c x=true)(rv:VR β ω x v):VR βc ω' (.sl i o n c) v:=by
 unfold da2 at e
 split at e
 ·obtain⟨e,e2⟩:=M6 e
  obtain⟨e,e4⟩:=M6 e
  obtain⟨e1,e3⟩:=M6 e
  obtain rfl:=M8.1 e1
  obtain rfl:=M8.1 e3
  obtain rfl:=M8.1 e4
  simp only[VR]at rv⊢
  rw[hw _ _ (ak5 e2)];exact rv
 ·cases e
theorem cY0(hω:ω'=ω.upd 0 (N2 ω es)){k:IntKind}{p:SX}{x:AV}{v:Value}(f:R5 es.length p=true)(e:ckI es k p (aS2 x)=true)(rv:VR β ω x v):v= .int k (dI ω' p):=by
 unfold ckI at e
 split at e
 ·rename_i k' x' hx
  obtain⟨e1,e2⟩:=M6 e
  obtain rfl:=of_decide_eq_true e1
  rw[a10 hx rv]
  exact congrArg (fun z:Val=>Value.int k z.toI) (aN3 hω f e2).symm
 ·cases e
mutual
theorem cs7(hω:ω'=ω.upd 0 (N2 ω es))(hw: ∀i b,src[i]? =some (.whole b)→βc i=β b)(hv: ∀i s p q x v,aM9 p q=true→c30 blks i s q=true→src[i]? =some (.view x)→VR β ω x v→VR βc ω' (.osl i p q s) v):
 ∀(p x:AV) (v:Value),okA es.length nb p=true→ckA src es blks p x=true→VR β ω x v→VR βc ω' p v
 | .oint k p,x,v,f,e,r=>by simp only[okA]at f;simp only[ckA]at e;exact cY0 hω f e r
 | .ostr p,x,v,f,e,r=>by
   simp only[okA]at f;simp only[ckA]at e
   unfold ckX at e
   split at e
   ·rename_i y hy
    show v= .string ⟨(dS ω' p).toArray⟩
    rw[ad0 hy r]
    exact congrArg (fun z:Val=>Value.string ⟨z.toS.toArray⟩) (aN3 hω f e).symm
   ·cases e
 | .obool p,x,v,f,e,r=>by
   simp only[okA]at f;simp only[ckA]at e
   unfold ckX at e
   split at e
   ·rename_i y hy
    show v= .bool (dB ω' p)
    rw[af8 hy r]
    exact congrArg (fun z:Val=>Value.bool z.toB) (aN3 hω f e).symm
   ·cases e
 | .agg ps,x,v,f,e,r=>by
   simp only[okA]at f;simp only[ckA]at e
   split at e
   ·obtain⟨us,rfl,ru⟩:=r
    exact⟨us,rfl,ax7 hω hw hv ps _ _ f e ru⟩
   ·cases e
 | .iface t p,x,v,f,e,r=>by
   simp only[okA]at f;simp only[ckA]at e
   split at e
   ·obtain⟨e1,e2⟩:=M6 e
    obtain rfl:=M8.1 e1
    obtain⟨y,rfl,ry⟩:=r
    exact⟨y,rfl,cs7 hω hw hv p _ _ f e2 ry⟩
   ·cases e
 | .func fn a b,x,v,f,e,r=>by
   simp only[okA,d6]at f;simp only[ckA]at e
   split at e
   ·obtain⟨e,e3⟩:=M6 e
    obtain⟨e1,e2⟩:=M6 e
    obtain rfl:=of_decide_eq_true e1
    obtain⟨n,y,z,rfl,r1,r2⟩:=r
    exact⟨n,y,z,rfl,ax7 hω hw hv a _ _ f.1 e2 r1,ax7 hω hw hv b _ _ f.2 e3 r2⟩
   ·cases e
 | .ptr i o,x,v,f,e,r=>by simp only[ckA]at e;exact cl4 hw e r
 | .osl i p q s,x,v,f,e,r=>by
   simp only[okA,d6]at f;simp only[ckA]at e
   cases hq:aM9 p q with
   |true=>
    rw[hq]at e
    simp only[cond_true]at e
    obtain⟨e1,e2⟩:=M6 e
    exact hv i s p q x v hq e1 (bp2 e2) r
   |false=>
    rw[hq]at e
    exact cl2 hω hw f.1.2 f.2 e r
 | .ous i q s,x,v,f,e,r=>by
   simp only[okA,d6]at f;simp only[ckA]at e
   exact cl3 hω hw f.2 e r
 | .bool _,x,v,f,e,r=>by simp only[ckA]at e;obtain⟨e1,e2⟩:=M6 e;rw[←AV.beq_eq _ _ e2]at r;exact Q0 e1 r
 | .int _ _,x,v,f,e,r=>by simp only[ckA]at e;obtain⟨e1,e2⟩:=M6 e;rw[←AV.beq_eq _ _ e2]at r;exact Q0 e1 r
 | .str _,x,v,f,e,r=>by simp only[ckA]at e;obtain⟨e1,e2⟩:=M6 e;rw[←AV.beq_eq _ _ e2]at r;exact Q0 e1 r
 | .nilp,x,v,f,e,r=>by simp only[ckA]at e;obtain⟨e1,e2⟩:=M6 e;rw[←AV.beq_eq _ _ e2]at r;exact Q0 e1 r
 | .glob _,x,v,f,e,r=>by simp only[ckA]at e;obtain⟨e1,e2⟩:=M6 e;rw[←AV.beq_eq _ _ e2]at r;exact Q0 e1 r
 | .nils,x,v,f,e,r=>by simp only[ckA]at e;obtain⟨e1,e2⟩:=M6 e;rw[←AV.beq_eq _ _ e2]at r;exact Q0 e1 r
 | .sl _ _ _ _,x,v,f,e,r=>by simp only[ckA]at e;exact cE5 hw e r
 | .us _ _ _ _,x,v,f,e,r=>by simp only[ckA]at e;obtain⟨e1,e2⟩:=M6 e;rw[←AV.beq_eq _ _ e2]at r;exact Q0 e1 r
 | .es _ _ _,x,v,f,e,r=>by simp only[ckA]at e;obtain⟨e1,e2⟩:=M6 e;rw[←AV.beq_eq _ _ e2]at r;exact Q0 e1 r
 | .es0,x,v,f,e,r=>by simp only[ckA]at e;obtain⟨e1,e2⟩:=M6 e;rw[←AV.beq_eq _ _ e2]at r;exact Q0 e1 r
 | .nilm,x,v,f,e,r=>by simp only[ckA]at e;obtain⟨e1,e2⟩:=M6 e;rw[←AV.beq_eq _ _ e2]at r;exact Q0 e1 r
 | .map _,x,v,f,e,r=>by simp only[ckA]at e;obtain⟨e1,e2⟩:=M6 e;rw[←AV.beq_eq _ _ e2]at r;exact Q0 e1 r
 | .nilf,x,v,f,e,r=>by simp only[ckA]at e;obtain⟨e1,e2⟩:=M6 e;rw[←AV.beq_eq _ _ e2]at r;exact Q0 e1 r
 | .yield _,x,v,f,e,r=>by simp only[ckA]at e;obtain⟨e1,e2⟩:=M6 e;rw[←AV.beq_eq _ _ e2]at r;exact Q0 e1 r
 | .nili,x,v,f,e,r=>by simp only[ckA]at e;obtain⟨e1,e2⟩:=M6 e;rw[←AV.beq_eq _ _ e2]at r;exact Q0 e1 r
 | .tup _,x,v,f,e,r=>by simp only[ckA]at e;obtain⟨e1,e2⟩:=M6 e;rw[←AV.beq_eq _ _ e2]at r;exact Q0 e1 r
 | .opq _,x,v,f,e,r=>by simp only[ckA]at e;obtain⟨e1,e2⟩:=M6 e;rw[←AV.beq_eq _ _ e2]at r;exact Q0 e1 r
 | .optr _ _ _ _,x,v,f,e,r=>by simp only[ckA]at e;obtain⟨e1,e2⟩:=M6 e;rw[←AV.beq_eq _ _ e2]at r;exact Q0 e1 r
 | .atl _,x,v,f,e,r=>by simp only[ckA]at e;obtain⟨e1,e2⟩:=M6 e;rw[←AV.beq_eq _ _ e2]at r;exact Q0 e1 r
 | .any,x,v,f,e,r=>trivial
theorem ax7(hω:ω'=ω.upd 0 (N2 ω es))(hw: ∀i b,src[i]? =some (.whole b)→βc i=β b)(hv: ∀i s p q x v,aM9 p q=true→c30 blks i s q=true→src[i]? =some (.view x)→VR β ω x v→VR βc ω' (.osl i p q s) v):
 ∀(ps xs:List AV) (vs:List Value),bN0 es.length nb ps=true→cb8 src es blks ps xs=true→VRs β ω xs vs→VRs βc ω' ps vs
 | [],xs,vs,f,e,r=>by
   simp only[cb8]at e
   split at e
   ·exact r
   ·cases e
 |p::ps,xs,vs,f,e,r=>by
  simp only[bN0,d6]at f
  simp only[cb8]at e
  split at e
  ·obtain⟨e1,e2⟩:=M6 e
   obtain⟨v,vr,rfl,r1,r2⟩:=r
   exact⟨v,vr,rfl,cs7 hω hw hv p _ v f.1 e1 r1,ax7 hω hw hv ps _ vr f.2 e2 r2⟩
  ·cases e
end
end
theorem aN4: ∀(l:List Blk) (h:Heap),h.next+l.length≤65536→(∀b,h.next≤b→h.get b=none)→(a82 l h).next=h.next+l.length∧(a82 l h).wm=h.wm∧ ∀b,(a82 l h).get b=if b<h.next then h.get b else l[b-h.next]?
 | [],h,_,hf=>⟨rfl,rfl,fun b=>by
  simp only[a82]
  split
  ·rfl
  ·rw[hf b (by omega)];rfl⟩
 |x::r,h,hl,hf=>by
  simp only[List.length_cons]at hl
  obtain⟨h1,h2,h3⟩:=aN4 r (h.new x) (by simp only[Heap.next_new];omega) (fun b hb=>by
    simp only[Heap.next_new]at hb
    rw[Heap.get_new,if_neg (by omega)];exact hf b (by omega))
  refine⟨by simp only[a82,h1,Heap.next_new,List.length_cons];omega,by simp only[a82,h2,Heap.wm_new],fun b=> ?_⟩
  simp only[a82,h3,Heap.next_new,Heap.get_new]
  by_cases hb:b<h.next
  ·rw[if_pos (by omega),if_neg (by omega),if_pos hb]
  ·rw[if_neg hb]
   by_cases he:b=h.next
   ·subst he
    rw[if_pos (by omega),if_pos rfl,if_pos (by omega),x6];rfl
   ·rw[if_neg (by omega),show b-h.next=(b-(h.next+1))+1 by omega];rfl
@[simp]theorem Heap.get_setwm(h:Heap)(n b:Nat):(h.setwm n).get b=h.get b:=by cases h;rfl
@[simp]theorem Heap.next_setwm(h:Heap)(n:Nat):(h.setwm n).next=h.next:=by cases h;rfl
@[simp]theorem Heap.wm_setwm(h:Heap)(n:Nat):(h.setwm n).wm=n:=by cases h;rfl
theorem FC.heap_ok(c:FC)(hl:c.blks.length<60000):c.heap.next=c.blks.length∧c.heap.wm=c.mt∧ ∀b,c.heap.get b=c.blks[b]? :=by
 obtain⟨h1,h2,h3⟩:=aN4 c.blks Heap.empty (by show 0+_≤_;omega) (fun b _=>Heap.get_empty b)
 refine⟨by unfold FC.heap;rw[Heap.next_setwm,h1];exact Nat.zero_add _,by unfold FC.heap;rw[Heap.wm_setwm],fun b=> ?_⟩
 unfold FC.heap
 rw[Heap.get_setwm,h3]
 rw[if_neg (by exact Nat.not_lt_zero b)];rfl
def Kfc(β:Bij)(src:List BSrc)(mt:Nat)(w:World)(k:Nat):Prop:=k<w.heap.size∧ ∀i b L,mt≤i→src[i]? =some (.whole b)→β b=some L→k≠L.blk
section
variable{src:List BSrc}{es:List SX}{blks:List Blk}{mt:Nat}{args:List AV}
theorem aN5: ∀{ps:List Blk} {ss:List BSrc} {nd:SX},cX4 src es blks h ps ss=some nd→dB ω nd=true→ps.length=ss.length∧ ∀(i:Nat) (p:Blk) (s:BSrc),ps[i]? =some p→ss[i]? =some s→ ∃e,ckB src es blks h p s=some e∧dB ω e=true
 | [],[],nd,e,hd=>⟨rfl,fun i p s h1=>by simp at h1⟩
 | [],_::_,nd,e,hd=>by cases e
 |_::_,[],nd,e,hd=>by cases e
 |p::ps,s::ss,nd,e,hd=>by
  simp only[cX4]at e
  split at e
  ·rename_i a b ha hb
   simp only[a8]at e
   subst e
   obtain⟨d1,d2⟩:=aX1 hd
   obtain⟨l1,l2⟩:=aN5 hb d2
   refine⟨by simp[l1],fun i p' s' h1 h2=> ?_⟩
   cases i with
   |zero=>
    simp only[List.getElem?_cons_zero,a8]at h1 h2
    subst h1;subst h2;exact⟨a,ha,d1⟩
   |succ i=>
    simp only[List.getElem?_cons_succ]at h1 h2
    exact l2 i p' s' h1 h2
  ·cases e
theorem c34{blks:List Blk}{mt:Nat}{i:Nat}{s:BSrc}: ∀{r:List BSrc} {j:Nat},d51 blks mt h i s r j=true→ ∀k t,r[k]? =some t→cX5 blks mt h i (j+k) (a31 s) (a31 t)=true
 | [],j,e,k,t,hk=>by simp at hk
 |u::r,j,e,k,t,hk=>by
  simp only[d51,d6]at e
  cases k with
  |zero=>simp only[List.getElem?_cons_zero,a8]at hk;subst hk;exact e.1
  |succ k=>
   simp only[List.getElem?_cons_succ]at hk
   rw[show j+(k+1)=j+1+k by omega];exact c34 e.2 k t hk
theorem bp3{blks:List Blk}{mt:Nat}: ∀{ss:List BSrc} {i:Nat},seps blks mt h ss i=true→ ∀a b s t,a<b→ss[a]? =some s→ss[b]? =some t→cX5 blks mt h (i+a) (i+b) (a31 s) (a31 t)=true
 | [],i,e,a,b,s,t,hab,ha,hb=>by simp at ha
 |u::r,i,e,a,b,s,t,hab,ha,hb=>by
  simp only[seps,d6]at e
  obtain⟨b,rfl⟩: ∃b',b=b'+1:=⟨b-1,by omega⟩
  simp only[List.getElem?_cons_succ]at hb
  cases a with
  |zero=>
   simp only[List.getElem?_cons_zero,a8]at ha;subst ha
   have:=c34 e.1 b t hb
   rw[Nat.add_zero,show i+(b+1)=i+1+b by omega];exact this
  |succ a=>
   simp only[List.getElem?_cons_succ]at ha
   have:=bp3 e.2 a b s t (by omega) ha hb
   rw[show i+(a+1)=i+1+a by omega,show i+(b+1)=i+1+b by omega];exact this
theorem at2{b:Nat}: ∀{l:List AV} {vs:List Value},aW7 b l=true→VRs β ω l vs→β b≠none
 | [],vs,e,r=>by cases e
 |x::l,vs,e,⟨v,vr,_,r1,r2⟩=>by
  simp only[aW7,j8]at e
  rcases e with e|e
  ·split at e
   ·obtain rfl:=M8.1 e
    obtain⟨L,hL,_⟩:=r1
    rw[hL];simp
   ·cases e
  ·exact at2 e r2
theorem cl5(r:HR β ω K w0 h w){b c:Nat}(hc:β c≠none)(e:cE2 h b c=true):β b≠none:=by
 unfold cE2 at e
 split at e
 ·rename_i hg
  cases hL:β c with
  |none=>exact absurd hL hc
  |some L=>
   obtain⟨C,lo,hi,vs,_,_,_,_,q5,_⟩:=r.cells hg hL
   exact at2 e q5
 ·cases e
theorem bz9(r:HR β ω K w0 h w){us:List Value}(ra:VRs β ω args us){b:Nat}: ∀{l:List BSrc},ck4 args h b l=true→β b≠none
 | [],e=>by cases e
 |s::l,e=>by
  simp only[ck4,j8]at e
  rcases e with e|e
  ·split at e
   ·obtain⟨e1,e2⟩:=M6 e
    exact cl5 r (at2 e1 ra) e2
   ·cases e
  ·exact bz9 r ra e
theorem aD5(r:HR β ω K w0 h w){us:List Value}(ra:VRs β ω args us){all:List BSrc}{post:List (Option Blk)}: ∀{ss:List BSrc} {i:Nat},c32 mt args h all post ss i=true→ ∀k s,ss[k]? =some s→mt≤i+k→ ∃b,s= .whole b∧h.wm≤b∧b<h.next∧(β b≠none∨post[i+k-mt]? =some none∨ ∃e sig l,h.get b=some (.arr e sig l))
 | [],i,e,k,s,hk,hm=>by simp at hk
 |u::ss,i,e,k,s,hk,hm=>by
  simp only[c32,d6]at e
  cases k with
  |zero=>
   simp only[List.getElem?_cons_zero,a8]at hk;subst hk
   have e:=e.1
   rw[j8]at e
   rcases e with e|e
   ·rw[N9]at e;omega
   ·split at e
    ·obtain⟨e,e3⟩:=M6 e
     obtain⟨e1,e2⟩:=M6 e
     rw[N1]at e1
     rw[N9]at e2
     refine⟨_,rfl,e1,e2,?_⟩
     rw[j8,j8,j8]at e3
     rcases e3 with((e3|e3)|e3)|e3
     ·right;left
      unfold c31 at e3
      split at e3
      ·rename_i hx;exact hx
      ·cases e3
     ·exact .inl (at2 e3 ra)
     ·exact .inl (bz9 r ra e3)
     ·right;right
      unfold d50 at e3
      split at e3
      ·rename_i hx;exact⟨_,_,_,hx⟩
      ·cases e3
    ·cases e
  |succ k=>
   simp only[List.getElem?_cons_succ]at hk
   have:=aD5 r ra e.2 k s hk (by omega)
   rw[show i+(k+1)=i+1+k by omega];exact this
end
structure Bound (c:FC) (nv:Nat) (args:List AV) (h:Heap) (b:Binding):Prop where
 len:b.es.length=nv
 slen:b.src.length=c.blks.length
 argv:cb8 b.src b.es c.blks c.args args=true
 seps:seps c.blks c.mt h b.src 0=true
 mutb:c32 c.mt args h b.src c.post b.src 0=true
 post:aN1 b.src c.mt c.post c.post c.mt=true
 out:(a58 c.out).all (clA b.src c.mt c.post)=true
 blks:cX4 b.src b.es c.blks h c.blks b.src=some b.nd
theorem ah0{α:Type}{l:List (Nat×α)}: ∀{n i:Nat} {r:List α},bK7 l n i=some r→r.length=n
 |0,i,r,e=>by simp only[bK7,a8]at e;subst e;rfl
 |n+1,i,r,e=>by
  simp only[bK7]at e
  split at e
  ·rename_i x q h1 h2
   simp only[a8]at e;subst e
   simp[ah0 h2]
  ·cases e
theorem cl6{c:FC}{nv:Nat}{args:List AV}{b:Binding}(e:bo9 c nv args h=some b):Bound c nv args h b:=by
 unfold bo9 at e
 simp only at e
 split at e
 ·rename_i src es h1 h2
  replace e:=M7 e
  obtain⟨hc,e⟩:=e
  obtain⟨hc,c5⟩:=M6 hc
  obtain⟨hc,c4⟩:=M6 hc
  obtain⟨hc,c3⟩:=M6 hc
  obtain⟨c1,c2⟩:=M6 hc
  split at e
  ·rename_i nd hnd
   simp only[a8]at e;subst e
   exact⟨ah0 h2,ah0 h1,c1,c2,c3,c4,c5,hnd⟩
  ·cases e
 ·cases e
structure FcOk (c:FC) (nv:Nat):Prop where
 args:bN0 nv c.blks.length c.args=true
 blks: ∀(i:Nat) (x:Blk),c.blks[i]? =some x→okB nv c.blks.length (some x)=true∧((∃e fz cs,x= .cells e fz cs)∨(∃e sig l,x= .arr e sig l)∨ ∃e sig l,x= .bag e sig l)
 need:R5 nv c.need=true
 outs:a65 nv c.outs=true
 mt:c.mt≤c.blks.length
 lt:c.blks.length<60000
theorem cE6{c:FC}{nv:Nat}(e:ck5 c nv=true):FcOk c nv:=by
 unfold ck5 at e
 obtain⟨e,e7⟩:=M6 e
 obtain⟨e,e6⟩:=M6 e
 obtain⟨e,e5⟩:=M6 e
 obtain⟨e,e4⟩:=M6 e
 obtain⟨e,e3⟩:=M6 e
 obtain⟨e1,e2⟩:=M6 e
 rw[i6]at e2 e7
 refine⟨e1,fun i x hx=> ?_,e3,e4,N1.1 e5,N9.1 e6⟩
 have hm:=B7 hx
 refine⟨e2 x hm,?_⟩
 have:=e7 x hm
 split at this
 ·exact .inl ⟨_,_,_,rfl⟩
 ·exact .inr (.inl ⟨_,_,_,rfl⟩)
 ·exact .inr (.inr ⟨_,_,_,rfl⟩)
 ·cases this
theorem cl7{c:FC}{nv:Nat}{args:List AV}{b:Binding}{us:List Value}(r:HR β ω K w0 h w)(ra:VRs β ω args us)(fo:FcOk c nv)(bo:Bound c nv args h b)(hd:dB ω b.nd=true):
 VRs (bnd β ω b.src c.blks) (ω.upd 0 (N2 ω b.es)) c.args us∧HR (bnd β ω b.src c.blks) (ω.upd 0 (N2 ω b.es)) (Kfc β b.src c.mt w) w c.heap w:=by
 obtain⟨hn,hwm,a35⟩:=c.heap_ok fo.lt
 obtain⟨hl,hB⟩:=aN5 bo.blks hd
 have hw: ∀i x,b.src[i]? =some (.whole x)→bnd β ω b.src c.blks i=β x:=fun i x hx=>by unfold bnd;rw[hx]
 have hfix: ∀e,(ω.upd 0 (N2 ω b.es)).fix e=ω.fix e:=fun _=>rfl
 have view: ∀i x e sig q,b.src[i]? =some (.view x)→c.blks[i]? =some (.arr e sig q)→ ∃nd l,bK6 sig.length e sig x h=some (nd,l)∧dB ω nd=true∧den (ω.upd 0 (N2 ω b.es)) q=den ω l∧bnd β ω b.src c.blks i=a47 β ω sig.length x:=by
  intro i x e sig q hx hp
  obtain⟨nd,h1,h2⟩:=hB i _ _ hp hx
  simp only[ckB]at h1
  split at h1
  ·rename_i nd' l hv
   obtain⟨h3,h1⟩:=M7 h1
   simp only[a8]at h1;subst h1
   have hf:=(fo.blks i _ hp).1
   simp only[okB]at hf
   refine⟨_,l,hv,h2,b37 rfl (by rw[bo.len];exact hf) h3,?_⟩
   unfold bnd;rw[hx,hp];rfl
  ·cases h1
 have hv: ∀i s p q x v,aM9 p q=true→c30 c.blks i s q=true→b.src[i]? =some (.view x)→VR β ω x v→VR (bnd β ω b.src c.blks) (ω.upd 0 (N2 ω b.es)) (.osl i p q s) v:=by
  intro i s p q x v hpq hvb hx hr
  unfold c30 at hvb
  split at hvb
  ·rename_i e sig l hp
   obtain⟨h1,h2⟩:=M6 hvb
   obtain rfl:=M8.1 h1
   have h2:=SX.beq_eq _ _ h2
   subst h2
   obtain⟨nd,lx,g1,g2,g3,g4⟩:=view i x e sig l hx hp
   have vs:=(bz8 r g1 g2).sl hr
   have hlen:dI (ω.upd 0 (N2 ω b.es)) (.op .llen [l])=((dL ω lx).length:Int):=by
    rw[S9];exact congrArg (fun z:Val=>(z.toL.length:Int)) g3
   have hp0:dI (ω.upd 0 (N2 ω b.es)) p=0:=by
    unfold aM9 at hpq
    split at hpq
    ·rfl
    ·cases hpq
   simp only[VR]
   rw[hlen,hp0,g4]
   rcases vs with⟨L,cap,a,k1,k2,k3,k4⟩|⟨k1,a,cap,k2,k3⟩
   ·exact .inl ⟨L,cap,a,k1,by simpa using k2,by simpa using k3,fun _=>by simpa using k4⟩
   ·exact .inr ⟨a,cap,k2,k3,by rw[k1];rfl⟩
  ·cases hvb
 have hargs:=ax7 (nb:=c.blks.length) (βc:=bnd β ω b.src c.blks) rfl hw hv c.args args us (by rw[bo.len];exact fo.args) bo.argv ra
 have base: ∀i L,bnd β ω b.src c.blks i=some L→ ∃s y M,b.src[i]? =some s∧a31 s=some y∧β y=some M∧M.blk=L.blk:=by
  intro i L e
  unfold bnd at e
  split at e
  ·rename_i y hy;exact⟨_,y,L,hy,rfl,e,rfl⟩
  ·rename_i x hx
   obtain⟨y,M,h1,h2,h3⟩:=bp1 e
   exact⟨_,y,M,hx,h1,h2,h3⟩
  ·cases e
 have liveB: ∀(i:Nat) (s:BSrc) (p:Blk) (y:Nat),b.src[i]? =some s→c.blks[i]? =some p→a31 s=some y→ ∃z,h.get y=some z:=by
  intro i s p y hs hp hy
  obtain⟨nd,h1,_⟩:=hB i p s hp hs
  cases s with
  |whole x=>
   simp only[a31,a8]at hy;subst hy
   simp only[ckB]at h1
   split at h1
   ·rename_i hg;exact⟨_,hg⟩
   ·rename_i hg;exact⟨_,hg⟩
   ·rename_i hg;exact⟨_,hg⟩
   ·cases h1
  |view x=>
   simp only[ckB]at h1
   split at h1
   ·split at h1
    ·rename_i hv;exact bL1 hv hy
    ·cases h1
   ·cases h1
 refine⟨hargs,⟨fun i x L hg hL=> ?_,fun i j x y L M hgi hgj hL hM hne hwk=> ?_,fun i hi=> ?_,fun i hi=> ?_,fun i L hL=> ?_,fun k hk=>hk.1,fun k _=>rfl,fun i x L hg hwi hL hk=> ?_,b9 _,rfl,rfl,rfl,b9 _⟩⟩
 ·rw[a35]at hg
  have hs: ∃s,b.src[i]? =some s:=by
   have:i<b.src.length:=by rw[bo.slen];exact(k6.1 hg).1
   exact⟨_,j0 this⟩
  obtain⟨s,hs⟩:=hs
  obtain⟨nd,h1,h2⟩:=hB i x s hg hs
  have hf:=(fo.blks i x hg).1
  cases s with
  |whole y=>
   simp only[ckB]at h1
   rw[hw i y hs]at hL
   split at h1
   ·rename_i e fz ps e' fz' xs hgy
    obtain⟨h3,_⟩:=M7 h1
    obtain⟨h3,h6⟩:=M6 h3
    obtain⟨h3,h5⟩:=M6 h3
    obtain⟨h3,h4⟩:=M6 h3
    obtain rfl:=M8.1 h3
    obtain rfl:=M8.1 h4
    obtain⟨C,lo,hi,vs,q1,q2,q3,q4,q5,q6,q7,q8⟩:=r.blk y _ L hgy hL
    simp only[okB]at hf
    have hps:=ax7 (nb:=c.blks.length) (βc:=bnd β ω b.src c.blks) rfl hw hv ps xs vs (by rw[bo.len];exact hf) h6 q5
    have hll:ps.length=xs.length:=by rw[←hps.length,←q5.length]
    exact⟨C,lo,hi,vs,q1,q2,by rw[hll];exact q3,h5,hps,by rw[hll];exact q6,q7,q8⟩
   ·rename_i e sig q e' sig' l hgy
    obtain⟨h3,_⟩:=M7 h1
    obtain⟨h3,h5⟩:=M6 h3
    obtain⟨h3,h4⟩:=M6 h3
    obtain rfl:=M8.1 h3
    obtain rfl:=V6 h4
    have hbr:=r.blk y _ L hgy hL
    simp only[okB]at hf
    have hden:dL (ω.upd 0 (N2 ω b.es)) q=dL ω l:=congrArg Val.toL (b37 rfl (by rw[bo.len];exact hf) h5)
    simp only[BR]at hbr⊢
    rw[hden];exact hbr
   ·rename_i e sig q e' sig' l hgy
    obtain⟨h3,_⟩:=M7 h1
    obtain⟨h3,h5⟩:=M6 h3
    obtain⟨h3,h4⟩:=M6 h3
    obtain rfl:=M8.1 h3
    obtain rfl:=V6 h4
    have hbr:=r.blk y _ L hgy hL
    simp only[okB]at hf
    have hden:dL (ω.upd 0 (N2 ω b.es)) q=dL ω l:=congrArg Val.toL (b37 rfl (by rw[bo.len];exact hf) h5)
    simp only[BR]at hbr⊢
    rw[hden];exact hbr
   ·cases h1
  |view y=>
   have: ∃e sig q,x= .arr e sig q:=by
    simp only[ckB]at h1
    split at h1
    ·exact⟨_,_,_,rfl⟩
    ·cases h1
   obtain⟨e,sig,q,rfl⟩:=this
   obtain⟨nd',lx,g1,g2,g3,g4⟩:=view i y e sig q hs hg
   rw[g4]at hL
   have hbr:=cX8 r g1 g2 L hL
   have hden:dL (ω.upd 0 (N2 ω b.es)) q=dL ω lx:=congrArg Val.toL g3
   simp only[BR]at hbr⊢
   rw[hden];exact hbr
 ·rw[a35]at hgi hgj
  obtain⟨s,y1,M1,s1,s2,s3,s4⟩:=base i L hL
  obtain⟨t,y2,M2,t1,t2,t3,t4⟩:=base j M hM
  obtain⟨z1,hz1⟩:=liveB i s x y1 s1 hgi s2
  obtain⟨z2,hz2⟩:=liveB j t y y2 t1 hgj t2
  have main: ∀(i j:Nat) (s t:BSrc) (x y:Blk) (y1 y2:Nat) (M1 M2:Loc) (z1 z2:Blk),cX5 c.blks c.mt h i j (a31 s) (a31 t)=true→c.blks[i]? =some x→c.blks[j]? =some y→(c.heap.wm≤i∨c.heap.wm≤j∨x.isArr=false∨y.isArr=false)→
   a31 s=some y1→a31 t=some y2→β y1=some M1→β y2=some M2→h.get y1=some z1→h.get y2=some z2→M1.blk≠M2.blk:=by
   intro i j s t x y y1 y2 M1 M2 z1 z2 hsep hx hy hk e1 e2 b1 b2 g1 g2
   unfold cX5 at hsep
   rw[j8]at hsep
   rcases hsep with hsep|hsep
   ·exfalso
    obtain⟨hsep,a4⟩:=M6 hsep
    obtain⟨hsep,a3⟩:=M6 hsep
    obtain⟨a1,a2⟩:=M6 hsep
    rw[N9]at a1 a2
    rw[hwm]at hk
    rw[hx]at a3
    rw[hy]at a4
    rcases hk with q|q|q|q
    ·omega
    ·omega
    ·cases x<;>simp only[Blk.isArr,reduceCtorEq]at q<;>cases a3
    ·cases y<;>simp only[Blk.isArr,reduceCtorEq]at q<;>cases a4
   ·obtain⟨a1,a2⟩:=M6 hsep
    rw[e1,e2]at a1 a2
    have hne:y1≠y2:=by
     rintro rfl
     simp[neB]at a1
    refine r.sep y1 y2 z1 z2 M1 M2 g1 g2 b1 b2 hne ?_
    simp only[geB,da3,j8,m6,N1]at a2
    rw[g1,g2]at a2
    rcases a2 with((q|q)|q)|q
    ·exact .inl q
    ·exact .inr (.inl q)
    ·refine .inr (.inr (.inl ?_));cases z1<;>first|rfl|cases q
    ·refine .inr (.inr (.inr ?_));cases z2<;>first|rfl|cases q
  rw[←s4,←t4]
  rcases Nat.lt_or_gt_of_ne hne with hlt|hlt
  ·have:=bp3 bo.seps i j s t hlt s1 t1
   rw[i3,i3]at this
   exact main i j s t x y y1 y2 M1 M2 z1 z2 this hgi hgj hwk s2 t2 s3 t3 hz1 hz2
  ·have:=bp3 bo.seps j i t s hlt t1 s1
   rw[i3,i3]at this
   refine(main j i t s y x y2 y1 M2 M1 z2 z1 this hgj hgi ?_ t2 s2 t3 s3 hz2 hz1).symm
   rcases hwk with q|q|q|q
   ·exact .inr (.inl q)
   ·exact .inl q
   ·exact .inr (.inr (.inr q))
   ·exact .inr (.inr (.inl q))
 ·unfold bnd
  rw[j7 (by rw[bo.slen,←hn];exact hi)]
 ·rw[a35,j7 (by rw[←hn];exact hi)]
 ·obtain⟨s,y,M,_,_,h3,h4⟩:=base i L hL
  rw[←h4];exact r.lt y M h3
 ·rw[hwm]at hwi
  rw[a35]at hg
  have hs: ∃s,b.src[i]? =some s:=by
   have:i<b.src.length:=by rw[bo.slen];exact(k6.1 hg).1
   exact⟨_,j0 this⟩
  obtain⟨s,hs⟩:=hs
  obtain⟨y,rfl,_,_,_⟩:=aD5 r ra bo.mutb i s hs (by omega)
  rw[hw i y hs]at hL
  exact hk.2 i y L hwi hs hL rfl
end Go.Ev
namespace Go.Ev
open Go
variable{ω ω':Opq}{β β' βF:Bij}{K:Nat→Prop}{w0 w w':World}{h h':Heap}
def W4:AV→Bool
 | .agg _=>false
 | .tup _=>false
 |_=>true
theorem O6{v:AV}(h:W4 v=true):a58 v=[v]:=by cases v<;>first|rfl|cases h
theorem cE7{out v:AV}(h:W4 v=true)(hs:X1 out v=true):W4 out=true:=by
 cases out<;>first
  |rfl
  |(simp only[X1]at hs;split at hs<;>first|cases h|cases hs)
theorem a14{v:AV}{u:Value}(h:W4 v=true)(r:VR β ω v u): ∃us,VRs β ω (a58 v) us∧ ∀(β':Bij) (ω':Opq) (out:AV),X1 out v=true→VRs β' ω' (a58 out) us→VR β' ω' out u:=by
 refine⟨[u],by rw[O6 h];exact .one r,fun β' ω' out hs ho=> ?_⟩
 rw[O6 (cE7 h hs)]at ho
 obtain⟨x,xr,e,p,q⟩:=ho
 simp only[A3]at e
 rw[e.1];exact p
theorem be2: ∀{a b:List AV} {x y:List Value},a.length=x.length→VRs β ω (a++b) (x++y)→VRs β ω a x∧VRs β ω b y
 | [],b,[],y,_,r=>⟨rfl,r⟩
 | [],b,_::_,y,h,r=>by cases h
 |_::_,b,[],y,h,r=>by cases h
 |p::a,b,v::x,y,h,⟨v',vr,e,q,s⟩=>by
  simp only[List.cons_append,A3]at e
  obtain⟨rfl,rfl⟩:=e
  obtain⟨h1,h2⟩:=be2 (by simpa using h) s
  exact⟨⟨v,x,rfl,q,h1⟩,h2⟩
theorem a15{o v:AV}(ho:W4 o=true)(h:X1 o v=true):(a58 o).length=(a58 v).length:=by
 have hv:W4 v=true:=by
  cases o<;>first
   |(exfalso;simp[W4]at ho;done)
   |(simp only[X1]at h;cases v<;>first|rfl|((cases h;done)))
 rw[O6 ho,O6 hv];rfl
mutual
theorem b38: ∀{o v:AV},X1 o v=true→(a58 o).length=(a58 v).length
 | .agg a,v,h=>by
   simp only[X1]at h
   split at h
   ·exact M8.1 h
   ·cases h
 | .tup a,v,h=>by
   simp only[X1]at h
   split at h
   ·exact be3 h
   ·cases h
 | .bool _,v,h=>a15 rfl h
 | .int _ _,v,h=>a15 rfl h
 | .str _,v,h=>a15 rfl h
 | .nilp,v,h=>a15 rfl h
 | .ptr _ _,v,h=>a15 rfl h
 | .glob _,v,h=>a15 rfl h
 | .nils,v,h=>a15 rfl h
 | .sl _ _ _ _,v,h=>a15 rfl h
 | .us _ _ _ _,v,h=>a15 rfl h
 | .es _ _ _,v,h=>a15 rfl h
 | .es0,v,h=>a15 rfl h
 | .nilm,v,h=>a15 rfl h
 | .map _,v,h=>a15 rfl h
 | .nilf,v,h=>a15 rfl h
 | .func _ _ _,v,h=>a15 rfl h
 | .yield _,v,h=>a15 rfl h
 | .nili,v,h=>a15 rfl h
 | .iface _ _,v,h=>a15 rfl h
 | .opq _,v,h=>a15 rfl h
 | .oint _ _,v,h=>a15 rfl h
 | .ostr _,v,h=>a15 rfl h
 | .obool _,v,h=>a15 rfl h
 | .osl _ _ _ _,v,h=>a15 rfl h
 | .optr _ _ _ _,v,h=>a15 rfl h
 | .ous _ _ _,v,h=>a15 rfl h
 | .atl _,v,h=>a15 rfl h
 | .any,v,h=>a15 rfl h
theorem be3: ∀{o v:List AV},a42 o v=true→(am4 o).length=(am4 v).length
 | [],v,h=>by
   simp only[a42]at h
   split at h
   ·rfl
   ·cases h
 |a::r,v,h=>by
  simp only[a42]at h
  split at h
  ·rw[d6]at h
   simp only[am4,e8,b38 h.1,be3 h.2]
  ·cases h
end
mutual
theorem c35: ∀(v:AV) (u:Value),VR β ω v u→ ∃us,VRs β ω (a58 v) us∧ ∀(β':Bij) (ω':Opq) (out:AV),X1 out v=true→VRs β' ω' (a58 out) us→VR β' ω' out u
 | .agg cs,u,r=>by
   obtain⟨xs,rfl,q⟩:=r
   refine⟨xs.toList,q,fun β' ω' out hs ho=> ?_⟩
   cases out<;>simp only[X1,i4]at hs
   exact⟨xs,rfl,ho⟩
 | .tup vs,u,r=>by
   obtain⟨xs,rfl,q⟩:=r
   obtain⟨us,h1,h2⟩:=bA0 vs xs.toList q
   refine⟨us,h1,fun β' ω' out hs ho=> ?_⟩
   cases out<;>simp only[X1,i4]at hs
   exact⟨xs,rfl,h2 β' ω' _ hs ho⟩
 | .bool b,u,r=>a14 rfl r
 | .int a b,u,r=>a14 rfl r
 | .str b,u,r=>a14 rfl r
 | .nilp,u,r=>a14 rfl r
 | .ptr a b,u,r=>a14 rfl r
 | .glob b,u,r=>a14 rfl r
 | .nils,u,r=>a14 rfl r
 | .sl a b c d,u,r=>a14 rfl r
 | .us a b c d,u,r=>a14 rfl r
 | .es a b c,u,r=>a14 rfl r
 | .es0,u,r=>a14 rfl r
 | .nilm,u,r=>a14 rfl r
 | .map b,u,r=>a14 rfl r
 | .nilf,u,r=>a14 rfl r
 | .func a b c,u,r=>a14 rfl r
 | .yield b,u,r=>a14 rfl r
 | .nili,u,r=>a14 rfl r
 | .iface a b,u,r=>a14 rfl r
 | .opq b,u,r=>a14 rfl r
 | .oint a b,u,r=>a14 rfl r
 | .ostr b,u,r=>a14 rfl r
 | .obool b,u,r=>a14 rfl r
 | .osl a b c d,u,r=>a14 rfl r
 | .optr a b c d,u,r=>a14 rfl r
 | .ous a b c,u,r=>a14 rfl r
 | .atl b,u,r=>a14 rfl r
 | .any,u,r=>a14 rfl r
theorem bA0: ∀(vs:List AV) (us0:List Value),VRs β ω vs us0→ ∃us,VRs β ω (am4 vs) us∧ ∀(β':Bij) (ω':Opq) (outs:List AV),a42 outs vs=true→VRs β' ω' (am4 outs) us→VRs β' ω' outs us0
 | [],us0,r=>by
   refine⟨[],rfl,fun β' ω' outs hs ho=> ?_⟩
   cases outs with
   |nil=>exact r
   |cons a b=>simp only[a42]at hs;cases hs
 |v::vs,us0,⟨u,ur,e,p,q⟩=>by
  obtain⟨us1,a1,a2⟩:=c35 v u p
  obtain⟨us2,b1,b2⟩:=bA0 vs ur q
  refine⟨us1++us2,a1.append b1,fun β' ω' outs hs ho=> ?_⟩
  cases outs with
  |nil=>simp only[a42]at hs;cases hs
  |cons o os=>
   simp only[a42,d6]at hs
   have hl:(a58 o).length=us1.length:=by rw[b38 hs.1];exact a1.length.symm
   obtain⟨c1,c2⟩:=be2 hl ho
   exact⟨u,ur,e,a2 β' ω' o hs.1 c1,b2 β' ω' os hs.2 c2⟩
end
section
variable{Q:Nat→SX}{n:Nat}
theorem a32(g:Agr 0 ω ω'){p x:SX}{es:List SX}(h:bj7 1000 n p x=some es)(hp:bN1 p=true)(hq: ∀j e,es[j]? =some e→den ω (Q (n+j))=den ω' e):den ω (T6 1000 Q p)=den ω' x:=by
 unfold bj7 at h
 unfold T6
 unfold bN1 at hp
 split at h
 ·rename_i m hm
  obtain⟨h1,h2⟩:=M7 h
  simp only[a8]at h2;subst h2
  obtain rfl:=M8.1 h1
  exact hq 0 x rfl
 ·rename_i hm
  obtain⟨h1,_⟩:=M7 h
  obtain⟨h1,_⟩:=M6 h1
  rw[hm]at hp
  have hp:R5 0 p=true:=hp
  rw[←SX.beq_eq _ _ h1]
  exact(a78 g p hp).symm
theorem bL2(g:Agr 0 ω ω'){p q x y:SX}{es:List SX}(h:bj8 1000 n p q x y=some es)(hp:bN1 p=true)(hpq:bN1 q=true)(hq: ∀j e,es[j]? =some e→den ω (Q (n+j))=den ω' e):den ω (T6 1000 Q p)=den ω' x∧den ω (T6 1000 Q q)=den ω' y:=by
 unfold bj8 at h
 split at h
 ·rename_i e1 h1
  split at h
  ·rename_i e2 h2
   simp only[a8]at h;subst h
   refine⟨a32 g h1 hp fun j e hj=>hq j e ?_,a32 g h2 hpq fun j e hj=> ?_⟩
   ·have hlt:=(k6.1 hj).1
    rw[j5 hlt];exact hj
   ·have:=hq (e1.length+j) e (by rw[j3 (t7 _ _),y7];exact hj)
    rw[show n+e1.length+j=n+(e1.length+j) by omega];exact this
  ·cases h
 ·cases h
theorem c36{src:List BSrc}{i:Nat}(e:isW src i=true): ∃b,src[i]? =some (.whole b):=by
 unfold isW at e
 split at e
 ·rename_i b hb;exact⟨b,hb⟩
 ·cases e
theorem aN6{src:List BSrc}{m i b:Nat}(e:src[i]? =some (.whole b)):ap1 src m i=b:=by unfold ap1;rw[e]
theorem aN7(ρ:Nat→Nat)(k:IntKind)(e:SX):aR9 ρ (bM9 k e)=bM9 k e:=by
 unfold bM9
 split<;>rfl
theorem c37(k:IntKind)(e:SX):(bM9 k e).oneA=true:=by
 unfold bM9
 split<;>rfl
theorem bL3{ρ:Nat→Nat}{p:AV}(h:aA1 p=true):aR9 ρ (aa5 Q p)=p:=by
 cases p<;>simp only[aA1,i4]at h<;>simp only[aa5,aR9]
variable{src:List BSrc}{mt base N:Nat}{post:List (Option Blk)}
theorem b39(g:Agr 0 ω ω'){p x:AV}{u:Value}{es:List SX}(hcl:clA src mt post p=true)(hnn:aW8 src.length p=true)(ha:Q1 1000 base n p x=some es)(hq: ∀j e,es[j]? =some e→den ω (Q (n+j))=den ω' e)
 (r:VR β ω' x u) (hβ: ∀i b,src[i]? =some (.whole b)→βF b=β i):VR βF ω (aR9 (ap1 src N) (aa5 Q p)) u:=by
 have plain:aA1 p=true→(bif AV.beq p x&&okA 1000 base x then some ([]:List SX)else none)=some es→VR βF ω (aR9 (ap1 src N) (aa5 Q p)) u:=by
  intro hp h
  obtain⟨h1,_⟩:=M7 h
  obtain⟨h1,_⟩:=M6 h1
  rw[bL3 hp]
  rw[←AV.beq_eq _ _ h1]at r
  exact Q0 hp r
 cases p with
 |oint k e=>
  simp only[clA]at hcl
  simp only[Q1]at ha
  unfold d37 at ha
  split at ha
  ·rename_i k' x' hx
   split at ha
   ·rename_i hk;subst hk
    rw[show aR9 (ap1 src N) (aa5 Q (.oint k e))=bM9 k (T6 1000 Q e)from aN7 _ _ _]
    refine bm4.2 ?_
    show u= .int k (dI ω (T6 1000 Q e))
    rw[a10 hx r]
    exact congrArg (fun z:Val=>Value.int k z.toI) (a32 g ha hcl hq).symm
   ·cases ha
  ·cases ha
 |ostr e=>
  simp only[clA]at hcl
  simp only[Q1]at ha
  unfold cq0 at ha
  split at ha
  ·rename_i x' hx
   show u= .string ⟨(dS ω (T6 1000 Q e)).toArray⟩
   rw[ad0 hx r]
   exact congrArg (fun z:Val=>Value.string ⟨z.toS.toArray⟩) (a32 g ha hcl hq).symm
  ·cases ha
 |obool e=>
  simp only[clA]at hcl
  simp only[Q1]at ha
  unfold cq0 at ha
  split at ha
  ·rename_i x' hx
   show u= .bool (dB ω (T6 1000 Q e))
   rw[af8 hx r]
   exact congrArg (fun z:Val=>Value.bool z.toB) (a32 g ha hcl hq).symm
  ·cases ha
 |osl i y z s=>
  simp only[clA,d6]at hcl
  simp only[Q1]at ha
  unfold b87 at ha
  split at ha
  ·rename_i b' y' z' s'
   obtain⟨h1,h2⟩:=M7 ha
   obtain⟨h1,_⟩:=M6 h1
   obtain⟨h1,h3⟩:=M6 h1
   obtain rfl:=M8.1 h1
   obtain rfl:=M8.1 h3
   obtain⟨b,hb⟩:=c36 hcl.1.1
   obtain⟨k1,k2⟩:=bL2 g h2 hcl.1.2 hcl.2 hq
   have k1:dI ω (T6 1000 Q y)=dI ω' y':=congrArg Val.toI k1
   have k2:dI ω (T6 1000 Q z)=dI ω' z':=congrArg Val.toI k2
   simp only[aa5,aR9,aN6 hb,VR]at r⊢
   rw[k1,k2,hβ i b hb];exact r
  ·cases ha
 |ous i q s=>
  simp only[aW8,N9]at hnn
  simp only[clA]at hcl
  rw[show Nat.ble src.length i=false by
   cases hh:Nat.ble src.length i with
   |false=>rfl
   |true=>rw[N1]at hh;omega]at hcl
  simp only[cond_false,d6]at hcl
  simp only[Q1]at ha
  unfold b88 at ha
  split at ha
  ·rename_i b' q' s'
   obtain⟨h1,h2⟩:=M7 ha
   obtain⟨h1,_⟩:=M6 h1
   obtain⟨h1,h3⟩:=M6 h1
   obtain rfl:=M8.1 h1
   obtain rfl:=M8.1 h3
   obtain⟨b,hb⟩:=c36 hcl.1
   have k1:dI ω (T6 1000 Q q)=dI ω' q':=congrArg Val.toI (a32 g h2 (by unfold bN1;rw[hcl.2];rfl) hq)
   have hy:ck6 Q q=T6 1000 Q q:=by
    have:=hcl.2
    unfold bj6 at this
    split at this
    ·rfl
    ·cases this
   simp only[aa5,aR9,aN6 hb,VR]at r⊢
   rw[hy,k1,hβ i b hb];exact r
  ·cases ha
 |ptr i o=>
  simp only[clA]at hcl
  simp only[Q1]at ha
  obtain⟨h1,_⟩:=M7 ha
  obtain⟨h1,_⟩:=M6 h1
  rw[←AV.beq_eq _ _ h1]at r
  obtain⟨b,hb⟩:=c36 hcl
  simp only[aa5,aR9,aN6 hb,VR]at r⊢
  rw[hβ i b hb];exact r
 |bool _=>simp only[Q1]at ha;exact plain hcl ha
 |int _ _=>simp only[Q1]at ha;exact plain hcl ha
 |str _=>simp only[Q1]at ha;exact plain hcl ha
 |nilp=>simp only[Q1]at ha;exact plain hcl ha
 |glob _=>simp only[Q1]at ha;exact plain hcl ha
 |nils=>simp only[Q1]at ha;exact plain hcl ha
 |nilm=>simp only[Q1]at ha;exact plain hcl ha
 |nilf=>simp only[Q1]at ha;exact plain hcl ha
 |nili=>simp only[Q1]at ha;exact plain hcl ha
 |_=>simp only[clA,aA1,i4]at hcl
theorem be4(g:Agr 0 ω ω'): ∀{ps xs:List AV} {us:List Value} {n:Nat} {es:List SX},(ps.all fun p=>clA src mt post p&&aW8 src.length p&&p.oneA)=true→an4 1000 base n ps xs=some es→(∀j e,es[j]? =some e→den ω (Q (n+j))=den ω' e)→
 VRs β ω' xs us→(∀i b,src[i]? =some (.whole b)→βF b=β i)→VRs βF ω (aB4 (ap1 src N) (am5 Q ps)) us
 | [],xs,us,n,es,hcl,ha,hq,r,hβ=>by
   cases xs with
   |nil=>exact r
   |cons a b=>simp only[an4]at ha;cases ha
 |p::ps,xs,us,n,es,hcl,ha,hq,r,hβ=>by
  cases xs with
  |nil=>simp only[an4]at ha;cases ha
  |cons x xs=>
   simp only[List.all_cons,d6]at hcl
   simp only[an4]at ha
   split at ha
   ·rename_i e1 h1
    split at ha
    ·rename_i e2 h2
     simp only[a8]at ha;subst ha
     obtain⟨v,vr,rfl,r1,r2⟩:=r
     refine⟨v,vr,rfl,b39 g hcl.1.1.1 hcl.1.1.2 h1 (fun j e hj=>hq j e ?_) r1 hβ,be4 g (by simpa using hcl.2) h2 (fun j e hj=> ?_) r2 hβ⟩
     ·have hlt:=(k6.1 hj).1
      rw[j5 hlt];exact hj
     ·have:=hq (e1.length+j) e (by rw[j3 (t7 _ _),y7];exact hj)
      rw[show n+e1.length+j=n+(e1.length+j) by omega];exact this
    ·cases ha
   ·cases ha
theorem c38(ρ:Nat→Nat): ∀l:List AV,(l.all fun p=>clA src mt post p&&aW8 src.length p&&p.oneA)=true→(aB4 ρ (am5 Q l)).all AV.oneA=true
 | [],_=>rfl
 |a::r,h=>by
  simp only[List.all_cons,d6]at h
  simp only[am5,aB4,List.all_cons,d6]
  refine⟨?_,c38 ρ r (by simpa using h.2)⟩
  have:=h.1.2
  cases a<;>simp only[aa5,aR9]<;>first|exact this|rfl|(rw[aN7];exact c37 _ _)
theorem c39(g:Agr 0 ω ω'){L:Loc}{o:Option Obj}{p z x:Blk}{es:List SX}(hcl:clB src mt post (some p)=true)(ha:bR3 1000 base n p z=some es)(hq: ∀j e,es[j]? =some e→den ω (Q (n+j))=den ω' e)
 (r:BR β ω' L o z) (hβ: ∀i b,src[i]? =some (.whole b)→βF b=β i) (hx:aB5 (ap1 src N) (ae5 Q (some p))=some x):BR βF ω L o x:=by
 cases p with
 |cells e fz ps=>
  cases z<;>simp only[bR3,reduceCtorEq]at ha
  obtain⟨h1,h2⟩:=M7 ha
  obtain⟨h1,h4⟩:=M6 h1
  obtain⟨h1,h3⟩:=M6 h1
  obtain rfl:=M8.1 h1
  obtain rfl:=M8.1 h3
  simp only[ae5,aB5,a8]at hx
  subst hx
  simp only[clB]at hcl
  obtain⟨C,lo,hi,vs,q1,q2,q3,q4,q5,q6,q7,q8⟩:=r
  have hv:=be4 (N:=N) g hcl h2 hq q5 hβ
  have hl:(aB4 (ap1 src N) (am5 Q ps)).length=vs.length:=hv.length.symm
  have hl2:=q5.length
  refine⟨C,lo,hi,vs,q1,q2,by rw[hl,hl2];exact q3,c38 _ _ hcl,hv,by rw[hl,hl2];exact q6,q7,fun hh=>q8 (by rw[←hh];exact g.fix▸rfl)⟩
 |arr e sig l=>
  cases z<;>simp only[bR3,reduceCtorEq]at ha
  obtain⟨h1,h2⟩:=M7 ha
  obtain⟨h1,h3⟩:=M6 h1
  obtain rfl:=M8.1 h1
  obtain rfl:=V6 h3
  simp only[ae5,aB5,a8]at hx
  subst hx
  simp only[clB]at hcl
  have k:dL ω (T6 1000 Q l)=dL ω' _:=congrArg Val.toL (a32 g h2 hcl hq)
  simp only[BR]at r⊢
  rw[k];exact r
 |_=>simp only[clB,i4]at hcl
end
end Go.Ev
namespace Go.Ev
open Go
variable{ω ω':Opq}{β β' βF:Bij}{K:Nat→Prop}{w0 w w':World}{h h':Heap}
section
variable{Q:Nat→SX}{ρ:Nat→Nat}{m:Nat}
structure Laid (Q:Nat→SX) (ρ:Nat→Nat) (m:Nat) (l:List (Option Blk)) (i:Nat) (h h2:Heap):Prop where
 wm:h2.wm=h.wm
 next:h2.next=h.next+(i+l.length-Nat.max i m)
 get: ∀b y,h2.get b=some y→(∃j x,l[j]? =some x∧i+j<m∧ρ (i+j)=b∧aB5 ρ (ae5 Q x)=some y)∨(∃j x,l[j]? =some x∧m≤i+j∧b=h.next+(i+j-Nat.max i m)∧aB5 ρ (ae5 Q x)=some y)∨(h.get b=some y∧ ∀j,j<l.length→i+j<m→ρ (i+j)≠b)
 keep: ∀b,b<h.next→(∀j,j<l.length→i+j<m→ρ (i+j)≠b)→h2.get b=h.get b
theorem bL4{x:Option Blk}(e:bK8 x=true): ∃y,aB5 ρ (ae5 Q x)=some y:=by
 unfold bK8 at e
 split at e
 ·exact⟨_,rfl⟩
 ·cases e
theorem ax8: ∀(l:List (Option Blk)) (i:Nat) (h:Heap),(∀j x,l[j]? =some x→m≤i+j→bK8 x=true)→(∀j,j<l.length→i+j<m→ρ (i+j)<h.next)→Laid Q ρ m l i h (Z4 ρ Q m l i h)
 | [],i,h,hr,hb=>by
   refine⟨rfl,?_,fun b y e=> .inr (.inr ⟨e,fun j hj=>by simp at hj⟩),fun _ _ _=>rfl⟩
   show h.next=h.next+(i+0-max i m)
   omega
 |x::r,i,h,hr,hb=>by
  by_cases him:i<m
  ·
   have hstep:Z4 ρ Q m (x::r) i h=Z4 ρ Q m r (i+1) (h.put (ρ i) (aB5 ρ (ae5 Q x))):=by
    simp only[Z4,a40 him,cond_true]
   have hρ:ρ i<h.next:=hb 0 (by simp) him
   have ih:=ax8 r (i+1) (h.put (ρ i) (aB5 ρ (ae5 Q x))) (fun j y hj hm=>hr (j+1) y (by simpa using hj) (by omega)) (fun j hj hm=>by rw[Heap.next_put];have:=hb (j+1) (by simp;omega) (by omega);rw[show i+(j+1)=i+1+j by omega]at this;exact this)
   rw[hstep]
   have hmax:Nat.max (i+1) m=m:=I2 (by omega)
   have hmax':Nat.max i m=m:=I2 (by omega)
   refine⟨ih.wm,?_,fun b y e=> ?_,fun b hb' hn=> ?_⟩
   ·rw[ih.next,Heap.next_put,hmax,hmax',List.length_cons];omega
   ·rcases ih.get b y e with⟨j,z,h1,h2,h3,h4⟩|⟨j,z,h1,h2,h3,h4⟩|⟨h1,h2⟩
    ·exact .inl ⟨j+1,z,by simpa using h1,by omega,by rw[show i+(j+1)=i+1+j by omega];exact h3,h4⟩
    ·refine .inr (.inl ⟨j+1,z,by simpa using h1,by omega,?_,h4⟩)
     rw[h3,Heap.next_put,hmax,hmax'];omega
    ·rw[Heap.get_put]at h1
     by_cases hbi:b=ρ i
     ·rw[if_pos hbi]at h1
      split at h1
      ·exact .inl ⟨0,x,rfl,by omega,hbi.symm,h1⟩
      ·cases h1
     ·rw[if_neg hbi]at h1
      refine .inr (.inr ⟨h1,fun j hj hm=> ?_⟩)
      cases j with
      |zero=>exact fun hh=>hbi hh.symm
      |succ j=>
       rw[show i+(j+1)=i+1+j by omega]
       exact h2 j (by simpa using hj) (by omega)
   ·rw[ih.keep b (by rw[Heap.next_put];exact hb') (fun j hj hm=>by rw[show i+1+j=i+(j+1) by omega];exact hn (j+1) (by simp;omega) (by omega)),Heap.get_put,if_neg]
    exact fun hh=>hn 0 (by simp) him hh.symm
  ·obtain⟨z,hz⟩:=bL4 (Q:=Q) (ρ:=ρ) (hr 0 x rfl (by omega))
   have hstep:Z4 ρ Q m (x::r) i h=Z4 ρ Q m r (i+1) (h.new z):=by
    simp only[Z4,a89 him,cond_false,hz]
   have ih:=ax8 r (i+1) (h.new z) (fun j y hj hm=>hr (j+1) y (by simpa using hj) (by omega)) (fun j hj hm=>by omega)
   rw[hstep]
   have hmax:Nat.max (i+1) m=i+1:=K8 (by omega)
   have hmax':Nat.max i m=i:=K8 (by omega)
   refine⟨ih.wm,?_,fun b y e=> ?_,fun b hb' hn=> ?_⟩
   ·rw[ih.next,Heap.next_new,hmax,hmax',List.length_cons];omega
   ·rcases ih.get b y e with⟨j,u,h1,h2,h3,h4⟩|⟨j,u,h1,h2,h3,h4⟩|⟨h1,h2⟩
    ·omega
    ·refine .inr (.inl ⟨j+1,u,by simpa using h1,by omega,?_,h4⟩)
     rw[h3,Heap.next_new,hmax,hmax'];omega
    ·rw[Heap.get_new]at h1
     by_cases hbi:b=h.next
     ·rw[if_pos hbi]at h1
      split at h1
      ·simp only[a8]at h1;subst h1
       exact .inr (.inl ⟨0,x,rfl,by omega,by rw[hmax'];omega,hz⟩)
      ·cases h1
     ·rw[if_neg hbi]at h1
      exact .inr (.inr ⟨h1,fun j hj hm=>by omega⟩)
   ·rw[ih.keep b (by rw[Heap.next_new];omega) (fun j hj hm=>by omega),Heap.get_new,if_neg (by omega)]
end
section
variable{m base:Nat}{a:Fr}
theorem bA1{P:Nat→SX→Prop}: ∀{ps:List AV} {t n:Nat} {es:List SX},ck8 m base h a ps t n=some es→(∀j e,es[j]? =some e→P (n+j) e)→ ∀k p,ps[k]? =some p→ ∃n' es',cE4 m base n' h p (a.slot (t+k))=some es'∧ ∀j e,es'[j]? =some e→P (n'+j) e
 | [],t,n,es,e,hp,k,p,hk=>by simp at hk
 |q::ps,t,n,es,e,hp,k,p,hk=>by
  simp only[ck8]at e
  split at e
  ·rename_i e1 h1
   split at e
   ·rename_i e2 h2
    simp only[a8]at e;subst e
    cases k with
    |zero=>
     simp only[List.getElem?_cons_zero,a8]at hk;subst hk
     refine⟨n,e1,h1,fun j e hj=>hp j e ?_⟩
     have hlt:=(k6.1 hj).1
     rw[j5 hlt];exact hj
    |succ k=>
     simp only[List.getElem?_cons_succ]at hk
     obtain⟨n',es',g1,g2⟩:=bA1 h2 (fun j e hj=>by
      have:=hp (e1.length+j) e (by rw[j3 (t7 _ _),y7];exact hj)
      rw[show n+e1.length+j=n+(e1.length+j) by omega];exact this) k p hk
     exact⟨n',es',by rw[show t+(k+1)=t+1+k by omega];exact g1,g2⟩
   ·cases e
  ·cases e
theorem bA2{P:Nat→SX→Prop}: ∀{ps:List (Option Blk)} {i n:Nat} {es:List SX},ck9 m base h ps i n=some es→(∀j e,es[j]? =some e→P (n+j) e)→ ∀k p,ps[k]? =some p→ ∃n' es',aS5 1000 base n' p (h.get (bif Nat.blt (i+k) m then i+k else base+(i+k-m)))=some es'∧ ∀j e,es'[j]? =some e→P (n'+j) e
 | [],i,n,es,e,hp,k,p,hk=>by simp at hk
 |q::ps,i,n,es,e,hp,k,p,hk=>by
  simp only[ck9]at e
  split at e
  ·rename_i e1 h1
   split at e
   ·rename_i e2 h2
    simp only[a8]at e;subst e
    cases k with
    |zero=>
     simp only[List.getElem?_cons_zero,a8]at hk;subst hk
     refine⟨n,e1,h1,fun j e hj=>hp j e ?_⟩
     have hlt:=(k6.1 hj).1
     rw[j5 hlt];exact hj
    |succ k=>
     simp only[List.getElem?_cons_succ]at hk
     obtain⟨n',es',g1,g2⟩:=bA2 h2 (fun j e hj=>by
      have:=hp (e1.length+j) e (by rw[j3 (t7 _ _),y7];exact hj)
      rw[show n+e1.length+j=n+(e1.length+j) by omega];exact this) k p hk
     exact⟨n',es',by rw[show i+(k+1)=i+1+k by omega];exact g1,g2⟩
   ·cases e
  ·cases e
theorem cl8{x:AV}{v:Value}(hd:dB ω (bK9 h x).1=true)(r:VR β ω x v):VR β ω (bK9 h x).2 v:=by
 cases x with
 |ous b len s=>
  cases hg:h.get b with
  |none=>simp only[bK9,hg];exact r
  |some y=>
   cases y with
   |arr e sig l=>
    simp only[bK9,hg]at hd⊢
    cases hc:SX.beq len (.op .llen [l])with
    |true=>exact r
    |false=>
     rw[hc]at hd
     have:dI ω len=dI ω (.op .llen [l]):=of_decide_eq_true hd
     show VR β ω (.ous b (.op .llen [l]) s) v
     simp only[VR]at r⊢
     rw[←this];exact r
   |_=>simp only[bK9,hg];exact r
 |_=>exact r
theorem be5: ∀{xs:List AV} {vs:List Value},dB ω (aX0 h xs).1=true→VRs β ω xs vs→VRs β ω (aX0 h xs).2 vs
 | [],vs,hd,r=>r
 |x::xs,vs,hd,⟨v,vr,e,p,q⟩=>by
  simp only[aX0]at hd⊢
  obtain⟨d1,d2⟩:=aX1 hd
  exact⟨v,vr,e,cl8 d1 p,be5 d2 q⟩
theorem c40{pc:PC}(hp:bn6 ω pc): ∀l:List SX,N2 ω (d52 pc l)=N2 ω l
 | []=>rfl
 |a::r=>by simp only[d52,N2,bn7 hp,c40 hp r]
theorem cY1{xs:List AV}{us:List Value}(ra:VRs β ω xs us)(hl:xs.length≤256):FrR β ω ⟨a68 xs 0 TF.empty,xs.length,[],0,[],none⟩ {tmps:=us.toArray,defers:=[]}:=by
 have:=b33 (fn:=0) (nt:=xs.length) ra (by rw[show Nat.max xs.length xs.length=xs.length from Nat.max_self _];exact hl)
 rw[show Nat.max xs.length xs.length=xs.length from Nat.max_self _,show xs.length-us.toArray.size=0 by rw[w6,ra.length];exact x6 _]at this
 simpa using this
end
theorem aN8{src:List BSrc}{mt:Nat}{post:List (Option Blk)}: ∀{l:List (Option Blk)} {i:Nat},aN1 src mt post l i=true→src.length≤i+l.length∧ ∀j x,l[j]? =some x→(i+j<src.length→clB src mt post x=true)∧(src.length≤i+j→bK8 x=true)
 | [],i,e=>⟨by simp only[aN1,N1]at e;simpa using e,fun j x hx=>by simp at hx⟩
 |x::l,i,e=>by
  simp only[aN1]at e
  by_cases hi:i<src.length
  ·rw[a40 hi]at e
   simp only[cond_true,d6]at e
   obtain⟨h1,h2⟩:=aN8 e.2
   refine⟨by simp only[List.length_cons];omega,fun j y hy=> ?_⟩
   cases j with
   |zero=>
    simp only[List.getElem?_cons_zero,a8]at hy;subst hy
    exact⟨fun _=>e.1,fun hh=>by omega⟩
   |succ j=>
    simp only[List.getElem?_cons_succ]at hy
    have:=h2 j y hy
    rw[show i+(j+1)=i+1+j by omega];exact this
  ·rw[a89 hi]at e
   simp only[cond_false,d6]at e
   obtain⟨h1,h2⟩:=aN8 e.2
   refine⟨by simp only[List.length_cons];omega,fun j y hy=> ?_⟩
   cases j with
   |zero=>
    simp only[List.getElem?_cons_zero,a8]at hy;subst hy
    exact⟨fun hh=>by omega,fun _=>e.1⟩
   |succ j=>
    simp only[List.getElem?_cons_succ]at hy
    have:=h2 j y hy
    rw[show i+(j+1)=i+1+j by omega];exact this
theorem ah1{post:List (Option Blk)}{mt m base:Nat}: ∀{l:List AV} {t:Nat} {o:OwnP},o∈be1 post mt m base l t→base≤o.blk
 | [],t,o,ho=>by cases ho
 |p::l,t,o,ho=>by
  cases p<;>simp only[be1]at ho<;>try exact ah1 ho
  rename_i i x s
  cases hm:Nat.ble m i with
  |false=>rw[hm]at ho;exact ah1 ho
  |true=>
   rw[hm]at ho
   simp only[cond_true]at ho
   split at ho
   ·rcases l5.1 ho with rfl|ho
    ·exact t7 _ _
    ·exact ah1 ho
   ·exact ah1 ho
mutual
theorem bA3{F:AV→AV}(h1: ∀l,F (.agg l)= .agg (l.map F))(h2: ∀l,F (.tup l)= .tup (l.map F))(h3: ∀x,W4 x=true→W4 (F x)=true): ∀v:AV,a58 (F v)=(a58 v).map F
 | .agg l=>by rw[h1];rfl
 | .tup l=>by rw[h2];exact be6 h1 h2 h3 l
 | .bool a=>by rw[O6 (h3 _ rfl)];rfl
 | .int a b=>by rw[O6 (h3 _ rfl)];rfl
 | .str a=>by rw[O6 (h3 _ rfl)];rfl
 | .nilp=>by rw[O6 (h3 _ rfl)];rfl
 | .ptr a b=>by rw[O6 (h3 _ rfl)];rfl
 | .glob a=>by rw[O6 (h3 _ rfl)];rfl
 | .nils=>by rw[O6 (h3 _ rfl)];rfl
 | .sl a b c d=>by rw[O6 (h3 _ rfl)];rfl
 | .us a b c d=>by rw[O6 (h3 _ rfl)];rfl
 | .es a b c=>by rw[O6 (h3 _ rfl)];rfl
 | .es0=>by rw[O6 (h3 _ rfl)];rfl
 | .nilm=>by rw[O6 (h3 _ rfl)];rfl
 | .map a=>by rw[O6 (h3 _ rfl)];rfl
 | .nilf=>by rw[O6 (h3 _ rfl)];rfl
 | .func a b c=>by rw[O6 (h3 _ rfl)];rfl
 | .yield a=>by rw[O6 (h3 _ rfl)];rfl
 | .nili=>by rw[O6 (h3 _ rfl)];rfl
 | .iface a b=>by rw[O6 (h3 _ rfl)];rfl
 | .opq a=>by rw[O6 (h3 _ rfl)];rfl
 | .oint a b=>by rw[O6 (h3 _ rfl)];rfl
 | .ostr a=>by rw[O6 (h3 _ rfl)];rfl
 | .obool a=>by rw[O6 (h3 _ rfl)];rfl
 | .osl a b c d=>by rw[O6 (h3 _ rfl)];rfl
 | .optr a b c d=>by rw[O6 (h3 _ rfl)];rfl
 | .ous a b c=>by rw[O6 (h3 _ rfl)];rfl
 | .atl a=>by rw[O6 (h3 _ rfl)];rfl
 | .any=>by rw[O6 (h3 _ rfl)];rfl
theorem be6{F:AV→AV}(h1: ∀l,F (.agg l)= .agg (l.map F))(h2: ∀l,F (.tup l)= .tup (l.map F))(h3: ∀x,W4 x=true→W4 (F x)=true): ∀l:List AV,am4 (l.map F)=(am4 l).map F
 | []=>rfl
 |a::r=>by simp only[j9,am4,r8,bA3 h1 h2 h3 a,be6 h1 h2 h3 r]
end
theorem sh1{F o v:AV}(h1:W4 o=true)(h2:W4 F=true)(h:X1 o v=true):X1 F v=true:=by
 have hv:W4 v=true:=by
  cases o<;>first
   |(exfalso;simp[W4]at h1;done)
   |(simp only[X1]at h;cases v<;>first|rfl|((cases h;done)))
 cases F<;>first
  |(exfalso;simp[W4]at h2;done)
  |(simp only[X1];cases v<;>first|rfl|((cases hv;done)))
mutual
theorem cs8{F:AV→AV}(h1: ∀l,F (.agg l)= .agg (l.map F))(h2: ∀l,F (.tup l)= .tup (l.map F))(h3: ∀x,W4 x=true→W4 (F x)=true): ∀(o v:AV),X1 o v=true→X1 (F o) v=true
 | .agg l,v,h=>by
   rw[h1]
   simp only[X1]at h⊢
   split at h
   ·rw[m5];exact h
   ·cases h
 | .tup l,v,h=>by
   rw[h2]
   simp only[X1]at h⊢
   split at h
   ·exact c42 h1 h2 h3 l _ h
   ·cases h
 | .bool a,v,h=>sh1 rfl (h3 _ rfl) h
 | .int a b,v,h=>sh1 rfl (h3 _ rfl) h
 | .str a,v,h=>sh1 rfl (h3 _ rfl) h
 | .nilp,v,h=>sh1 rfl (h3 _ rfl) h
 | .ptr a b,v,h=>sh1 rfl (h3 _ rfl) h
 | .glob a,v,h=>sh1 rfl (h3 _ rfl) h
 | .nils,v,h=>sh1 rfl (h3 _ rfl) h
 | .sl a b c d,v,h=>sh1 rfl (h3 _ rfl) h
 | .us a b c d,v,h=>sh1 rfl (h3 _ rfl) h
 | .es a b c,v,h=>sh1 rfl (h3 _ rfl) h
 | .es0,v,h=>sh1 rfl (h3 _ rfl) h
 | .nilm,v,h=>sh1 rfl (h3 _ rfl) h
 | .map a,v,h=>sh1 rfl (h3 _ rfl) h
 | .nilf,v,h=>sh1 rfl (h3 _ rfl) h
 | .func a b c,v,h=>sh1 rfl (h3 _ rfl) h
 | .yield a,v,h=>sh1 rfl (h3 _ rfl) h
 | .nili,v,h=>sh1 rfl (h3 _ rfl) h
 | .iface a b,v,h=>sh1 rfl (h3 _ rfl) h
 | .opq a,v,h=>sh1 rfl (h3 _ rfl) h
 | .oint a b,v,h=>sh1 rfl (h3 _ rfl) h
 | .ostr a,v,h=>sh1 rfl (h3 _ rfl) h
 | .obool a,v,h=>sh1 rfl (h3 _ rfl) h
 | .osl a b c d,v,h=>sh1 rfl (h3 _ rfl) h
 | .optr a b c d,v,h=>sh1 rfl (h3 _ rfl) h
 | .ous a b c,v,h=>sh1 rfl (h3 _ rfl) h
 | .atl a,v,h=>sh1 rfl (h3 _ rfl) h
 | .any,v,h=>sh1 rfl (h3 _ rfl) h
theorem c42{F:AV→AV}(h1: ∀l,F (.agg l)= .agg (l.map F))(h2: ∀l,F (.tup l)= .tup (l.map F))(h3: ∀x,W4 x=true→W4 (F x)=true): ∀(o v:List AV),a42 o v=true→a42 (o.map F) v=true
 | [],v,h=>h
 |a::r,v,h=>by
  simp only[a42,j9]at h⊢
  split at h
  ·rw[d6]at h⊢
   exact⟨cs8 h1 h2 h3 a _ h.1,c42 h1 h2 h3 r _ h.2⟩
  ·cases h
end
theorem ax9(Q:Nat→SX): ∀l:List AV,am5 Q l=l.map (aa5 Q)
 | []=>rfl
 |a::r=>by simp only[am5,j9,ax9 Q r]
theorem aN9(ρ:Nat→Nat): ∀l:List AV,aB4 ρ l=l.map (aR9 ρ)
 | []=>rfl
 |a::r=>by simp only[aB4,j9,aN9 ρ r]
theorem c43{F:AV→AV}: ∀{ps:List AV} {us:List Value},ps.length=us.length→(∀(k:Nat) (p:AV) (u:Value),ps[k]? =some p→us[k]? =some u→VR β ω (F p) u)→VRs β ω (ps.map F) us
 | [],[],_,_=>rfl
 | [],_::_,h,_=>by cases h
 |_::_,[],h,_=>by cases h
 |p::ps,u::us,h,hk=>⟨u,us,rfl,hk 0 p u rfl rfl,c43 (by simpa using h) (fun k q v h1 h2=>hk (k+1) q v (by simpa using h1) (by simpa using h2))⟩
end Go.Ev
