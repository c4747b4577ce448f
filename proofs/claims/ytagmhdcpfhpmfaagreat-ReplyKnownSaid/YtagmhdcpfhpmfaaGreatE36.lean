import Derived.Test.YtagmhdcpfhpmfaaGreatE32
import Derived.Test.YtagmhdcpfhpmfaaGreatE2f
set_option linter.unusedVariables false
set_option linter.unusedSimpArgs false
namespace Go.Ev
open Go
variable{ω:Opq}{β:Bij}{K:Nat→Prop}{w0 w:World}{h:Heap}
theorem aD5(ω:Opq): ∀l:List SX,I9 ω l=l.map (den ω)
 | []=>rfl
 |a::r=>by simp only[I9,o9,aD5 ω r]
mutual
theorem am2{es:List SX}: ∀e:SX,R7 es.length e=true→den ω (a88 es e)=den (ω.upd 0 (I9 ω es)) e
 | .ci _,_=>rfl
 | .cs _,_=>rfl
 | .cb _,_=>rfl
 | .va n,h=>by
   simp only[R7,L9]at h
   simp only[a88]
   rw[n6,j2 h]
   have:=cZ0 (ω:=ω) (v0:=0) (l:=I9 ω es) (j:=n) (x:=den ω es[n]) (by rw[aD5,y5,j2 h];rfl)
   rw[l9]at this
   simp only[Option.getD_some,den]
   exact this.symm
 | .op p l,h=>by
   simp only[R7]at h
   simp only[a88,den]
   rw[aL2 l h]
 | .app f l,h=>by
   simp only[R7]at h
   simp only[a88,den]
   rw[aL2 l h];rfl
theorem aL2{es:List SX}: ∀l:List SX,a61 es.length l=true→I9 ω (b43 es l)=I9 (ω.upd 0 (I9 ω es)) l
 | [],_=>rfl
 |a::r,h=>by
  simp only[a61,d6]at h
  simp only[b43,I9]
  rw[am2 a h.1,aL2 r h.2]
end
noncomputable def a39(β:Bij)(ω:Opq)(sz:Nat)(x:AV):Option Loc:=match x with
 | .osl b off len _=>if 0<dI ω len then(β b).map fun L=>⟨L.blk,L.off+(dI ω off).toNat*sz,(dI ω len).toNat*sz⟩else none
 | .ous b len _=>if 0<dI ω len then(β b).map fun L=>⟨L.blk,L.off,(dI ω len).toNat*sz⟩else none
 | .sl b o n _=>if 0<n then(β b).map fun L=>⟨L.blk,L.off+o,n*sz⟩else none
 | .us b o n _=>if 0<n then(β b).map fun L=>⟨L.blk,L.off+o,n*sz⟩else none
 |_=>none
theorem c12{sig:List CT}{e:Nat}{l lx:SX}{L:Loc}{o:Option Obj}{p n:Nat}(r:BR β ω L o (.arr e sig l))(hp:p+n≤(dL ω l).length)(hl:dL ω lx=((dL ω l).drop p).take n):
 BR β ω ⟨L.blk,L.off+p*sig.length,n*sig.length⟩ o (.arr e sig lx):=by
 obtain⟨C,e',lo,hi,q1,q0,q2,q3,q4,q5⟩:=r
 have hle:(p+n)*sig.length≤(dL ω l).length*sig.length:=u9 _ hp
 rw[n7]at hle
 have hn:(dL ω lx).length=n:=by rw[hl,g9,m8];omega
 refine⟨C,e',lo,hi,q1,q0,by show L.off+p*sig.length+n*sig.length≤C.size;omega,by rw[hn];exact d8 _,fun i v hv=> ?_,fun i hq=> ?_⟩
 ·show C[L.off+p*sig.length+i]? =some v
  rw[hl]at hv
  rw[show L.off+p*sig.length+i=L.off+(p*sig.length+i) by omega]
  apply q4
  have e1:dL ω l=(dL ω l).take p++(((dL ω l).drop p).take n++((dL ω l).drop p).drop n):=by
   rw[u6,u6]
  rw[e1,ab2,ab2]
  have hl1:(K7 sig ((dL ω l).take p)).length=p*sig.length:=by rw[M7,g9];congr 1;omega
  rw[k9 (by omega),hl1,show p*sig.length+i-p*sig.length=i by omega]
  rw[k8]
  ·exact hv
  ·rcases g8 i (K7 sig (((dL ω l).drop p).take n)).length with hh|hh
   ·exact hh
   ·rw[j8 hh]at hv;cases hv
 ·have hq:i<n*sig.length:=hq
  have:=q5 (p*sig.length+i) (by omega)
  show¬(lo≤L.off+p*sig.length+i∧L.off+p*sig.length+i<hi)
  rw[show L.off+p*sig.length+i=L.off+(p*sig.length+i) by omega];exact this
theorem aq8{sig:List CT}{e fz:Nat}{cs:List AV}{lx:SX}{rs:List SX}{L:Loc}{o:Option Obj}{p n:Nat}(r:BR β ω L o (.cells e fz cs))(hf:fz≤p)(hp:p+n*sig.length≤cs.length)
 (hrs:ax6 sig sig.length n ((cs.drop p).take (n*sig.length))=some rs) (hl:dL ω lx=I9 ω rs):BR β ω ⟨L.blk,L.off+p,n*sig.length⟩ o (.arr e sig lx)∧(dL ω lx).length=n:=by
 obtain⟨C,lo,hi,vs,q1,q2,q3,q4,q5,q6,q7,q8⟩:=r
 have hvl:=q5.length
 have hsub:VRs β ω ((cs.drop p).take (n*sig.length)) ((vs.drop p).take (n*sig.length)):=(q5.drop _).take _
 obtain⟨z1,z2⟩:=a44 hrs (by simp;omega) hsub
 refine⟨⟨C,_,lo,hi,q1,.inl rfl,by show L.off+p+n*sig.length≤C.size;omega,by rw[hl,z2];exact d8 _,fun i v hv=> ?_,fun i hq=> ?_⟩,by rw[hl,z2]⟩
 ·show C[L.off+p+i]? =some v
  rw[hl,←z1]at hv
  have hlt:i<n*sig.length:=by
   rcases g8 i (n*sig.length)with hh|hh
   ·exact hh
   ·rw[j8 (by simp;omega)]at hv;cases hv
  rw[show L.off+p+i=L.off+(p+i) by omega,q6 (p+i) (by omega)]
  rw[s8,if_pos hlt,t8]at hv
  exact hv
 ·have hq:i<n*sig.length:=hq
  have:=q7 (p+i) (by omega) (by omega)
  show¬(lo≤L.off+p+i∧L.off+p+i<hi)
  rw[show L.off+p+i=L.off+(p+i) by omega];exact this
theorem bm0{a b:SX}(h:dB ω (bi7 a b)=true):dB ω a=true∧dB ω b=true:=by
 rw[bM1,d6]at h;exact h
structure ViewOk (β:Bij) (ω:Opq) (w:World) (h:Heap) (elem:Nat) (sig:List CT) (x:AV) (v:Value) (l:SX):Prop where
 br: ∀L,a39 β ω sig.length x=some L→BR β ω L w.heap[L.blk]? (.arr elem sig l)
 sl:VR β ω x v→(∃L cap a,a39 β ω sig.length x=some L∧v= .slice (some a) (dL ω l).length cap∧(dL ω l).length≤cap∧a=⟨L.blk,L.off,none⟩)∨((dL ω l).length=0∧ ∃a cap,v= .slice a 0 cap∧(a=none→cap=0))
theorem bO5{sz:Nat}{x:AV}{L:Loc}(e:a39 β ω sz x=some L): ∃b M,a23 (.view x)=some b∧β b=some M∧M.blk=L.blk:=by
 unfold a39 at e
 split at e
 all_goals first
  |(split at e
    ·obtain⟨M,hM,rfl⟩:=j1.1 e
     exact⟨_,M,rfl,hM,rfl⟩
    ·cases e)
  |cases e
theorem c93{sz elem:Nat}{sig:List CT}{x:AV}{nd l:SX}{b:Nat}(e:co2 sz elem sig x h=some (nd,l))(hb:a23 (.view x)=some b): ∃y,h.get b=some y:=by
 cases x<;>simp only[a23,d5,reduceCtorEq]at hb<;>subst hb<;>simp only[co2]at e<;>split at e<;>first|(rename_i hg;exact⟨_,hg⟩)|cases e
theorem cH6(r:HR β ω K w0 h w){elem:Nat}{sig:List CT}{x:AV}{v:Value}{nd l:SX}(e:co2 sig.length elem sig x h=some (nd,l))(hd:dB ω nd=true):ViewOk β ω w h elem sig x v l:=by
 unfold co2 at e
 split at e
 ·simp only[d5,d9]at e
  obtain⟨rfl,rfl⟩:=e
  exact⟨fun L hL=>by simp only[a39,reduceCtorEq]at hL,fun rv=> .inr ⟨rfl,none,0,rv,fun _=>rfl⟩⟩
 ·rename_i b len s
  split at e
  ·rename_i e0 sg l0 hg
   replace e:=G8 e
   obtain⟨hc,e⟩:=e
   obtain⟨hc,c3⟩:=I4 hc
   obtain⟨c1,c2⟩:=I4 hc
   obtain rfl:=I6.1 c1
   obtain rfl:=I6.1 c2
   obtain rfl:=X3 c3
   have main:0≤dI ω len→(dI ω len).toNat≤(dL ω l0).length→dL ω l=(dL ω l0).take (dI ω len).toNat→ViewOk β ω w h e0 sg (.ous b len sg.length) v l:=by
    intro h0 hle hl
    have hll:(dL ω l).length=(dI ω len).toNat:=by rw[hl,g9];omega
    constructor
    ·intro L hL
     simp only[a39]at hL
     split at hL
     ·obtain⟨M,hM,rfl⟩:=j1.1 hL
      have:=c12 (p:=0) (n:=(dI ω len).toNat) (lx:=l) (r.blk b _ M hg hM) (by omega) (by simpa using hl)
      simpa using this
     ·cases hL
    ·intro rv
     simp only[VR]at rv
     rcases rv with⟨L,cap,hL,hcap,hv,hlc⟩|⟨hv,hz⟩
     ·by_cases hp:0<dI ω len
      ·refine .inl ⟨⟨L.blk,L.off,(dI ω len).toNat*sg.length⟩,cap,_,?_,by rw[hll];exact hv,by rw[hll];exact hlc,rfl⟩
       simp only[a39,if_pos hp,hL,Option.map_some]
      ·refine .inr ⟨by rw[hll];omega,some ⟨L.blk,L.off,none⟩,cap,?_,fun hh=>(by cases hh)⟩
       rw[hv,show(dI ω len).toNat=0 by omega]
     ·exact .inr ⟨by rw[hll,hz];rfl,none,0,hv,fun _=>rfl⟩
   cases hq:SX.beq len (.op .llen [l0])with
   |true=>
    rw[hq]at e
    simp only[cond_true,d5,d9]at e
    obtain⟨rfl,rfl⟩:=e
    have hlen:=SX.beq_eq _ _ hq
    have:dI ω len=((dL ω l0).length:Int):=by rw[hlen,S1]
    refine main (by omega) (by omega) ?_
    rw[this];simp
   |false=>
    rw[hq]at e
    simp only[cond_false,d5,d9]at e
    obtain⟨rfl,rfl⟩:=e
    rw[ak0,d6]at hd
    have d1:0≤dI ω len:=of_decide_eq_true hd.1
    have d2:dI ω len≤((dL ω l0).length:Int):=of_decide_eq_true hd.2
    refine main d1 (by omega) ?_
    show((dL ω l0).drop (0:Int).toNat).take (dI ω len-0).toNat=_
    simp
  ·cases e
 ·rename_i b off len s
  split at e
  ·rename_i e0 sg l0 hg
   replace e:=G8 e
   obtain⟨hc,e⟩:=e
   obtain⟨hc,c3⟩:=I4 hc
   obtain⟨c1,c2⟩:=I4 hc
   obtain rfl:=I6.1 c1
   obtain rfl:=I6.1 c2
   obtain rfl:=X3 c3
   have main:0≤dI ω off→0≤dI ω len→(dI ω off).toNat+(dI ω len).toNat≤(dL ω l0).length→dL ω l=((dL ω l0).drop (dI ω off).toNat).take (dI ω len).toNat→ViewOk β ω w h e0 sg (.osl b off len sg.length) v l:=by
    intro h1 h0 hle hl
    have hll:(dL ω l).length=(dI ω len).toNat:=by rw[hl,g9,m8];omega
    constructor
    ·intro L hL
     simp only[a39]at hL
     split at hL
     ·obtain⟨M,hM,rfl⟩:=j1.1 hL
      exact c12 (r.blk b _ M hg hM) hle hl
     ·cases hL
    ·intro rv
     simp only[VR]at rv
     rcases rv with⟨L,cap,a,hL,hv,hlc,ha⟩|⟨a,cap,hv,hac,hz⟩
     ·by_cases hp:0<dI ω len
      ·refine .inl ⟨⟨L.blk,L.off+(dI ω off).toNat*sg.length,(dI ω len).toNat*sg.length⟩,cap,a,?_,by rw[hll];exact hv,by rw[hll];exact hlc,ha hp⟩
       simp only[a39,if_pos hp,hL,Option.map_some]
      ·refine .inr ⟨by rw[hll];omega,some a,cap,?_,fun hh=>(by cases hh)⟩
       rw[hv,show(dI ω len).toNat=0 by omega]
     ·exact .inr ⟨by rw[hll,hz];rfl,a,cap,hv,hac⟩
   cases hq:(SX.beq off (.ci 0)&&SX.beq len (.op .llen [l0]))with
   |true=>
    rw[hq]at e
    simp only[cond_true,d5,d9]at e
    obtain⟨rfl,rfl⟩:=e
    rw[d6]at hq
    have ho:=SX.beq_eq _ _ hq.1
    have hlen:=SX.beq_eq _ _ hq.2
    have t1:dI ω len=((dL ω l0).length:Int):=by rw[hlen,S1]
    have t2:dI ω off=0:=by rw[ho,b18]
    refine main (by omega) (by omega) (by omega) ?_
    rw[t1,t2];simp
   |false=>
    rw[hq]at e
    simp only[cond_false,d5,d9]at e
    obtain⟨rfl,rfl⟩:=e
    rw[ak0,ak0,d6,d6]at hd
    have d1:0≤dI ω off:=of_decide_eq_true hd.1
    have d2:0≤dI ω len:=of_decide_eq_true hd.2.1
    have d3:dI ω off+dI ω len≤((dL ω l0).length:Int):=of_decide_eq_true hd.2.2
    refine main d1 d2 (by omega) ?_
    show((dL ω l0).drop (dI ω off).toNat).take (dI ω off+dI ω len-dI ω off).toNat=_
    congr 2;omega
  ·cases e
 ·rename_i b o n c
  split at e
  ·rename_i e0 fz cs hg
   replace e:=G8 e
   obtain⟨hc,e⟩:=e
   obtain⟨hc,c5⟩:=I4 hc
   obtain⟨hc,c4⟩:=I4 hc
   obtain⟨hc,c3⟩:=I4 hc
   obtain⟨c1,c2⟩:=I4 hc
   obtain rfl:=I6.1 c1
   rw[J4]at c2 c3 c4
   rw[L9]at c5
   unfold cH0 at e
   split at e
   ·rename_i rs hrs
    simp only[d5,d9]at e
    obtain⟨rfl,rfl⟩:=e
    constructor
    ·intro M hM
     simp only[a39,if_pos c5]at hM
     obtain⟨L,hL,rfl⟩:=j1.1 hM
     exact(aq8 (lx:= .op .row rs) (r.blk b _ L hg hL) c3 c4 hrs rfl).1
    ·intro rv
     simp only[VR]at rv
     obtain⟨L,hL,hv⟩:=rv
     obtain⟨p1,p2⟩:=aq8 (lx:= .op .row rs) (r.blk b _ L hg hL) c3 c4 hrs rfl
     refine .inl ⟨⟨L.blk,L.off+o,n*sig.length⟩,c,_,?_,by rw[p2];exact hv,by rw[p2];exact c2,rfl⟩
     simp only[a39,if_pos c5,hL,Option.map_some]
   ·cases e
  ·cases e
 ·rename_i b o n s
  split at e
  ·rename_i e0 fz cs hg
   replace e:=G8 e
   obtain⟨hc,e⟩:=e
   obtain⟨hc,c4⟩:=I4 hc
   obtain⟨hc,c3⟩:=I4 hc
   obtain⟨hc,c1⟩:=I4 hc
   obtain⟨cz,c0⟩:=I4 hc
   obtain rfl:=I6.1 c0
   obtain rfl:=I6.1 c1
   rw[L9]at cz
   rw[J4]at c3 c4
   unfold cH0 at e
   split at e
   ·rename_i rs hrs
    simp only[d5,d9]at e
    obtain⟨rfl,rfl⟩:=e
    constructor
    ·intro M hM
     simp only[a39]at hM
     split at hM
     ·obtain⟨L,hL,rfl⟩:=j1.1 hM
      exact(aq8 (lx:= .op .row rs) (r.blk b _ L hg hL) c3 c4 hrs rfl).1
     ·cases hM
    ·intro rv
     simp only[VR]at rv
     obtain⟨L,cap,hL,hcap,hv⟩:=rv
     have hbr:=r.blk b _ L hg hL
     obtain⟨p1,p2⟩:=aq8 (lx:= .op .row rs) hbr c3 c4 hrs rfl
     by_cases hp:0<n
     ·refine .inl ⟨⟨L.blk,L.off+o,n*sig.length⟩,cap,_,?_,by rw[p2];exact hv,?_,rfl⟩
      ·simp only[a39,if_pos hp,hL,Option.map_some]
      ·rw[p2]
       obtain⟨_,_,_,_,_,_,q3,_⟩:=hbr
       have:n*sig.length≤cap*sig.length:=by omega
       exact y9 this cz
     ·refine .inr ⟨by rw[p2];omega,some ⟨L.blk,L.off+o,none⟩,cap,?_,fun hh=>(by cases hh)⟩
      rw[hv,show n=0 by omega]
   ·cases e
  ·cases e
 ·cases e
theorem c94{sz elem:Nat}{sig:List CT}{x:AV}{nd l:SX}{b:Nat}(e:c89 sz elem sig x h=some (nd,l))(hb:a23 (.view x)=some b): ∃y,h.get b=some y:=c93 e hb
theorem c13(r:HR β ω K w0 h w){elem:Nat}{sig:List CT}{x:AV}{v:Value}{nd l:SX}(e:c89 sig.length elem sig x h=some (nd,l))(hd:dB ω nd=true):ViewOk β ω w h elem sig x v l:=by
 have:=cH6 (v:=v) r e hd
 refine⟨fun L hL=> ?_,this.sl⟩
 obtain⟨C,e',lo,hi,q1,q0,q⟩:=this.br L hL
 refine⟨C,e',lo,hi,q1,?_,q⟩
 unfold cQ3 at q0
 cases hb:Nat.beq elem aB0 with
 |true=>exact .inr (I6.1 hb)
 |false=>rw[hb]at q0;exact q0
theorem de3(r:HR β ω K w0 h w){elem:Nat}{sig:List CT}{x:AV}{nd l:SX}(e:c89 sig.length elem sig x h=some (nd,l))(hd:dB ω nd=true)(L:Loc)(hL:a39 β ω sig.length x=some L):BR β ω L w.heap[L.blk]? (.arr elem sig l):=
 (c13 (v:= .bool true) r e hd).br L hL
end Go.Ev
