import Derived.Test.YtbfbcanipfnfeaaE16n
set_option linter.unusedVariables false
set_option linter.unusedSimpArgs false
namespace Go.Ev
open Go
variable{E:Env}{β:Bij}{ω:Opq}{K:Nat→Prop}{w0 w:World}{h:Heap}{ρA:Operand→Option AV}{ρ:Operand→Value}
theorem bc2(sig:List CT)(r:Val): ∀(l:List Val) (k:Nat),k<l.length→N7 sig (l.set k r)=(N7 sig l).take (k*sig.length)++(a27 sig r++(N7 sig l).drop (k*sig.length+sig.length))
 | [],k,h=>by simp at h
 |a::l,0,h=>by
  have e:N7 sig (a::l)=a27 sig a++N7 sig l:=by simp[N7]
  have e2:N7 sig ((a::l).set 0 r)=a27 sig r++N7 sig l:=by simp[N7]
  have hl:=P4 sig a
  rw[e,e2,B5,List.take_zero,List.nil_append,i3,List.drop_append_of_le_length (by omega),E6 (by omega),List.nil_append]
 |a::l,k+1,h=>by
  have e:N7 sig (a::l)=a27 sig a++N7 sig l:=by simp[N7]
  have e2:N7 sig ((a::l).set (k+1) r)=a27 sig a++N7 sig (l.set k r):=by simp[N7]
  have hl:=P4 sig a
  have ih:=bc2 sig r l k (by simpa using h)
  have t1:(a27 sig a++N7 sig l).take (k*sig.length+sig.length)=a27 sig a++(N7 sig l).take (k*sig.length):=by
   rw[show k*sig.length+sig.length=(a27 sig a).length+k*sig.length by omega,List.take_length_add_append]
  have t2:(a27 sig a++N7 sig l).drop (k*sig.length+sig.length+sig.length)=(N7 sig l).drop (k*sig.length+sig.length):=by
   rw[show k*sig.length+sig.length+sig.length=(a27 sig a).length+(k*sig.length+sig.length) by omega,List.drop_length_add_append]
  rw[e2,ih,e,l7,A5,t1,t2,r7]
theorem cg8{sig:List CT}{old:Val}{c0 es c1:List Val}{j n:Nat}(hj:j+n≤sig.length)(h0:c0=(List.range' 0 j).map fun t=>old.toL.getD t default)(hn:es.length=n)(h1:c1=(List.range' (j+n) (sig.length-(j+n))).map fun t=>old.toL.getD t default):
 a27 sig (.vl (c0++(es++c1)))=(a27 sig old).take j++(a27 ((sig.drop j).take n) (.vl es)++(a27 sig old).drop (j+n)):=by
 have l0:c0.length=j:=by rw[h0];simp
 have l1:c1.length=sig.length-(j+n):=by rw[h1];simp
 apply E5
 intro i
 have hsub:((sig.drop j).take n).length=n:=by simp;omega
 have hold:=P4 sig old
 rcases d8 i sig.length with hi|hi
 ·rw[aj6 hi]
  show some (a26 _ ((c0++(es++c1)).getD i default))=_
  rcases d8 i j with q|q
  ·rw[j5 (by rw[e9];omega),n8,if_pos q,aj6 hi]
   congr 2
   rw[d9,j5 (by omega),h0]
   simp[q]
  ·rcases d8 i (j+n)with q2|q2
   ·rw[j3 (by rw[e9];omega),e9,x7 (by omega)]
    rw[j5 (by rw[P4,hsub];omega),aj6 (by rw[hsub];omega)]
    congr 2
    ·rw[d9,d9,n8,if_pos (by omega),o9,show j+(i-j)=i by omega]
    ·show _=es.getD (i-j) default
     rw[d9,d9,j3 (by omega),l0,j5 (by omega)]
   ·rw[j3 (by rw[e9];omega),e9,x7 (by omega)]
    rw[j3 (by rw[P4,hsub];omega),P4,hsub,o9,show j+n+(i-j-n)=i by omega,aj6 hi]
    congr 2
    rw[d9,j3 (by omega),j3 (by omega),l0,hn,h1]
    rw[r5,List.getElem?_range' (by omega)]
    simp only[Option.map_some,Option.getD_some]
    congr 1;omega
 ·rw[j7 (by rw[P4];exact hi),j7]
  rw[e8,e8,e9,l6,P4,P4,hsub];omega
theorem aK6(ω:Opq): ∀a b:List SX,N2 ω (a++b)=N2 ω a++N2 ω b
 | [],b=>rfl
 |x::a,b=>by simp only[List.cons_append,N2,aK6 ω a b]
theorem aK7(l idx:SX): ∀n j,N2 ω (a52 l idx j n)=(List.range' j n).map fun(t:Nat)=>Q5 (dL ω l) (dI ω idx) (t:Int)
 |0,j=>rfl
 |n+1,j=>by
  simp only[a52,N2,aK7 l idx n (j+1),B1,j9];rfl
theorem bJ4{c:CT}{v:AV}{e:SX}(h:b85 c v=some e):v.one=true:=by
 unfold b85 at h
 split at h
 ·split at h
  ·rename_i k' e' hs
   unfold aS2 at hs
   split at hs<;>first|rfl|cases hs
  ·cases h
 ·unfold bi2 at h
  split at h<;>first|rfl|cases h
 ·unfold bj1 at h
  split at h<;>first|rfl|cases h
theorem ao5: ∀{sig:List CT} {vs:List AV} {es:List SX},R8 sig vs=some es→vs.all AV.one=true∧es.length=vs.length
 | [],[],es,h=>by simp only[R8,a8]at h;subst h;exact⟨rfl,rfl⟩
 | [],_::_,es,h=>by cases h
 |_::_,[],es,h=>by cases h
 |c::cs,v::vs,es,h=>by
  simp only[R8]at h
  split at h
  ·rename_i e es' h1 h2
   simp only[a8]at h;subst h
   obtain⟨a,b⟩:=ao5 h2
   simp only[List.all_cons,d6,List.length_cons]
   exact⟨⟨bJ4 h1,a⟩,by rw[b]⟩
  ·cases h
theorem bx1(ω:Opq): ∀l:List SX,(N2 ω l).length=l.length
 | []=>rfl
 |a::r=>by simp only[N2,List.length_cons,bx1 ω r]
theorem az6{cs:List AV}{vs:List Value}{n:Nat}(hd: ∀(β:Bij) us,VRs β ω cs us→us=vs)(h0: ∀β:Bij,VRs β ω cs vs){β:Bij}{us:List Value}(hu:VRs β ω (cs.take n) us):us=vs.take n:=by
 have h1:=hu.append ((h0 β).drop n)
 rw[p8]at h1
 have h2:=hd β _ h1
 have hl:=hu.length
 have hv:=(h0 β).length
 rw[←h2]
 rw[e9]at hl
 rcases Nat.le_total n cs.length with q|q
 ·rw[M5 (by omega),E2 (by omega)]
 ·have:vs.drop n=[]:=E6 (by omega)
  rw[this,n9,E2 (by omega)]
theorem az7{cs:List AV}{vs:List Value}{n:Nat}(hd: ∀(β:Bij) us,VRs β ω cs us→us=vs)(h0: ∀β:Bij,VRs β ω cs vs){β:Bij}{us:List Value}(hu:VRs β ω (cs.drop n) us):us=vs.drop n:=by
 have h1:=((h0 β).take n).append hu
 rw[p8]at h1
 have h2:=hd β _ h1
 have hv:=(h0 β).length
 rw[←h2]
 rcases Nat.le_total n cs.length with q|q
 ·rw[List.drop_append_of_le_length (by rw[e9];omega),E6 (by rw[e9];omega),List.nil_append]
 ·have hul:=hu.length
  have:us=[]:=v8 (by rw[hul,l6];omega)
  rw[this,n9,E6 (by rw[e9];omega)]
theorem bY2(hfx: ∀t,ω.fix t=aq0 E.P t)(r:HR β ω K w0 h w)(o:OpR β ω ρA ρ)(t:TypeId)(x y:Operand):SOk E β ω K w0 w h (do Instr.storeAt t (ρ x) (ρ y);pure .skip) (bQ8 E.P t h (ρA x) (ρA y)):=by
 unfold bQ8
 split
 ·rename_i b idx j sz v n hx hy hn
  unfold bQ7
  split
  ·rename_i el sig l hg
   cases hc:(Nat.beq sig.length sz&&Nat.ble (j+n) sz&&v.nt&&Nat.beq v.cells.length n&&Nat.ble h.wm b&&Nat.blt 0 n&& !(aq0 E.P el)&& !(Nat.beq el an1))with
   |false=>trivial
   |true=>
    obtain⟨hc,c8⟩:=M6 hc
    have hne:el≠an1:=fun e=>by rw[e,show Nat.beq an1 an1=true from rfl]at c8;cases c8
    obtain⟨hc,c7⟩:=M6 hc
    have hnf:ω.fix el=false:=by rw[hfx];simpa using c7
    obtain⟨hc,c6⟩:=M6 hc
    obtain⟨hc,c5⟩:=M6 hc
    obtain⟨hc,c4⟩:=M6 hc
    obtain⟨hc,c3⟩:=M6 hc
    obtain⟨c1,c2⟩:=M6 hc
    obtain rfl:=M8.1 c1
    rw[M8]at c4
    rw[N1]at c2 c5
    rw[N9]at c6
    simp only[cond_true]
    unfold bQ6
    split
    ·rename_i es hes
     intro hd
     obtain⟨d1,d2⟩:=ad1 hd
     rw[S9]at d2
     have hk:(dI ω idx).toNat<(dL ω l).length:=by omega
     have hvx:=o x _ hx
     have hvy:=o y _ hy
     simp only[VR]at hvx
     obtain⟨L,hL,hvx⟩:=hvx
     have hb65:=Heap.get_lim h b _ hg
     have a35: ∀(hh:Heap) (x:Option Blk) (z:Nat),(hh.put b x).get z=if z=b then(if b<65536 then x else none)else hh.get z:=fun hh x z=>Heap.get_put _ _ _ _
     obtain⟨ocs,m1,m2,m3,m4⟩:=avs ω sig (dL ω l)
     have m3':ocs.length=(dL ω l).length*sig.length:=by rw[m3,O3]
     have r2:HR β ω K w0 (h.put b (some (.cells el 0 ocs))) w:=by
      refine HR.retell (y:= .cells el 0 ocs) r hg (.inl c5) ?_ rfl rfl (fun z=>by rw[a35,if_pos hb65])
      intro L' hL' hbr
      obtain⟨C,e',lo,hi,z1,z0,z2,z3,z4,z5⟩:=hbr
      rw[z0.resolve_right hne]at z1
      refine⟨C,lo,hi,N7 sig (dL ω l),z1,z2,by rw[m3,O3];exact z3,aG9 m2,m1 β,fun k hk=> ?_,fun k _ hk=>z5 k hk,fun hh=>by rw[hnf]at hh;cases hh⟩
      have hk':k<(N7 sig (dL ω l)).length:=by rw[←m3];exact hk
      rw[j0 hk']
      exact z4 k _ (j0 hk')
     have hg2:(h.put b (some (.cells el 0 ocs))).get b=some (.cells el 0 ocs):=by rw[a35,if_pos rfl,if_pos hb65]
     obtain⟨hone,helen⟩:=ao5 hes
     have hkk:(dI ω idx).toNat*sig.length+sig.length≤(dL ω l).length*sig.length:=by
      have:=t8 sig.length (show(dI ω idx).toNat+1≤(dL ω l).length from hk)
      rw[l7,A5]at this;exact this
     have hst:b78 E.P t (.ptr b ((dI ω idx).toNat*sig.length+j)) v (h.put b (some (.cells el 0 ocs)))=some ((h.put b (some (.cells el 0 ocs))).put b (some (.cells el 0 (a03 ocs ((dI ω idx).toNat*sig.length+j) v.cells)))):=by
      simp only[b78,hn,c3,c4,A6,show Nat.beq n n=true from M8.2 rfl,cond_true]
      cases hcs:v.cells with
      |nil=>rw[hcs]at c4;simp at c4;omega
      |cons a as=>
       rw[←hcs]
       simp only[putCells,hcs]
       rw[←hcs,hg2]
       simp only[Heap.wm_put]
       rw[show(Nat.ble h.wm b&&Nat.ble 0 ((dI ω idx).toNat*sig.length+j)&&Nat.ble ((dI ω idx).toNat*sig.length+j+v.cells.length) ocs.length&&v.cells.all AV.one)=true by
        rw[hone,N1.2 c5,N1.2 (k8 _),N1.2 (by rw[c4,m3'];omega)];rfl]
       rfl
     obtain⟨w',e1,e2,e3⟩:=ba4 (P:=E.P) r2 hst (vx:=ρ x) (vv:=ρ y) ⟨L,hL,by rw[hvx,l8]⟩ hvy
     have hrow:=R7 hes (VR.cells hvy c3)
     have aF3:dL ω (.op .lset [l,idx,.op .row (a52 l idx 0 j++(es++a52 l idx (j+n) (sig.length-(j+n))))])=(dL ω l).set (dI ω idx).toNat (.vl (N2 ω (a52 l idx 0 j)++(N2 ω es++N2 ω (a52 l idx (j+n) (sig.length-(j+n)))))):=by
      show(dL ω l).set (dI ω idx).toNat (.vl (N2 ω _))=_
      rw[aK6,aK6]
     have hgv: ∀c:Nat,Q5 (dL ω l) (dI ω idx) c=((dL ω l).getD (dI ω idx).toNat (.vl [])).toL.getD c default:=fun c=>by simp[Q5]
     have hmix:=cg8 (sig:=sig) (old:=(dL ω l).getD (dI ω idx).toNat (.vl [])) (c0:=N2 ω (a52 l idx 0 j)) (es:=N2 ω es) (c1:=N2 ω (a52 l idx (j+n) (sig.length-(j+n)))) (j:=j) (n:=n) c2
      (by rw[aK7];exact B4 fun c _=>hgv c) (by rw[bx1,helen,c4]) (by rw[aK7];exact B4 fun c _=>hgv c)
     have hflat:N7 sig (dL ω (.op .lset [l,idx,.op .row (a52 l idx 0 j++(es++a52 l idx (j+n) (sig.length-(j+n))))]))=
      (N7 sig (dL ω l)).take ((dI ω idx).toNat*sig.length+j)++((ρ y).cells.toList++(N7 sig (dL ω l)).drop ((dI ω idx).toNat*sig.length+j+n)):=by
      rw[aF3,bc2 sig _ _ _ hk,hmix,←hrow]
      have hfl:=O3 sig (dL ω l)
      have hold:a27 sig ((dL ω l).getD (dI ω idx).toNat (.vl []))=((N7 sig (dL ω l)).drop ((dI ω idx).toNat*sig.length)).take sig.length:=by
       apply E5
       intro c
       rcases d8 c sig.length with q|q
       ·rw[aj6 q,n8,if_pos q,o9,ag0 q hk]
       ·rw[j7 (by rw[P4];exact q),n8,if_neg (by omega)]
      rw[hold]
      generalize N7 sig (dL ω l)=F at hfl⊢
      generalize (dI ω idx).toNat*sig.length=q at hkk⊢
      rw[←hfl]at hkk
      apply E5
      intro c
      have hcl:(ρ y).cells.toList.length=n:=by rw[←c4];exact(VR.cells hvy c3).length
      rcases d8 c q with q1|q1
      ·rw[j5 (by rw[e9];omega),j5 (by rw[e9];omega),n8,if_pos q1,n8,if_pos (by omega)]
      ·rw[j3 (by rw[e9];omega),e9,x7 (by omega)]
       rcases d8 c (q+j)with q2|q2
       ·rw[j5 (by simp only[e8,e9,l6];omega),j5 (by simp only[e9,l6];omega),n8,if_pos (by omega),n8,if_pos (by omega),o9,show q+(c-q)=c by omega,
           j5 (by rw[e9];omega),n8,if_pos q2]
       ·rw[j3 (l₁:=F.take (q+j)) (by rw[e9];omega),e9,x7 (by omega)]
        rcases d8 c (q+j+n)with q3|q3
        ·rw[j5 (by simp only[e8,e9,l6,hcl];omega),j3 (by simp only[e9,l6];omega),j5 (by simp only[e9,l6,hcl];omega),
            j5 (by rw[hcl];omega)]
         congr 1
         simp only[e9,l6];omega
        ·rcases d8 c (q+sig.length)with q4|q4
         ·rw[j5 (by simp only[e8,e9,l6,hcl];omega),j3 (by simp only[e9,l6];omega),j3 (by simp only[e9,l6,hcl];omega),
             j3 (by rw[hcl];omega),o9,n8,o9,o9,if_pos (by simp only[e9,l6,hcl];omega)]
          congr 1
          simp only[e9,l6,hcl];omega
         ·rw[j3 (by simp only[e8,e9,l6,hcl];omega),j3 (l₁:=(ρ y).cells.toList) (by rw[hcl];omega),o9,o9]
          congr 1
          simp only[e8,e9,l6,hcl];omega
     refine⟨β,Go.undef,w',.inr ⟨rfl,by rw[Sem.run_bind,e1];rfl⟩,⟨#[],rfl,rfl⟩,?_,?_⟩
     ·refine HR.retell (y:= .arr el sig (.op .lset [l,idx,.op .row (a52 l idx 0 j++(es++a52 l idx (j+n) (sig.length-(j+n))))])) e2 (b:=b) (x:= .cells el 0 (a03 ocs ((dI ω idx).toNat*sig.length+j) v.cells)) (by rw[a35,if_pos rfl,if_pos hb65]) (.inr rfl) ?_ rfl rfl (fun z=> ?_)
      ·intro L' hL' hbr
       obtain⟨C,lo,hi,vs,q1,q2,q3,q4,q5,q6,q7,q8⟩:=hbr
       have hvs:vs=N7 sig (dL ω (.op .lset [l,idx,.op .row (a52 l idx 0 j++(es++a52 l idx (j+n) (sig.length-(j+n))))])):=by
        rw[hflat]
        unfold a03 at q5
        have hl1:(ocs.take ((dI ω idx).toNat*sig.length+j)).length=(dI ω idx).toNat*sig.length+j:=by rw[e9,m3'];omega
        have hdet: ∀(β:Bij) us,VRs β ω v.cells us→us=(ρ y).cells.toList:=fun β us hu=>(R7 hes hu).trans hrow.symm
        have hdet1: ∀(β:Bij) us,VRs β ω (ocs.take ((dI ω idx).toNat*sig.length+j)) us→us=(N7 sig (dL ω l)).take ((dI ω idx).toNat*sig.length+j):=fun β us hu=>az6 m4 m1 hu
        have hdet2: ∀(β:Bij) us,VRs β ω (ocs.drop ((dI ω idx).toNat*sig.length+j+v.cells.length)) us→us=(N7 sig (dL ω l)).drop ((dI ω idx).toNat*sig.length+j+v.cells.length):=fun β us hu=>az7 m4 m1 hu
        have t1:=q5.take (ocs.take ((dI ω idx).toNat*sig.length+j)++v.cells).length
        have t2:=q5.drop (ocs.take ((dI ω idx).toNat*sig.length+j)++v.cells).length
        rw[C8]at t1
        rw[C9]at t2
        have t3:=t1.take (ocs.take ((dI ω idx).toNat*sig.length+j)).length
        have t4:=t1.drop (ocs.take ((dI ω idx).toNat*sig.length+j)).length
        rw[C8]at t3
        rw[C9]at t4
        rw[←p8 (ocs.take ((dI ω idx).toNat*sig.length+j)++v.cells).length vs,hdet2 _ _ t2,c4]
        rw[←p8 (ocs.take ((dI ω idx).toNat*sig.length+j)).length (vs.take (ocs.take ((dI ω idx).toNat*sig.length+j)++v.cells).length),hdet1 _ _ t3,hdet _ _ t4,r7]
       subst hvs
       have hll:(a03 ocs ((dI ω idx).toNat*sig.length+j) v.cells).length=(dL ω l).length*sig.length:=by
        rw[←q5.length,O3,aF3,s9]
       refine⟨C,_,lo,hi,q1,.inl rfl,q2,by rw[aF3,s9,←hll];exact q3,fun i v2 hi'=> ?_,fun i hi'=>q7 i (k8 _) hi'⟩
       rw[q6 i (by
        rcases d8 i (a03 ocs ((dI ω idx).toNat*sig.length+j) v.cells).length with hh|hh
        ·exact hh
        ·rw[j7 (by rw[q5.length];exact hh)]at hi';cases hi')]
       exact hi'
      ·rw[a35,a35,a35]
       by_cases hz:z=b
       ·rw[if_pos hz,if_pos hz,if_pos hb65]
       ·rw[if_neg hz,if_neg hz,if_neg hz,if_neg hz]
     ·refine⟨b9 _,fun _ _=>rfl,fun z hz hzn=> ?_,rfl⟩
      left
      rw[a35,if_neg (fun hh=>by rw[hh,hL]at hzn;cases hzn)]
    ·trivial
  ·trivial
 ·trivial
theorem b16{lo hi n:SX}(h:dB ω (cO0 lo hi n)=true):0≤dI ω lo∧dI ω lo≤dI ω hi∧dI ω hi≤dI ω n:=by
 unfold cO0 at h
 obtain⟨h1,h2⟩:=ao2 h
 obtain⟨h2,h3⟩:=ao2 h2
 refine⟨?_,of_decide_eq_true h2,?_⟩
 ·cases hc:SX.beq lo (.ci 0)with
  |true=>rw[SX.beq_eq _ _ hc,aI7];omega
  |false=>rw[hc]at h1;exact of_decide_eq_true h1
 ·cases hc:SX.beq hi n with
  |true=>rw[SX.beq_eq _ _ hc];omega
  |false=>rw[hc]at h3;exact of_decide_eq_true h3
theorem bY3(a b:SX):dI ω (cp8 a b)=dI ω a-dI ω b:=by
 unfold cp8
 split
 ·rw[aI7];omega
 ·rfl
theorem aw8{x:Option (Option AV)}{d e:SX}{vx:Option Value}{k:Nat}(h:cp7 x d=some e)(hx: ∀y,x=some y→OR β ω y vx)(h0:0≤dI ω e)(hd:(dI ω d).toNat=k): ∃y:Option AV,OR β ω y vx∧W3 y k=some (dI ω e).toNat:=by
 unfold cp7 at h
 split at h
 ·simp only[a8]at h;subst h
  exact⟨none,hx _ rfl,by show some k=_;rw[hd]⟩
 ·rename_i v
  obtain⟨p,hp,rfl⟩:=j4.1 h
  obtain⟨u,hu,ru⟩:=hx _ rfl
  have:=a10 (k:=p.1) (e:=p.2) hp ru
  refine⟨some (.int p.1 (dI ω p.2)),⟨u,hu,this⟩,?_⟩
  show a51 (dI ω p.2)=_
  obtain⟨m,hm⟩:=Int.eq_ofNat_of_zero_le h0
  rw[hm];rfl
 ·cases h
theorem aK8{P:Program}{t elem:TypeId}{s l en n cap:Nat}{a:Addr}{lo hi:Option AV}{vl vh:Option Value}(ht:P.underlying t=some (.slice elem))(hs:a90 P elem=some s)(rl:OR β ω lo vl)(rh:OR β ω hi vh)(hl:W3 lo 0=some l)(he:W3 hi n=some en)(h1:l≤en)(h2:en≤cap)(w:World):
 (Instr.sliceAt t (.slice (some a) n cap) vl vh none).run P w= .ok (.slice (if cap=l then some a else some (a.add (l*s))) (en-l) (cap-l)) w:=by
 have hb:=O9 (P:=P) (mx:=none) (vm:=none) (cap:=cap) true rl rh rfl hl he (m:=cap) rfl h1 h2 (b9 _) (fun _=>rfl) w
 by_cases hml:cap=l
 ·subst hml;simp[Instr.sliceAt,Sem.run_bind,M9 ht,Instr.slice,hb,O2 hs]
 ·simp[Instr.sliceAt,Sem.run_bind,M9 ht,Instr.slice,hb,O2 hs,hml]
theorem aV6{P:Program}{t elem:TypeId}{s n:Nat}{lo hi:Option AV}{vl vh:Option Value}(ht:P.underlying t=some (.slice elem))(hs:a90 P elem=some s)(rl:OR β ω lo vl)(rh:OR β ω hi vh)(hl:W3 lo 0=some 0)(he:W3 hi 0=some 0)(w:World):
 (Instr.sliceAt t (.slice none 0 0) vl vh none).run P w= .ok (.slice none 0 0) w:=by
 have hb:=O9 (P:=P) (mx:=none) (vm:=none) (cap:=0) true rl rh rfl hl he (m:=0) rfl (b9 _) (b9 _) (b9 _) (fun _=>rfl) w
 simp[Instr.sliceAt,Sem.run_bind,M9 ht,Instr.slice,hb,O2 hs]
theorem bY4(r:HR β ω K w0 h w)(o:OpR β ω ρA ρ)(t:TypeId)(x:Operand)(lo hi mx:Option Operand):
 SOk E β ω K w0 w h (do pure (.value (←Instr.sliceAt t (ρ x) (lo.map ρ) (hi.map ρ) (mx.map ρ)))) (bv1 E.P t h (ρA x) (evo ρA lo) (evo ρA hi) (evo ρA mx)):=by
 have fin: ∀{v:AV} {u:Value},VR β ω v u→(Instr.sliceAt t (ρ x) (lo.map ρ) (hi.map ρ) (mx.map ρ)).run E.P w= .ok u w→W2 E β ω K w0 w h (do pure (.value (←Instr.sliceAt t (ρ x) (lo.map ρ) (hi.map ρ) (mx.map ρ)))) v h:=by
  intro v u hv hr
  exact W2.pureV r hv (by rw[Sem.run_bind,hr];rfl)
 have hlo: ∀y,evo ρA lo=some y→OR β ω y (lo.map ρ):=fun y hy=>az3 o hy
 have hhi: ∀y,evo ρA hi=some y→OR β ω y (hi.map ρ):=fun y hy=>az3 o hy
 unfold bv1
 split
 ·rename_i a hx hm
  have hmx:mx.map ρ=none:=az3 o hm
  have rv:=o x _ hx
  split
  ·rename_i ht
   split
   ·rename_i s hs
    have hv:=ad0 hs rv
    unfold bQ9
    split
    ·rename_i l e h1 h2
     intro hd
     obtain⟨d1,d2,d3⟩:=b16 hd
     rw[aI8]at d3
     obtain⟨y1,r1,b1⟩:=aw8 (k:=0) h1 hlo d1 rfl
     obtain⟨y2,r2,b2⟩:=aw8 (k:=(dS ω s).length) h2 hhi (by omega) (by rw[aI8];simp)
     have hb:=O9 (P:=E.P) (mx:=none) (vm:=none) (cap:=(dS ω s).length) (len:=(dS ω s).length) false r1 r2 rfl b1 b2 (m:=(dS ω s).length) rfl (by omega) (by omega) (b9 _) (fun _=>rfl)
     have hsz:(ByteArray.mk (dS ω s).toArray).size=(dS ω s).length:=by simp[ByteArray.size]
     refine fin (u:= .string ⟨(((dS ω s).drop (dI ω l).toNat).take ((dI ω e).toNat-(dI ω l).toNat)).toArray⟩) ?_ ?_
     ·show _=Value.string ⟨(((dS ω s).drop (dI ω l).toNat).take (dI ω e-dI ω l).toNat).toArray⟩
      rw[show(dI ω e).toNat-(dI ω l).toNat=(dI ω e-dI ω l).toNat by omega]
     ·rw[hv,hmx]
      simp only[Instr.sliceAt,Sem.run_bind,M9 ht,Result.andThen_ok,Instr.slice,hsz,Option.isSome_none,i4,if_false,Sem.run_pure,hb,ByteArray.extract_mk]
    ·trivial
   ·trivial
  ·rename_i elem ht
   split
   ·rename_i s b off len sz hs
    cases hc:Nat.beq s sz with
    |false=>trivial
    |true=>
     obtain rfl:=M8.1 hc
     simp only[cond_true]
     unfold bR0
     split
     ·rename_i l e h1 h2
      intro hd
      obtain⟨d0,hd⟩:=ao2 hd
      obtain⟨d1,d2,d3⟩:=b16 hd
      have d0:0≤dI ω off:=by
       cases hq:SX.beq off (.ci 0)with
       |true=>rw[SX.beq_eq _ _ hq,aI7];omega
       |false=>rw[hq]at d0;exact of_decide_eq_true d0
      obtain⟨y1,r1,b1⟩:=aw8 (k:=0) h1 hlo d1 rfl
      obtain⟨y2,r2,b2⟩:=aw8 (k:=(dI ω len).toNat) h2 hhi (by omega) rfl
      have hle:dI ω (cp8 e l)=dI ω e-dI ω l:=bY3 _ _
      have hlt:((dI ω e).toNat-(dI ω l).toNat)=(dI ω (cp8 e l)).toNat:=by rw[hle];omega
      simp only[VR]at rv
      rcases rv with⟨L,cap,ad,hL,hv,hcap,had⟩|⟨ad,cap,hv,hac,hz⟩
      ·refine fin ?_ (by rw[hv,hmx];exact aK8 ht hs r1 r2 b1 b2 (by omega) (by omega) w)
       simp only[VR]
       rw[hlt]
       by_cases hcl:cap=(dI ω l).toNat
       ·rw[if_pos hcl]
        exact .inl ⟨L,_,ad,hL,rfl,by rw[hle];omega,fun hp=>by rw[hle]at hp;omega⟩
       ·rw[if_neg hcl]
        refine .inl ⟨L,_,_,hL,rfl,by rw[hle];omega,fun hp=> ?_⟩
        rw[hle]at hp
        rw[had (by omega),U7,bW8,Int.toNat_add d0 d1,l7]
        simp[l8]
      ·rw[hz]at b2 d3
       have hl0:dI ω l=0:=by omega
       have he0:dI ω e=0:=by omega
       rw[hl0]at b1
       rw[he0]at b2
       cases ad with
       |none=>
        obtain rfl:=hac rfl
        refine fin ?_ (by rw[hv,hmx];exact aV6 (n:=0) ht hs r1 r2 b1 b2 w)
        exact .inr ⟨none,0,rfl,fun _=>rfl,by rw[hle,hl0,he0];rfl⟩
       |some ad=>
        refine fin ?_ (by rw[hv,hmx];exact aK8 (n:=0) ht hs r1 r2 b1 b2 (b9 _) (k8 _) w)
        by_cases hcl:cap=(0:Int).toNat
        ·rw[if_pos hcl];exact .inr ⟨some ad,_,rfl,(fun hh=>(by cases hh)),by rw[hle,hl0,he0];rfl⟩
        ·rw[if_neg hcl];exact .inr ⟨some _,_,rfl,(fun hh=>(by cases hh)),by rw[hle,hl0,he0];rfl⟩
     ·trivial
   ·rename_i s b len sz hs
    cases hc:Nat.beq s sz with
    |false=>trivial
    |true=>
     obtain rfl:=M8.1 hc
     simp only[cond_true]
     unfold bR1
     split
     ·rename_i l e h1 h2
      have main:0≤dI ω l→dI ω l≤dI ω e→dI ω e≤dI ω len→ ∀z:AV,((∀L cap,β b=some L→cap*s=L.ext→(dI ω len).toNat≤cap→VR β ω z (.slice (if cap=(dI ω l).toNat then some ⟨L.blk,L.off,none⟩else some ⟨L.blk,L.off+(dI ω l).toNat*s,none⟩) ((dI ω e).toNat-(dI ω l).toNat) (cap-(dI ω l).toNat)))∧(dI ω len=0→VR β ω z (.slice none 0 0)))→
       W2 E β ω K w0 w h (do pure (.value (←Instr.sliceAt t (ρ x) (lo.map ρ) (hi.map ρ) (mx.map ρ)))) z h:=by
       intro d1 d2 d3 z ⟨hz1,hz2⟩
       obtain⟨y1,r1,b1⟩:=aw8 (k:=0) h1 hlo d1 rfl
       obtain⟨y2,r2,b2⟩:=aw8 (k:=(dI ω len).toNat) h2 hhi (by omega) rfl
       simp only[VR]at rv
       rcases rv with⟨L,cap,hL,hext,hv,hcap⟩|⟨hv,hz⟩
       ·refine fin (hz1 L cap hL hext hcap) ?_
        have:=aK8 (a:=⟨L.blk,L.off,none⟩) ht hs r1 r2 b1 b2 (by omega) (show(dI ω e).toNat≤cap by omega) w
        rw[hv,hmx,this,U7]
       ·have hl0:dI ω l=0:=by omega
        have he0:dI ω e=0:=by omega
        rw[hl0]at b1
        rw[he0,hz]at b2
        exact fin (hz2 hz) (by rw[hv,hmx];exact aV6 (n:=0) ht hs r1 r2 b1 b2 w)
      cases hq:SX.beq l (.ci 0)with
      |true=>
       intro hd
       obtain⟨d1,d2,d3⟩:=b16 hd
       have hl0:dI ω l=0:=by rw[SX.beq_eq _ _ hq,aI7]
       rw[aI7]at d1 d2
       refine main (by omega) (by omega) d3 _ ⟨fun L cap hL hext hcap=> ?_,fun hz=> .inr ⟨rfl,by omega⟩⟩
       simp only[VR]
       refine .inl ⟨L,cap,hL,hext,?_,by omega⟩
       rw[hl0]
       by_cases hcl:cap=(0:Int).toNat
       ·rw[if_pos hcl];simp
       ·rw[if_neg hcl];simp
      |false=>
       intro hd
       obtain⟨d1,d2,d3⟩:=b16 hd
       have hle:dI ω (cp8 e l)=dI ω e-dI ω l:=bY3 _ _
       have hlt:((dI ω e).toNat-(dI ω l).toNat)=(dI ω (cp8 e l)).toNat:=by rw[hle];omega
       refine main d1 d2 d3 _ ⟨fun L cap hL hext hcap=> ?_,fun hz=> .inr ⟨none,0,rfl,fun _=>rfl,by rw[hle];omega⟩⟩
       simp only[VR]
       rw[hlt]
       by_cases hcl:cap=(dI ω l).toNat
       ·rw[if_pos hcl]
        exact .inl ⟨L,_,_,hL,rfl,by rw[hle];omega,fun hp=>by rw[hle]at hp;omega⟩
       ·rw[if_neg hcl]
        exact .inl ⟨L,_,_,hL,rfl,by rw[hle];omega,fun _=>rfl⟩
     ·trivial
   ·trivial
  ·trivial
 ·trivial
theorem HR.asCells(r:HR β ω K w0 h w){b el:Nat}{sig:List CT}{l:SX}(hg:h.get b=some (.arr el sig l))(hwm:h.wm≤b)(hne:el≠an1)(hnf:ω.fix el=false){ocs:List AV}(m1: ∀β:Bij,VRs β ω ocs (N7 sig (dL ω l)))(m2:ocs.all AV.one=true)(m3:ocs.length=(N7 sig (dL ω l)).length):
 HR β ω K w0 (h.put b (some (.cells el 0 ocs))) w:=by
 have hb65:=Heap.get_lim h b _ hg
 refine HR.retell (y:= .cells el 0 ocs) r hg (.inl hwm) ?_ rfl rfl (fun z=>by rw[Heap.get_put,if_pos hb65])
 intro L' hL' hbr
 obtain⟨C,e',lo,hi,z1,z0,z2,z3,z4,z5⟩:=hbr
 rw[z0.resolve_right hne]at z1
 refine⟨C,lo,hi,N7 sig (dL ω l),z1,z2,by rw[m3,O3];exact z3,aG9 m2,m1 β,fun k hk=> ?_,fun k _ hk=>z5 k hk,fun hh=>by rw[hnf]at hh;cases hh⟩
 have hk':k<(N7 sig (dL ω l)).length:=by rw[←m3];exact hk
 rw[j0 hk']
 exact z4 k _ (j0 hk')
theorem HR.asArr{b el:Nat}{sig:List CT}{l:SX}{cs:List AV}(hb65:b<65536)(r:HR β ω K w0 (h.put b (some (.cells el 0 cs))) w)(hd: ∀us,VRs β ω cs us→us=N7 sig (dL ω l)):HR β ω K w0 (h.put b (some (.arr el sig l))) w:=by
 have a35: ∀(hh:Heap) (x:Option Blk) (z:Nat),(hh.put b x).get z=if z=b then(if b<65536 then x else none)else hh.get z:=fun hh x z=>Heap.get_put _ _ _ _
 refine HR.retell (y:= .arr el sig l) r (b:=b) (x:= .cells el 0 cs) (by rw[a35,if_pos rfl,if_pos hb65]) (.inr rfl) ?_ rfl rfl (fun z=> ?_)
 ·intro L' hL' hbr
  obtain⟨C,lo,hi,vs,q1,q2,q3,q4,q5,q6,q7,q8⟩:=hbr
  have hvs:=hd vs q5
  subst hvs
  have hll:cs.length=(dL ω l).length*sig.length:=by rw[←q5.length,O3]
  refine⟨C,_,lo,hi,q1,.inl rfl,q2,by rw[←hll];exact q3,fun i v2 hi'=> ?_,fun i hi'=>q7 i (k8 _) hi'⟩
  rw[q6 i (by
   rcases d8 i cs.length with hh|hh
   ·exact hh
   ·rw[j7 (by rw[q5.length];exact hh)]at hi';cases hi')]
  exact hi'
 ·rw[a35,a35]
  by_cases hz:z=b
  ·rw[if_pos hz,if_pos hz,if_pos hb65]
  ·rw[if_neg hz,if_neg hz,if_neg hz]
theorem a72{m:Sem Value}{n:Sem Next}{res:Res}(hm: ∀h' a,Ok E.P β ω K w0 w h m a h'→W2 E β ω K w0 w h n a h')(k:b13 E.P β ω K w0 w h m res):SOk E β ω K w0 w h n res:=by
 cases res<;>first|exact k.elim|trivial|exact fun hd=>hm _ _ (k hd)
theorem W2.blt{h':Heap}{m:Sem Value}{n:Sem Next}{a:AV}(e:n=(do pure (.value (←m))))(k:Ok E.P β ω K w0 w h m a h'):W2 E β ω K w0 w h n a h':=by
 rw[e];exact W2.of k
theorem bm7{ts:Array TypeId}{ty:TypeId}{x:AV}{vx:Value}(r:HR β ω K w0 h w)(rx:VR β ω x vx):b13 E.P β ω K w0 w h (Builtin.unsafeSliceData_ ts ty #[vx]) (aZ1 x h):=by
 unfold aZ1
 split
 ·rename_i b len sz
  intro hd
  have hd:0<dI ω len:=of_decide_eq_true hd
  simp only[VR]at rx
  rcases rx with⟨L,cap,hL,hext,rfl,hcap⟩|⟨_,h0⟩
  ·refine⟨β,_,w,Lib.run_unsafeSliceData_row w ts ty _ _ _ (by omega),⟨L,hL,?_⟩,r,.refl _ _⟩
   rw[show(dI ω (.ci 0)).toNat=0 from rfl];simp
  ·omega
 ·trivial
theorem cg9{l n:SX}(h0:0<dI ω n)(h:dI ω n≤((dL ω l).length:Int)):dL ω (aS3 l n)=(dL ω l).take (dI ω n).toNat:=by
 unfold aS3
 cases hb:SX.beq n (.op .llen [l])with
 |true=>
  have:=SX.beq_eq _ _ hb
  subst this
  show dL ω l=(dL ω l).take (((dL ω l).length:Nat):Int).toNat
  rw[Int.toNat_natCast,C7]
 |false=>
  show((dL ω l).drop (0:Int).toNat).take (dI ω n-0).toNat=_
  simp
theorem bJ5{ts:Array TypeId}{ty:TypeId}{x y:AV}{vx vy:Value}(r:HR β ω K w0 h w)(rx:VR β ω x vx)(ry:VR β ω y vy):b13 E.P β ω K w0 w h (Builtin.unsafeString_ ts ty #[vx,vy]) (bj4 E.P ts x y h):=by
 unfold bj4
 split
 ·rename_i b k n hn
  have hvy:=a10 hn ry
  subst hvy
  unfold bu9
  split
  ·rename_i e l pt hg h0
   unfold bu8
   split
   ·rename_i et hp
    split
    ·rename_i hsz
     cases hc:(Nat.beq e et&&Nat.ble h.wm b&& !(Nat.beq e an1))with
     |false=>trivial
     |true=>
      obtain⟨hc,c3⟩:=M6 hc
      have hna:e≠an1:=fun e2=>by rw[e2,show Nat.beq an1 an1=true from rfl]at c3;cases c3
      obtain⟨c1,c2⟩:=M6 hc
      obtain rfl:=M8.1 c1
      rw[N1]at c2
      intro hd
      obtain⟨d1,d2⟩:=M6 (a:=(dB ω (.op (.cmp .lss) [.ci 0,n])&&dB ω (.op (.cmp .leq) [n,.ci al5]))) (b:=(dB ω (.op (.cmp .leq) [n,.op .llen [l]])&&dB ω (.op .bok [aS3 l n]))) hd
      obtain⟨d1,d3⟩:=M6 d1
      obtain⟨d2,d4⟩:=M6 d2
      have d1:0<dI ω n:=of_decide_eq_true d1
      have d3:dI ω n≤1000000:=of_decide_eq_true d3
      have d2:dI ω n≤((dL ω l).length:Int):=of_decide_eq_true d2
      have hsub:=cg9 d1 d2
      have d4:((dL ω (aS3 l n)).all fun r=>decide (0≤(r.toL.getD 0 default).toI)&&decide ((r.toL.getD 0 default).toI<256))=true:=d4
      simp only[VR]at rx
      obtain⟨L,hL,rfl⟩:=rx
      have hst:dS ω (.op .bstr [aS3 l n])=(dL ω (aS3 l n)).map fun r=>UInt8.ofNat (r.toL.getD 0 default).toI.toNat:=rfl
      have hf:=aw6 d4
      rw[←hst,hsub]at hf
      have hll:(dS ω (.op .bstr [aS3 l n])).length=(dI ω n).toNat:=by
       rw[hst,m5,hsub,e9];omega
      obtain⟨C,e',lo,hi,q1,q0,q2,q3,q4,q5⟩:=r.arr hg hL
      obtain⟨i,hi',hsize⟩:=af5 hsz
      have hcell:E.P.cellsOf e=1:=by simp[Program.cellsOf,hi',hsize]
      have hne:e'=e:=q0.resolve_right hna
      subst hne
      have q3':(dL ω l).length≤L.ext:=by simpa using q3
      have hrun:=a71 (P:=E.P) w ts pt ty e' k h0 hp hcell L.blk L.off C.size (aC7 q1) (dS ω (.op .bstr [aS3 l n])) (by intro hh;rw[hh]at hll;simp at hll;omega) (by omega) (by omega) (fun j x hj=>by
        have:=HR.arrCells r hg hL rfl 0 (dI ω n).toNat (by omega) j (.int .u8 (x.toNat:Int)) (by
          rw[B8,hf,r5,hj];rfl)
        rw[U7]
        simpa using this)
      rw[hll]at hrun
      have hnn:(((dI ω n).toNat:Nat):Int)=dI ω n:=by omega
      rw[hnn]at hrun
      obtain⟨p1,p2⟩:=r.ruin (w':=w.freeze ⟨L.blk,L.off,none⟩ (dI ω n).toNat) b _ L hg hL c2 (fun i hi=>by
       unfold World.freeze
       split
       ·rfl
       ·simp only[D7]
        rw[if_neg (fun hh=>hi hh.symm)]) (by unfold World.freeze;split<;>simp) (by unfold World.freeze;split<;>rfl) (by unfold World.freeze;split<;>rfl) (by unfold World.freeze;split<;>rfl) (by unfold World.freeze;split<;>rfl)
      refine⟨β,_,_,?_,rfl,p1,p2⟩
      rw[show L.off+(dI ω (.ci 0)).toNat*1+0=L.off by rw[show(dI ω (.ci 0)).toNat=0 from rfl];omega]
      exact hrun
    ·trivial
   ·trivial
  ·trivial
 ·trivial
theorem ch0{ts:Array TypeId}{ty:TypeId}{x y:AV}{vx vy:Value}(r:HR β ω K w0 h w)(rx:VR β ω x vx)(ry:VR β ω y vy):b13 E.P β ω K w0 w h (Builtin.copy_ ts ty #[vx,vy]) (cw9 E.P ts x y h):=by
 unfold cw9
 split
 ·rename_i elem ht
  simp only[j6]at ht
  obtain⟨t,h0,ht⟩:=ht
  split
  ·rename_i s b len sz hs
   intro hd
   have hy:vy= .slice none 0 0:=ry
   subst hy
   have hx: ∃p n c,vx= .slice p n c:=by
    simp only[VR]at rx
    rcases rx with⟨L,cap,hL,hext,rfl,hcap⟩|⟨rfl,h0⟩<;>exact⟨_,_,_,rfl⟩
   obtain⟨p,n,c,rfl⟩:=hx
   refine⟨β,.int .i64 0,w,?_,rfl,r,.refl _ _⟩
   obtain⟨us,u1,u2,u3⟩:=af7 (P:=E.P) (s:=s) (n:=0) (x:= .nils) (l:=[]) (v:= .slice none 0 0) r rfl rfl
   have h3:=u3 w rfl
   have h4:=b06 (P:=E.P) (β:=β) (ω:=ω) (x:= .nils) (n:=0) (v:= .slice none 0 0) rfl rfl w
   have u1:us=[]:=u1
   subst u1
   have hm:Nat.min 0 n=0:=Nat.zero_min n
   cases p<;>simp only[Builtin.copy_,h0,Sem.run_bind,M9 ht,O2 hs,h4,hm,h3,Result.andThen_ok,C5,List.getElem?_cons_zero,List.getElem?_cons_succ,Sem.run_pure]<;>rfl
  ·trivial
 ·trivial
theorem bx2(ω:Opq)(z:List AV)(sig:List CT)(es:List SX)(hes:R8 sig z=some es): ∀(n:Nat) (β:Bij) (us:List Value),VRs β ω (rep n z) us→us=N7 sig (List.replicate n (.vl (N2 ω es)))
 |0,β,us,h=>h
 |n+1,β,us,h=>by
  have h1:=h.take z.length
  have h2:=h.drop z.length
  have e1:(rep (n+1) z).take z.length=z:=by simp[rep]
  have e2:(rep (n+1) z).drop z.length=rep n z:=by simp[rep]
  rw[e1]at h1
  rw[e2]at h2
  rw[←p8 z.length us,R7 hes h1,bx2 ω z sig es hes n β _ h2]
  simp[List.replicate_succ,N7]
theorem bY5(z:List AV): ∀n,(rep n z).length=n*z.length
 |0=>by simp[rep]
 |n+1=>by simp[rep,bY5 z n,l7];omega
theorem bx3(z:List AV)(hz:z.all AV.one=true): ∀n,(rep n z).all AV.one=true
 |0=>rfl
 |n+1=>by simp only[rep,B2,hz,bx3 z hz n,Bool.and_self]
theorem HR.sameGet{h2:Heap}(r:HR β ω K w0 h w)(hn:h2.next=h.next)(hw:h2.wm=h.wm)(hg: ∀z,h.get z=h2.get z):HR β ω K w0 h2 w:=
 ⟨fun b x L e=>r.blk b x L (by rw[hg];exact e),fun b b' x x' L L' e e' hb hb' hne q=>r.sep b b' x x' L L' (by rw[hg];exact e) (by rw[hg];exact e') hb hb' hne (by rw[←hw];exact q),fun b hb=>r.fresh b (by rw[←hn];exact hb),fun b hb=>by rw[←hg];exact r.fget b (by rw[←hn];exact hb),r.lt,r.kin,r.keep,
   fun b x L e q=>r.free b x L (by rw[hg];exact e) (by rw[←hw];exact q),r.size,r.os,r.tape,r.out,r.dr⟩
theorem aV7(sig:List CT): ∀(l:List Val) (o:Nat),(N7 sig l).take (o*sig.length)=N7 sig (l.take o)
 |l,0=>by simp[N7]
 | [],o+1=>by simp[N7]
 |r::l,o+1=>by
  have ih:=aV7 sig l o
  show((a27 sig r++N7 sig l).take ((o+1)*sig.length))=a27 sig r++N7 sig (l.take o)
  rw[←ih,List.take_append,P4,l7,A5,J2,E2 (by rw[P4];omega)]
theorem aV8(sig:List CT): ∀(l:List Val) (o:Nat),(N7 sig l).drop (o*sig.length)=N7 sig (l.drop o)
 |l,0=>by simp[N7]
 | [],o+1=>by simp[N7]
 |r::l,o+1=>by
  have ih:=aV8 sig l o
  show((a27 sig r++N7 sig l).drop ((o+1)*sig.length))=N7 sig (l.drop o)
  rw[←ih,F7,P4,l7,A5,J2,E7 (by rw[P4];omega),List.nil_append]
theorem aV9(hfx: ∀t,ω.fix t=aq0 E.P t)(r:HR β ω K w0 h w){ts:Array TypeId}{ty t elem b:Nat}{off len:SX}{sz:Nat}{z:AV}{vx:Value}(h0:ts[0]? =some t)(ht:E.P.underlying t=some (.slice elem))(hz:V5 E.P elem=some z)(hfe:aq0 E.P elem=false)
 (rx:(∃L cap a,β b=some L∧vx= .slice (some a) (dI ω len).toNat cap∧(dI ω len).toNat≤cap∧(0<dI ω len→a=⟨L.blk,L.off+(dI ω off).toNat*sz,none⟩))∨ ∃a cap,vx= .slice a 0 cap∧(a=none→cap=0)∧dI ω len=0):
 b13 E.P β ω K w0 w h (Builtin.clear_ ts ty #[vx]) (aZ2 E.P b off len sz z.cells (h.get b) h):=by
 unfold aZ2
 split
 ·rename_i e sig l hg
  split
  ·rename_i es hes
   cases hc:(Nat.beq sig.length sz&&Nat.blt 0 sz&&Nat.ble h.wm b&& !(Nat.beq e an1)&& !(aq0 E.P e))with
   |false=>trivial
   |true=>
    obtain⟨hc,c5⟩:=M6 hc
    have hnf:ω.fix e=false:=by rw[hfx];simpa using c5
    obtain⟨hc,c4⟩:=M6 hc
    have hne:e≠an1:=fun e2=>by rw[e2,show Nat.beq an1 an1=true from rfl]at c4;cases c4
    obtain⟨hc,c3⟩:=M6 hc
    obtain⟨c1,c2⟩:=M6 hc
    obtain rfl:=M8.1 c1
    rw[N1]at c3
    rw[N9]at c2
    intro hd
    obtain⟨d1,d2⟩:=M6 (a:=(dB ω (.op (.cmp .leq) [.ci 0,off])&&dB ω (.op (.cmp .leq) [.ci 0,len]))) (b:=(dB ω (.op (.cmp .leq) [len,.ci al5])&&dB ω (.op (.cmp .leq) [.op .iadd [off,len],.op .llen [l]]))) hd
    obtain⟨d1,d3⟩:=M6 d1
    obtain⟨d2,d4⟩:=M6 d2
    have d1:0≤dI ω off:=of_decide_eq_true d1
    have d3:0≤dI ω len:=of_decide_eq_true d3
    have d4:dI ω off+dI ω len≤((dL ω l).length:Int):=of_decide_eq_true d4
    have hb65:=Heap.get_lim h b _ hg
    obtain⟨o,ho⟩: ∃o:Nat,dI ω off=(o:Int):=⟨(dI ω off).toNat,by omega⟩
    obtain⟨n,hn⟩: ∃n:Nat,dI ω len=(n:Int):=⟨(dI ω len).toNat,by omega⟩
    have hon:o+n≤(dL ω l).length:=by omega
    have aF3:dL ω (.op .lcat [.op .lsub [l,.ci 0,off],.op .lcat [.op .lrep [len,.op .row es],.op .lsub [l,.op .iadd [off,len],.op .llen [l]]]])=(dL ω l).take o++(List.replicate n (.vl (N2 ω es))++(dL ω l).drop (o+n)):=by
     show((dL ω l).drop (0:Int).toNat).take (dI ω off-0).toNat++(List.replicate (dI ω len).toNat (.vl (N2 ω es))++((dL ω l).drop (dI ω off+dI ω len).toNat).take (((dL ω l).length:Int)-(dI ω off+dI ω len)).toNat)=_
     rw[ho,hn,show(0:Int).toNat=0 from rfl,B8,show((o:Int)-0).toNat=o by omega,Int.toNat_natCast,show((o:Int)+(n:Int)).toNat=o+n by omega]
     congr 2
     rw[E2 (by rw[l6];omega)]
    rcases rx with⟨L,cap,a,hL,hv,hcap,ha⟩|⟨a,cap,hv,hacap,hlen0⟩
    ·rw[hn,Int.toNat_natCast]at hv
     by_cases hn0:n=0
     ·subst hn0
      refine⟨β,.tuple #[],w,by rw[hv];cases a<;>simp[Builtin.clear_,h0,M9 ht],⟨_,rfl,rfl⟩,?_,?_⟩
      ·refine HR.retell (y:= .arr e sig (.op .lcat [.op .lsub [l,.ci 0,off],.op .lcat [.op .lrep [len,.op .row es],.op .lsub [l,.op .iadd [off,len],.op .llen [l]]]])) r hg (.inl c3) ?_ rfl rfl (fun z=>by rw[Heap.get_put,if_pos hb65])
       intro L' hL' hbr
       obtain⟨C,e',lo,hi,z1,z0,z2,z3,z4,z5⟩:=hbr
       have he:dL ω (.op .lcat [.op .lsub [l,.ci 0,off],.op .lcat [.op .lrep [len,.op .row es],.op .lsub [l,.op .iadd [off,len],.op .llen [l]]]])=dL ω l:=by rw[aF3];simp
       exact⟨C,e',lo,hi,z1,z0,z2,by rw[he];exact z3,by rw[he];exact z4,z5⟩
      ·refine⟨b9 _,fun _ _=>rfl,fun z hz hzn=> ?_,rfl⟩
       left
       rw[Heap.get_put,if_neg (fun hh=>by rw[hh,hL]at hzn;cases hzn)]
     ·have ha:=ha (by omega)
      subst ha
      obtain⟨ocs,m1,m2,m3,m4⟩:=avs ω sig (dL ω l)
      have m3':ocs.length=(dL ω l).length*sig.length:=by rw[m3,O3]
      have r2:=r.asCells hg c3 hne hnf m1 m2 m3
      obtain⟨hone,helen⟩:=ao5 hes
      have hzl:z.cells.length=sig.length:=by rw[←helen];exact R3 hes
      have hrl:=bY5 z.cells n
      rw[hzl]at hrl
      have hmul:o*sig.length+n*sig.length≤(dL ω l).length*sig.length:=by rw[←l7];exact t8 _ hon
      have hg2:(h.put b (some (.cells e 0 ocs))).get b=some (.cells e 0 ocs):=by rw[Heap.get_put,if_pos rfl,if_pos hb65]
      have hpc:putCells (h.put b (some (.cells e 0 ocs))) b (o*sig.length) (rep n z.cells)=some ((h.put b (some (.cells e 0 ocs))).put b (some (.cells e 0 (a03 ocs (o*sig.length) (rep n z.cells))))):=by
       have hr0:0<n*sig.length:=Nat.mul_pos (by omega) c2
       cases hcs:rep n z.cells with
       |nil=>rw[hcs]at hrl;simp only[List.length_nil]at hrl;omega
       |cons a as=>
        rw[←hcs]
        simp only[putCells,hcs]
        rw[←hcs,hg2]
        simp only[Heap.wm_put]
        rw[show(Nat.ble h.wm b&&Nat.ble 0 (o*sig.length)&&Nat.ble (o*sig.length+(rep n z.cells).length) ocs.length&&(rep n z.cells).all AV.one)=true by
         rw[bx3 _ hone,N1.2 c3,N1.2 (k8 _),N1.2 (by rw[hrl,m3'];exact hmul)];rfl]
        rfl
      have hcl:aT8 E.P elem b (o*sig.length) n (h.put b (some (.cells e 0 ocs)))=some (.undef,(h.put b (some (.cells e 0 ocs))).put b (some (.cells e 0 (a03 ocs (o*sig.length) (rep n z.cells))))):=by
       unfold aT8
       split
       ·exact absurd rfl hn0
       ·rw[hz]
        simp only[hzl]
        rw[a40 c2,cond_true,hpc];rfl
      obtain⟨β',u,w',e1,e2,e3,e4⟩:=aI4 (ty:=ty) (cap:=cap) h0 ht r2 hcl hL
      have hβ:HR β' ω K w0 (h.put b (some (.cells e 0 (a03 ocs (o*sig.length) (rep n z.cells))))) w':=by
       have: ∀q,((h.put b (some (.cells e 0 ocs))).put b (some (.cells e 0 (a03 ocs (o*sig.length) (rep n z.cells))))).get q=(h.put b (some (.cells e 0 (a03 ocs (o*sig.length) (rep n z.cells))))).get q:=fun q=>by
        rw[Heap.get_put,Heap.get_put,Heap.get_put]
        by_cases hz:q=b
        ·rw[if_pos hz,if_pos hz]
        ·rw[if_neg hz,if_neg hz,if_neg hz]
       exact e3.sameGet rfl rfl this
      refine⟨β',u,w',by rw[hv,ho,Int.toNat_natCast];exact e1,e2,?_,?_⟩
      ·refine HR.asArr hb65 hβ (fun us hus=> ?_)
       rw[aF3,ab2,ab2]
       unfold a03 at hus
       have hl1:(ocs.take (o*sig.length)).length=o*sig.length:=by rw[e9,m3'];omega
       have hdet1: ∀us,VRs β' ω (ocs.take (o*sig.length)) us→us=(N7 sig (dL ω l)).take (o*sig.length):=fun us hu=>az6 m4 m1 hu
       have hdet2: ∀us,VRs β' ω (ocs.drop (o*sig.length+(rep n z.cells).length)) us→us=(N7 sig (dL ω l)).drop (o*sig.length+(rep n z.cells).length):=fun us hu=>az7 m4 m1 hu
       have t1:=hus.take (ocs.take (o*sig.length)++rep n z.cells).length
       have t2:=hus.drop (ocs.take (o*sig.length)++rep n z.cells).length
       rw[C8]at t1
       rw[C9]at t2
       have t3:=t1.take (ocs.take (o*sig.length)).length
       have t4:=t1.drop (ocs.take (o*sig.length)).length
       rw[C8]at t3
       rw[C9]at t4
       rw[←p8 (ocs.take (o*sig.length)++rep n z.cells).length us,hdet2 _ t2]
       rw[←p8 (ocs.take (o*sig.length)).length (us.take (ocs.take (o*sig.length)++rep n z.cells).length),hdet1 _ t3,bx2 ω z.cells sig es hes n β' _ t4,r7,hrl,aV7,←l7,aV8]
      ·have:=e4
       refine⟨this.le,fun b' hb'=>this.ext b' hb',fun b' hb' hn'=> ?_,this.wm⟩
       left
       rw[Heap.get_put,if_neg (fun hh=>by rw[hh,hL]at hn';cases hn')]
    ·have hn0:n=0:=by omega
     subst hn0
     refine⟨β,.tuple #[],w,by rw[hv];cases a<;>simp[Builtin.clear_,h0,M9 ht],⟨_,rfl,rfl⟩,?_,?_⟩
     ·refine HR.retell (y:= .arr e sig (.op .lcat [.op .lsub [l,.ci 0,off],.op .lcat [.op .lrep [len,.op .row es],.op .lsub [l,.op .iadd [off,len],.op .llen [l]]]])) r hg (.inl c3) ?_ rfl rfl (fun z=>by rw[Heap.get_put,if_pos hb65])
      intro L' hL' hbr
      obtain⟨C,e',lo,hi,z1,z0,z2,z3,z4,z5⟩:=hbr
      have he:dL ω (.op .lcat [.op .lsub [l,.ci 0,off],.op .lcat [.op .lrep [len,.op .row es],.op .lsub [l,.op .iadd [off,len],.op .llen [l]]]])=dL ω l:=by rw[aF3];simp
      exact⟨C,e',lo,hi,z1,z0,z2,by rw[he];exact z3,by rw[he];exact z4,z5⟩
     ·refine⟨b9 _,fun _ _=>rfl,fun z hz hzn=> ?_,rfl⟩
      by_cases e1:z=b
      ·subst e1;exact .inr (.inr ⟨_,_,_,hg⟩)
      ·left;rw[Heap.get_put,if_neg e1]
  ·trivial
 ·trivial
theorem bY6(hfx: ∀t,ω.fix t=aq0 E.P t){ts:Array TypeId}{ty:TypeId}{x:AV}{vx:Value}(r:HR β ω K w0 h w)(rx:VR β ω x vx):b13 E.P β ω K w0 w h (Builtin.clear_ ts ty #[vx]) (bQ0 E.P ((ts[0]?).bind E.P.underlying) x h):=by
 unfold bQ0
 split
 ·rename_i elem ht
  simp only[j6]at ht
  obtain⟨t,h0,ht⟩:=ht
  split
  ·rename_i z hz
   cases hfe:aq0 E.P elem with
   |true=>trivial
   |false=>
    simp only[cond_false]
    split
    ·simp only[VR]at rx
     exact aV9 hfx r h0 ht hz hfe rx
    ·rename_i b len sz
     simp only[VR]at rx
     refine aV9 hfx r h0 ht hz hfe ?_
     rcases rx with⟨L,cap,hL,h1,h2,h3⟩|⟨h1,h2⟩
     ·refine .inl ⟨L,cap,_,hL,h2,h3,fun _=> ?_⟩
      rw[show(dI ω (.ci 0)).toNat*sz=0 by show(0:Int).toNat*sz=0;simp];rfl
     ·exact .inr ⟨none,0,h1,fun _=>rfl,h2⟩
    ·trivial
  ·trivial
 ·trivial
theorem ch1(hfx: ∀t,ω.fix t=aq0 E.P t)(r:HR β ω K w0 h w)(o:OpR β ω ρA ρ)(c:Call)(ty:TypeId):
 SOk E β ω K w0 w h (do let d ←resolve ρ c ty;invoke d.target d.args) (cd1 E.P ρA c h):=by
 unfold cd1
 split
 ·rename_i b hb
  have hrun: ∀w,(do let d ←resolve ρ c ty;invoke d.target d.args:Sem Next).run E.P w=(builtin b c.argTypes ty (c.args.map fun| .const _=>true|_=>false) (c.args.map ρ)).run E.P w:=by
    intro w;simp only[resolve,hb,Sem.run_bind,Sem.run_pure,Result.andThen_ok,invoke];rfl
  have conv: ∀res,SOk E β ω K w0 w h (builtin b c.argTypes ty (c.args.map fun| .const _=>true|_=>false) (c.args.map ρ)) res→SOk E β ω K w0 w h (do let d ←resolve ρ c ty;invoke d.target d.args) res:=by
    intro res hh
    cases res with
    |val v h1=>obtain⟨β',u,w',q1,q2⟩:=hh;exact⟨β',u,w',by rw[hrun];exact q1,q2⟩
    |need e v h1=>intro hd;obtain⟨β',u,w',q1,q2⟩:=hh hd;exact⟨β',u,w',by rw[hrun];exact q1,q2⟩
    |cho e v l h1=>
     refine⟨fun hd=> ?_,fun hd=> ?_⟩
     ·obtain⟨β',u,w',q1,q2⟩:=hh.1 hd;exact⟨β',u,w',by rw[hrun];exact q1,q2⟩
     ·obtain⟨x,hx,β',u,w',q1,q2⟩:=hh.2 hd;exact⟨x,hx,β',u,w',by rw[hrun];exact q1,q2⟩
    |enter f vs=>obtain⟨us,q1,q2⟩:=hh;exact⟨us,by rw[hrun];exact q1,q2⟩
    |choice l=>obtain⟨x,hx,β',u,w',q1,q2⟩:=hh;exact⟨x,hx,β',u,w',by rw[hrun];exact q1,q2⟩
    |yield l vs=>obtain⟨L,us,q1,q2,q3⟩:=hh;exact⟨L,us,q1,q2,by rw[hrun];exact q3⟩
    |defer d=>obtain⟨dd,q1,q2⟩:=hh;exact⟨dd,by rw[hrun];exact q1,q2⟩
    |bad=>trivial
  apply conv
  cases hx:evs ρA c.args.toList with
  |none=>trivial
  |some args=>
   have ra:=aV2 o hx
   have harr:c.args.map ρ=(c.args.toList.map ρ).toArray:=by apply y8;simp
   rw[harr]
   unfold aC4
   split
   ·rename_i x hh
    simp only[a8]at hh;subst hh
    obtain⟨v,vr,e1,p1,p2⟩:=ra
    obtain rfl:vr=[]:=p2
    rw[e1]
    split
    ·exact cB3 r p1 _ _ _
    ·exact a72 (fun h' a k=>W2.blt rfl k) (bm7 r p1)
    ·exact a72 (fun h' a k=>W2.blt rfl k) (bY6 hfx r p1)
    ·trivial
   ·rename_i x y hh
    simp only[a8]at hh;subst hh
    obtain⟨v,vr,e1,p1,v2,vr2,e2,p2,p3⟩:=ra
    obtain rfl:vr2=[]:=p3
    rw[e1,e2]
    split
    ·exact bJ0 hfx r p1 p2 _ _ _
    ·exact a72 (fun h' a k=>W2.blt rfl k) (bJ5 r p1 p2)
    ·exact a72 (fun h' a k=>W2.blt rfl k) (ch0 r p1 p2)
    ·exact a72 (fun h' a k=>W2.blt rfl k) (cB5 r p1 p2)
    ·exact cV5 hfx r p1 p2 b _ _ _
   ·trivial
 ·trivial
theorem ch2(hfx: ∀t,ω.fix t=aq0 E.P t)(r:HR β ω K w0 h w)(ro:OpR β ω ρA ρ)(o:Oper):SOk E β ω K w0 w h (execOp ρ o) (aG3 E ρA o h):=by
 obtain⟨dst,op,ty,pos,after,guard⟩:=o
 cases op with
 |binOp op t x y _=>exact cf4 r ro op t x y
 |unOp op _ x=>exact cV4 r ro op x
 |convert s d x=>exact cf8 r ro s d x
 |pick c a b=>exact cf5 r ro c a b
 |load t a=>exact cf6 r ro t a
 |indexAddr t x i=>exact b12 r ro t x i
 |fieldAddr s x f=>exact b11 r ro s f x
 |index t x i=>exact bW9 r ro t x i
 |store t a x=>exact bY2 hfx r ro t a x
 |slice t x lo hi mx=>exact bY4 r ro t x lo hi mx
 |lookup t m k ok=>exact bJ2 r ro t m k ok
 |mapUpdate t m k x=>exact bc1 r ro t m k x
 |insert t m k x=>exact bc1 r ro t m k x
 |mapEntry t m k=>exact bJ3 r ro t m k
 |entryStore t m s x=>exact bY1 r ro t m s x
 |call c=>exact ch1 hfx r ro c ty
 |_=>trivial
end Go.Ev
