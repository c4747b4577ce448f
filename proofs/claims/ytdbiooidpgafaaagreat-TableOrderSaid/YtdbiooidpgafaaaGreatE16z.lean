import Derived.Test.YtdbiooidpgafaaaGreatE16n
set_option linter.unusedVariables false
set_option linter.unusedSimpArgs false
namespace Go.Ev
open Go
variable{E:Env}{β:Bij}{ω:Opq}{K:Nat→Prop}{w0 w:World}{h:Heap}{ρA:Operand→Option AV}{ρ:Operand→Value}
theorem bg3(sig:List CT)(r:Val): ∀(l:List Val) (k:Nat),k<l.length→R3 sig (l.set k r)=(R3 sig l).take (k*sig.length)++(a95 sig r++(R3 sig l).drop (k*sig.length+sig.length))
 | [],k,h=>by simp at h
 |a::l,0,h=>by
  have e:R3 sig (a::l)=a95 sig a++R3 sig l:=by simp[R3]
  have e2:R3 sig ((a::l).set 0 r)=a95 sig r++R3 sig l:=by simp[R3]
  have hl:=U6 sig a
  rw[e,e2,C9,List.take_zero,List.nil_append,j7,P4 (by omega),E5 (by omega),List.nil_append]
 |a::l,k+1,h=>by
  have e:R3 sig (a::l)=a95 sig a++R3 sig l:=by simp[R3]
  have e2:R3 sig ((a::l).set (k+1) r)=a95 sig a++R3 sig (l.set k r):=by simp[R3]
  have hl:=U6 sig a
  have ih:=bg3 sig r l k (by simpa using h)
  have t1:(a95 sig a++R3 sig l).take (k*sig.length+sig.length)=a95 sig a++(R3 sig l).take (k*sig.length):=by
   rw[show k*sig.length+sig.length=(a95 sig a).length+k*sig.length by omega,List.take_length_add_append]
  have t2:(a95 sig a++R3 sig l).drop (k*sig.length+sig.length+sig.length)=(R3 sig l).drop (k*sig.length+sig.length):=by
   rw[show k*sig.length+sig.length+sig.length=(a95 sig a).length+(k*sig.length+sig.length) by omega,List.drop_length_add_append]
  rw[e2,ih,e,p8,C8,t1,t2,v8]
theorem cp6{sig:List CT}{old:Val}{c0 es c1:List Val}{j n:Nat}(hj:j+n≤sig.length)(h0:c0=(List.range' 0 j).map fun t=>old.toL.getD t default)(hn:es.length=n)(h1:c1=(List.range' (j+n) (sig.length-(j+n))).map fun t=>old.toL.getD t default):
 a95 sig (.vl (c0++(es++c1)))=(a95 sig old).take j++(a95 ((sig.drop j).take n) (.vl es)++(a95 sig old).drop (j+n)):=by
 have l0:c0.length=j:=by rw[h0];simp
 have l1:c1.length=sig.length-(j+n):=by rw[h1];simp
 apply J5
 intro i
 have hsub:((sig.drop j).take n).length=n:=by simp;omega
 have hold:=U6 sig old
 rcases i4 i sig.length with hi|hi
 ·rw[am3 hi]
  show some (a67 _ ((c0++(es++c1)).getD i default))=_
  rcases i4 i j with q|q
  ·rw[k9 (by rw[j0];omega),p9,if_pos q,am3 hi]
   congr 2
   rw[i6,k9 (by omega),h0]
   simp[q]
  ·rcases i4 i (j+n)with q2|q2
   ·rw[k8 (by rw[j0];omega),j0,x9 (by omega)]
    rw[k9 (by rw[U6,hsub];omega),am3 (by rw[hsub];omega)]
    congr 2
    ·rw[i6,i6,p9,if_pos (by omega),r9,show j+(i-j)=i by omega]
    ·show _=es.getD (i-j) default
     rw[i6,i6,k8 (by omega),l0,k9 (by omega)]
   ·rw[k8 (by rw[j0];omega),j0,x9 (by omega)]
    rw[k8 (by rw[U6,hsub];omega),U6,hsub,r9,show j+n+(i-j-n)=i by omega,am3 hi]
    congr 2
    rw[i6,k8 (by omega),k8 (by omega),l0,hn,h1]
    rw[A1,List.getElem?_range' (by omega)]
    simp only[Option.map_some,Option.getD_some]
    congr 1;omega
 ·rw[l8 (by rw[U6];exact hi),l8]
  rw[j9,j9,j0,n9,U6,U6,hsub];omega
theorem aN0(ω:Opq): ∀a b:List SX,Q4 ω (a++b)=Q4 ω a++Q4 ω b
 | [],b=>rfl
 |x::a,b=>by simp only[List.cons_append,Q4,aN0 ω a b]
theorem aN1(l idx:SX): ∀n j,Q4 ω (ai1 l idx j n)=(List.range' j n).map fun(t:Nat)=>R6 (dL ω l) (dI ω idx) (t:Int)
 |0,j=>rfl
 |n+1,j=>by
  simp only[ai1,Q4,aN1 l idx n (j+1),A8,k6];rfl
theorem bO9{c:CT}{v:AV}{e:SX}(h:bc2 c v=some e):v.one=true:=by
 unfold bc2 at h
 split at h
 ·split at h
  ·rename_i k' e' hs
   unfold b09 at hs
   split at hs<;>first|rfl|cases hs
  ·cases h
 ·unfold bo5 at h
  split at h<;>first|rfl|cases h
 ·unfold bo6 at h
  split at h<;>first|rfl|cases h
theorem aN2: ∀{sig:List CT} {vs:List AV} {es:List SX},X8 sig vs=some es→vs.all AV.one=true∧es.length=vs.length
 | [],[],es,h=>by simp only[X8,b9]at h;subst h;exact⟨rfl,rfl⟩
 | [],_::_,es,h=>by cases h
 |_::_,[],es,h=>by cases h
 |c::cs,v::vs,es,h=>by
  simp only[X8]at h
  split at h
  ·rename_i e es' h1 h2
   simp only[b9]at h;subst h
   obtain⟨a,b⟩:=aN2 h2
   simp only[List.all_cons,e9,List.length_cons]
   exact⟨⟨bO9 h1,a⟩,by rw[b]⟩
  ·cases h
theorem bC9(ω:Opq): ∀l:List SX,(Q4 ω l).length=l.length
 | []=>rfl
 |a::r=>by simp only[Q4,List.length_cons,bC9 ω r]
theorem bg4{cs:List AV}{vs:List Value}{n:Nat}(hd: ∀(β:Bij) us,VRs β ω cs us→us=vs)(h0: ∀β:Bij,VRs β ω cs vs){β:Bij}{us:List Value}(hu:VRs β ω (cs.take n) us):us=vs.take n:=by
 have h1:=hu.append ((h0 β).drop n)
 rw[t8]at h1
 have h2:=hd β _ h1
 have hl:=hu.length
 have hv:=(h0 β).length
 rw[←h2]
 rw[j0]at hl
 rcases Nat.le_total n cs.length with q|q
 ·rw[P5 (by omega),N7 (by omega)]
 ·have:vs.drop n=[]:=E5 (by omega)
  rw[this,x7,N7 (by omega)]
theorem bg5{cs:List AV}{vs:List Value}{n:Nat}(hd: ∀(β:Bij) us,VRs β ω cs us→us=vs)(h0: ∀β:Bij,VRs β ω cs vs){β:Bij}{us:List Value}(hu:VRs β ω (cs.drop n) us):us=vs.drop n:=by
 have h1:=((h0 β).take n).append hu
 rw[t8]at h1
 have h2:=hd β _ h1
 have hv:=(h0 β).length
 rw[←h2]
 rcases Nat.le_total n cs.length with q|q
 ·rw[P4 (by rw[j0];omega),E5 (by rw[j0];omega),List.nil_append]
 ·have hul:=hu.length
  have:us=[]:=A0 (by rw[hul,n9];omega)
  rw[this,x7,E5 (by rw[j0];omega)]
theorem c34(hfx: ∀t,ω.fix t=aG2 E.P t)(r:HR β ω K w0 h w)(o:OpR β ω ρA ρ)(t:TypeId)(x y:Operand):SOk E β ω K w0 w h (do Instr.storeAt t (ρ x) (ρ y);pure .skip) (bW1 E.P t h (ρA x) (ρA y)):=by
 unfold bW1
 split
 ·rename_i b idx j sz v n hx hy hn
  unfold bW0
  split
  ·rename_i el sig l hg
   cases hc:(Nat.beq sig.length sz&&Nat.ble (j+n) sz&&v.nt&&Nat.beq v.cells.length n&&Nat.ble h.wm b&&Nat.blt 0 n&& !(aG2 E.P el)&& !(Nat.beq el aV8))with
   |false=>trivial
   |true=>
    obtain⟨hc,c8⟩:=P8 hc
    have hne:el≠aV8:=fun e=>by rw[e,show Nat.beq aV8 aV8=true from rfl]at c8;cases c8
    obtain⟨hc,c7⟩:=P8 hc
    have hnf:ω.fix el=false:=by rw[hfx];simpa using c7
    obtain⟨hc,c6⟩:=P8 hc
    obtain⟨hc,c5⟩:=P8 hc
    obtain⟨hc,c4⟩:=P8 hc
    obtain⟨hc,c3⟩:=P8 hc
    obtain⟨c1,c2⟩:=P8 hc
    obtain rfl:=P9.1 c1
    rw[P9]at c4
    rw[Q2]at c2 c5
    rw[R1]at c6
    simp only[cond_true]
    unfold bV9
    split
    ·rename_i es hes
     intro hd
     obtain⟨d1,d2⟩:=au6 hd
     rw[W6]at d2
     have hk:(dI ω idx).toNat<(dL ω l).length:=by omega
     have hvx:=o x _ hx
     have hvy:=o y _ hy
     simp only[VR]at hvx
     obtain⟨L,hL,hvx⟩:=hvx
     have hb65:=Heap.get_lim h b _ hg
     have a87: ∀(hh:Heap) (x:Option Blk) (z:Nat),(hh.put b x).get z=if z=b then(if b<65536 then x else none)else hh.get z:=fun hh x z=>Heap.get_put _ _ _ _
     obtain⟨ocs,m1,m2,m3,m4⟩:=avs ω sig (dL ω l)
     have m3':ocs.length=(dL ω l).length*sig.length:=by rw[m3,S1]
     have r2:HR β ω K w0 (h.put b (some (.cells el 0 ocs))) w:=by
      refine HR.retell (y:= .cells el 0 ocs) r hg (.inl c5) ?_ rfl rfl (fun z=>by rw[a87,if_pos hb65])
      intro L' hL' hbr
      obtain⟨C,e',lo,hi,z1,z0,z2,z3,z4,z5⟩:=hbr
      rw[z0.resolve_right hne]at z1
      refine⟨C,lo,hi,R3 sig (dL ω l),z1,z2,by rw[m3,S1];exact z3,aU5 m2,m1 β,fun k hk=> ?_,fun k _ hk=>z5 k hk,fun hh=>by rw[hnf]at hh;cases hh⟩
      have hk':k<(R3 sig (dL ω l)).length:=by rw[←m3];exact hk
      rw[j8 hk']
      exact z4 k _ (j8 hk')
     have hg2:(h.put b (some (.cells el 0 ocs))).get b=some (.cells el 0 ocs):=by rw[a87,if_pos rfl,if_pos hb65]
     obtain⟨hone,helen⟩:=aN2 hes
     have hkk:(dI ω idx).toNat*sig.length+sig.length≤(dL ω l).length*sig.length:=by
      have:=z8 sig.length (show(dI ω idx).toNat+1≤(dL ω l).length from hk)
      rw[p8,C8]at this;exact this
     have hst:bb7 E.P t (.ptr b ((dI ω idx).toNat*sig.length+j)) v (h.put b (some (.cells el 0 ocs)))=some ((h.put b (some (.cells el 0 ocs))).put b (some (.cells el 0 (ah4 ocs ((dI ω idx).toNat*sig.length+j) v.cells)))):=by
      simp only[bb7,hn,c3,c4,B5,show Nat.beq n n=true from P9.2 rfl,cond_true]
      cases hcs:v.cells with
      |nil=>rw[hcs]at c4;simp at c4;omega
      |cons a as=>
       rw[←hcs]
       simp only[putCells,hcs]
       rw[←hcs,hg2]
       simp only[Heap.wm_put]
       rw[show(Nat.ble h.wm b&&Nat.ble 0 ((dI ω idx).toNat*sig.length+j)&&Nat.ble ((dI ω idx).toNat*sig.length+j+v.cells.length) ocs.length&&v.cells.all AV.one)=true by
        rw[hone,Q2.2 c5,Q2.2 (l6 _),Q2.2 (by rw[c4,m3'];omega)];rfl]
       rfl
     obtain⟨w',e1,e2,e3⟩:=bd9 (P:=E.P) r2 hst (vx:=ρ x) (vv:=ρ y) ⟨L,hL,by rw[hvx,o8]⟩ hvy
     have hrow:=Z2 hes (VR.cells hvy c3)
     have bb5:dL ω (.op .lset [l,idx,.op .row (ai1 l idx 0 j++(es++ai1 l idx (j+n) (sig.length-(j+n))))])=(dL ω l).set (dI ω idx).toNat (.vl (Q4 ω (ai1 l idx 0 j)++(Q4 ω es++Q4 ω (ai1 l idx (j+n) (sig.length-(j+n)))))):=by
      show(dL ω l).set (dI ω idx).toNat (.vl (Q4 ω _))=_
      rw[aN0,aN0]
     have hgv: ∀c:Nat,R6 (dL ω l) (dI ω idx) c=((dL ω l).getD (dI ω idx).toNat (.vl [])).toL.getD c default:=fun c=>by simp[R6]
     have hmix:=cp6 (sig:=sig) (old:=(dL ω l).getD (dI ω idx).toNat (.vl [])) (c0:=Q4 ω (ai1 l idx 0 j)) (es:=Q4 ω es) (c1:=Q4 ω (ai1 l idx (j+n) (sig.length-(j+n)))) (j:=j) (n:=n) c2
      (by rw[aN1];exact u5 fun c _=>hgv c) (by rw[bC9,helen,c4]) (by rw[aN1];exact u5 fun c _=>hgv c)
     have hflat:R3 sig (dL ω (.op .lset [l,idx,.op .row (ai1 l idx 0 j++(es++ai1 l idx (j+n) (sig.length-(j+n))))]))=
      (R3 sig (dL ω l)).take ((dI ω idx).toNat*sig.length+j)++((ρ y).cells.toList++(R3 sig (dL ω l)).drop ((dI ω idx).toNat*sig.length+j+n)):=by
      rw[bb5,bg3 sig _ _ _ hk,hmix,←hrow]
      have hfl:=S1 sig (dL ω l)
      have hold:a95 sig ((dL ω l).getD (dI ω idx).toNat (.vl []))=((R3 sig (dL ω l)).drop ((dI ω idx).toNat*sig.length)).take sig.length:=by
       apply J5
       intro c
       rcases i4 c sig.length with q|q
       ·rw[am3 q,p9,if_pos q,r9,aj0 q hk]
       ·rw[l8 (by rw[U6];exact q),p9,if_neg (by omega)]
      rw[hold]
      generalize R3 sig (dL ω l)=F at hfl⊢
      generalize (dI ω idx).toNat*sig.length=q at hkk⊢
      rw[←hfl]at hkk
      apply J5
      intro c
      have hcl:(ρ y).cells.toList.length=n:=by rw[←c4];exact(VR.cells hvy c3).length
      rcases i4 c q with q1|q1
      ·rw[k9 (by rw[j0];omega),k9 (by rw[j0];omega),p9,if_pos q1,p9,if_pos (by omega)]
      ·rw[k8 (by rw[j0];omega),j0,x9 (by omega)]
       rcases i4 c (q+j)with q2|q2
       ·rw[k9 (by simp only[j9,j0,n9];omega),k9 (by simp only[j0,n9];omega),p9,if_pos (by omega),p9,if_pos (by omega),r9,show q+(c-q)=c by omega,
           k9 (by rw[j0];omega),p9,if_pos q2]
       ·rw[k8 (l₁:=F.take (q+j)) (by rw[j0];omega),j0,x9 (by omega)]
        rcases i4 c (q+j+n)with q3|q3
        ·rw[k9 (by simp only[j9,j0,n9,hcl];omega),k8 (by simp only[j0,n9];omega),k9 (by simp only[j0,n9,hcl];omega),
            k9 (by rw[hcl];omega)]
         congr 1
         simp only[j0,n9];omega
        ·rcases i4 c (q+sig.length)with q4|q4
         ·rw[k9 (by simp only[j9,j0,n9,hcl];omega),k8 (by simp only[j0,n9];omega),k8 (by simp only[j0,n9,hcl];omega),
             k8 (by rw[hcl];omega),r9,p9,r9,r9,if_pos (by simp only[j0,n9,hcl];omega)]
          congr 1
          simp only[j0,n9,hcl];omega
         ·rw[k8 (by simp only[j9,j0,n9,hcl];omega),k8 (l₁:=(ρ y).cells.toList) (by rw[hcl];omega),r9,r9]
          congr 1
          simp only[j9,j0,n9,hcl];omega
     refine⟨β,Go.undef,w',.inr ⟨rfl,by rw[Sem.run_bind,e1];rfl⟩,⟨#[],rfl,rfl⟩,?_,?_⟩
     ·refine HR.retell (y:= .arr el sig (.op .lset [l,idx,.op .row (ai1 l idx 0 j++(es++ai1 l idx (j+n) (sig.length-(j+n))))])) e2 (b:=b) (x:= .cells el 0 (ah4 ocs ((dI ω idx).toNat*sig.length+j) v.cells)) (by rw[a87,if_pos rfl,if_pos hb65]) (.inr rfl) ?_ rfl rfl (fun z=> ?_)
      ·intro L' hL' hbr
       obtain⟨C,lo,hi,vs,q1,q2,q3,q4,q5,q6,q7,q8⟩:=hbr
       have hvs:vs=R3 sig (dL ω (.op .lset [l,idx,.op .row (ai1 l idx 0 j++(es++ai1 l idx (j+n) (sig.length-(j+n))))])):=by
        rw[hflat]
        unfold ah4 at q5
        have hl1:(ocs.take ((dI ω idx).toNat*sig.length+j)).length=(dI ω idx).toNat*sig.length+j:=by rw[j0,m3'];omega
        have hdet: ∀(β:Bij) us,VRs β ω v.cells us→us=(ρ y).cells.toList:=fun β us hu=>(Z2 hes hu).trans hrow.symm
        have hdet1: ∀(β:Bij) us,VRs β ω (ocs.take ((dI ω idx).toNat*sig.length+j)) us→us=(R3 sig (dL ω l)).take ((dI ω idx).toNat*sig.length+j):=fun β us hu=>bg4 m4 m1 hu
        have hdet2: ∀(β:Bij) us,VRs β ω (ocs.drop ((dI ω idx).toNat*sig.length+j+v.cells.length)) us→us=(R3 sig (dL ω l)).drop ((dI ω idx).toNat*sig.length+j+v.cells.length):=fun β us hu=>bg5 m4 m1 hu
        have t1:=q5.take (ocs.take ((dI ω idx).toNat*sig.length+j)++v.cells).length
        have t2:=q5.drop (ocs.take ((dI ω idx).toNat*sig.length+j)++v.cells).length
        rw[G2]at t1
        rw[G3]at t2
        have t3:=t1.take (ocs.take ((dI ω idx).toNat*sig.length+j)).length
        have t4:=t1.drop (ocs.take ((dI ω idx).toNat*sig.length+j)).length
        rw[G2]at t3
        rw[G3]at t4
        rw[←t8 (ocs.take ((dI ω idx).toNat*sig.length+j)++v.cells).length vs,hdet2 _ _ t2,c4]
        rw[←t8 (ocs.take ((dI ω idx).toNat*sig.length+j)).length (vs.take (ocs.take ((dI ω idx).toNat*sig.length+j)++v.cells).length),hdet1 _ _ t3,hdet _ _ t4,v8]
       subst hvs
       have hll:(ah4 ocs ((dI ω idx).toNat*sig.length+j) v.cells).length=(dL ω l).length*sig.length:=by
        rw[←q5.length,S1,bb5,C3]
       refine⟨C,_,lo,hi,q1,.inl rfl,q2,by rw[bb5,C3,←hll];exact q3,fun i v2 hi'=> ?_,fun i hi'=>q7 i (l6 _) hi'⟩
       rw[q6 i (by
        rcases i4 i (ah4 ocs ((dI ω idx).toNat*sig.length+j) v.cells).length with hh|hh
        ·exact hh
        ·rw[l8 (by rw[q5.length];exact hh)]at hi';cases hi')]
       exact hi'
      ·rw[a87,a87,a87]
       by_cases hz:z=b
       ·rw[if_pos hz,if_pos hz,if_pos hb65]
       ·rw[if_neg hz,if_neg hz,if_neg hz,if_neg hz]
     ·refine⟨e8 _,fun _ _=>rfl,fun z hz hzn=> ?_,rfl⟩
      left
      rw[a87,if_neg (fun hh=>by rw[hh,hL]at hzn;cases hzn)]
    ·trivial
  ·trivial
 ·trivial
theorem b36{lo hi n:SX}(h:dB ω (cU8 lo hi n)=true):0≤dI ω lo∧dI ω lo≤dI ω hi∧dI ω hi≤dI ω n:=by
 unfold cU8 at h
 obtain⟨h1,h2⟩:=ar5 h
 obtain⟨h2,h3⟩:=ar5 h2
 refine⟨?_,of_decide_eq_true h2,?_⟩
 ·cases hc:SX.beq lo (.ci 0)with
  |true=>rw[SX.beq_eq _ _ hc,aM0];omega
  |false=>rw[hc]at h1;exact of_decide_eq_true h1
 ·cases hc:SX.beq hi n with
  |true=>rw[SX.beq_eq _ _ hc];omega
  |false=>rw[hc]at h3;exact of_decide_eq_true h3
theorem c35(a b:SX):dI ω (cz8 a b)=dI ω a-dI ω b:=by
 unfold cz8
 split
 ·rw[aM0];omega
 ·rfl
theorem aA1{x:Option (Option AV)}{d e:SX}{vx:Option Value}{k:Nat}(h:cz7 x d=some e)(hx: ∀y,x=some y→OR β ω y vx)(h0:0≤dI ω e)(hd:(dI ω d).toNat=k): ∃y:Option AV,OR β ω y vx∧a01 y k=some (dI ω e).toNat:=by
 unfold cz7 at h
 split at h
 ·simp only[b9]at h;subst h
  exact⟨none,hx _ rfl,by show some k=_;rw[hd]⟩
 ·rename_i v
  obtain⟨p,hp,rfl⟩:=l5.1 h
  obtain⟨u,hu,ru⟩:=hx _ rfl
  have:=aa6 (k:=p.1) (e:=p.2) hp ru
  refine⟨some (.int p.1 (dI ω p.2)),⟨u,hu,this⟩,?_⟩
  show af6 (dI ω p.2)=_
  obtain⟨m,hm⟩:=Int.eq_ofNat_of_zero_le h0
  rw[hm];rfl
 ·cases h
theorem aN3{P:Program}{t elem:TypeId}{s l en n cap:Nat}{a:Addr}{lo hi:Option AV}{vl vh:Option Value}(ht:P.underlying t=some (.slice elem))(hs:ae2 P elem=some s)(rl:OR β ω lo vl)(rh:OR β ω hi vh)(hl:a01 lo 0=some l)(he:a01 hi n=some en)(h1:l≤en)(h2:en≤cap)(w:World):
 (Instr.sliceAt t (.slice (some a) n cap) vl vh none).run P w= .ok (.slice (if cap=l then some a else some (a.add (l*s))) (en-l) (cap-l)) w:=by
 have hb:=R7 (P:=P) (mx:=none) (vm:=none) (cap:=cap) true rl rh rfl hl he (m:=cap) rfl h1 h2 (e8 _) (fun _=>rfl) w
 by_cases hml:cap=l
 ·subst hml;simp[Instr.sliceAt,Sem.run_bind,Q0 ht,Instr.slice,hb,R2 hs]
 ·simp[Instr.sliceAt,Sem.run_bind,Q0 ht,Instr.slice,hb,R2 hs,hml]
theorem aX7{P:Program}{t elem:TypeId}{s n:Nat}{lo hi:Option AV}{vl vh:Option Value}(ht:P.underlying t=some (.slice elem))(hs:ae2 P elem=some s)(rl:OR β ω lo vl)(rh:OR β ω hi vh)(hl:a01 lo 0=some 0)(he:a01 hi 0=some 0)(w:World):
 (Instr.sliceAt t (.slice none 0 0) vl vh none).run P w= .ok (.slice none 0 0) w:=by
 have hb:=R7 (P:=P) (mx:=none) (vm:=none) (cap:=0) true rl rh rfl hl he (m:=0) rfl (e8 _) (e8 _) (e8 _) (fun _=>rfl) w
 simp[Instr.sliceAt,Sem.run_bind,Q0 ht,Instr.slice,hb,R2 hs]
theorem c36(r:HR β ω K w0 h w)(o:OpR β ω ρA ρ)(t:TypeId)(x:Operand)(lo hi mx:Option Operand):
 SOk E β ω K w0 w h (do pure (.value (←Instr.sliceAt t (ρ x) (lo.map ρ) (hi.map ρ) (mx.map ρ)))) (bA6 E.P t h (ρA x) (evo ρA lo) (evo ρA hi) (evo ρA mx)):=by
 have fin: ∀{v:AV} {u:Value},VR β ω v u→(Instr.sliceAt t (ρ x) (lo.map ρ) (hi.map ρ) (mx.map ρ)).run E.P w= .ok u w→a11 E β ω K w0 w h (do pure (.value (←Instr.sliceAt t (ρ x) (lo.map ρ) (hi.map ρ) (mx.map ρ)))) v h:=by
  intro v u hv hr
  exact a11.pureV r hv (by rw[Sem.run_bind,hr];rfl)
 have hlo: ∀y,evo ρA lo=some y→OR β ω y (lo.map ρ):=fun y hy=>aD8 o hy
 have hhi: ∀y,evo ρA hi=some y→OR β ω y (hi.map ρ):=fun y hy=>aD8 o hy
 unfold bA6
 split
 ·rename_i a hx hm
  have hmx:mx.map ρ=none:=aD8 o hm
  have rv:=o x _ hx
  split
  ·rename_i ht
   split
   ·rename_i s hs
    have hv:=ai7 hs rv
    unfold bW2
    split
    ·rename_i l e h1 h2
     intro hd
     obtain⟨d1,d2,d3⟩:=b36 hd
     rw[b27]at d3
     obtain⟨y1,r1,b1⟩:=aA1 (k:=0) h1 hlo d1 rfl
     obtain⟨y2,r2,b2⟩:=aA1 (k:=(dS ω s).length) h2 hhi (by omega) (by rw[b27];simp)
     have hb:=R7 (P:=E.P) (mx:=none) (vm:=none) (cap:=(dS ω s).length) (len:=(dS ω s).length) false r1 r2 rfl b1 b2 (m:=(dS ω s).length) rfl (by omega) (by omega) (e8 _) (fun _=>rfl)
     have hsz:(ByteArray.mk (dS ω s).toArray).size=(dS ω s).length:=by simp[ByteArray.size]
     refine fin (u:= .string ⟨(((dS ω s).drop (dI ω l).toNat).take ((dI ω e).toNat-(dI ω l).toNat)).toArray⟩) ?_ ?_
     ·show _=Value.string ⟨(((dS ω s).drop (dI ω l).toNat).take (dI ω e-dI ω l).toNat).toArray⟩
      rw[show(dI ω e).toNat-(dI ω l).toNat=(dI ω e-dI ω l).toNat by omega]
     ·rw[hv,hmx]
      simp only[Instr.sliceAt,Sem.run_bind,Q0 ht,Result.andThen_ok,Instr.slice,hsz,Option.isSome_none,k7,if_false,Sem.run_pure,hb,ByteArray.extract_mk]
    ·trivial
   ·trivial
  ·rename_i elem ht
   split
   ·rename_i s b off len sz hs
    cases hc:Nat.beq s sz with
    |false=>trivial
    |true=>
     obtain rfl:=P9.1 hc
     simp only[cond_true]
     unfold bW3
     split
     ·rename_i l e h1 h2
      intro hd
      obtain⟨d0,hd⟩:=ar5 hd
      obtain⟨d1,d2,d3⟩:=b36 hd
      have d0:0≤dI ω off:=by
       cases hq:SX.beq off (.ci 0)with
       |true=>rw[SX.beq_eq _ _ hq,aM0];omega
       |false=>rw[hq]at d0;exact of_decide_eq_true d0
      obtain⟨y1,r1,b1⟩:=aA1 (k:=0) h1 hlo d1 rfl
      obtain⟨y2,r2,b2⟩:=aA1 (k:=(dI ω len).toNat) h2 hhi (by omega) rfl
      have hle:dI ω (cz8 e l)=dI ω e-dI ω l:=c35 _ _
      have hlt:((dI ω e).toNat-(dI ω l).toNat)=(dI ω (cz8 e l)).toNat:=by rw[hle];omega
      simp only[VR]at rv
      rcases rv with⟨L,cap,ad,hL,hv,hcap,had⟩|⟨ad,cap,hv,hac,hz⟩
      ·refine fin ?_ (by rw[hv,hmx];exact aN3 ht hs r1 r2 b1 b2 (by omega) (by omega) w)
       simp only[VR]
       rw[hlt]
       by_cases hcl:cap=(dI ω l).toNat
       ·rw[if_pos hcl]
        exact .inl ⟨L,_,ad,hL,rfl,by rw[hle];omega,fun hp=>by rw[hle]at hp;omega⟩
       ·rw[if_neg hcl]
        refine .inl ⟨L,_,_,hL,rfl,by rw[hle];omega,fun hp=> ?_⟩
        rw[hle]at hp
        rw[had (by omega),a00,c21,Int.toNat_add d0 d1,p8]
        simp[o8]
      ·rw[hz]at b2 d3
       have hl0:dI ω l=0:=by omega
       have he0:dI ω e=0:=by omega
       rw[hl0]at b1
       rw[he0]at b2
       cases ad with
       |none=>
        obtain rfl:=hac rfl
        refine fin ?_ (by rw[hv,hmx];exact aX7 (n:=0) ht hs r1 r2 b1 b2 w)
        exact .inr ⟨none,0,rfl,fun _=>rfl,by rw[hle,hl0,he0];rfl⟩
       |some ad=>
        refine fin ?_ (by rw[hv,hmx];exact aN3 (n:=0) ht hs r1 r2 b1 b2 (e8 _) (l6 _) w)
        by_cases hcl:cap=(0:Int).toNat
        ·rw[if_pos hcl];exact .inr ⟨some ad,_,rfl,(fun hh=>(by cases hh)),by rw[hle,hl0,he0];rfl⟩
        ·rw[if_neg hcl];exact .inr ⟨some _,_,rfl,(fun hh=>(by cases hh)),by rw[hle,hl0,he0];rfl⟩
     ·trivial
   ·rename_i s b len sz hs
    cases hc:Nat.beq s sz with
    |false=>trivial
    |true=>
     obtain rfl:=P9.1 hc
     simp only[cond_true]
     unfold bW4
     split
     ·rename_i l e h1 h2
      have main:0≤dI ω l→dI ω l≤dI ω e→dI ω e≤dI ω len→ ∀z:AV,((∀L cap,β b=some L→cap*s=L.ext→(dI ω len).toNat≤cap→VR β ω z (.slice (if cap=(dI ω l).toNat then some ⟨L.blk,L.off,none⟩else some ⟨L.blk,L.off+(dI ω l).toNat*s,none⟩) ((dI ω e).toNat-(dI ω l).toNat) (cap-(dI ω l).toNat)))∧(dI ω len=0→VR β ω z (.slice none 0 0)))→
       a11 E β ω K w0 w h (do pure (.value (←Instr.sliceAt t (ρ x) (lo.map ρ) (hi.map ρ) (mx.map ρ)))) z h:=by
       intro d1 d2 d3 z ⟨hz1,hz2⟩
       obtain⟨y1,r1,b1⟩:=aA1 (k:=0) h1 hlo d1 rfl
       obtain⟨y2,r2,b2⟩:=aA1 (k:=(dI ω len).toNat) h2 hhi (by omega) rfl
       simp only[VR]at rv
       rcases rv with⟨L,cap,hL,hext,hv,hcap⟩|⟨hv,hz⟩
       ·refine fin (hz1 L cap hL hext hcap) ?_
        have:=aN3 (a:=⟨L.blk,L.off,none⟩) ht hs r1 r2 b1 b2 (by omega) (show(dI ω e).toNat≤cap by omega) w
        rw[hv,hmx,this,a00]
       ·have hl0:dI ω l=0:=by omega
        have he0:dI ω e=0:=by omega
        rw[hl0]at b1
        rw[he0,hz]at b2
        exact fin (hz2 hz) (by rw[hv,hmx];exact aX7 (n:=0) ht hs r1 r2 b1 b2 w)
      cases hq:SX.beq l (.ci 0)with
      |true=>
       intro hd
       obtain⟨d1,d2,d3⟩:=b36 hd
       have hl0:dI ω l=0:=by rw[SX.beq_eq _ _ hq,aM0]
       rw[aM0]at d1 d2
       refine main (by omega) (by omega) d3 _ ⟨fun L cap hL hext hcap=> ?_,fun hz=> .inr ⟨rfl,by omega⟩⟩
       simp only[VR]
       refine .inl ⟨L,cap,hL,hext,?_,by omega⟩
       rw[hl0]
       by_cases hcl:cap=(0:Int).toNat
       ·rw[if_pos hcl];simp
       ·rw[if_neg hcl];simp
      |false=>
       intro hd
       obtain⟨d1,d2,d3⟩:=b36 hd
       have hle:dI ω (cz8 e l)=dI ω e-dI ω l:=c35 _ _
       have hlt:((dI ω e).toNat-(dI ω l).toNat)=(dI ω (cz8 e l)).toNat:=by rw[hle];omega
       refine main d1 d2 d3 _ ⟨fun L cap hL hext hcap=> ?_,fun hz=> .inr ⟨none,0,rfl,fun _=>rfl,by rw[hle];omega⟩⟩
       simp only[VR]
       rw[hlt]
       by_cases hcl:cap=(dI ω l).toNat
       ·rw[if_pos hcl]
        exact .inl ⟨L,_,_,hL,rfl,by rw[hle];omega,fun hp=>by rw[hle]at hp;omega⟩
       ·rw[if_neg hcl]
        exact .inl ⟨L,_,_,hL,rfl,by rw[hle];omega,fun _=>rfl⟩
     ·trivial
   ·trivial
  ·trivial
 ·trivial
theorem aa7{m:Sem Value}{n:Sem Next}{res:Res}(hm: ∀h' a,Ok E.P β ω K w0 w h m a h'→a11 E β ω K w0 w h n a h')(k:bf5 E.P β ω K w0 w h m res):SOk E β ω K w0 w h n res:=by
 cases res<;>first|exact k.elim|trivial|exact fun hd=>hm _ _ (k hd)
theorem a11.blt{h':Heap}{m:Sem Value}{n:Sem Next}{a:AV}(e:n=(do pure (.value (←m))))(k:Ok E.P β ω K w0 w h m a h'):a11 E β ω K w0 w h n a h':=by
 rw[e];exact a11.of k
theorem bs3{ts:Array TypeId}{ty:TypeId}{x:AV}{vx:Value}(r:HR β ω K w0 h w)(rx:VR β ω x vx):bf5 E.P β ω K w0 w h (Builtin.unsafeSliceData_ ts ty #[vx]) (b12 x h):=by
 unfold b12;trivial
theorem bP0{ts:Array TypeId}{ty:TypeId}{x y:AV}{vx vy:Value}(r:HR β ω K w0 h w)(rx:VR β ω x vx)(ry:VR β ω y vy):bf5 E.P β ω K w0 w h (Builtin.unsafeString_ ts ty #[vx,vy]) (bp0 E.P ts x y h):=by
 unfold bp0;trivial
theorem cp7{ts:Array TypeId}{ty:TypeId}{x y:AV}{vx vy:Value}(r:HR β ω K w0 h w)(rx:VR β ω x vx)(ry:VR β ω y vy):bf5 E.P β ω K w0 w h (Builtin.copy_ ts ty #[vx,vy]) (cG2 E.P ts x y h):=by
 unfold cG2;trivial
theorem c37(hfx: ∀t,ω.fix t=aG2 E.P t){ts:Array TypeId}{ty:TypeId}{x:AV}{vx:Value}(r:HR β ω K w0 h w)(rx:VR β ω x vx):bf5 E.P β ω K w0 w h (Builtin.clear_ ts ty #[vx]) (bV5 E.P ((ts[0]?).bind E.P.underlying) x h):=by
 unfold bV5;trivial
theorem cp8(hfx: ∀t,ω.fix t=aG2 E.P t)(r:HR β ω K w0 h w)(o:OpR β ω ρA ρ)(c:Call)(ty:TypeId):
 SOk E β ω K w0 w h (do let d ←resolve ρ c ty;invoke d.target d.args) (cm4 E.P ρA c h):=by
 unfold cm4
 split
 ·rename_i b hb
  have hrun: ∀w,(do let d ←resolve ρ c ty;invoke d.target d.args:Sem Next).run E.P w=(builtin b c.argTypes ty (c.args.map fun| .const _=>true|_=>false) (c.args.map ρ)).run E.P w:=by
    intro w;simp only[resolve,hb,Sem.run_bind,Sem.run_pure,Result.andThen_ok,invoke];rfl
  have conv: ∀res,SOk E β ω K w0 w h (builtin b c.argTypes ty (c.args.map fun| .const _=>true|_=>false) (c.args.map ρ)) res→SOk E β ω K w0 w h (do let d ←resolve ρ c ty;invoke d.target d.args) res:=by
    intro res hh
    cases res with
    |val v h1=>obtain⟨β',u,w',q1,q2⟩:=hh;exact⟨β',u,w',by rw[hrun];exact q1,q2⟩
    |need e v h1=>intro hd;obtain⟨β',u,w',q1,q2⟩:=hh hd;exact⟨β',u,w',by rw[hrun];exact q1,q2⟩
    |cho e v l h1=>
     refine⟨fun hd=> ?_,fun hd=> ?_⟩
     ·obtain⟨β',u,w',q1,q2⟩:=hh.1 hd;exact⟨β',u,w',by rw[hrun];exact q1,q2⟩
     ·obtain⟨x,hx,β',u,w',q1,q2⟩:=hh.2 hd;exact⟨x,hx,β',u,w',by rw[hrun];exact q1,q2⟩
    |enter f vs=>obtain⟨us,q1,q2⟩:=hh;exact⟨us,by rw[hrun];exact q1,q2⟩
    |choice l=>obtain⟨x,hx,β',u,w',q1,q2⟩:=hh;exact⟨x,hx,β',u,w',by rw[hrun];exact q1,q2⟩
    |yield l vs=>obtain⟨L,us,q1,q2,q3⟩:=hh;exact⟨L,us,q1,q2,by rw[hrun];exact q3⟩
    |defer d=>obtain⟨dd,q1,q2⟩:=hh;exact⟨dd,by rw[hrun];exact q1,q2⟩
    |bad=>trivial
  apply conv
  cases hx:evs ρA c.args.toList with
  |none=>trivial
  |some args=>
   have ra:=aX4 o hx
   have harr:c.args.map ρ=(c.args.toList.map ρ).toArray:=by apply C0;simp
   rw[harr]
   unfold aG7
   split
   ·rename_i x hh
    simp only[b9]at hh;subst hh
    obtain⟨v,vr,e1,p1,p2⟩:=ra
    obtain rfl:vr=[]:=p2
    rw[e1]
    split
    ·exact cK4 r p1 _ _ _
    ·exact aa7 (fun h' a k=>a11.blt rfl k) (bs3 r p1)
    ·exact aa7 (fun h' a k=>a11.blt rfl k) (c37 hfx r p1)
    ·trivial
   ·rename_i x y hh
    simp only[b9]at hh;subst hh
    obtain⟨v,vr,e1,p1,v2,vr2,e2,p2,p3⟩:=ra
    obtain rfl:vr2=[]:=p3
    rw[e1,e2]
    split
    ·exact bO4 hfx r p1 p2 _ _ _
    ·exact aa7 (fun h' a k=>a11.blt rfl k) (bP0 r p1 p2)
    ·exact aa7 (fun h' a k=>a11.blt rfl k) (cp7 r p1 p2)
    ·exact aa7 (fun h' a k=>a11.blt rfl k) (cK8 r p1 p2)
    ·exact d22 hfx r p1 p2 b _ _ _
   ·trivial
 ·trivial
theorem cp9(hfx: ∀t,ω.fix t=aG2 E.P t)(r:HR β ω K w0 h w)(ro:OpR β ω ρA ρ)(o:Oper):SOk E β ω K w0 w h (execOp ρ o) (aJ9 E ρA o h):=by
 obtain⟨dst,op,ty,pos,after,guard⟩:=o
 cases op with
 |binOp op t x y _=>exact co6 r ro op t x y
 |unOp op _ x=>exact d21 r ro op x
 |convert s d x=>exact cp0 r ro s d x
 |pick c a b=>exact co7 r ro c a b
 |load t a=>exact co8 r ro t a
 |indexAddr t x i=>exact b30 r ro t x i
 |fieldAddr s x f=>exact b29 r ro s f x
 |index t x i=>exact c22 r ro t x i
 |store t a x=>exact c34 hfx r ro t a x
 |slice t x lo hi mx=>exact c36 r ro t x lo hi mx
 |lookup t m k ok=>exact bO6 r ro t m k ok
 |mapUpdate t m k x=>exact bg2 r ro t m k x
 |insert t m k x=>exact bg2 r ro t m k x
 |mapEntry t m k=>exact bO8 r ro t m k
 |entryStore t m s x=>exact c33 r ro t m s x
 |call c=>exact cp8 hfx r ro c ty
 |_=>trivial
end Go.Ev
