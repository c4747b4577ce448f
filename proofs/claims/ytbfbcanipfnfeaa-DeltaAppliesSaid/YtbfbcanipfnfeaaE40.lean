import Derived.Test.YtbfbcanipfnfeaaE36
set_option linter.unusedVariables false
set_option linter.unusedSimpArgs false
namespace Go.Ev
open Go
variable{E E0:Env}{ω:Opq}{β:Bij}{K:Nat→Prop}{w0 w:World}{h h2:Heap}
def c44(E0:Env)(Ω:Opq→Prop)(n:Nat)(f:FuncId)(c:FC):Prop:= ∀ω,Ω ω→dB ω c.need=true→ ∃args,(∀(β:Bij) us,VRs β ω c.args us→VRs β ω args us)∧N0 (FC.run E0 n f c args) ω=some (0,N2 ω c.outs)
def c45(E:Env)(Ω:Opq→Prop)(n:Nat)(f:FuncId)(c:FC):Prop:= ∀ω,Ω ω→dB ω c.need=true→ ∃E0:Env,E0.P=E.P∧b29 E0 ω n∧ ∃args,(∀(β:Bij) us,VRs β ω c.args us→VRs β ω args us)∧N0 (FC.run E0 n f c args) ω=some (0,N2 ω c.outs)
theorem cl9{c:FC}{b:Binding}{v:AV}{h':Heap}(e:bp0 c b h= .val v h'∨ ∃x,bp0 c b h= .need x v h'∧dB ω x=true):
 dB ω b.nd=true∧dB ω (a80 b.es c.need)=true∧v=aR9 (ap1 b.src h.next) (aa5 (b36 b.es c.outs) c.out)∧h'=Z4 (ap1 b.src h.next) (b36 b.es c.outs) c.blks.length c.post c.mt h:=by
 unfold bp0 ck7 at e
 rcases e with e|⟨x,e,hd⟩
 ·split at e
  ·rename_i hn
   simp only[Res.val.injEq]at e
   have:dB ω (aG1 b.nd (a80 b.es c.need))=true:=by rw[hn];rfl
   obtain⟨d1,d2⟩:=aX1 this
   exact⟨d1,d2,e.1.symm,e.2.symm⟩
  ·cases e
 ·split at e
  ·cases e
  ·simp only[Res.need.injEq]at e
   obtain⟨rfl,e1,e2⟩:=e
   obtain⟨d1,d2⟩:=aX1 hd
   exact⟨d1,d2,e1.symm,e2.symm⟩
def bp4(E:Env)(Ω:Opq→Prop)(f:FuncId)(c:FC):Prop:= ∀ω,Ω ω→dB ω c.need=true→ ∀(K:Nat→Prop) (w0:World) (β:Bij) (w:World) (us:List Value),HR β ω K w0 c.heap w→VRs β ω c.args us→
 Calls E.P f us.toArray w (fun e w'=> ∃u β' v h',e= .returned u∧TPT ω (0,N2 ω c.outs) (kFC c v h')∧VR β' ω v u∧HR β' ω K w0 h' w'∧St c.heap β h' β')
theorem c46{Ω:Opq→Prop}{f:FuncId}{n nv:Nat}{c:FC}(hc:ck5 c nv=true)(hm:c45 E Ω n f c):bp4 E Ω f c:=by
 intro ω' hω hn K w0 β w us r ra
 obtain⟨E0,hP,hb,args',hvar,hrun⟩:=hm _ hω hn
 exact hP▸hb RPT an6 (TPT ω' (0,N2 ω' c.outs)) (ad3 ω' _) f args' c.heap (kFC c) ⟨[],a93,hrun⟩ _ w0 _ w us r (hvar _ _ ra)
set_option maxHeartbeats 1000000 in
theorem c47{Ω:Opq→Prop}(hΩ: ∀ω v0 l,Ω ω→Ω (ω.upd v0 l)){f:FuncId}{nv:Nat}{c:FC}(hc:ck5 c nv=true)(hm:bp4 E Ω f c)(hω:Ω ω)
 {args:List AV} {v:AV} {h':Heap} (e:aN2 c nv args h= .val v h'∨ ∃x,aN2 c nv args h= .need x v h'∧dB ω x=true):a96 E ω f args h v h':=by
 intro K w0 β w us r ra
 have fo:=cE6 hc
 have: ∃b,bo9 c nv args h=some b∧(bp0 c b h= .val v h'∨ ∃x,bp0 c b h= .need x v h'∧dB ω x=true):=by
  unfold aN2 at e
  cases hbd:bo9 c nv args h with
  |none=>rw[hbd]at e;rcases e with e|⟨x,e,_⟩<;>cases e
  |some b=>rw[hbd]at e;exact⟨b,rfl,e⟩
 obtain⟨b,hbd,e⟩:=this
 have bo:=cl6 hbd
 obtain⟨hnd,hneed,rfl,rfl⟩:=cl9 e
 clear e
 obtain⟨hargs,hhr⟩:=cl7 r ra fo bo hnd
 have hΩ':Ω (ω.upd 0 (N2 ω b.es)):=hΩ _ _ _ hω
 have hneed':dB (ω.upd 0 (N2 ω b.es)) c.need=true:=by
  have:=ag9 (ω:=ω) (es:=b.es) c.need (by rw[bo.len];exact fo.need)
  show(den _ c.need).toB=true
  rw[←this];exact hneed
 have hm:=hm _ hΩ' hneed'
 obtain⟨hn,hwm,a35⟩:=c.heap_ok fo.lt
 generalize hω':ω.upd 0 (N2 ω b.es)=ω' at*
 have hag:Agr 0 ω ω':=by rw[←hω'];exact aL7 _ _ _
 refine Calls.mono (hm _ w _ w us hhr hargs) ?_
 rintro _ w' ⟨u,β1,v1,h1,rfl,hk,hv1,hr1,hs1⟩
 unfold kFC at hk
 cases hsh:(X1 c.out v1&&Nat.ble (a58 v1).length 256)with
 |false=>rw[hsh]at hk;obtain⟨_,_,hk⟩:=hk;simp[N0]at hk
 |true=>
 rw[hsh]at hk
 simp only[cond_true]at hk
 obtain⟨hsh,hl256⟩:=M6 hsh
 rw[N1]at hl256
 unfold de0 at hk
 obtain⟨hdn,pcx,hpcx,hk⟩:=(ad3 ω' (0,N2 ω' c.outs)).need _ _ hk
 obtain⟨fu,hfu,hback⟩:=c35 v1 u hv1
 have hfu2:=be5 (h:=h1) hdn hfu
 generalize hxs:(aX0 h1 (a58 v1)).2=xs at hk hfu2
 have hxl:xs.length=(a58 v1).length:=by rw[←hfu2.length,hfu.length]
 unfold dd9 at hk
 split at hk
 ·rename_i p hcv
  have hf0:=cY1 (β:=β1) hfu2 (by rw[hxl];exact hl256)
  obtain⟨β2,cv⟩:=b26 (a':=p.1) (h':=p.2) hcv hf0 (hr1.upto (n:=Nat.add h1.next (be1 c.post c.mt c.blks.length h1.next (a58 c.out) 0).length) (t7 _ _))
  generalize hbase:h1.next=base at*
  have hβ2: ∀x,x<base→β2 x=β1 x:=fun x hx=>cv.bij x (by
   rintro⟨o,ho,rfl⟩
   have:=ah1 ho
   omega)
  have hbm:c.blks.length≤base:=by rw[←hbase,←hn];exact hs1.le
  have hβ1: ∀i,i<c.blks.length→β1 i=bnd β ω b.src c.blks i:=fun i hi=>hs1.ext i (by rw[hn];exact hi)
  have hw: ∀i x,b.src[i]? =some (.whole x)→β2 i=β x:=by
   intro i x hx
   have hi:i<c.blks.length:=by rw[←bo.slen];exact(k6.1 hx).1
   rw[hβ2 i (by omega),hβ1 i hi]
   unfold bnd;rw[hx]
  have hwm2:p.2.wm=c.mt:=by rw[cv.wm,Heap.wm_upto,hs1.wm,hwm]
  unfold dd8 at hk
  split at hk
  ·rename_i es hes
   split at hk
   ·rename_i fs hfs
    simp only[N0,a8,d7,true_and,c40 hpcx]at hk
    have hq: ∀(j:Nat) (x:SX),(es++fs)[j]? =some x→den ω (b36 b.es c.outs j)=den ω' x:=by
     intro j x hj
     have h3:(N2 ω' (es++fs))[j]? =some (den ω' x):=by rw[at1,r5,hj];rfl
     rw[hk,at1,r5]at h3
     cases ho:c.outs[j]? with
     |none=>rw[ho]at h3;cases h3
     |some o=>
      rw[ho]at h3
      simp only[Option.map_some,a8]at h3
      unfold b36
      rw[d9,ho,Option.getD_some,←h3,←hω']
      exact ag9 o (by
       rw[bo.len]
       have:=fo.outs
       have hmem:=B7 ho
       clear h3 hj hk
       revert this hmem
       induction c.outs with
       |nil=>intro _ hh;cases hh
       |cons y ys ih=>
        intro h1 h2
        simp only[a65,d6]at h1
        rcases l5.1 h2 with rfl|h2
        ·exact h1.1
        ·exact ih h1.2 h2)
    have hslots:=bA1 (P:=fun j x=>den ω (b36 b.es c.outs j)=den ω' x) hes (fun j x hj=>hq (0+j) x (by
      have hlt:=(k6.1 hj).1
      rw[i3,j5 hlt];exact hj))
    have hblks:=bA2 (P:=fun j x=>den ω (b36 b.es c.outs j)=den ω' x) hfs (fun j x hj=>hq (es.length+j) x (by
      rw[j3 (t7 _ _),y7];exact hj))
    obtain⟨hpl,hpost⟩:=aN8 bo.post
    rw[bo.slen]at hpl hpost
    have hout:=i6.1 bo.out
    generalize hQ:b36 b.es c.outs=Q at*
    generalize hm0:c.blks.length=m at*
    have hlay:=ax8 (Q:=Q) (ρ:=ap1 b.src h.next) (m:=m) c.post c.mt h (fun j x hj hmj=>(hpost j x hj).2 hmj) (fun j hj hmj=>by
     have: ∃s,b.src[c.mt+j]? =some s:=⟨_,j0 (by rw[bo.slen,hm0];exact hmj)⟩
     obtain⟨s,hs⟩:=this
     obtain⟨y,rfl,_,hy,_⟩:=aD5 r ra bo.mutb _ s hs (by omega)
     rw[aN6 hs];exact hy)
    have hmut: ∀i,c.mt≤i→i<m→ ∃y,b.src[i]? =some (.whole y)∧h.wm≤y∧y<h.next∧(β y≠none∨c.post[i-c.mt]? =some none∨ ∃e sig l,h.get y=some (.arr e sig l))∧ap1 b.src h.next i=y:=by
     intro i h1 h2
     have: ∃s,b.src[i]? =some s:=⟨_,j0 (by rw[bo.slen,hm0];exact h2)⟩
     obtain⟨s,hs⟩:=this
     obtain⟨y,rfl,h3,h4,h5⟩:=aD5 r ra bo.mutb i s hs (by omega)
     rw[i3]at h5
     exact⟨y,hs,h3,h4,h5,aN6 hs⟩
    have hmax:Nat.max c.mt m=m:=I2 (by rw[←hm0];exact fo.mt)
    have hnext2:(Z4 (ap1 b.src h.next) Q m c.post c.mt h).next=h.next+(c.mt+c.post.length-m):=by rw[hlay.next,hmax]
    let βF:Bij:=fun x=>if x<h.next then β x else if x<h.next+(c.mt+c.post.length-m)then β2 (base+(x-h.next))else none
    have hlow: ∀x,x<h.next→βF x=β x:=fun x hx=>if_pos hx
    have hhigh: ∀x,h.next≤x→x<h.next+(c.mt+c.post.length-m)→βF x=β2 (base+(x-h.next)):=fun x h1 h2=>by
     show(if x<h.next then β x else _)=_
     rw[if_neg (by omega),if_pos h2]
    have hle:Le β βF:=by
     intro x L hx
     rcases d8 x h.next with hh|hh
     ·rw[hlow x hh];exact hx
     ·rw[r.fresh x hh]at hx;cases hx
    have hFw: ∀i x,b.src[i]? =some (.whole x)→βF x=β2 i:=by
     intro i x hx
     rw[hw i x hx]
     have hi:i<m:=by rw[←hm0,←bo.slen];exact(k6.1 hx).1
     have:x<h.next:=by
      obtain⟨_,hB⟩:=aN5 bo.blks hnd
      have hp: ∃y,c.blks[i]? =some y:=⟨_,j0 (by rw[hm0];exact hi)⟩
      obtain⟨y,hy⟩:=hp
      obtain⟨nd,g1,_⟩:=hB i y _ hy hx
      rcases d8 x h.next with hh|hh
      ·exact hh
      ·simp only[ckB]at g1
       rw[r.fget x hh]at g1
       split at g1
       ·rename_i hg;cases hg
       ·rename_i hg;cases hg
       ·rename_i hg;cases hg
       ·cases g1
     exact hlow x this
    have hFblk: ∀j x y L,c.post[j]? =some x→aB5 (ap1 b.src h.next) (ae5 Q x)=some y→β2 (bif Nat.blt (c.mt+j) m then c.mt+j else base+(c.mt+j-m))=some L→
     (∃z,p.2.get (bif Nat.blt (c.mt+j) m then c.mt+j else base+(c.mt+j-m))=some z∧z.isArr=y.isArr)∧BR βF ω L w'.heap[L.blk]? y:=by
     intro j x y L hj hy hL
     obtain⟨n',es',g1,g2⟩:=hblks j x hj
     cases x with
     |none=>cases hy
     |some q=>
      simp only[aS5]at g1
      split at g1
      ·rename_i z hz
       have hkind:q.isArr=z.isArr:=bd4 g1
       have hkind2:q.isArr=y.isArr:=by
        cases q<;>simp only[ae5,aB5,a8,reduceCtorEq]at hy<;>subst hy<;>rfl
       have hz':p.2.get (bif Nat.blt (c.mt+j) m then c.mt+j else base+(c.mt+j-m))=some z:=hz
       refine⟨⟨z,hz',hkind.symm.trans hkind2⟩,?_⟩
       have hcl:clB b.src c.mt c.post (some q)=true:=by
        rcases d8 (c.mt+j) m with hh|hh
        ·exact(hpost j _ hj).1 hh
        ·have:=(hpost j _ hj).2 hh
         unfold bK8 at this
         split at this
         ·rename_i heq
          simp only[a8]at heq
          subst heq;exact this
         ·cases this
       exact c39 (N:=h.next) hag hcl g1 g2 (cv.hr.blk _ z L hz' hL) hFw hy
      ·cases g1
    refine⟨u,βF,rfl,?_,?_,?_⟩
    ·
     have hF1: ∀l,(fun x=>aR9 (ap1 b.src h.next) (aa5 Q x)) (.agg l)= .agg (l.map fun x=>aR9 (ap1 b.src h.next) (aa5 Q x)):=fun l=>by
      simp only[aa5,aR9,ax9,aN9,B3];rfl
     have hF2: ∀l,(fun x=>aR9 (ap1 b.src h.next) (aa5 Q x)) (.tup l)= .tup (l.map fun x=>aR9 (ap1 b.src h.next) (aa5 Q x)):=fun l=>by
      simp only[aa5,aR9,ax9,aN9,B3];rfl
     have hF3: ∀x,W4 x=true→W4 ((fun x=>aR9 (ap1 b.src h.next) (aa5 Q x)) x)=true:=fun x hx=>by
      cases x<;>first|rfl|(simp only[aa5,aN7];unfold bM9;split<;>rfl)|(exfalso;simp[W4]at hx;done)
     refine hback βF ω _ (cs8 hF1 hF2 hF3 c.out v1 hsh) ?_
     rw[bA3 hF1 hF2 hF3]
     have hfl:(a58 c.out).length=fu.length:=by rw[b38 hsh,hfu.length]
     refine c43 hfl fun k q x hq hx=> ?_
     obtain⟨n',es',g1,g2⟩:=hslots k q hq
     have hcl:=hout q (B7 hq)
     have hsv:VR β2 ω' (p.1.slot k) x:=by
      have hkl:k<fu.length:=(k6.1 hx).1
      have:=cv.fr.slot k id
      rw[k7]at this
      have h5:(fu.toArray)[k]? =some x:=by rw[C5];exact hx
      simp only[h5,Option.getD_some]at this
      exact this
     rw[i3]at g1
     unfold cE4 at g1
     split at g1
     ·rename_i i y s
      cases hmi:Nat.ble m i with
      |false=>
       rw[hmi]at g1
       refine b39 (N:=h.next) hag hcl ?_ g1 g2 hsv hFw
       simp only[aW8,bo.slen,hm0,N9]
       cases hh:Nat.blt i m with
       |true=>exact N9.1 hh
       |false=>
        exfalso
        have: ¬i<m:=fun hlt=>by rw[a40 hlt]at hh;cases hh
        rw[N1.2 (by omega)]at hmi;cases hmi
      |true=>
       rw[hmi]at g1
       simp only[cond_true]at g1
       obtain⟨hown,_⟩:=M7 g1
       rw[N1]at hmi
       unfold cX6 at hown
       split at hown
       ·rename_i c' l s' e' sg' l' hsl hgb
        obtain⟨hown,o3⟩:=M6 hown
        obtain⟨o1,o2⟩:=M6 hown
        obtain rfl:=M8.1 o1
        obtain rfl:=M8.1 o2
        have o3:=SX.beq_eq _ _ o3
        subst o3
        simp only[clA]at hcl
        rw[show Nat.ble b.src.length i=true by rw[N1,bo.slen,hm0];exact hmi]at hcl
        simp only[cond_true]at hcl
        split at hcl
        ·rename_i qq ee sig q' hpi
         obtain⟨k1,k2⟩:=M6 hcl
         have k1:=SX.beq_eq _ _ k1
         subst k1
         have hmt:c.mt≤i:=m7 (by rw[←hm0];exact fo.mt) hmi
         obtain⟨n2,es2,a1,a2⟩:=hblks (i-c.mt) _ hpi
         rw[show c.mt+(i-c.mt)=i by omega,a89 (by omega: ¬i<m)]at a1
         simp only[cond_false,aS5,hgb]at a1
         simp only[bR3]at a1
         obtain⟨a3,a4⟩:=M7 a1
         have hrow:=(hpost (i-c.mt) _ hpi).2 (by omega)
         have hden:=a32 hag a4 hrow a2
         have hlen:dI ω (.op .llen [T6 1000 Q qq])=dI ω' (.op .llen [l]):=by
          rw[S9,S9]
          exact congrArg (fun z:Val=>(z.toL.length:Int)) hden
         have hname:ap1 b.src h.next i=h.next+(i-m):=by
          unfold ap1
          rw[j7 (by rw[bo.slen,hm0];exact hmi),bo.slen,hm0]
         have hpl2:i-c.mt<c.post.length:=(k6.1 hpi).1
         have hFi:βF (h.next+(i-m))=β2 (base+(i-m)):=by
          rw[hhigh _ (t7 _ _) (by omega),show h.next+(i-m)-h.next=i-m by omega]
         show VR βF ω (.ous (ap1 b.src h.next i) (ck6 Q (.op .llen [qq])) _) x
         rw[hname]
         rw[hsl]at hsv
         simp only[ck6,VR]at hsv⊢
         rw[hlen,hFi];exact hsv
        ·cases hcl
       ·cases hown
     ·refine b39 (N:=h.next) hag hcl ?_ g1 g2 hsv hFw
      rename_i hne
      cases q<;>first|rfl|exact absurd rfl (hne _ _ _)
    ·
     have kind: ∀x y L,(Z4 (ap1 b.src h.next) Q m c.post c.mt h).get x=some y→βF x=some L→
      (∃i z,c.mt≤i∧β2 i=some L∧p.2.get i=some z∧z.isArr=y.isArr∧BR βF ω L w'.heap[L.blk]? y∧(i<m∧ap1 b.src h.next i=x∧x<h.next∨m≤i∧h.next≤x∧i=base+(x-h.next)∧base≤i))∨
      (x<h.next∧h.get x=some y∧β x=some L∧ ∀i,c.mt≤i→i<m→ap1 b.src h.next i≠x):=by
      intro x y L hy hL
      rcases hlay.get x y hy with⟨j,q,g1,g2,g3,g4⟩|⟨j,q,g1,g2,g3,g4⟩|⟨g1,g2⟩
      ·obtain⟨y0,s1,s2,s3,s4,s5⟩:=hmut (c.mt+j) (by omega) g2
       have hxlt:x<h.next:=by rw[←g3,s5];exact s3
       have hL2:β2 (c.mt+j)=some L:=by
        rw[←hFw _ _ s1,←s5,g3];exact hL
       obtain⟨⟨z,z1,z2⟩,z3⟩:=hFblk j q y L g1 g4 (by rw[a40 g2];exact hL2)
       rw[a40 g2]at z1
       exact .inl ⟨c.mt+j,z,by omega,hL2,z1,z2,z3,.inl ⟨g2,g3,hxlt⟩⟩
      ·rw[hmax]at g3
       have hjl:j<c.post.length:=(k6.1 g1).1
       have hL2:β2 (base+(c.mt+j-m))=some L:=by
        rw[hhigh x (by omega) (by omega),show x-h.next=c.mt+j-m by omega]at hL;exact hL
       obtain⟨⟨z,z1,z2⟩,z3⟩:=hFblk j q y L g1 g4 (by rw[a89 (by omega)];exact hL2)
       rw[a89 (by omega)]at z1
       exact .inl ⟨base+(c.mt+j-m),z,by have:=fo.mt;omega,hL2,z1,z2,z3,.inr ⟨by omega,by omega,by omega,by omega⟩⟩
      ·have hxlt:x<h.next:=by
        rcases d8 x h.next with hh|hh
        ·exact hh
        ·rw[r.fget x hh]at g1;cases g1
       refine .inr ⟨hxlt,g1,by rw[←hlow x hxlt];exact hL,fun i h1 h2=> ?_⟩
       have:=g2 (i-c.mt) (by have:=hpl;omega) (by omega)
       rw[show c.mt+(i-c.mt)=i by omega]at this;exact this
     have hr2:=cv.hr
     have hKc: ∀k,K k→Kfc β b.src c.mt w k:=fun k hk=>⟨o7 (r.kin k hk) r.size,fun i y L h1 h2 h3 hh=>by
      have hi:i<m:=by rw[←hm0,←bo.slen];exact(k6.1 h2).1
      obtain⟨y0,s1,s2,s3,s4,s5⟩:=hmut i h1 hi
      rw[h2]at s1
      simp only[a8,BSrc.whole.injEq]at s1
      subst s1
      obtain⟨_,hB⟩:=aN5 bo.blks hnd
      obtain⟨q,hq⟩: ∃q,c.blks[i]? =some q:=⟨_,j0 (by rw[hm0];exact hi)⟩
      obtain⟨nd,g1,_⟩:=hB i q _ hq h2
      simp only[ckB]at g1
      split at g1
      ·rename_i hg;exact r.free y _ L hg s2 h3 (hh▸hk)
      ·rename_i hg;exact r.free y _ L hg s2 h3 (hh▸hk)
      ·rename_i hg;exact r.free y _ L hg s2 h3 (hh▸hk)
      ·cases g1⟩
     have hold: ∀x y L,x<h.next→h.get x=some y→β x=some L→(∀i,c.mt≤i→i<m→ap1 b.src h.next i≠x)→Kfc β b.src c.mt w L.blk:=by
      intro x y L h1 h2 h3 h4
      refine⟨r.lt x L h3,fun i y0 M g1 g2 g3=> ?_⟩
      have hi:i<m:=by rw[←hm0,←bo.slen];exact(k6.1 g2).1
      obtain⟨y1,s1,s2,s3,s4,s5⟩:=hmut i g1 hi
      rw[g2]at s1
      simp only[a8,BSrc.whole.injEq]at s1
      subst s1
      obtain⟨_,hB⟩:=aN5 bo.blks hnd
      obtain⟨q,hq⟩: ∃q,c.blks[i]? =some q:=⟨_,j0 (by rw[hm0];exact hi)⟩
      obtain⟨nd,k1,_⟩:=hB i q _ hq g2
      have hz: ∃z,h.get y0=some z:=by
       simp only[ckB]at k1
       split at k1
       ·rename_i hg;exact⟨_,hg⟩
       ·rename_i hg;exact⟨_,hg⟩
       ·rename_i hg;exact⟨_,hg⟩
       ·cases k1
      obtain⟨z,hz⟩:=hz
      exact r.sep x y0 y z L M h2 hz h3 g3 (fun hh=>h4 i g1 hi (by rw[s5,hh])) (.inr (.inl s2))
     refine⟨fun x y L hy hL=> ?_,fun x x' y y' L L' hy hy' hL hL' hne hwk=> ?_,fun x hx=> ?_,fun x hx=> ?_,fun x L hL=> ?_,r.kin,fun k hk=>(hr2.keep k (hKc k hk)).trans (r.keep k hk),fun x y L hy hwx hL hk=> ?_,
      m7 r.size hr2.size,hr2.os.trans r.os,hr2.tape.trans r.tape,hr2.out.trans r.out,m7 r.dr hr2.dr⟩
     ·rcases kind x y L hy hL with⟨i,z,_,_,_,_,hbr,_⟩|⟨h1,h2,h3,h4⟩
      ·exact hbr
      ·rw[hr2.keep _ (hold x y L h1 h2 h3 h4)]
       exact(r.blk x y L h2 h3).mono hle
     ·rcases kind x y L hy hL with⟨i,z,a1,a2,a3,a4,a5,a6⟩|⟨a1,a2,a3,a4⟩
      ·rcases kind x' y' L' hy' hL' with⟨j,z',b1,b2,b3,b4,b5,b6⟩|⟨b1,b2,b3,b4⟩
       ·refine hr2.sep i j z z' L L' a3 b3 a2 b2 (fun hh=>hne ?_) (.inl (by rw[hwm2];exact a1))
        subst hh
        rcases a6 with⟨c1,c2,c3⟩|⟨c1,c2,c3,c4⟩
        ·rcases b6 with⟨d1,d2,d3⟩|⟨d1,d2,d3,d4⟩
         ·rw[←c2,←d2]
         ·omega
        ·rcases b6 with⟨d1,d2,d3⟩|⟨d1,d2,d3,d4⟩
         ·omega
         ·omega
       ·exact fun hh=>hr2.free i z L a3 (by rw[hwm2];exact a1) a2 (hh▸hold x' y' L' b1 b2 b3 b4)
      ·rcases kind x' y' L' hy' hL' with⟨j,z',b1,b2,b3,b4,b5,b6⟩|⟨b1,b2,b3,b4⟩
       ·exact fun hh=>hr2.free j z' L' b3 (by rw[hwm2];exact b1) b2 (hh▸hold x y L a1 a2 a3 a4)
       ·exact r.sep x x' y y' L L' a2 b2 a3 b3 hne (by rw[hlay.wm]at hwk;exact hwk)
     ·rw[hnext2]at hx
      show(if x<h.next then β x else if x<h.next+(c.mt+c.post.length-m)then β2 (base+(x-h.next))else none)=none
      rw[if_neg (by omega),if_neg (by omega)]
     ·rw[hnext2]at hx
      cases hy:(Z4 (ap1 b.src h.next) Q m c.post c.mt h).get x with
      |none=>rfl
      |some y=>
       exfalso
       rcases hlay.get x y hy with⟨j,q,g1,g2,g3,g4⟩|⟨j,q,g1,g2,g3,g4⟩|⟨g1,g2⟩
       ·obtain⟨y0,s1,s2,s3,s4,s5⟩:=hmut (c.mt+j) (by omega) g2
        rw[s5]at g3;omega
       ·have hjl:j<c.post.length:=(k6.1 g1).1
        rw[hmax]at g3;omega
       ·rw[r.fget x (by omega)]at g1;cases g1
     ·rcases d8 x h.next with hh|hh
      ·rw[hlow x hh]at hL;exact o7 (r.lt x L hL) hr2.size
      ·have hlt:x<h.next+(c.mt+c.post.length-m):=by
        rcases d8 x (h.next+(c.mt+c.post.length-m))with q|q
        ·exact q
        ·have:βF x=none:=by
          show(if x<h.next then β x else if x<h.next+(c.mt+c.post.length-m)then β2 (base+(x-h.next))else none)=none
          rw[if_neg (by omega),if_neg (by omega)]
         rw[this]at hL;cases hL
       rw[hhigh x hh hlt]at hL;exact hr2.lt _ L hL
     ·rcases kind x y L hy hL with⟨i,z,a1,a2,a3,a4,a5,a6⟩|⟨a1,a2,a3,a4⟩
      ·exact hr2.free i z L a3 (by rw[hwm2];exact a1) a2 (hKc _ hk)
      ·exact r.free x y L a2 (by rw[hlay.wm]at hwx;exact hwx) a3 hk
    ·
     refine⟨by rw[hnext2];exact t7 _ _,hlow,fun x hx hno=> ?_,hlay.wm⟩
     by_cases hex: ∃j,j<c.post.length∧c.mt+j<m∧ap1 b.src h.next (c.mt+j)=x
     ·obtain⟨j,hj,hmj,hh⟩:=hex
      obtain⟨y0,s1,s2,s3,s4,s5⟩:=hmut (c.mt+j) (by omega) hmj
      right
      rw[s5]at hh
      subst hh
      rcases s4 with s4|s4|s4
      ·exact absurd hno s4
      ·by_cases har: ∃e sig l,h.get y0=some (.arr e sig l)
       ·exact .inr har
       left
       cases hy:(Z4 (ap1 b.src h.next) Q m c.post c.mt h).get y0 with
       |none=>rfl
       |some y=>
        exfalso
        rcases hlay.get y0 y hy with⟨j',q,g1,g2,g3,g4⟩|⟨j',q,g1,g2,g3,g4⟩|⟨g1,g2⟩
        ·obtain⟨y1,t1,t2,t3,t4,t5⟩:=hmut (c.mt+j') (by omega) g2
         rw[t5]at g3
         subst g3
         rcases t4 with t4|t4|t4
         ·exact t4 hno
         ·rw[show c.mt+j'-c.mt=j' by omega,g1,a8]at t4
          subst t4;cases g4
         ·exact har t4
        ·rw[hmax]at g3;omega
        ·exact g2 j hj hmj s5
      ·exact .inr s4
     ·left
      exact hlay.keep x hx fun j hj hmj hh=>hex ⟨j,hj,hmj,hh⟩
   ·simp[N0]at hk
  ·simp[N0]at hk
 ·simp[N0]at hk
theorem c48{x x':AV}{nd:SX}{h':Heap}{u:Value}(e:c33 x h=some (nd,x',h'))(hd:dB ω nd=true)(r:HR β ω K w0 h w)(hx:VR β ω x u):VR β ω x' u∧HR β ω K w0 h' w∧St h β h' β:=by
 unfold c33 at e
 split at e
 ·rename_i b len s
  split at e
  ·rename_i el sig l hg
   obtain⟨hc,e⟩:=M7 e
   obtain⟨hc,c3⟩:=M6 hc
   obtain⟨c1,_⟩:=M6 hc
   rw[N1]at c1
   simp only[a8,d7]at e
   obtain⟨rfl,rfl,rfl⟩:=e
   obtain⟨d1,d2⟩:=M6 (a:=dB ω (.op (.cmp .leq) [.ci 0,len])) (b:=dB ω (.op (.cmp .leq) [len,.op .llen [l]])) hd
   have d1:0≤dI ω len:=of_decide_eq_true d1
   have d2:dI ω len≤((dL ω l).length:Int):=of_decide_eq_true d2
   have hsub:dL ω (.op .lsub [l,.ci 0,len])=(dL ω l).take (dI ω len).toNat:=by
    show((dL ω l).drop (0:Int).toNat).take (dI ω len-0).toNat=_
    simp
   have hlen:dI ω (.op .llen [.op .lsub [l,.ci 0,len]])=dI ω len:=by
    show((dL ω (.op .lsub [l,.ci 0,len])).length:Int)=_
    rw[hsub,e9];omega
   have hb65:=Heap.get_lim h b _ hg
   refine⟨?_,?_,?_⟩
   ·simp only[VR]at hx⊢
    rw[hlen];exact hx
   ·refine HR.retell (y:= .arr el sig (.op .lsub [l,.ci 0,len])) r hg (.inl c1) ?_ rfl rfl (fun z=>by rw[Heap.get_put,if_pos hb65])
    intro L' hL' hbr
    obtain⟨C,e',lo,hi,z1,z0,z2,z3,z4,z5⟩:=hbr
    refine⟨C,e',lo,hi,z1,z0,z2,?_,fun i v hv=> ?_,z5⟩
    ·rw[hsub,e9]
     exact m7 (t8 _ (Nat.min_le_right _ _)) z3
    ·refine z4 i v ?_
     rw[hsub]at hv
     rw[←p8 (dI ω len).toNat (dL ω l),ab2,j5 (k6.1 hv).1]
     exact hv
   ·refine⟨b9 _,fun _ _=>rfl,fun z hz hzn=> ?_,rfl⟩
    by_cases e1:z=b
    ·subst e1;exact .inr (.inr ⟨_,_,_,hg⟩)
    ·left;rw[Heap.get_put,if_neg e1]
  ·cases e
 ·cases e
theorem aO0: ∀{args args':List AV} {nd:SX} {h h':Heap} {us:List Value},at0 args h=(nd,args',h')→dB ω nd=true→HR β ω K w0 h w→VRs β ω args us→VRs β ω args' us∧HR β ω K w0 h' w∧St h β h' β
 | [],args',nd,h,h',us,e,hd,r,ra=>by
   simp only[at0,d7]at e
   obtain⟨rfl,rfl,rfl⟩:=e
   exact⟨ra,r,.refl _ _⟩
 |x::rest,args',nd,h,h',us,e,hd,r,ra=>by
  obtain⟨u,ur,rfl,rx,rr⟩:=ra
  unfold at0 at e
  split at e
  ·rename_i e1 x1 h1 ht
   generalize hq:at0 rest h1=q at e
   obtain⟨e2,r2,h2⟩:=q
   simp only[d7]at e
   obtain⟨rfl,rfl,rfl⟩:=e
   obtain⟨d1,d2⟩:=aX1 hd
   obtain⟨a1,a2,a3⟩:=c48 ht d1 r rx
   obtain⟨b1,b2,b3⟩:=aO0 hq d2 a2 rr
   exact⟨.cons a1 b1,b2,a3.trans b3⟩
  ·generalize hq:at0 rest h=q at e
   obtain⟨e2,r2,h2⟩:=q
   simp only[d7]at e
   obtain⟨rfl,rfl,rfl⟩:=e
   obtain⟨b1,b2,b3⟩:=aO0 hq hd r rr
   exact⟨.cons rx b1,b2,b3⟩
theorem c49{nd:SX}{r:Res}{v:AV}{h':Heap}(e:aW9 nd r= .val v h'∨ ∃x,aW9 nd r= .need x v h'∧dB ω x=true):dB ω nd=true∧(r= .val v h'∨ ∃x,r= .need x v h'∧dB ω x=true):=by
 cases r with
 |val v1 h1=>
  simp only[aW9,ck7]at e
  split at e
  ·rcases e with e|⟨x,e,_⟩
   ·exact⟨rfl,.inl e⟩
   ·cases e
  ·rcases e with e|⟨x,e,hd⟩
   ·cases e
   ·simp only[Res.need.injEq]at e
    obtain⟨rfl,rfl,rfl⟩:=e
    exact⟨hd,.inl rfl⟩
 |need e1 v1 h1=>
  simp only[aW9]at e
  rcases e with e|⟨x,e,hd⟩
  ·cases e
  ·simp only[Res.need.injEq]at e
   obtain⟨rfl,rfl,rfl⟩:=e
   obtain⟨d1,d2⟩:=aX1 hd
   exact⟨d1,.inr ⟨_,rfl,d2⟩⟩
 |_=>
  simp only[aW9]at e
  rcases e with e|⟨x,e,_⟩<;>cases e
theorem c50{Ω:Opq→Prop}(hΩ: ∀ω v0 l,Ω ω→Ω (ω.upd v0 l)){f:FuncId}{nv:Nat}{c:FC}(hc:ck5 c nv=true)(hm:bp4 E Ω f c)(hω:Ω ω)
 {args:List AV} {v:AV} {h':Heap} (e:a81 c nv args h= .val v h'∨ ∃x,a81 c nv args h= .need x v h'∧dB ω x=true):a96 E ω f args h v h':=by
 unfold a81 at e
 cases hbd:bo9 c nv args h with
 |some b=>
  rw[hbd]at e
  exact c47 hΩ hc hm hω (by unfold aN2;rw[hbd];exact e)
 |none=>
  rw[hbd]at e
  generalize hq:at0 args h=q at e
  obtain⟨nd,args',h1⟩:=q
  obtain⟨hd,e⟩:=c49 (ω:=ω) e
  intro K w0 β w us r ra
  obtain⟨a1,a2,a3⟩:=aO0 hq hd r ra
  refine Calls.mono (c47 hΩ hc hm hω e K w0 β w us a2 a1) ?_
  rintro e' w' ⟨u,β',rfl,h1,h2,h3⟩
  exact⟨u,β',rfl,h1,h2,a3.trans h3⟩
theorem cE8{Ω:Opq→Prop}(hΩ: ∀ω v0 l,Ω ω→Ω (ω.upd v0 l)){f:FuncId}{n nv:Nat}{c:FC}(hc:ck5 c nv=true)(hm:c45 E Ω n f c)(hω:Ω ω)
 {args:List AV} {v:AV} {h':Heap} (e:a81 c nv args h= .val v h'∨ ∃x,a81 c nv args h= .need x v h'∧dB ω x=true):a96 E ω f args h v h':=
 c50 hΩ hc (c46 hc hm) hω e
theorem cY2{Ω:Opq→Prop}(hΩ: ∀ω v0 l,Ω ω→Ω (ω.upd v0 l))(hP:E0.P=E.P){f:FuncId}{n nv:Nat}{c:FC}(hc:ck5 c nv=true)(hb: ∀ω,Ω ω→b29 E0 ω n)(hm:c44 E0 Ω n f c)(hω:Ω ω)
 {args:List AV} {v:AV} {h':Heap} (e:a81 c nv args h= .val v h'∨ ∃x,a81 c nv args h= .need x v h'∧dB ω x=true):a96 E ω f args h v h':=
 cE8 hΩ hc (fun ω hω hn=>⟨E0,hP,hb ω hω,hm ω hω hn⟩) hω e
end Go.Ev
