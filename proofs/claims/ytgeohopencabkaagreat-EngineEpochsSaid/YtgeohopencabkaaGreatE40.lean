import Derived.Test.YtgeohopencabkaaGreatE36
import Derived.Test.YtgeohopencabkaaGreatE28
import Derived.ChangeArms
set_option linter.all false
noncomputable section
namespace Go.Ev
open Go Go.RowKit Go.WideShapes Go.ChangeShapes
variable{c:FC}{h':Heap}{v:AV}{Ω:Opq->Prop}{f:FuncId}{nv:Nat}{args:zw}
variable{E E0:Env}{I:Opq}{O:cj}{K:wW}{w0 w:Ac}{h h2:Heap}
def QJ(E0:Env)(Ω:Opq->Prop)(n:Nat)(f:FuncId)(c:FC):Prop:= ∀I,Ω I->dB I c.N=true-> ∃args,(∀(O:cj) us,co O I c.args us->co O I args us)/\W6 (FC.run E0 n f c args) I=some (0,X4 I c.outs)
def cy0(E:Env)(Ω:Opq->Prop)(n:Nat)(f:FuncId)(c:FC):Prop:= ∀I,Ω I->dB I c.N=true-> ∃E0:Env,E0.P=E.P/\HJ E0 I n/\ ∃args,(∀(O:cj) us,co O I c.args us->co O I args us)/\W6 (FC.run E0 n f c args) I=some (0,X4 I c.outs)
def d05{b:Binding}(e:xn c b h= .val v h'\/ ∃x,xn c b h= .N x v h'/\dB I x=true):
 dB I b.nd=true/\dB I (ko b.es c.N)=true/\v=io (fc b.src h.next) (iF (uL b.es c.outs) c.out)/\h'=mW (fc b.src h.next) (uL b.es c.outs) c.blks.length c.post c.mt h:=by
 unfold xn Kj at e;rcases e with e|⟨x,e,hd⟩
 split at e
 rename_i hn;have:dB I (gL b.nd (ko b.es c.N))=true:=by rw[hn];rfl
 grind[CY];cases e;split at e;cases e;grind[Res.N.injEq,CY]
def cy1{x x':AV}{nd:SX}{u:Zl}(e:Pu x h=some (nd,x',h'))(hd:dB I nd=true)(r:HR O I K w0 h w)(hx:VR O I x u):VR O I x' u/\HR O I K w0 h' w/\St h O h' O:=by
 unfold Pu at e;split at e;rename_i b len s;split at e
 rename_i el sig l hg;obtain⟨hc,e⟩:=W5 e;obtain⟨hc,c3⟩:=W4 hc;obtain⟨c1,_⟩:=W4 hc;rw[X6]at c1;obtain⟨rfl,rfl,rfl⟩:=e;obtain⟨d1,d2⟩:=W4 (a:=dB I (.O (.cmp .leq) [.C 0,len])) (b:=dB I (.O (.cmp .leq) [len,.O .Y [l]])) hd;have d1:0<=dI I len:=j7 d1;have d2:dI I len<=((dL I l).length:Int):=j7 d2;have hsub:dL I (.O .lsub [l,.C 0,len])=(dL I l).take (dI I len).toNat:=by show((dL I l).drop (0:Int).toNat).take (dI I len-0).toNat=_;simp
 have hlen:dI I (.O .Y [.O .lsub [l,.C 0,len]])=dI I len:=by show((dL I (.O .lsub [l,.C 0,len])).length:Int)=_;grind
 have hb65:=Heap.get_lim h b _ hg;refine⟨?_,?_,?_⟩;grind[VR];refine HR.retell (y:= .A el sig (.O .lsub [l,.C 0,len])) r hg (.inl c1) ?_ rfl rfl (λz=>by rw[Heap.get_put,i6 hb65]);intro L' hL' hbr;obtain⟨C,e',lo,hi,z1,z0,z2,z3,z4,z5⟩:=hbr;refine⟨C,e',lo,hi,z1,z0,z2,?_,λi v hv=> ?_,z5⟩;rw[hsub,n8];exact p9 (B2 _ (Nat.min_le_right _ _)) z3;grind[List.take_append_drop,dI,dL,CZ,List.getElem?_append_left,List.getElem?_eq_some_iff];refine⟨j6 _,λ_ _=>rfl,λz hz hzn=> ?_,rfl⟩;by_cases e1:z=b;subst e1;exact .inr (.inr (.of hg));simp_all[Heap.get_put,b9];cases e;cases e
def KG: ∀{args args':zw} {nd:SX} {h h':Heap} {us:List Zl},sm args h=(nd,args',h')->dB I nd=true->HR O I K w0 h w->co O I args us->co O I args' us/\HR O I K w0 h' w/\St h O h' O
 | [],args',nd,h,h',us,e,hd,r,ra=>by obtain⟨rfl,rfl,rfl⟩:=e;exact⟨ra,r,.refl _ _⟩
 |x::rest,args',nd,h,h',us,e,hd,r,ra=>by obtain⟨u,ur,rfl,rx,rr⟩:=ra;unfold sm at e;split at e;rename_i e1 x1 h1 ht;generalize hq:sm rest h1=q at e;obtain⟨rfl,rfl,rfl⟩:=e;obtain⟨d1,d2⟩:=CY hd;obtain⟨a1,a2,a3⟩:=cy1 ht d1 r rx;obtain⟨b1,b2,b3⟩:=KG hq d2 a2 rr;exact⟨.cons a1 b1,b2,a3.trans b3⟩;generalize hq:sm rest h=q at e;obtain⟨rfl,rfl,rfl⟩:=e;obtain⟨b1,b2,b3⟩:=KG hq hd r rr;exact⟨.cons rx b1,b2,b3⟩
def ds2{xs:zw}{us:List Zl}{hc:Heap}{aj:cj}{t:Nat×U7}(hk:nh I t (Re c xs h))(hx:co aj I xs us)(r:HR aj I K w0 h w)(s:St hc O h aj):
 ∃xs' h',nh I t (UJ c h' (wK h' xs'))/\co aj I xs' us/\HR aj I K w0 h' w/\St hc O h' aj:=by
 unfold Re at hk;cases hq:xs.any (ee0 h)with
 |false=>grind
 |true=>
  rw[hq]at hk;obtain⟨nd,xs',h',ht⟩: ∃nd xs' h',sm xs h=(nd,xs',h'):=⟨_,_,_,rfl⟩;rw[ht]at hk;obtain⟨hd,hk⟩:=(wy I t).N _ _ hk;obtain⟨a1,a2,a3⟩:=KG ht hd r hx;exact⟨xs',h',hk,a1,a2,s.trans a3⟩
def tY(E:Env)(Ω:Opq->Prop)(f:FuncId)(c:FC):Prop:= ∀I,Ω I->dB I c.N=true-> ∀(K:wW) (w0:Ac) (O:cj) (w:Ac) (us:List Zl),HR O I K w0 c.heap w->co O I c.args us->
 Calls E.P f us.toArray w (λe w'=> ∃u ac v h',e= .returned u/\nh I (0,X4 I c.outs) (oZ c v h')/\VR ac I v u/\HR ac I K w0 h' w'/\St c.heap O h' ac)
def cy2{n:Nat}(hc:rT c nv=true)(hm:cy0 E Ω n f c):tY E Ω f c:=by intro aa ae hn K w0 O w us r ra;obtain⟨E0,hP,hb,args',hvar,hrun⟩:=hm _ ae hn;exact hP▸hb gY jX (nh aa (0,X4 aa c.outs)) (wy aa _) f args' c.heap (oZ c) ⟨[],lf,hrun⟩ _ w0 _ w us r (hvar _ _ ra)
set_option maxHeartbeats 1000000 in
theorem cy3(ao: ∀I v0 l,Ω I->Ω (I.U v0 l))(hc:rT c nv=true)(hm:tY E Ω f c)(ae:Ω I)
 (e:Dp c nv args h= .val v h'\/ ∃x,Dp c nv args h= .N x v h'/\dB I x=true):vR E I f args h v h':=by
 intro K w0 O w us r ra;have fo:=cx0 hc;have: ∃b,AZ c nv args h=some b/\(xn c b h= .val v h'\/ ∃x,xn c b h= .N x v h'/\dB I x=true):=by unfold Dp at e;grind
 obtain⟨b,hbd,e⟩:=this;have bo:=d02 hbd;obtain⟨hnd,hneed,rfl,rfl⟩:=d05 e;obtain⟨hargs,hhr⟩:=d03 r ra fo bo hnd;have aD:Ω (I.U 0 (X4 I b.es)):=ao _ _ _ ae;have hneed':dB (I.U 0 (X4 I b.es)) c.N=true:=by have:=Fk (I:=I) (es:=b.es) c.N (by rw[bo.len];exact fo.N);show(bZ _ c.N).Z=true;rw[<-this];exact hneed
 have hm:=hm _ aD hneed';obtain⟨hn,hwm,eK⟩:=c.heap_ok fo.lt;generalize aK:I.U 0 (X4 I b.es)=aa at*
 have hag:Agr 0 I aa:=by grind[Hf]
 refine Calls.mono (hm _ w _ w us hhr hargs) ?_;rintro _ w' ⟨u,aj,v1,h1,rfl,hk,hv1,hr1,hs1⟩;unfold oZ at hk;cases hsh:(iQ c.out v1&&Nat.ble (hZ v1).length 256)with
 |false=>rw[hsh]at hk;obtain⟨_,_,hk⟩:=hk;grind[W6]
 |true=>
 rw[hsh]at hk;obtain⟨hsh,hl256⟩:=W4 hsh;rw[X6]at hl256;obtain⟨fu,hfu1,hback⟩:=Xo v1 u hv1;obtain⟨xs0,h1,hk,hfu,hr1,hs1⟩:=ds2 hk hfu1 hr1 hs1;obtain⟨hdn,pcx,hpcx,hk⟩:=(wy aa (0,X4 aa c.outs)).N _ _ hk;have hfu2:=bx0 (h:=h1) hdn hfu;generalize hxs:(wK h1 xs0).2=xs at hk hfu2;have hxl:xs.length=(hZ v1).length:=by rw[<-hfu2.length,hfu1.length]
 unfold YD at hk;split at hk
 .rename_i p hcv;have hf0:=dN8 (O:=aj) hfu2 (by rw[hxl];exact hl256);obtain⟨an,cv⟩:=Ry (a':=p.1) (h':=p.2) hcv hf0 (hr1.upto (n:=Nat.add h1.next (vn c.post c.mt c.blks.length h1.next (hZ c.out) 0).length) (D8 _ _));generalize hbase:h1.next=base at*
  have az: ∀x,x<base->an x=aj x:=λx hx=>cv.bij x (by rintro⟨o,ho,rfl⟩;have:=FM ho;omega)
  have hbm:c.blks.length<=base:=by rw[<-hbase,<-hn];exact hs1.le
  have aB: ∀i,i<c.blks.length->aj i=mT O I b.src c.blks i:=λi hi=>hs1.ext i (by rw[hn];exact hi)
  have hw: ∀i x,b.src[i]? =some (.whole x)->an i=O x:=by
   intro i x hx;have hi:i<c.blks.length:=by rw[<-bo.slen];exact(A6.1 hx).1
   rw[az i (by omega),aB i hi];unfold mT;rw[hx]
  have hwm2:p.2.wm=c.mt:=by rw[cv.wm,Heap.wm_upto,hs1.wm,hwm]
  unfold ed8 at hk;split at hk
  .rename_i es hes;split at hk
   .rename_i fs hfs;simp[W6,j5,y6,true_and,XX hpcx]at hk;have hq: ∀(j:Nat) (x:SX),(es++fs)[j]? =some x->bZ I (uL b.es c.outs j)=bZ aa x:=by
     intro j x hj;have h3:(X4 aa (es++fs))[j]? =some (bZ aa x):=by rw[GV,B9,hj];rfl
     rw[hk,GV,B9]at h3;cases ho:c.outs[j]? with
     |none=>rw[ho]at h3;cases h3
     |some o=>
      rw[ho]at h3;simp at h3;unfold uL;rw[k5,ho,Option.getD_some,<-h3,<-aK];exact Fk o (by
       rw[bo.len];have:=fo.outs;have hmem:=I3 ho;revert this hmem;induction c.outs with
       |nil=>intro _ hh;cases hh
       |cons y ys ih=>
        intro h1 h2;simp[qL,j8]at h1;rcases p7.1 h2 with rfl|h2
        exact h1.1
        exact ih h1.2 h2)
    have hslots:=bY5 (P:=λj x=>bZ I (uL b.es c.outs j)=bZ aa x) hes (λj x hj=>hq (0+j) x (by have hlt:=(A6.1 hj).1;rw[n9,y5 hlt];exact hj));have hblks:=bY6 (P:=λj x=>bZ I (uL b.es c.outs j)=bZ aa x) hfs (λj x hj=>hq (es.length+j) x (by rw[s9 (D8 _ _),I6];exact hj))
    obtain⟨hpl,hpost⟩:=UA bo.post;rw[bo.slen]at hpl hpost;have hout:=l5.1 bo.out;generalize hQ:uL b.es c.outs=Q at*
    generalize hm0:c.blks.length=m at*
    have hlay:=QW (Q:=Q) (ρ:=fc b.src h.next) (m:=m) c.post c.mt h (λj x hj hmj=>(hpost j x hj).2 hmj) (λj hj hmj=>by have: ∃s,b.src[c.mt+j]? =some s:=⟨_,m7 (by rw[bo.slen,hm0];exact hmj)⟩;obtain⟨s,hs⟩:=this;obtain⟨y,rfl,_,hy,_⟩:=Mi r ra bo.mutb _ s hs (by omega);rw[EL hs];exact hy)
    have hmut: ∀i,c.mt<=i->i<m-> ∃y,b.src[i]? =some (.whole y)/\h.wm<=y/\y<h.next/\(O y≠none\/c.post[i-c.mt]? =some none\/RowB (h.get y))/\fc b.src h.next i=y:=by intro i h1 h2;have: ∃s,b.src[i]? =some s:=⟨_,m7 (by rw[bo.slen,hm0];exact h2)⟩;obtain⟨s,hs⟩:=this;obtain⟨y,rfl,h3,h4,h5⟩:=Mi r ra bo.mutb i s hs (by omega);rw[n9]at h5;exact⟨y,hs,h3,h4,h5,EL hs⟩
    have hmax:Nat.max c.mt m=m:=R7 (by rw[<-hm0];exact fo.mt);have hnext2:(mW (fc b.src h.next) Q m c.post c.mt h).next=h.next+(c.mt+c.post.length-m):=by rw[hlay.next,hmax]
    let aq:cj:=λx=>if x<h.next then O x else if x<h.next+(c.mt+c.post.length-m)then an (base+(x-h.next))else none
    have hlow: ∀x,x<h.next->aq x=O x:=λx hx=>i6 hx
    have hhigh: ∀x,h.next<=x->x<h.next+(c.mt+c.post.length-m)->aq x=an (base+(x-h.next)):=λx h1 h2=>by show(if x<h.next then O x else _)=_;rw[b9 (by omega),i6 h2]
    have hle:Le O aq:=by
     intro x L hx;rcases k8 x h.next with hh|hh
     rw[hlow x hh];exact hx;rw[r.fresh x hh]at hx;cases hx
    have hFw: ∀i x,b.src[i]? =some (.whole x)->aq x=an i:=by
     intro i x hx;rw[hw i x hx];have hi:i<m:=by rw[<-hm0,<-bo.slen];exact(A6.1 hx).1
     have:x<h.next:=by
      obtain⟨_,hB⟩:=DS bo.blks hnd;have hp: ∃y,c.blks[i]? =some y:=⟨_,m7 (by rw[hm0];exact hi)⟩;obtain⟨y,hy⟩:=hp;obtain⟨nd,g1,_⟩:=hB i y _ hy hx;rcases k8 x h.next with hh|hh
      exact hh;simp[su]at g1;rw[r.fget x hh]at g1;split at g1;rename_i hg;cases hg;rename_i hg;cases hg;rename_i hg;cases hg;rename_i hg;cases hg;rename_i hg;cases hg;cases g1
     exact hlow x this
    have hFblk: ∀j x y L,c.post[j]? =some x->nG (fc b.src h.next) (nS Q x)=some y->an (bif Nat.blt (c.mt+j) m then c.mt+j else base+(c.mt+j-m))=some L->
     (∃z,p.2.get (bif Nat.blt (c.mt+j) m then c.mt+j else base+(c.mt+j-m))=some z/\z.isArr=y.isArr)/\BR aq I L w'.heap[L.blk]? y:=by
     intro j x y L hj hy hL;obtain⟨n',es',g1,g2⟩:=hblks j x hj;cases x with
     |none=>cases hy
     |some q=>
      simp[sU]at g1;split at g1
      .rename_i z hz;have hkind:q.isArr=z.isArr:=bw1 g1;have hkind2:q.isArr=y.isArr:=by
        cases q<;>simp only[nS,nG,j5,reduceCtorEq]at hy<;>subst hy<;>rfl
       have hz':p.2.get (bif Nat.blt (c.mt+j) m then c.mt+j else base+(c.mt+j-m))=some z:=hz;refine⟨⟨z,hz',hkind.symm.trans hkind2⟩,?_⟩;have hcl:Ea b.src c.mt c.post (some q)=true:=by
        rcases k8 (c.mt+j) m with hh|hh
        exact(hpost j _ hj).1 hh;have:=(hpost j _ hj).2 hh;unfold CR at this;split at this;rename_i heq;simp at heq;subst heq;exact this;cases this
       exact cx5 (N:=h.next) hag hcl g1 g2 (cv.hr.blk _ z L hz' hL) hFw hy
      cases g1
    refine⟨u,aq,rfl,?_,?_,?_⟩
    .
     have hF1: ∀l,(λx=>io (fc b.src h.next) (iF Q x)) (.agg l)= .agg (l.map λx=>io (fc b.src h.next) (iF Q x)):=λl=>by simp only[iF,io,VM,Rv,o9];rfl
     have hF2: ∀l,(λx=>io (fc b.src h.next) (iF Q x)) (.V l)= .V (l.map λx=>io (fc b.src h.next) (iF Q x)):=λl=>by simp only[iF,io,VM,Rv,o9];rfl
     have hF3: ∀x,gN x=true->gN ((λx=>io (fc b.src h.next) (iF Q x)) x)=true:=λx hx=>by cases x<;>first|rfl|(simp only[iF,Py];unfold oO;split<;>rfl)|(simp[gN]at hx;done)
     refine hback aq I _ (YR hF1 hF2 hF3 c.out v1 hsh) ?_;rw[bY7 hF1 hF2 hF3];have hfl:(hZ c.out).length=fu.length:=by rw[Uv hsh,hfu1.length]
     refine YN hfl λk q x hq hx=> ?_
     obtain⟨n',es',g1,g2⟩:=hslots k q hq;have hcl:=hout q (I3 hq);have hsv:VR an aa (p.1.slot k) x:=by
      have:=cv.fr.slot k id;have h5:(fu.toArray)[k]? =some x:=by rw[K0];exact hx
      simp[h5,Option.getD_some]at this;exact this
     rw[n9]at g1;unfold Rs at g1;split at g1
     .rename_i i y s;cases hmi:Nat.ble m i with
      |false=>
       rw[hmi]at g1;refine OJ (N:=h.next) hag hcl ?_ g1 g2 hsv hFw;simp[BH,bo.slen,hm0,Y8];cases hh:Nat.blt i m with
       |true=>exact Y8.1 hh
       |false=>
        have: ¬i<m:=λhlt=>by rw[gW hlt]at hh;cases hh
        rw[X6.2 (by omega)]at hmi;cases hmi
      |true=>
       rw[hmi]at g1;obtain⟨hown,_⟩:=W5 g1;rw[X6]at hmi;unfold YQ at hown;split at hown
       .rename_i c' l s' e' sg' l' hsl hgb;obtain⟨hown,o3⟩:=W4 hown;obtain⟨o1,o2⟩:=W4 hown;obtain rfl:=X0.1 o1;obtain rfl:=X0.1 o2;have o3:=SX.beq_eq _ _ o3;subst o3;simp only[qp]at hcl;rw[show Nat.ble b.src.length i=true by rw[X6,bo.slen,hm0];exact hmi]at hcl;split at hcl
        .rename_i qq ee sig q' hpi;obtain⟨k1,k2⟩:=W4 hcl;have k1:=SX.beq_eq _ _ k1;subst k1;have hmt:c.mt<=i:=p9 (by rw[<-hm0];exact fo.mt) hmi;obtain⟨n2,es2,a1,a2⟩:=hblks (i-c.mt) _ hpi;rw[show c.mt+(i-c.mt)=i by omega,iv (by omega: ¬i<m)]at a1;simp[cond_false,sU,hgb]at a1;obtain⟨a3,a4⟩:=W5 a1;have hrow:=(hpost (i-c.mt) _ hpi).2 (by omega);have hden:=rW hag a4 hrow a2;have hlen:dI I (.O .Y [dX 1000 Q qq])=dI aa (.O .Y [l]):=by
          exact congrArg (λz:Val=>(z.L.length:Int)) hden
         have hname:fc b.src h.next i=h.next+(i-m):=by unfold fc;rw[v8 (by rw[bo.slen,hm0];exact hmi),bo.slen,hm0]
         have hpl2:i-c.mt<c.post.length:=(A6.1 hpi).1;have hFi:aq (h.next+(i-m))=an (base+(i-m)):=by rw[hhigh _ (D8 _ _) (by omega),show h.next+(i-m)-h.next=i-m by omega]
         show VR aq I (.U (fc b.src h.next i) (Ma Q (.O .Y [qq])) _) x;rw[hname];rw[hsl]at hsv;simp[Ma,VR]at hsv⊢;rw[hlen,hFi];exact hsv
        cases hcl
       cases hown
     .refine OJ (N:=h.next) hag hcl ?_ g1 g2 hsv hFw;rename_i hne;cases q<;>first|rfl|exact absurd rfl (hne _ _ _)
    .
     have kind: ∀x y L,(mW (fc b.src h.next) Q m c.post c.mt h).get x=some y->aq x=some L->
      (∃i z,c.mt<=i/\an i=some L/\p.2.get i=some z/\z.isArr=y.isArr/\BR aq I L w'.heap[L.blk]? y/\(i<m/\fc b.src h.next i=x/\x<h.next\/m<=i/\h.next<=x/\i=base+(x-h.next)/\base<=i))\/
      (x<h.next/\h.get x=some y/\O x=some L/\ ∀i,c.mt<=i->i<m->fc b.src h.next i≠x):=by
      intro x y L hy hL;rcases hlay.get x y hy with⟨j,q,g1,g2,g3,g4⟩|⟨j,q,g1,g2,g3,g4⟩|⟨g1,g2⟩
      .obtain⟨y0,s1,s2,s3,s4,s5⟩:=hmut (c.mt+j) (by omega) g2;have hxlt:x<h.next:=by rw[<-g3,s5];exact s3
       have hL2:an (c.mt+j)=some L:=by rw[<-hFw _ _ s1,<-s5,g3];exact hL
       obtain⟨⟨z,z1,z2⟩,z3⟩:=hFblk j q y L g1 g4 (by rw[gW g2];exact hL2);rw[gW g2]at z1;exact .inl ⟨c.mt+j,z,by omega,hL2,z1,z2,z3,.inl ⟨g2,g3,hxlt⟩⟩
      .have hjl:j<c.post.length:=(A6.1 g1).1;have hL2:an (base+(c.mt+j-m))=some L:=by
        rw[hhigh x (by omega) (by omega),show x-h.next=c.mt+j-m by omega]at hL;exact hL
       obtain⟨⟨z,z1,z2⟩,z3⟩:=hFblk j q y L g1 g4 (by rw[iv (by omega)];exact hL2);rw[iv (by omega)]at z1;exact .inl ⟨base+(c.mt+j-m),z,by omega,hL2,z1,z2,z3,.inr ⟨by omega,by omega,by omega,by omega⟩⟩
      .have hxlt:x<h.next:=by
        rcases k8 x h.next with hh|hh
        exact hh;rw[r.fget x hh]at g1;cases g1
       refine .inr ⟨hxlt,g1,by rw[<-hlow x hxlt];exact hL,λi h1 h2=> ?_⟩;have:=g2 (i-c.mt) (by omega) (by omega);rw[show c.mt+(i-c.mt)=i by omega]at this;exact this
     have hr2:=cv.hr;have hKc: ∀k,K k->PN O b.src c.mt w k:=λk hk=>⟨y7 (r.kin k hk) r.size,λi y L h1 h2 h3 hh=>by
      have hi:i<m:=by rw[<-hm0,<-bo.slen];exact(A6.1 h2).1
      obtain⟨y0,s1,s2,s3,s4,s5⟩:=hmut i h1 hi;rw[h2]at s1;simp at s1;subst s1;obtain⟨_,hB⟩:=DS bo.blks hnd;obtain⟨q,hq⟩: ∃q,c.blks[i]? =some q:=⟨_,m7 (by rw[hm0];exact hi)⟩;obtain⟨nd,g1,_⟩:=hB i q _ hq h2;simp[su]at g1;split at g1;rename_i hg;exact r.free y _ L hg s2 h3 (hh▸hk);rename_i hg;exact r.free y _ L hg s2 h3 (hh▸hk);rename_i hg;exact r.free y _ L hg s2 h3 (hh▸hk);rename_i hg;exact r.free y _ L hg s2 h3 (hh▸hk);rename_i hg;exact r.free y _ L hg s2 h3 (hh▸hk)
      cases g1⟩
     have hold: ∀x y L,x<h.next->h.get x=some y->O x=some L->(∀i,c.mt<=i->i<m->fc b.src h.next i≠x)->PN O b.src c.mt w L.blk:=by
      intro x y L h1 h2 h3 h4;refine⟨r.lt x L h3,λi y0 M g1 g2 g3=> ?_⟩;have hi:i<m:=by rw[<-hm0,<-bo.slen];exact(A6.1 g2).1
      obtain⟨y1,s1,s2,s3,s4,s5⟩:=hmut i g1 hi;rw[g2]at s1;simp at s1;subst s1;obtain⟨_,hB⟩:=DS bo.blks hnd;obtain⟨q,hq⟩: ∃q,c.blks[i]? =some q:=⟨_,m7 (by rw[hm0];exact hi)⟩;obtain⟨nd,k1,_⟩:=hB i q _ hq g2;have hz: ∃z,h.get y0=some z:=by simp[su]at k1;split at k1;rename_i hg;exact⟨_,hg⟩;rename_i hg;exact⟨_,hg⟩;rename_i hg;exact⟨_,hg⟩;rename_i hg;exact⟨_,hg⟩;rename_i hg;exact⟨_,hg⟩;cases k1
      obtain⟨z,hz⟩:=hz;exact r.sep x y0 y z L M h2 hz h3 g3 (λhh=>h4 i g1 hi (by rw[s5,hh])) (.inr (.inl s2))
     refine⟨λx y L hy hL=> ?_,λx x' y y' L L' hy hy' hL hL' hne hwk=> ?_,λx hx=> ?_,λx hx=> ?_,λx L hL=> ?_,r.kin,λk hk=>(hr2.keep k (hKc k hk)).trans (r.keep k hk),λx y L hy hwx hL hk=> ?_,
      p9 r.size hr2.size,hr2.os.trans r.os,hr2.tape.trans r.tape,hr2.out.trans r.out,p9 r.dr hr2.dr⟩
     rcases kind x y L hy hL with⟨i,z,_,_,_,_,hbr,_⟩|⟨h1,h2,h3,h4⟩
     exact hbr;rw[hr2.keep _ (hold x y L h1 h2 h3 h4)];exact(r.blk x y L h2 h3).mono hle
     rcases kind x y L hy hL with⟨i,z,a1,a2,a3,a4,a5,a6⟩|⟨a1,a2,a3,a4⟩
     rcases kind x' y' L' hy' hL' with⟨j,z',b1,b2,b3,b4,b5,b6⟩|⟨b1,b2,b3,b4⟩
     refine hr2.sep i j z z' L L' a3 b3 a2 b2 (λhh=>hne ?_) (.inl (by rw[hwm2];exact a1));subst hh;rcases a6 with⟨c1,c2,c3⟩|⟨c1,c2,c3,c4⟩
     rcases b6 with⟨d1,d2,d3⟩|⟨d1,d2,d3,d4⟩
     rw[<-c2,<-d2];omega
     rcases b6 with⟨d1,d2,d3⟩|⟨d1,d2,d3,d4⟩
     omega;omega
     .exactλhh=>hr2.free i z L a3 (by rw[hwm2];exact a1) a2 (hh▸hold x' y' L' b1 b2 b3 b4)
     rcases kind x' y' L' hy' hL' with⟨j,z',b1,b2,b3,b4,b5,b6⟩|⟨b1,b2,b3,b4⟩
     .exactλhh=>hr2.free j z' L' b3 (by rw[hwm2];exact b1) b2 (hh▸hold x y L a1 a2 a3 a4)
     exact r.sep x x' y y' L L' a2 b2 a3 b3 hne (by rw[hlay.wm]at hwk;exact hwk)
     .show(if x<h.next then O x else if x<h.next+(c.mt+c.post.length-m)then an (base+(x-h.next))else none)=none;rw[b9 (by omega),b9 (by omega)]
     .cases hy:(mW (fc b.src h.next) Q m c.post c.mt h).get x with
      |none=>rfl
      |some y=>
       rcases hlay.get x y hy with⟨j,q,g1,g2,g3,g4⟩|⟨j,q,g1,g2,g3,g4⟩|⟨g1,g2⟩
       obtain⟨y0,s1,s2,s3,s4,s5⟩:=hmut (c.mt+j) (by omega) g2;omega;have hjl:j<c.post.length:=(A6.1 g1).1;omega;rw[r.fget x (by omega)]at g1;cases g1
     .rcases k8 x h.next with hh|hh
      .rw[hlow x hh]at hL;exact y7 (r.lt x L hL) hr2.size
      .have hlt:x<h.next+(c.mt+c.post.length-m):=by
        rcases k8 x (h.next+(c.mt+c.post.length-m))with q|q
        exact q
        .have:aq x=none:=by
          show(if x<h.next then O x else if x<h.next+(c.mt+c.post.length-m)then an (base+(x-h.next))else none)=none;rw[b9 (by omega),b9 (by omega)]
         rw[this]at hL;cases hL
       rw[hhigh x hh hlt]at hL;exact hr2.lt _ L hL
     rcases kind x y L hy hL with⟨i,z,a1,a2,a3,a4,a5,a6⟩|⟨a1,a2,a3,a4⟩
     exact hr2.free i z L a3 (by rw[hwm2];exact a1) a2 (hKc _ hk);exact r.free x y L a2 (by rw[hlay.wm]at hwx;exact hwx) a3 hk
    .
     refine⟨by rw[hnext2];exact D8 _ _,hlow,λx hx hno=> ?_,hlay.wm⟩;by_cases hex: ∃j,j<c.post.length/\c.mt+j<m/\fc b.src h.next (c.mt+j)=x
     .obtain⟨j,hj,hmj,hh⟩:=hex;obtain⟨y0,s1,s2,s3,s4,s5⟩:=hmut (c.mt+j) (by omega) hmj;right;rw[s5]at hh;subst hh;rcases s4 with s4|s4|s4
      .exact absurd hno s4
      .by_cases har:RowB (h.get y0);exact .inr har
       left;cases hy:(mW (fc b.src h.next) Q m c.post c.mt h).get y0 with
       |none=>rfl
       |some y=>
        exfalso;rcases hlay.get y0 y hy with⟨j',q,g1,g2,g3,g4⟩|⟨j',q,g1,g2,g3,g4⟩|⟨g1,g2⟩
        obtain⟨y1,t1,t2,t3,t4,t5⟩:=hmut (c.mt+j') (by omega) g2;rw[t5]at g3;subst g3;rcases t4 with t4|t4|t4
        exact t4 hno;rw[show c.mt+j'-c.mt=j' by omega,g1,j5]at t4;subst t4;cases g4;exact har t4;omega;exact g2 j hj hmj s5
      exact .inr s4
     left;exact hlay.keep x hx λj hj hmj hh=>hex ⟨j,hj,hmj,hh⟩
   simp[W6]at hk
  simp[W6]at hk
 grind[W6]
def cy4{nd:SX}{r:Res}(e:Cr nd r= .val v h'\/ ∃x,Cr nd r= .N x v h'/\dB I x=true):dB I nd=true/\(r= .val v h'\/ ∃x,r= .N x v h'/\dB I x=true):=by
 cases r with
 |val v1 h1=>
  simp[Cr,Kj]at e;split at e
  rcases e with e|⟨x,e,_⟩
  exact⟨rfl,.inl e⟩;cases e;grind
 |N e1 v1 h1=>
  simp only[Cr]at e;rcases e with e|⟨x,e,hd⟩
  cases e;obtain⟨rfl,rfl,rfl⟩:=e;obtain⟨d1,d2⟩:=CY hd;grind
 |_=>
  grind[Cr]
def ZG(ao: ∀I v0 l,Ω I->Ω (I.U v0 l))(hc:rT c nv=true)(hm:tY E Ω f c)(ae:Ω I)
 (e:jN c nv args h= .val v h'\/ ∃x,jN c nv args h= .N x v h'/\dB I x=true):vR E I f args h v h':=by
 unfold jN at e;cases hbd:AZ c nv args h with
 |some b=>
  grind[cy3,Dp]
 |none=>
  rw[hbd]at e;generalize hq:sm args h=q at e;obtain⟨hd,e⟩:=cy4 (I:=I) e;intro K w0 O w us r ra;obtain⟨a1,a2,a3⟩:=KG hq hd r ra;refine Calls.mono (cy3 ao hc hm ae e K w0 O w us a2 a1) ?_;rintro e' w' ⟨u,ac,rfl,h1,h2,h3⟩;exact⟨u,ac,rfl,h1,h2,a3.trans h3⟩
def ds3(ao: ∀I v0 l,Ω I->Ω (I.U v0 l)){n:Nat}(hc:rT c nv=true)(hm:cy0 E Ω n f c)(ae:Ω I)
 (e:jN c nv args h= .val v h'\/ ∃x,jN c nv args h= .N x v h'/\dB I x=true):vR E I f args h v h':=
 ZG ao hc (cy2 hc hm) ae e
def dN9(ao: ∀I v0 l,Ω I->Ω (I.U v0 l))(hP:E0.P=E.P){n:Nat}(hc:rT c nv=true)(hb: ∀I,Ω I->HJ E0 I n)(hm:QJ E0 Ω n f c)(ae:Ω I)
 (e:jN c nv args h= .val v h'\/ ∃x,jN c nv args h= .N x v h'/\dB I x=true):vR E I f args h v h':=
 ds3 ao hc (λI ae hn=>⟨E0,hP,hb I ae,hm I ae hn⟩) ae e
structure HC where
 f:FuncId
 nv:Nat
 c:FC
abbrev Fj:= List HC
def dO0(a b:Res):Res:=match a with
 | .X=>b
 |r=>r
def xq:Fj->FuncId->zw->Heap->Res
 | [],_,_,_=> .X
 |x::r,f,args,h=>bif Nat.beq x.f f then dO0 (jN x.c x.nv args h) (xq r f args h)else xq r f args h
def Env.hooks(E:Env)(cs:Fj):Env:={E with hook:=xq cs}
def cC(E:Env)(Ω:Opq->Prop)(x:HC):Prop:= ∀I,Ω I-> ∀(args:zw) (h:Heap) (v:AV) (h':Heap),(jN x.c x.nv args h= .val v h'\/ ∃e,jN x.c x.nv args h= .N e v h'/\dB I e=true)->vR E I x.f args h v h'
def Lq{f:FuncId}{args:zw}{h:Heap}{y:Res}: ∀{cs:Fj},xq cs f args h=y->y≠ .X-> ∃x∈cs,x.f=f/\jN x.c x.nv args h=y
 | [],e,hy=>absurd e.symm hy
 |x::r,e,hy=>by
  unfold xq at e;cases hc:Nat.beq x.f f with
  |false=>
   rw[hc]at e;obtain⟨z,hz,h1,h2⟩:=Lq e hy;grind
  |true=>
   rw[hc]at e;cases hr:jN x.c x.nv args h with
   |X=>
    rw[hr]at e;obtain⟨z,hz,h1,h2⟩:=Lq (cs:=r) e hy;grind
   |_=>
    rw[hr]at e;exact⟨x,A7 ..,X0.1 hc,hr.trans e⟩
def d06{E:Env}{Ω:Opq->Prop}{cs:Fj}(hc: ∀x∈cs,cC E Ω x){I:Opq}(ae:Ω I):HookOk (E.hooks cs) I:=by refine⟨λf args h v h' e=> ?_,λf args h e v h' hh hd=> ?_⟩;obtain⟨x,hx,rfl,h2⟩:=Lq (show xq cs f args h=_ from e) (by simp);exact hc x hx I ae args h v h' (.inl h2);obtain⟨x,hx,rfl,h2⟩:=Lq (show xq cs f args h=_ from hh) (by simp);exact hc x hx I ae args h v h' (.inr ⟨e,h2,hd⟩)
def Env.Ok.hooks{E:Env}{I:Opq}(h:E.Ok I)(cs:Fj):(E.hooks cs).Ok I:=⟨h.fix,h.name,h.ext,h.bin,h.un,h.conv,h.blt⟩
def Lo{E:Env}{Ω:Opq->Prop}(ao: ∀I v0 l,Ω I->Ω (I.U v0 l))(hE: ∀I,Ω I->E.Ok I)(hm:E.P.follows .mixedOrders=true){cs:Fj}(hc: ∀x∈cs,cC E Ω x){x:HC}{n:Nat}(ho:rT x.c x.nv=true)(hx:QJ (E.hooks cs) Ω n x.f x.c):cC E Ω x:=
 λI ae args h v h' e=>dN9 (E:=E) (E0:=E.hooks cs) ao rfl ho (λI ae=>(Ul (E:=E.hooks cs) ao (λI h=>(hE I h).hooks cs) (λI h=>d06 hc h) hm n I ae).2.1) hx ae e
def du{E:Env}{Ω:Opq->Prop}{cs:Fj}{x:HC}(h: ∀x∈cs,cC E Ω x)(hx:cC E Ω x): ∀y∈x::cs,cC E Ω y:=λy hy=>by grind
def eU{E:Env}{Ω:Opq->Prop}{as cs:Fj}(h: ∀x∈cs,cC E Ω x)(hx: ∀x∈as,cC E Ω x): ∀y∈as++cs,cC E Ω y:=λy hy=>by grind
def QH(F:Nat->U7->Val)(P:yJ)(I:Opq):Prop:=I.f=F/\ ∀t,I.fix t=fj P t
def cy6{E:Env}{Ω:Opq->Prop}{n:Nat}{f:FuncId}{c:FC}{T:VT}(ht:FC.run E n f c c.args=T)(h: ∀I,Ω I->dB I c.N=true->W6 T I=some (0,X4 I c.outs)):QJ E Ω n f c:=
 λI ae hn=>⟨c.args,λ_ _ h=>h,by grind⟩
def CG{α:Type}(P:yJ)(g:zX->Option (List α)):abc->Nat->Option (List α)
 | [],_=>some []
 |f::r,o=>match g f.type with
  |some l=>bif Nat.beq f.offset o&&Nat.beq (P.cellsOf f.type) l.length then(match CG P g r (o+l.length)with
   |some l2=>some (l++l2)
   |none=>none)else none
  |none=>none
def MJ(P:yJ):Nat->zX->Option wD
 |0,_=>none
 |n+1,t=>match P.underlying t with
  |some .bool=>some [.bool]
  |some (.int k)=>some [.int k]
  |some .string=>some [.str]
  |some (.struct fs)=>match CG P (MJ P n) fs.toList 0 with
   |some l=>bif Nat.beq (P.cellsOf t) l.length then some l else none
   |none=>none
  |_=>none
def vO:CT->Zl->Prop
 | .int k,v=> ∃n,v= .int k n/\k.min<=n/\n<=k.max
 | .str,v=> ∃s,v= .string s
 | .bool,v=> ∃b,v= .bool b
def fM{α:Type}(fit:α->Zl->Prop):List α->List Zl->Prop
 | [],vs=>vs=[]
 |c::s,vs=> ∃v r,vs=v::r/\fit c v/\fM fit s r
def kR:wD->List Zl->Prop:=fM vO
def QV{α:Type}{fit:α->Zl->Prop}: ∀{s:List α} {vs:List Zl},fM fit s vs->vs.length=s.length
 | [],_,h=>by rw[h];rfl
 |_::s,_,⟨v,r,e,_,h⟩=>by rw[e];simp[QV h]
def Of{α:Type}{fit:α->Zl->Prop}: ∀{s t:List α} {vs us:List Zl},fM fit s vs->fM fit t us->fM fit (s++t) (vs++us)
 | [],_,_,_,h,k=>by rw[h];exact k
 |_::s,_,_,_,⟨v,r,e,h1,h⟩,k=>⟨v,_,by grind,h1,Of h k⟩
section
variable{H:Type}{enc:zX×Zl->H}{P:yJ}{w:Ac}{base:Nat}{sp:Nat->Bool}{hd:Bool}
def Sw{α O:Type}{g:α->Option O}: ∀{l:List α} {r:List O},l.mapM g=some r-> ∀a∈l,∃b∈r,g a=some b
 | [],_,_,_,h=>by cases h
 |x::l,r,h,a,ha=>by
  simp[Option.bind_eq_bind,o8,Option.pure_def,j5]at h;obtain⟨y,hy,ys,hys,rfl⟩:=h;rcases p7.1 ha with rfl|ha
  grind;obtain⟨b,hb,e⟩:=Sw hys a ha;grind
def Sa{α:Type}{fit:α->Zl->Prop}{g:zX->Option (List α)}{cs:List Zl}{Q:zX->List Zl->Prop}(hg: ∀t l vs,g t=some l->Q t vs->fM fit l vs): ∀{fs:abc} {o:Nat} {l:List α},CG P g fs o=some l->(∀f∈fs,Q f.type ((cs.drop f.offset).take (P.cellsOf f.type)))->
 fM fit l ((cs.drop o).take l.length)
 | [],o,l,h,_=>by simp[CG,j5]at h;subst h;simp[fM]
 |f::r,o,l,h,hq=>by
  simp[CG]at h;split at h
  rename_i l1 h1;cases hc:(Nat.beq f.offset o&&Nat.beq (P.cellsOf f.type) l1.length)with
  |false=>rw[hc]at h;cases h
  |true=>
   rw[hc]at h;simp at h;obtain⟨c1,c2⟩:=W4 hc;have c1:=X0.1 c1;have c2:=X0.1 c2;split at h;rename_i l2 h2;simp at h;subst h;have a:=hg _ _ _ h1 (hq f (A7 ..));rw[c1,c2]at a;have b:=Sa hg h2 (λf hf=>hq f (y9 _ hf));have:=Of a b;rw[k9,List.take_add,N6];exact this;cases h
  .cases h
def bx2: ∀{m:Nat} {n:Nat} {t:zX} {cs:List Zl} {x:DataW H×aa4} {l:wD},MJ P m t=some l->DataW.trod enc P w base sp hd n t cs=some x->kR l cs
 |0,_,_,_,_,_,h,_=>by cases h
 |m+1,0,_,_,_,_,_,h=>by simp[DataW.trod]at h
 |m+1,n+1,t,cs,x,l,hc,ht=>by
  unfold DataW.trod at ht;simp[MJ]at hc;cases hu:P.underlying t with
  |none=>grind
  |some d=>
   rw[hu]at hc ht;cases d with
   |bool=>
    simp at hc;subst hc;split at ht<;>simp_all [kR,fM,vO]
   |int k=>
    simp at hc;subst hc;split at ht<;>simp_all [kR,fM,vO,Lit.wf]
   |string=>
    simp at hc;subst hc;split at ht<;>simp_all [kR,fM,vO]
   |struct fs=>
    simp only at hc;split at hc
    rename_i l1 h1;cases hb:Nat.beq (P.cellsOf t) l1.length with
    |false=>rw[hb]at hc;cases hc
    |true=>
     rw[hb]at hc;simp at hc;subst hc;split at ht<;>simp_all;rename_i heq;subst heq;obtain⟨hlen,ys,hys,_⟩:=ht;have key: ∀cs:List Zl,cs.length=l1.length->(fs.toList.mapM λf=>DataW.trod enc P w base sp hd n f.type ((cs.drop f.offset).take (P.cellsOf f.type)))=some ys->kR l1 cs:=λcs hl hy=>by have:=Sa (cs:=cs) (Q:=λt vs=> ∃x,DataW.trod enc P w base sp hd n t vs=some x) (λt l vs hl ⟨x,hx⟩=>bx2 hl hx) h1 (λf hf=>by obtain⟨b,_,e⟩:=Sw hy f hf;exact⟨b,e⟩);rw[K8,<-hl,B1]at this;exact this
     exact key _ hlen (by simpa using hys)
    grind
   |_=>cases hc
inductive Sh where
 |col (c:CT)
 |sl (sig:wD)
def Pe(P:yJ):Nat->zX->Option (List Sh)
 |0,_=>none
 |n+1,t=>match P.underlying t with
  |some .bool=>some [.col .bool]
  |some (.int k)=>some [.col (.int k)]
  |some .string=>some [.col .str]
  |some (.slice e)=>match MJ P n e with
   |some l=>bif Nat.beq (P.cellsOf e) l.length&&Nat.blt 0 l.length then some [.sl l]else none
   |none=>none
  |some (.struct fs)=>match CG P (Pe P n) fs.toList 0 with
   |some l=>bif Nat.beq (P.cellsOf t) l.length then some l else none
   |none=>none
  |_=>none
def kD(w:Ac):Sh->Zl->Prop
 | .col c,v=>vO c v
 | .sl sig,v=>v= .slice none 0 0\/ ∃a len cap,v= .slice (some a) len cap/\0<sig.length/\(len<=cap/\cap<=maxLen)/\(∀i,i<len-> ∃vs,w.cells? 0 (a.add (i*sig.length)) sig.length=some vs/\kR sig vs)/\ ∀j,j<len*sig.length->w.frozen? ⟨a.block,a.off+j,none⟩=false
def HU(w:Ac)(ps:aa4):Prop:= ∀b off,MemPlace.cell b off∈ps->w.frozen? ⟨b,off,none⟩=false
def Rd: ∀{m:Nat} {n:Nat} {t:zX} {cs:List Zl} {x:DataW H×aa4} {l:List Sh},Pe P m t=some l->DataW.trod enc P w 0 sp hd n t cs=some x->HU w x.2->fM (kD w) l cs
 |0,_,_,_,_,_,h,_,_=>by cases h
 |m+1,0,_,_,_,_,_,h,_=>by simp[DataW.trod]at h
 |m+1,n+1,t,cs,x,l,hc,ht,hw=>by
  simp[Pe]at hc;cases hu:P.underlying t with
  |none=>grind
  |some d=>
   have ht0:=ht;unfold DataW.trod at ht;rw[hu]at hc ht;cases d with
   |bool=>
    grind[Option.some.injEq,fM,kD,vO]
   |int k=>
    grind[Option.some.injEq,fM,kD,vO,Lit.wf]
   |string=>
    grind[Option.some.injEq,fM,kD,vO]
   |slice e=>
    simp_all;split at hc
    rename_i l1 h1;cases hb:(Nat.beq (P.cellsOf e) l1.length&&Nat.blt 0 l1.length)with
    |false=>rw[hb]at hc;cases hc
    |true=>
     rw[hb]at hc;simp at hc;subst hc;obtain⟨hb,hb0⟩:=W4 hb;rw[Y8]at hb0;have hb:=X0.1 hb;rcases DataW.trod_slice hu ht0 with⟨rfl,_⟩|⟨a,len,cap,elems,rest,n',hn,rfl,rfl,_,hlc,hcm,hel,hi,_⟩
     exact⟨_,_,rfl,.inl rfl,rfl⟩;refine⟨_,_,rfl,.inr ⟨a,len,cap,rfl,hb0,⟨hlc,hcm⟩,λi hlt=> ?_,λj hj=> ?_⟩,rfl⟩;have:=hi i hlt;rw[m7 (by omega),o8]at this;obtain⟨vs,h2,h3⟩:=this;rw[hb]at h2;exact⟨vs,h2,bx2 h1 h3⟩;apply hw;simp only[t8,MemPlace.row,k6,o7];refine .inl ⟨j,?_,rfl⟩;rw[hb,hel,x9];omega
    grind
   |struct fs=>
    simp only at hc;split at hc
    rename_i l1 h1;cases hb:Nat.beq (P.cellsOf t) l1.length with
    |false=>rw[hb]at hc;cases hc
    |true=>
     rw[hb]at hc;simp at hc;subst hc;split at ht<;>simp_all;rename_i heq;subst heq;obtain⟨hlen,ys,hys,hx⟩:=ht;have hw2: ∀y∈ys,HU w y.2:=λy hy b off hm=>hw b off (by rw[<-hx];exact x7.2 ⟨y,hy,hm⟩)
     have key: ∀cs:List Zl,cs.length=l1.length->(fs.toList.mapM λf=>DataW.trod enc P w 0 sp hd n f.type ((cs.drop f.offset).take (P.cellsOf f.type)))=some ys->fM (kD w) l1 cs:=λcs hl hy=>by have:=Sa (cs:=cs) (fit:=kD w) (Q:=λt vs=> ∃x,DataW.trod enc P w 0 sp hd n t vs=some x/\HU w x.2) (λt l vs hl ⟨x,hx,hz⟩=>Rd hl hx hz) h1 (λf hf=>by obtain⟨b,hb,e⟩:=Sw hy f hf;exact⟨b,e,hw2 b hb⟩);rw[K8,<-hl,B1]at this;exact this
     exact key _ hlen (by simpa using hys)
    grind
   |_=>cases hc
def sS(w:Ac)(sz:Nat)(a:Addr)(len:Nat):U7:=(List.range len).map λi=> .A (((w.cells? 0 (a.add (i*sz)) sz).getD []).map Do)
def qR(w:Ac)(s:Sh)(v:Zl):Val:=match s,v with
 | .col _,v=>Do v
 | .sl sig,.slice (some a) len _=> .A (sS w sig.length a len)
 |_,_=> .A []
def FD(sig:wD)(v:Zl):aa7:=match v with
 | .slice (some a) len _=>if 0<len then some ⟨a.block,a.off,len*sig.length⟩else none
 |_=>none
def Vd:Sh->Nat
 | .sl _=>1
 | .col _=>0
def e52(n b:Nat):Sh->AV
 | .col (.int k)=> .Z k (.V n)
 | .col .str=> .K (.V n)
 | .col .bool=> .H (.V n)
 | .sl sig=> .osl b (.C 0) (.O .Y [.V n]) sig.length
def KS:List Sh->Nat->Nat->zw
 | [],_,_=>[]
 |s::r,n,b=>e52 n b s::KS r (n+1) (b+Vd s)
def mg:List Sh->Nat->aaM
 | [],_=>[]
 | .sl sig::r,n=> .A iU sig (.V n)::mg r (n+1)
 | .col _::r,n=>mg r (n+1)
def nE:List Sh->List Zl->List aa7
 | .sl sig::r,v::vs=>FD sig v::nE r vs
 | .col _::r,_::vs=>nE r vs
 |_,_=>[]
def Yd{a:Addr}{n:Nat}{vs:List Zl}(h:w.cells? 0 a n=some vs):vs.length=n/\ ∀j,j<n->w.cell? (a.add j)=vs[j]? :=by
 unfold World.cells? at h;have: ∀(l:uq) (vs:List Zl),(l.mapM λi=>w.cell? (a.add i))=some vs->vs.length=l.length/\ ∀j (hj:j<l.length),w.cell? (a.add l[j])=vs[j]? :=by
  intro l;induction l with
  |nil=>intro vs h;simp at h;subst h;exact⟨rfl,λj hj=>by simp at hj⟩
  |cons x l ih=>
   intro vs h;simp[Option.bind_eq_bind,o8,Option.pure_def,j5]at h;obtain⟨y,hy,ys,hys,rfl⟩:=h;obtain⟨h1,h2⟩:=ih ys hys;refine⟨by simp[h1],λj hj=> ?_⟩;cases j with
   |zero=>simpa using hy
   |succ j=>simpa using h2 j (by simpa using hj)
 grind
def bx3{a:Addr}{k:Nat}{v:Zl}(h:w.cell? (a.add k)=some v): ∃C e lo hi,w.heap[a.block]? =some (.cells C e (lo,hi))/\C[a.off+k]? =some v/\(k=0->a.spot=none):=by
 have hb:(a.add k).block=a.block:=by grind[Addr.add]
 have ho:(a.add k).off=a.off+k:=by grind[Addr.add]
 unfold World.cell? at h;rw[hb,ho]at h;split at h;rename_i C e fr hh;split at h;cases h;refine⟨C,e,fr.1,fr.2,hh,h,λhk=> ?_⟩;simp_all[Addr.add];cases h
def XU: ∀{sig:wD} {vs:List Zl} {j:Nat},kR sig vs->j<sig.length-> ∃u,vs[j]? =some u/\gg (sig.getD j .bool) (Do u)=u
 |c::s,vs,0,⟨v,r,e,h,_⟩,_=>by
  refine⟨v,by grind,?_⟩;cases c with
  |int k=>obtain⟨n,rfl,_⟩:=h;rfl
  |str=>obtain⟨n,rfl⟩:=h;rfl
  |bool=>obtain⟨n,rfl⟩:=h;rfl
 |c::s,vs,j+1,⟨v,r,e,_,h⟩,hj=>by obtain⟨u,h1,h2⟩:=XU (sig:=s) (vs:=r) (j:=j) h (by simpa using hj);grind
 | [],_,_,_,hj=>by simp at hj
def dO3{O:cj}{I:Opq}{sig:wD}{a:Addr}{len n:Nat}(h0:0<len)(hs:0<sig.length)(hc: ∀i,i<len-> ∃vs,w.cells? 0 (a.add (i*sig.length)) sig.length=some vs/\kR sig vs)
 (hf: ∀j,j<len*sig.length->w.frozen? ⟨a.block,a.off+j,none⟩=false) (hw:I.w n= .A (sS w sig.length a len)):BR O I ⟨a.block,a.off,len*sig.length⟩ w.heap[a.block]? (.A iU sig (.V n)):=by
 have hcell: ∀i j,i<len->j<sig.length-> ∃u C e lo hi,w.heap[a.block]? =some (.cells C e (lo,hi))/\C[a.off+(i*sig.length+j)]? =some u/\gg (sig.getD j .bool) ((((sS w sig.length a len).getD i (.A [])).L).getD j default)=u:=by
  intro i j hi hj;obtain⟨vs,h1,h2⟩:=hc i hi;obtain⟨h3,h4⟩:=Yd h1;obtain⟨u,h5,h6⟩:=XU h2 hj;have h7:=h4 j hj;rw[h5]at h7;obtain⟨C,e,lo,hi',h8,h9,_⟩:=bx3 h7;have hb:(a.add (i*sig.length)).block=a.block:=by unfold Addr.add;split<;>rfl
  have ho:(a.add (i*sig.length)).off=a.off+i*sig.length:=by unfold Addr.add;split<;>simp_all
  rw[hb]at h8;rw[ho,A2]at h9;refine⟨u,C,e,lo,hi',h8,h9,?_⟩;rw[<-h6];simp[sS,k5,B9,List.getElem?_range hi,Option.map_some,Option.getD_some,Val.L,h1,h5]
 obtain⟨_,C,e,lo,hi,hh,_,_⟩:=hcell 0 0 h0 hs;have hC: ∀i j,i<len->j<sig.length-> ∃u,C[a.off+(i*sig.length+j)]? =some u/\gg (sig.getD j .bool) ((((sS w sig.length a len).getD i (.A [])).L).getD j default)=u:=by intro i j h1 h2;obtain⟨u,C',e',lo',hi',g1,g2,g3⟩:=hcell i j h1 h2;rw[hh]at g1;obtain⟨rfl,rfl,rfl,rfl⟩:=g1;exact⟨u,g2,g3⟩
 have hl:(dL I (.V n))=sS w sig.length a len:=by show(I.w n).L=_;rw[hw];rfl
 have hlen:(sS w sig.length a len).length=len:=by simp[sS]
 refine⟨C,e,lo,hi,hh,.inr rfl,?_,by rw[hl,hlen];exact j6 _,λi v hi'=> ?_,λi hi'=> ?_⟩
 obtain⟨u,h1,_⟩:=hC (len-1) (sig.length-1) (by omega) (by omega);have:=(S0.1 h1).1;have e1:(len-1)*sig.length+sig.length=len*sig.length:=by rw[<-Nat.succ_mul];congr 1;omega
 show a.off+len*sig.length<=C.size;omega
 rw[hl]at hi';have hlt:i<len*sig.length:=by have:=(A6.1 hi').1;rw[iR,hlen]at this;exact this
 have hq:i/sig.length<len:=Nat.div_lt_of_lt_mul (by rw[M5];exact hlt);have hr:i % sig.length<sig.length:=N8 _ hs;have hi2:i=i/sig.length*sig.length+i % sig.length:=by rw[M5];exact(Nat.div_add_mod i sig.length).symm
 obtain⟨u,h1,h2⟩:=hC _ _ hq hr;rw[hi2,EH hr (by rw[hlen];exact hq),h2,j5]at hi';rw[hi2,h1,hi'];grind[World.frozen?,Bool.and_eq_false_iff,decide_eq_false_iff_not]
def PT{α:Type}{fit:α->Zl->Prop}: ∀{s:List α} {vs:List Zl} {i:Nat} {a:α} {v:Zl},fM fit s vs->s[i]? =some a->vs[i]? =some v->fit a v
 |_::_,_,0,_,_,⟨v,r,rfl,h,_⟩,h1,h2=>by grind
 |_::_,_,i+1,_,_,⟨v,r,rfl,_,h⟩,h1,h2=>PT (i:=i) h (by grind) (by grind)
 | [],_,_,_,_,_,h1,_=>by simp at h1
def Ty: ∀{L:List Sh} {vs:List Zl} {n:Nat},fM (kD w) L vs->(nE L vs).length=(mg L n).length/\ ∀(j:Nat) (x:Blk),(mg L n)[j]? =some x-> ∃sig m v,x= .A iU sig (.V (n+m))/\L[m]? =some (.sl sig)/\vs[m]? =some v/\(nE L vs)[j]? =some (FD sig v)
 | [],vs,n,h=>⟨by rfl,λj x hx=>by grind[mg]⟩
 | .col c::r,_,n,⟨v,vs,rfl,_,h⟩=>by obtain⟨h1,h2⟩:=Ty (n:=n+1) h;refine⟨h1,λj x hx=> ?_⟩;obtain⟨sig,m,v',e1,e2,e3,e4⟩:=h2 j x hx;exact⟨sig,m+1,v',by grind,by grind,by grind,e4⟩
 | .sl sig::r,_,n,⟨v,vs,rfl,_,h⟩=>by
   obtain⟨h1,h2⟩:=Ty (n:=n+1) h;refine⟨by grind[nE,mg,List.length_cons],λj x hx=> ?_⟩;cases j with
   |zero=>
    simp[mg,List.getElem?_cons_zero,j5]at hx;exact⟨sig,0,v,hx.symm,rfl,rfl,rfl⟩
   |succ j=>
    obtain⟨sig',m,v',e1,e2,e3,e4⟩:=h2 j x (by grind[mg]);exact⟨sig',m+1,v',by grind,by grind,by grind,by grind[nE]⟩
def cy8{sig:wD}{v:Zl}{M:Loc}(e:FD sig v=some M): ∃a len cap,v= .slice (some a) len cap/\0<len/\M=⟨a.block,a.off,len*sig.length⟩:=by unfold FD at e;grind
def dO4{O:cj}{I:Opq}{L:List Sh}{vs:List Zl}(hfit:fM (kD w) L vs)(ae: ∀(i:Nat) s v,L[i]? =some s->vs[i]? =some v->I.w i=qR w s v)(ap: ∀b,O b=((nE L vs)[b]?).getD none)
 {h:Heap} (hn:h.next=(mg L 0).length) (hwm:h.wm=(mg L 0).length) (hg: ∀b,h.get b=(mg L 0)[b]?):HR O I (· <w.heap.size) w h w:=by
 obtain⟨hlen,hat⟩:=Ty (n:=0) hfit;have hlt: ∀b x,h.get b=some x->b<(mg L 0).length:=λb x hx=>by rw[hg]at hx;exact(A6.1 hx).1
 have harr: ∀b x,h.get b=some x->x.isArr=true:=λb x hx=>by rw[hg]at hx;obtain⟨sig,m,v,e,_⟩:=hat b x hx;rw[e];rfl
 have hloc: ∀b M,O b=some M-> ∃sig m a len cap,L[m]? =some (.sl sig)/\vs[m]? =some (.slice (some a) len cap)/\0<len/\M=⟨a.block,a.off,len*sig.length⟩/\(mg L 0)[b]? =some (.A iU sig (.V m)):=by
  intro b M hb;rw[ap]at hb;have hb':b<(mg L 0).length:=by
   rcases k8 b (nE L vs).length with hh|hh
   omega;rw[v8 hh]at hb;cases hb
  obtain⟨sig,m,v,e1,e2,e3,e4⟩:=hat b _ (m7 hb');rw[e4,Option.getD_some]at hb;obtain⟨a,len,cap,rfl,h0,rfl⟩:=cy8 hb;exact⟨sig,m,a,len,cap,e2,e3,h0,rfl,by rw[m7 hb',e1,n9]⟩
 have hbr: ∀b x M,h.get b=some x->O b=some M->BR O I M w.heap[M.blk]? x:=by
  intro b x M hx hb;obtain⟨sig,m,a,len,cap,h1,h2,h0,rfl,h4⟩:=hloc b M hb;rw[hg,h4,j5]at hx;subst hx;have hf:=PT hfit h1 h2;rcases hf with hf|⟨a',len',cap',hf,hs,_,hc,hz⟩
  cases hf;obtain⟨rfl,rfl,rfl⟩:=hf;exact dO3 h0 hs hc hz (ae m _ _ h1 h2)
 refine⟨hbr,λb b' x x' M M' h1 h2 _ _ _ h5=> ?_,λb hb=> ?_,λb hb=> ?_,λb M hb=> ?_,λi hi=>hi,λi _=>rfl,λb x M h1 h2 _=> ?_,j6 _,rfl,rfl,rfl,j6 _⟩
 have q1:=hlt _ _ h1;have q2:=hlt _ _ h2;rcases h5 with h5|h5|h5|h5
 omega;omega;rw[harr _ _ h1]at h5;cases h5;rw[harr _ _ h2]at h5;cases h5;rw[ap,v8 (by omega)];rfl;rw[hn]at hb;rw[hg,v8 hb];obtain⟨sig,m,a,len,cap,h1,h2,h0,rfl,h4⟩:=hloc b M hb;obtain⟨C,e',lo,hi,hh,_⟩:=hbr b _ _ (by rw[hg];exact h4) hb;exact(S0.1 hh).1;grind
def cy9{O:cj}{I:Opq}: ∀{L:List Sh} {vs:List Zl} {n b:Nat},fM (kD w) L vs->(∀(i:Nat) s v,L[i]? =some s->vs[i]? =some v->I.w (n+i)=qR w s v)->(∀(j:Nat) x,(nE L vs)[j]? =some x->O (b+j)=x)->co O I (KS L n b) vs
 | [],_,_,_,h,_,_=>by rw[h];rfl
 |s::r,_,n,b,⟨v,vs,rfl,hf,h⟩,ae,ap=>by
  have hv:=ae 0 s v rfl rfl;rw[Nat.add_zero]at hv;have hrest:co O I (KS r (n+1) (b+Vd s)) vs:=by
   refine cy9 h (λi s' v' h1 h2=> ?_) (λj x hx=> ?_);have:=ae (i+1) s' v' (by simpa using h1) (by simpa using h2);grind
   cases s with
   |col c=>exact ap j x hx
   |sl sig=>
    have:=ap (j+1) x (by simpa[nE]using hx);grind[Vd]
  refine⟨v,vs,rfl,?_,hrest⟩;cases s with
  |col c=>
   cases c with
   |int k=>obtain⟨m,rfl,_⟩:=hf;show Value.int k m= .int k (I.w n).I;rw[hv];rfl
   |str=>obtain⟨m,rfl⟩:=hf;show Value.string m= .string ⟨(I.w n).toS.toArray⟩;simp_all[qR,Do,Val.toS]
   |bool=>obtain⟨m,rfl⟩:=hf;show Value.bool m= .bool (I.w n).Z;rw[hv];rfl
  |sl sig=>
   rcases hf with rfl|⟨a,len,cap,rfl,hs,hlc,hc,hz⟩
   refine .inr ⟨none,0,rfl,λ_=>rfl,?_⟩;show(((I.w n).L.length:Nat):Int)=0;rw[hv];rfl
   have hd:dI I (.O .Y [.V n])=(len:Int):=by show(((I.w n).L.length:Nat):Int)=len;grind[qR,sS,Val.L]
   by_cases h0:0<len;refine .inl ⟨⟨a.block,a.off,len*sig.length⟩,cap,a,?_,by grind,by omega,λ_=> ?_⟩;have:=ap 0 (some ⟨a.block,a.off,len*sig.length⟩) (by simp[nE,FD,h0]);exact this
   obtain⟨us,h1,h2⟩:=hc 0 h0;obtain⟨h3,h4⟩:=Yd h1;have h5:=h4 0 hs;rw[m7 (by omega)]at h5;have e0:(a.add (0*sig.length)).add 0=a.add 0:=by simp[Addr.add]
   rw[e0]at h5;obtain⟨_,_,_,_,_,_,h6⟩:=bx3 h5;have:(dI I (.C 0)).toNat=0:=rfl;rw[this,K1,Nat.add_zero,<-h6 rfl]
   obtain rfl:len=0:=by omega
   exact .inr ⟨some a,cap,rfl,λhh=>(by cases hh),hd⟩
def Kh(F:Nat->U7->Val)(P:yJ)(w:Ac)(L:List Sh)(cells:List Zl):Opq:=⟨λ_=> .bool false,λn=>qR w (L.getD n (.col .bool)) (cells.getD n (.bool false)),F,λ_=>rfl,λt=>fj P t,λ_=>none⟩
def IL(r:Res):Option (SX×AV):=match r with
 | .val v _=>some (.cb true,v)
 | .N e v _=>some (e,v)
 |_=>none
def cd0{r:Res}{e:SX}{v:AV}{I:Opq}(h:IL r=some (e,v))(hd:dB I e=true): ∃h',r= .val v h'\/ ∃x,r= .N x v h'/\dB I x=true:=by unfold IL at h;grind
def ds4{E:Env}{F:Nat->U7->Val}{x:HC}(hx:cC E (QH F E.P) x)(ho:rT x.c x.nv=true){L:List Sh}{cells:List Zl}(hfit:fM (kD w) L cells)(hb:x.c.blks=mg L 0)(hmt:x.c.mt=x.c.blks.length)
 {us:List Zl} (hus: ∀O I,co O I (KS L 0 0) cells->co O I x.c.args us) {e:SX} (he:IL (jN x.c x.nv x.c.args x.c.heap)=some (e,.H (.cb true))) (hd:dB (Kh F E.P w L cells) e=true):
 Calls E.P x.f us.toArray w (λe w'=>e= .returned (.bool true)/\RowKit.Below w.heap.size w w'):=by
 obtain⟨h',hh⟩:=cd0 he hd;obtain⟨hn,hwm,eK⟩:=x.c.heap_ok (cx0 ho).lt;have ae: ∀(i:Nat) s v,L[i]? =some s->cells[i]? =some v->(Kh F E.P w L cells).w i=qR w s v:=λi s v h1 h2=>by show qR w (L.getD i (.col .bool)) (cells.getD i (.bool false))=_;grind
 have hr:HR (λb=>((nE L cells)[b]?).getD none) (Kh F E.P w L cells) (· <w.heap.size) w x.c.heap w:=
  dO4 hfit ae (λ_=>rfl) (by grind) (by grind) (λb=>by grind)
 have hv:=hus _ _ (cy9 (O:=λb=>((nE L cells)[b]?).getD none) (I:=Kh F E.P w L cells) (n:=0) (b:=0) hfit (λi s v h1 h2=>by grind) (λj y hy=>by grind));refine Calls.mono (hx _ ⟨rfl,λ_=>rfl⟩ _ _ _ _ hh (· <w.heap.size) w _ w us hr hv) ?_;rintro e' w' ⟨u,ac,rfl,h1,h3,_⟩;exact⟨by rw[show u= .bool true from h1],h3.os,h3.tape,h3.out,h3.size,h3.keep⟩
def bx4(P:yJ)(t:zX):Bool:=match P.underlying t with
 |some (.struct _)=>true
 |_=>false
def cz0{r:Reach}{b:Nat}{t:zX}{v:Zl}(h:bx4 P t=true)(hv:Value.okWide P w r b t v): ∃cs,v= .agg cs:=by grind[bx4,Value.okWide]
