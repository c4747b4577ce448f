import Derived.Test.YtipefnncbnbliaaGreatE36
import Derived.Test.YtipefnncbnbliaaGreatE28
import Derived.ChangeArms
set_option linter.unusedSimpArgs false
set_option linter.unusedVariables false
namespace Go.Ev
open Go
variable{c:FC}{h':Heap}{v:AV}{Ω:Opq->Prop}{f:FuncId}{nv:Nat}{args:List AV}
variable{E E0:Env}{I:Opq}{O:bY}{K:Nat->Prop}{w0 w:World}{h h2:Heap}
def SF(E0:Env)(Ω:Opq->Prop)(n:Nat)(f:FuncId)(c:FC):Prop:= ∀I,Ω I->dB I c.need=true-> ∃args,(∀(O:bY) us,cj O I c.args us->cj O I args us)/\W7 (FC.run E0 n f c args) I=some (0,Z6 I c.outs)
def ct3(E:Env)(Ω:Opq->Prop)(n:Nat)(f:FuncId)(c:FC):Prop:= ∀I,Ω I->dB I c.need=true-> ∃E0:Env,E0.P=E.P/\DZ E0 I n/\ ∃args,(∀(O:bY) us,cj O I c.args us->cj O I args us)/\W7 (FC.run E0 n f c args) I=some (0,Z6 I c.outs)
theorem cQ2{b:Binding}(e:wI c b h= .val v h'\/ ∃x,wI c b h= .need x v h'/\dB I x=true):
 dB I b.nd=true/\dB I (ky b.es c.need)=true/\v=iC (ft b.src h.next) (iL (sW b.es c.outs) c.out)/\h'=mQ (ft b.src h.next) (sW b.es c.outs) c.blks.length c.post c.mt h:=by
 unfold wI Ic at e;rcases e with e|⟨x,e,hd⟩
 .split at e
  .rename_i hn;have:dB I (gZ b.nd (ky b.es c.need))=true:=by rw[hn];rfl
   grind[AD]
  .cases e
 .split at e
  .cases e
  grind[Res.need.injEq,AD]
theorem ct4{x x':AV}{nd:SX}{u:Value}(e:Qo x h=some (nd,x',h'))(hd:dB I nd=true)(r:HR O I K w0 h w)(hx:VR O I x u):VR O I x' u/\HR O I K w0 h' w/\St h O h' O:=by
 unfold Qo at e;split at e
 .rename_i b len s;split at e
  .rename_i el sig l hg;obtain⟨hc,e⟩:=W6 e;obtain⟨hc,c3⟩:=W5 hc;obtain⟨c1,_⟩:=W5 hc;rw[Z5]at c1;obtain⟨rfl,rfl,rfl⟩:=e;obtain⟨d1,d2⟩:=W5 (a:=dB I (.op (.cmp .leq) [.ci 0,len])) (b:=dB I (.op (.cmp .leq) [len,.op .llen [l]])) hd;have d1:0<=dI I len:=j6 d1;have d2:dI I len<=((dL I l).length:Int):=j6 d2;have hsub:dL I (.op .lsub [l,.ci 0,len])=(dL I l).take (dI I len).toNat:=by
    show((dL I l).drop (0:Int).toNat).take (dI I len-0).toNat=_;simp
   have hlen:dI I (.op .llen [.op .lsub [l,.ci 0,len]])=dI I len:=by
    show((dL I (.op .lsub [l,.ci 0,len])).length:Int)=_;grind
   have hb65:=Heap.get_lim h b _ hg;refine⟨?_,?_,?_⟩
   .grind[VR]
   .refine HR.retell (y:= .arr el sig (.op .lsub [l,.ci 0,len])) r hg (.inl c1) ?_ rfl rfl (λz=>by rw[Heap.get_put,e8 hb65]);intro L' hL' hbr;obtain⟨C,e',lo,hi,z1,z0,z2,z3,z4,z5⟩:=hbr;refine⟨C,e',lo,hi,z1,z0,z2,?_,λi v hv=> ?_,z5⟩
    .rw[hsub,k8];exact n7 (A2 _ (Nat.min_le_right _ _)) z3
    grind[List.take_append_drop,dI,dL,BK,List.getElem?_append_left,List.getElem?_eq_some_iff]
   .refine⟨i6 _,λ_ _=>rfl,λz hz hzn=> ?_,rfl⟩;by_cases e1:z=b
    .subst e1;exact .inr (.inr (.of hg))
    simp_all[Heap.get_put,b9]
  .cases e
 .cases e
theorem Jj: ∀{args args':List AV} {nd:SX} {h h':Heap} {us:List Value},rL args h=(nd,args',h')->dB I nd=true->HR O I K w0 h w->cj O I args us->cj O I args' us/\HR O I K w0 h' w/\St h O h' O
 | [],args',nd,h,h',us,e,hd,r,ra=>by
   obtain⟨rfl,rfl,rfl⟩:=e;exact⟨ra,r,.refl _ _⟩
 |x::rest,args',nd,h,h',us,e,hd,r,ra=>by
  obtain⟨u,ur,rfl,rx,rr⟩:=ra;unfold rL at e;split at e
  .rename_i e1 x1 h1 ht;generalize hq:rL rest h1=q at e;obtain⟨rfl,rfl,rfl⟩:=e;obtain⟨d1,d2⟩:=AD hd;obtain⟨a1,a2,a3⟩:=ct4 ht d1 r rx;obtain⟨b1,b2,b3⟩:=Jj hq d2 a2 rr;exact⟨.cons a1 b1,b2,a3.trans b3⟩
  .generalize hq:rL rest h=q at e;obtain⟨rfl,rfl,rfl⟩:=e;obtain⟨b1,b2,b3⟩:=Jj hq hd r rr;exact⟨.cons rx b1,b2,b3⟩
theorem df5{xs:List AV}{us:List Value}{hc:Heap}{aj:bY}{t:Nat×List Val}(hk:ny I t (Pm c xs h))(hx:cj aj I xs us)(r:HR aj I K w0 h w)(s:St hc O h aj):
 ∃xs' h',ny I t (OE c h' (yw h' xs'))/\cj aj I xs' us/\HR aj I K w0 h' w/\St hc O h' aj:=by
 unfold Pm at hk;cases hq:xs.any (WN h)with
 |false=>grind
 |true=>
  rw[hq]at hk;obtain⟨nd,xs',h',ht⟩: ∃nd xs' h',rL xs h=(nd,xs',h'):=⟨_,_,_,rfl⟩;rw[ht]at hk;obtain⟨hd,hk⟩:=(uX I t).need _ _ hk;obtain⟨a1,a2,a3⟩:=Jj ht hd r hx;exact⟨xs',h',hk,a1,a2,s.trans a3⟩
def uq(E:Env)(Ω:Opq->Prop)(f:FuncId)(c:FC):Prop:= ∀I,Ω I->dB I c.need=true-> ∀(K:Nat->Prop) (w0:World) (O:bY) (w:World) (us:List Value),HR O I K w0 c.heap w->cj O I c.args us->
 Calls E.P f us.toArray w (λe w'=> ∃u ac v h',e= .returned u/\ny I (0,Z6 I c.outs) (pG c v h')/\VR ac I v u/\HR ac I K w0 h' w'/\St c.heap O h' ac)
theorem ct5{n:Nat}(hc:rM c nv=true)(hm:ct3 E Ω n f c):uq E Ω f c:=by
 intro aa ae hn K w0 O w us r ra;obtain⟨E0,hP,hb,args',hvar,hrun⟩:=hm _ ae hn;exact hP▸hb ib kG (ny aa (0,Z6 aa c.outs)) (uX aa _) f args' c.heap (pG c) ⟨[],lq,hrun⟩ _ w0 _ w us r (hvar _ _ ra)
set_option maxHeartbeats 1000000 in
theorem WI(ao: ∀I v0 l,Ω I->Ω (I.upd v0 l))(hc:rM c nv=true)(hm:uq E Ω f c)(ae:Ω I)
 (e:FG c nv args h= .val v h'\/ ∃x,FG c nv args h= .need x v h'/\dB I x=true):vC E I f args h v h':=by
 intro K w0 O w us r ra;have fo:=cs3 hc;have: ∃b,AL c nv args h=some b/\(wI c b h= .val v h'\/ ∃x,wI c b h= .need x v h'/\dB I x=true):=by
  unfold FG at e;grind
 obtain⟨b,hbd,e⟩:=this;have bo:=cP9 hbd;obtain⟨hnd,hneed,rfl,rfl⟩:=cQ2 e;obtain⟨hargs,hhr⟩:=cQ0 r ra fo bo hnd;have aC:Ω (I.upd 0 (Z6 I b.es)):=ao _ _ _ ae;have hneed':dB (I.upd 0 (Z6 I b.es)) c.need=true:=by
  have:=Eb (I:=I) (es:=b.es) c.need (by rw[bo.len];exact fo.need);show(bU _ c.need).toB=true;rw[<-this];exact hneed
 have hm:=hm _ aC hneed';obtain⟨hn,hwm,eD⟩:=c.heap_ok fo.lt;generalize aK:I.upd 0 (Z6 I b.es)=aa at*
 have hag:Agr 0 I aa:=by grind[Ea]
 refine Calls.mono (hm _ w _ w us hhr hargs) ?_;rintro _ w' ⟨u,aj,v1,h1,rfl,hk,hv1,hr1,hs1⟩;unfold pG at hk;cases hsh:(jd c.out v1&&Nat.ble (gY v1).length 256)with
 |false=>rw[hsh]at hk;obtain⟨_,_,hk⟩:=hk;grind[W7]
 |true=>
 rw[hsh]at hk;obtain⟨hsh,hl256⟩:=W5 hsh;rw[Z5]at hl256;obtain⟨fu,hfu1,hback⟩:=WQ v1 u hv1;obtain⟨xs0,h1,hk,hfu,hr1,hs1⟩:=df5 hk hfu1 hr1 hs1;obtain⟨hdn,pcx,hpcx,hk⟩:=(uX aa (0,Z6 aa c.outs)).need _ _ hk;have hfu2:=Yt (h:=h1) hdn hfu;generalize hxs:(yw h1 xs0).2=xs at hk hfu2;have hxl:xs.length=(gY v1).length:=by rw[<-hfu2.length,hfu1.length]
 unfold e49 at hk;split at hk
 .rename_i p hcv;have hf0:=dB5 (O:=aj) hfu2 (by rw[hxl];exact hl256);obtain⟨an,cv⟩:=QE (a':=p.1) (h':=p.2) hcv hf0 (hr1.upto (n:=Nat.add h1.next (uB c.post c.mt c.blks.length h1.next (gY c.out) 0).length) (B5 _ _));generalize hbase:h1.next=base at*
  have az: ∀x,x<base->an x=aj x:=λx hx=>cv.bij x (by
   rintro⟨o,ho,rfl⟩;have:=Fz ho;omega)
  have hbm:c.blks.length<=base:=by rw[<-hbase,<-hn];exact hs1.le
  have aB: ∀i,i<c.blks.length->aj i=na O I b.src c.blks i:=λi hi=>hs1.ext i (by rw[hn];exact hi)
  have hw: ∀i x,b.src[i]? =some (.whole x)->an i=O x:=by
   intro i x hx;have hi:i<c.blks.length:=by rw[<-bo.slen];exact(A0.1 hx).1
   rw[az i (by omega),aB i hi];unfold na;rw[hx]
  have hwm2:p.2.wm=c.mt:=by rw[cv.wm,Heap.wm_upto,hs1.wm,hwm]
  unfold YN at hk;split at hk
  .rename_i es hes;split at hk
   .rename_i fs hfs;simp[W7,j0,A7,true_and,Vs hpcx]at hk;have hq: ∀(j:Nat) (x:SX),(es++fs)[j]? =some x->bU I (sW b.es c.outs j)=bU aa x:=by
     intro j x hj;have h3:(Z6 aa (es++fs))[j]? =some (bU aa x):=by rw[CP,B9,hj];rfl
     rw[hk,CP,B9]at h3;cases ho:c.outs[j]? with
     |none=>rw[ho]at h3;cases h3
     |some o=>
      rw[ho]at h3;simp at h3;unfold sW;rw[j9,ho,Option.getD_some,<-h3,<-aK];exact Eb o (by
       rw[bo.len];have:=fo.outs;have hmem:=G7 ho;revert this hmem;induction c.outs with
       |nil=>intro _ hh;cases hh
       |cons y ys ih=>
        intro h1 h2;simp[qp,j7]at h1;rcases n5.1 h2 with rfl|h2
        .exact h1.1
        .exact ih h1.2 h2)
    have hslots:=Yh (P:=λj x=>bU I (sW b.es c.outs j)=bU aa x) hes (λj x hj=>hq (0+j) x (by
     have hlt:=(A0.1 hj).1;rw[l9,t8 hlt];exact hj))
    have hblks:=VM (P:=λj x=>bU I (sW b.es c.outs j)=bU aa x) hfs (λj x hj=>hq (es.length+j) x (by
     rw[m9 (B5 _ _),C3];exact hj))
    obtain⟨hpl,hpost⟩:=Re bo.post;rw[bo.slen]at hpl hpost;have hout:=k6.1 bo.out;generalize hQ:sW b.es c.outs=Q at*
    generalize hm0:c.blks.length=m at*
    have hlay:=RR (Q:=Q) (ρ:=ft b.src h.next) (m:=m) c.post c.mt h (λj x hj hmj=>(hpost j x hj).2 hmj) (λj hj hmj=>by
     have: ∃s,b.src[c.mt+j]? =some s:=⟨_,k9 (by rw[bo.slen,hm0];exact hmj)⟩;obtain⟨s,hs⟩:=this;obtain⟨y,rfl,_,hy,_⟩:=Mb r ra bo.mutb _ s hs (by omega);rw[HB hs];exact hy)
    have hmut: ∀i,c.mt<=i->i<m-> ∃y,b.src[i]? =some (.whole y)/\h.wm<=y/\y<h.next/\(O y≠none\/c.post[i-c.mt]? =some none\/RowB (h.get y))/\ft b.src h.next i=y:=by
     intro i h1 h2;have: ∃s,b.src[i]? =some s:=⟨_,k9 (by rw[bo.slen,hm0];exact h2)⟩;obtain⟨s,hs⟩:=this;obtain⟨y,rfl,h3,h4,h5⟩:=Mb r ra bo.mutb i s hs (by omega);rw[l9]at h5;exact⟨y,hs,h3,h4,h5,HB hs⟩
    have hmax:Nat.max c.mt m=m:=S0 (by rw[<-hm0];exact fo.mt);have hnext2:(mQ (ft b.src h.next) Q m c.post c.mt h).next=h.next+(c.mt+c.post.length-m):=by rw[hlay.next,hmax]
    let aq:bY:=λx=>if x<h.next then O x else if x<h.next+(c.mt+c.post.length-m)then an (base+(x-h.next))else none
    have hlow: ∀x,x<h.next->aq x=O x:=λx hx=>e8 hx
    have hhigh: ∀x,h.next<=x->x<h.next+(c.mt+c.post.length-m)->aq x=an (base+(x-h.next)):=λx h1 h2=>by
     show(if x<h.next then O x else _)=_;rw[b9 (by omega),e8 h2]
    have hle:Le O aq:=by
     intro x L hx;rcases k5 x h.next with hh|hh
     .rw[hlow x hh];exact hx
     .rw[r.fresh x hh]at hx;cases hx
    have hFw: ∀i x,b.src[i]? =some (.whole x)->aq x=an i:=by
     intro i x hx;rw[hw i x hx];have hi:i<m:=by rw[<-hm0,<-bo.slen];exact(A0.1 hx).1
     have:x<h.next:=by
      obtain⟨_,hB⟩:=DG bo.blks hnd;have hp: ∃y,c.blks[i]? =some y:=⟨_,k9 (by rw[hm0];exact hi)⟩;obtain⟨y,hy⟩:=hp;obtain⟨nd,g1,_⟩:=hB i y _ hy hx;rcases k5 x h.next with hh|hh
      .exact hh
      .simp[sI]at g1;rw[r.fget x hh]at g1;split at g1
       .rename_i hg;cases hg
       .rename_i hg;cases hg
       .rename_i hg;cases hg
       .rename_i hg;cases hg
       .rename_i hg;cases hg
       .cases g1
     exact hlow x this
    have hFblk: ∀j x y L,c.post[j]? =some x->nT (ft b.src h.next) (nw Q x)=some y->an (bif Nat.blt (c.mt+j) m then c.mt+j else base+(c.mt+j-m))=some L->
     (∃z,p.2.get (bif Nat.blt (c.mt+j) m then c.mt+j else base+(c.mt+j-m))=some z/\z.isArr=y.isArr)/\BR aq I L w'.heap[L.blk]? y:=by
     intro j x y L hj hy hL;obtain⟨n',es',g1,g2⟩:=hblks j x hj;cases x with
     |none=>cases hy
     |some q=>
      simp[sh]at g1;split at g1
      .rename_i z hz;have hkind:q.isArr=z.isArr:=bu7 g1;have hkind2:q.isArr=y.isArr:=by
        cases q<;>simp only[nw,nT,j0,reduceCtorEq]at hy<;>subst hy<;>rfl
       have hz':p.2.get (bif Nat.blt (c.mt+j) m then c.mt+j else base+(c.mt+j-m))=some z:=hz;refine⟨⟨z,hz',hkind.symm.trans hkind2⟩,?_⟩;have hcl:Hk b.src c.mt c.post (some q)=true:=by
        rcases k5 (c.mt+j) m with hh|hh
        .exact(hpost j _ hj).1 hh
        .have:=(hpost j _ hj).2 hh;unfold AX at this;split at this
         .rename_i heq;simp at heq;subst heq;exact this
         .cases this
       exact cs8 (N:=h.next) hag hcl g1 g2 (cv.hr.blk _ z L hz' hL) hFw hy
      .cases g1
    refine⟨u,aq,rfl,?_,?_,?_⟩
    .
     have hF1: ∀l,(λx=>iC (ft b.src h.next) (iL Q x)) (.agg l)= .agg (l.map λx=>iC (ft b.src h.next) (iL Q x)):=λl=>by
      simp only[iL,iC,NH,Ub,o7];rfl
     have hF2: ∀l,(λx=>iC (ft b.src h.next) (iL Q x)) (.tup l)= .tup (l.map λx=>iC (ft b.src h.next) (iL Q x)):=λl=>by
      simp only[iL,iC,NH,Ub,o7];rfl
     have hF3: ∀x,hI x=true->hI ((λx=>iC (ft b.src h.next) (iL Q x)) x)=true:=λx hx=>by
      cases x<;>first|rfl|(simp only[iL,Py];unfold oA;split<;>rfl)|(simp[hI]at hx;done)
     refine hback aq I _ (d06 hF1 hF2 hF3 c.out v1 hsh) ?_;rw[XL hF1 hF2 hF3];have hfl:(gY c.out).length=fu.length:=by rw[Ts hsh,hfu1.length]
     refine ct1 hfl λk q x hq hx=> ?_
     obtain⟨n',es',g1,g2⟩:=hslots k q hq;have hcl:=hout q (G7 hq);have hsv:VR an aa (p.1.slot k) x:=by
      have:=cv.fr.slot k id;have h5:(fu.toArray)[k]? =some x:=by rw[J4];exact hx
      simp[h5,Option.getD_some]at this;exact this
     rw[l9]at g1;unfold On at g1;split at g1
     .rename_i i y s;cases hmi:Nat.ble m i with
      |false=>
       rw[hmi]at g1;refine UC (N:=h.next) hag hcl ?_ g1 g2 hsv hFw;simp[AN,bo.slen,hm0,dQ];cases hh:Nat.blt i m with
       |true=>exact dQ.1 hh
       |false=>
        have: ¬i<m:=λhlt=>by rw[gO hlt]at hh;cases hh
        rw[Z5.2 (by omega)]at hmi;cases hmi
      |true=>
       rw[hmi]at g1;obtain⟨hown,_⟩:=W6 g1;rw[Z5]at hmi;unfold YF at hown;split at hown
       .rename_i c' l s' e' sg' l' hsl hgb;obtain⟨hown,o3⟩:=W5 hown;obtain⟨o1,o2⟩:=W5 hown;obtain rfl:=Z1.1 o1;obtain rfl:=Z1.1 o2;have o3:=SX.beq_eq _ _ o3;subst o3;simp only[qt]at hcl;rw[show Nat.ble b.src.length i=true by rw[Z5,bo.slen,hm0];exact hmi]at hcl;split at hcl
        .rename_i qq ee sig q' hpi;obtain⟨k1,k2⟩:=W5 hcl;have k1:=SX.beq_eq _ _ k1;subst k1;have hmt:c.mt<=i:=n7 (by rw[<-hm0];exact fo.mt) hmi;obtain⟨n2,es2,a1,a2⟩:=hblks (i-c.mt) _ hpi;rw[show c.mt+(i-c.mt)=i by omega,iE (by omega: ¬i<m)]at a1;simp[cond_false,sh,hgb]at a1;obtain⟨a3,a4⟩:=W6 a1;have hrow:=(hpost (i-c.mt) _ hpi).2 (by omega);have hden:=sb hag a4 hrow a2;have hlen:dI I (.op .llen [ed 1000 Q qq])=dI aa (.op .llen [l]):=by
          exact congrArg (λz:Val=>(z.toL.length:Int)) hden
         have hname:ft b.src h.next i=h.next+(i-m):=by
          unfold ft;rw[t7 (by rw[bo.slen,hm0];exact hmi),bo.slen,hm0]
         have hpl2:i-c.mt<c.post.length:=(A0.1 hpi).1;have hFi:aq (h.next+(i-m))=an (base+(i-m)):=by
          rw[hhigh _ (B5 _ _) (by omega),show h.next+(i-m)-h.next=i-m by omega]
         show VR aq I (.ous (ft b.src h.next i) (Ma Q (.op .llen [qq])) _) x;rw[hname];rw[hsl]at hsv;simp[Ma,VR]at hsv⊢;rw[hlen,hFi];exact hsv
        .cases hcl
       .cases hown
     .refine UC (N:=h.next) hag hcl ?_ g1 g2 hsv hFw;rename_i hne;cases q<;>first|rfl|exact absurd rfl (hne _ _ _)
    .
     have kind: ∀x y L,(mQ (ft b.src h.next) Q m c.post c.mt h).get x=some y->aq x=some L->
      (∃i z,c.mt<=i/\an i=some L/\p.2.get i=some z/\z.isArr=y.isArr/\BR aq I L w'.heap[L.blk]? y/\(i<m/\ft b.src h.next i=x/\x<h.next\/m<=i/\h.next<=x/\i=base+(x-h.next)/\base<=i))\/
      (x<h.next/\h.get x=some y/\O x=some L/\ ∀i,c.mt<=i->i<m->ft b.src h.next i≠x):=by
      intro x y L hy hL;rcases hlay.get x y hy with⟨j,q,g1,g2,g3,g4⟩|⟨j,q,g1,g2,g3,g4⟩|⟨g1,g2⟩
      .obtain⟨y0,s1,s2,s3,s4,s5⟩:=hmut (c.mt+j) (by omega) g2;have hxlt:x<h.next:=by rw[<-g3,s5];exact s3
       have hL2:an (c.mt+j)=some L:=by
        rw[<-hFw _ _ s1,<-s5,g3];exact hL
       obtain⟨⟨z,z1,z2⟩,z3⟩:=hFblk j q y L g1 g4 (by rw[gO g2];exact hL2);rw[gO g2]at z1;exact .inl ⟨c.mt+j,z,by omega,hL2,z1,z2,z3,.inl ⟨g2,g3,hxlt⟩⟩
      .have hjl:j<c.post.length:=(A0.1 g1).1;have hL2:an (base+(c.mt+j-m))=some L:=by
        rw[hhigh x (by omega) (by omega),show x-h.next=c.mt+j-m by omega]at hL;exact hL
       obtain⟨⟨z,z1,z2⟩,z3⟩:=hFblk j q y L g1 g4 (by rw[iE (by omega)];exact hL2);rw[iE (by omega)]at z1;exact .inl ⟨base+(c.mt+j-m),z,by omega,hL2,z1,z2,z3,.inr ⟨by omega,by omega,by omega,by omega⟩⟩
      .have hxlt:x<h.next:=by
        rcases k5 x h.next with hh|hh
        .exact hh
        .rw[r.fget x hh]at g1;cases g1
       refine .inr ⟨hxlt,g1,by rw[<-hlow x hxlt];exact hL,λi h1 h2=> ?_⟩;have:=g2 (i-c.mt) (by omega) (by omega);rw[show c.mt+(i-c.mt)=i by omega]at this;exact this
     have hr2:=cv.hr;have hKc: ∀k,K k->Qi O b.src c.mt w k:=λk hk=>⟨x6 (r.kin k hk) r.size,λi y L h1 h2 h3 hh=>by
      have hi:i<m:=by rw[<-hm0,<-bo.slen];exact(A0.1 h2).1
      obtain⟨y0,s1,s2,s3,s4,s5⟩:=hmut i h1 hi;rw[h2]at s1;simp at s1;subst s1;obtain⟨_,hB⟩:=DG bo.blks hnd;obtain⟨q,hq⟩: ∃q,c.blks[i]? =some q:=⟨_,k9 (by rw[hm0];exact hi)⟩;obtain⟨nd,g1,_⟩:=hB i q _ hq h2;simp[sI]at g1;split at g1
      .rename_i hg;exact r.free y _ L hg s2 h3 (hh▸hk)
      .rename_i hg;exact r.free y _ L hg s2 h3 (hh▸hk)
      .rename_i hg;exact r.free y _ L hg s2 h3 (hh▸hk)
      .rename_i hg;exact r.free y _ L hg s2 h3 (hh▸hk)
      .rename_i hg;exact r.free y _ L hg s2 h3 (hh▸hk)
      .cases g1⟩
     have hold: ∀x y L,x<h.next->h.get x=some y->O x=some L->(∀i,c.mt<=i->i<m->ft b.src h.next i≠x)->Qi O b.src c.mt w L.blk:=by
      intro x y L h1 h2 h3 h4;refine⟨r.lt x L h3,λi y0 M g1 g2 g3=> ?_⟩;have hi:i<m:=by rw[<-hm0,<-bo.slen];exact(A0.1 g2).1
      obtain⟨y1,s1,s2,s3,s4,s5⟩:=hmut i g1 hi;rw[g2]at s1;simp at s1;subst s1;obtain⟨_,hB⟩:=DG bo.blks hnd;obtain⟨q,hq⟩: ∃q,c.blks[i]? =some q:=⟨_,k9 (by rw[hm0];exact hi)⟩;obtain⟨nd,k1,_⟩:=hB i q _ hq g2;have hz: ∃z,h.get y0=some z:=by
       simp[sI]at k1;split at k1
       .rename_i hg;exact⟨_,hg⟩
       .rename_i hg;exact⟨_,hg⟩
       .rename_i hg;exact⟨_,hg⟩
       .rename_i hg;exact⟨_,hg⟩
       .rename_i hg;exact⟨_,hg⟩
       .cases k1
      obtain⟨z,hz⟩:=hz;exact r.sep x y0 y z L M h2 hz h3 g3 (λhh=>h4 i g1 hi (by rw[s5,hh])) (.inr (.inl s2))
     refine⟨λx y L hy hL=> ?_,λx x' y y' L L' hy hy' hL hL' hne hwk=> ?_,λx hx=> ?_,λx hx=> ?_,λx L hL=> ?_,r.kin,λk hk=>(hr2.keep k (hKc k hk)).trans (r.keep k hk),λx y L hy hwx hL hk=> ?_,
      n7 r.size hr2.size,hr2.os.trans r.os,hr2.tape.trans r.tape,hr2.out.trans r.out,n7 r.dr hr2.dr⟩
     .rcases kind x y L hy hL with⟨i,z,_,_,_,_,hbr,_⟩|⟨h1,h2,h3,h4⟩
      .exact hbr
      .rw[hr2.keep _ (hold x y L h1 h2 h3 h4)];exact(r.blk x y L h2 h3).mono hle
     .rcases kind x y L hy hL with⟨i,z,a1,a2,a3,a4,a5,a6⟩|⟨a1,a2,a3,a4⟩
      .rcases kind x' y' L' hy' hL' with⟨j,z',b1,b2,b3,b4,b5,b6⟩|⟨b1,b2,b3,b4⟩
       .refine hr2.sep i j z z' L L' a3 b3 a2 b2 (λhh=>hne ?_) (.inl (by rw[hwm2];exact a1));subst hh;rcases a6 with⟨c1,c2,c3⟩|⟨c1,c2,c3,c4⟩
        .rcases b6 with⟨d1,d2,d3⟩|⟨d1,d2,d3,d4⟩
         .rw[<-c2,<-d2]
         .omega
        .rcases b6 with⟨d1,d2,d3⟩|⟨d1,d2,d3,d4⟩
         .omega
         .omega
       .exactλhh=>hr2.free i z L a3 (by rw[hwm2];exact a1) a2 (hh▸hold x' y' L' b1 b2 b3 b4)
      .rcases kind x' y' L' hy' hL' with⟨j,z',b1,b2,b3,b4,b5,b6⟩|⟨b1,b2,b3,b4⟩
       .exactλhh=>hr2.free j z' L' b3 (by rw[hwm2];exact b1) b2 (hh▸hold x y L a1 a2 a3 a4)
       .exact r.sep x x' y y' L L' a2 b2 a3 b3 hne (by rw[hlay.wm]at hwk;exact hwk)
     .show(if x<h.next then O x else if x<h.next+(c.mt+c.post.length-m)then an (base+(x-h.next))else none)=none;rw[b9 (by omega),b9 (by omega)]
     .cases hy:(mQ (ft b.src h.next) Q m c.post c.mt h).get x with
      |none=>rfl
      |some y=>
       rcases hlay.get x y hy with⟨j,q,g1,g2,g3,g4⟩|⟨j,q,g1,g2,g3,g4⟩|⟨g1,g2⟩
       .obtain⟨y0,s1,s2,s3,s4,s5⟩:=hmut (c.mt+j) (by omega) g2;omega
       .have hjl:j<c.post.length:=(A0.1 g1).1;omega
       .rw[r.fget x (by omega)]at g1;cases g1
     .rcases k5 x h.next with hh|hh
      .rw[hlow x hh]at hL;exact x6 (r.lt x L hL) hr2.size
      .have hlt:x<h.next+(c.mt+c.post.length-m):=by
        rcases k5 x (h.next+(c.mt+c.post.length-m))with q|q
        .exact q
        .have:aq x=none:=by
          show(if x<h.next then O x else if x<h.next+(c.mt+c.post.length-m)then an (base+(x-h.next))else none)=none;rw[b9 (by omega),b9 (by omega)]
         rw[this]at hL;cases hL
       rw[hhigh x hh hlt]at hL;exact hr2.lt _ L hL
     .rcases kind x y L hy hL with⟨i,z,a1,a2,a3,a4,a5,a6⟩|⟨a1,a2,a3,a4⟩
      .exact hr2.free i z L a3 (by rw[hwm2];exact a1) a2 (hKc _ hk)
      .exact r.free x y L a2 (by rw[hlay.wm]at hwx;exact hwx) a3 hk
    .
     refine⟨by rw[hnext2];exact B5 _ _,hlow,λx hx hno=> ?_,hlay.wm⟩;by_cases hex: ∃j,j<c.post.length/\c.mt+j<m/\ft b.src h.next (c.mt+j)=x
     .obtain⟨j,hj,hmj,hh⟩:=hex;obtain⟨y0,s1,s2,s3,s4,s5⟩:=hmut (c.mt+j) (by omega) hmj;right;rw[s5]at hh;subst hh;rcases s4 with s4|s4|s4
      .exact absurd hno s4
      .by_cases har:RowB (h.get y0)
       .exact .inr har
       left;cases hy:(mQ (ft b.src h.next) Q m c.post c.mt h).get y0 with
       |none=>rfl
       |some y=>
        exfalso;rcases hlay.get y0 y hy with⟨j',q,g1,g2,g3,g4⟩|⟨j',q,g1,g2,g3,g4⟩|⟨g1,g2⟩
        .obtain⟨y1,t1,t2,t3,t4,t5⟩:=hmut (c.mt+j') (by omega) g2;rw[t5]at g3;subst g3;rcases t4 with t4|t4|t4
         .exact t4 hno
         .rw[show c.mt+j'-c.mt=j' by omega,g1,j0]at t4;subst t4;cases g4
         .exact har t4
        .omega
        .exact g2 j hj hmj s5
      .exact .inr s4
     .left;exact hlay.keep x hx λj hj hmj hh=>hex ⟨j,hj,hmj,hh⟩
   .simp[W7]at hk
  .simp[W7]at hk
 grind[W7]
theorem ct7{nd:SX}{r:Res}(e:Cp nd r= .val v h'\/ ∃x,Cp nd r= .need x v h'/\dB I x=true):dB I nd=true/\(r= .val v h'\/ ∃x,r= .need x v h'/\dB I x=true):=by
 cases r with
 |val v1 h1=>
  simp[Cp,Ic]at e;split at e
  .rcases e with e|⟨x,e,_⟩
   .exact⟨rfl,.inl e⟩
   .cases e
  grind
 |need e1 v1 h1=>
  simp only[Cp]at e;rcases e with e|⟨x,e,hd⟩
  .cases e
  .obtain⟨rfl,rfl,rfl⟩:=e;obtain⟨d1,d2⟩:=AD hd;grind
 |_=>
  grind[Cp]
theorem YU(ao: ∀I v0 l,Ω I->Ω (I.upd v0 l))(hc:rM c nv=true)(hm:uq E Ω f c)(ae:Ω I)
 (e:jQ c nv args h= .val v h'\/ ∃x,jQ c nv args h= .need x v h'/\dB I x=true):vC E I f args h v h':=by
 unfold jQ at e;cases hbd:AL c nv args h with
 |some b=>
  grind[WI,FG]
 |none=>
  rw[hbd]at e;generalize hq:rL args h=q at e;obtain⟨hd,e⟩:=ct7 (I:=I) e;intro K w0 O w us r ra;obtain⟨a1,a2,a3⟩:=Jj hq hd r ra;refine Calls.mono (WI ao hc hm ae e K w0 O w us a2 a1) ?_;rintro e' w' ⟨u,ac,rfl,h1,h2,h3⟩;exact⟨u,ac,rfl,h1,h2,a3.trans h3⟩
theorem df6(ao: ∀I v0 l,Ω I->Ω (I.upd v0 l)){n:Nat}(hc:rM c nv=true)(hm:ct3 E Ω n f c)(ae:Ω I)
 (e:jQ c nv args h= .val v h'\/ ∃x,jQ c nv args h= .need x v h'/\dB I x=true):vC E I f args h v h':=
 YU ao hc (ct5 hc hm) ae e
theorem dB6(ao: ∀I v0 l,Ω I->Ω (I.upd v0 l))(hP:E0.P=E.P){n:Nat}(hc:rM c nv=true)(hb: ∀I,Ω I->DZ E0 I n)(hm:SF E0 Ω n f c)(ae:Ω I)
 (e:jQ c nv args h= .val v h'\/ ∃x,jQ c nv args h= .need x v h'/\dB I x=true):vC E I f args h v h':=
 df6 ao hc (λI ae hn=>⟨E0,hP,hb I ae,hm I ae hn⟩) ae e
end Go.Ev
namespace Go.Ev
open Go
structure HC where
 f:FuncId
 nv:Nat
 c:FC
def dB7(a b:Res):Res:=match a with
 | .bad=>b
 |r=>r
noncomputable def ww:List HC->FuncId->List AV->Heap->Res
 | [],_,_,_=> .bad
 |x::r,f,args,h=>bif Nat.beq x.f f then dB7 (jQ x.c x.nv args h) (ww r f args h)else ww r f args h
noncomputable def Env.hooks(E:Env)(cs:List HC):Env:={E with hook:=ww cs}
def ct(E:Env)(Ω:Opq->Prop)(x:HC):Prop:= ∀I,Ω I-> ∀(args:List AV) (h:Heap) (v:AV) (h':Heap),(jQ x.c x.nv args h= .val v h'\/ ∃e,jQ x.c x.nv args h= .need e v h'/\dB I e=true)->vC E I x.f args h v h'
theorem HP{f:FuncId}{args:List AV}{h:Heap}{y:Res}: ∀{cs:List HC},ww cs f args h=y->y≠ .bad-> ∃x∈cs,x.f=f/\jQ x.c x.nv args h=y
 | [],e,hy=>absurd e.symm hy
 |x::r,e,hy=>by
  unfold ww at e;cases hc:Nat.beq x.f f with
  |false=>
   rw[hc]at e;obtain⟨z,hz,h1,h2⟩:=HP e hy;grind
  |true=>
   rw[hc]at e;cases hr:jQ x.c x.nv args h with
   |bad=>
    rw[hr]at e;obtain⟨z,hz,h1,h2⟩:=HP (cs:=r) e hy;grind
   |_=>
    rw[hr]at e;exact⟨x,B6 ..,Z1.1 hc,hr.trans e⟩
theorem cQ3{E:Env}{Ω:Opq->Prop}{cs:List HC}(hc: ∀x∈cs,ct E Ω x){I:Opq}(ae:Ω I):HookOk (E.hooks cs) I:=by
 refine⟨λf args h v h' e=> ?_,λf args h e v h' hh hd=> ?_⟩
 .obtain⟨x,hx,rfl,h2⟩:=HP (show ww cs f args h=_ from e) (by simp);exact hc x hx I ae args h v h' (.inl h2)
 .obtain⟨x,hx,rfl,h2⟩:=HP (show ww cs f args h=_ from hh) (by simp);exact hc x hx I ae args h v h' (.inr ⟨e,h2,hd⟩)
theorem Env.Ok.hooks{E:Env}{I:Opq}(h:E.Ok I)(cs:List HC):(E.hooks cs).Ok I:=⟨h.fix,h.name,h.ext,h.bin,h.un,h.conv,h.blt⟩
theorem Dz{E:Env}{Ω:Opq->Prop}(ao: ∀I v0 l,Ω I->Ω (I.upd v0 l))(hE: ∀I,Ω I->E.Ok I)(hm:E.P.follows .mixedOrders=true){cs:List HC}(hc: ∀x∈cs,ct E Ω x){x:HC}{n:Nat}(ho:rM x.c x.nv=true)(hx:SF (E.hooks cs) Ω n x.f x.c):ct E Ω x:=
 λI ae args h v h' e=>dB6 (E:=E) (E0:=E.hooks cs) ao rfl ho (λI ae=>(NB (E:=E.hooks cs) ao (λI h=>(hE I h).hooks cs) (λI h=>cQ3 hc h) hm n I ae).2.1) hx ae e
theorem cV{E:Env}{Ω:Opq->Prop}{cs:List HC}{x:HC}(h: ∀x∈cs,ct E Ω x)(hx:ct E Ω x): ∀y∈x::cs,ct E Ω y:=λy hy=>by
 grind
theorem eN{E:Env}{Ω:Opq->Prop}{as cs:List HC}(h: ∀x∈cs,ct E Ω x)(hx: ∀x∈as,ct E Ω x): ∀y∈as++cs,ct E Ω y:=λy hy=>by
 grind
def Qd(F:Nat->List Val->Val)(P:Program)(I:Opq):Prop:=I.f=F/\ ∀t,I.fix t=fC P t
theorem VE{E:Env}{Ω:Opq->Prop}{n:Nat}{f:FuncId}{c:FC}{T:VT}(ht:FC.run E n f c c.args=T)(h: ∀I,Ω I->dB I c.need=true->W7 T I=some (0,Z6 I c.outs)):SF E Ω n f c:=
 λI ae hn=>⟨c.args,λ_ _ h=>h,by grind⟩
end Go.Ev
namespace Go.Ev
open Go Go.RowKit Go.WideShapes Go.ChangeShapes
def Bg{α:Type}(P:Program)(g:TypeId->Option (List α)):List Field->Nat->Option (List α)
 | [],_=>some []
 |f::r,o=>match g f.type with
  |some l=>bif Nat.beq f.offset o&&Nat.beq (P.cellsOf f.type) l.length then(match Bg P g r (o+l.length)with
   |some l2=>some (l++l2)
   |none=>none)else none
  |none=>none
def Kf(P:Program):Nat->TypeId->Option (List CT)
 |0,_=>none
 |n+1,t=>match P.underlying t with
  |some .bool=>some [.bool]
  |some (.int k)=>some [.int k]
  |some .string=>some [.str]
  |some (.struct fs)=>match Bg P (Kf P n) fs.toList 0 with
   |some l=>bif Nat.beq (P.cellsOf t) l.length then some l else none
   |none=>none
  |_=>none
def vJ:CT->Value->Prop
 | .int k,v=> ∃n,v= .int k n/\k.min<=n/\n<=k.max
 | .str,v=> ∃s,v= .string s
 | .bool,v=> ∃b,v= .bool b
def fF{α:Type}(fit:α->Value->Prop):List α->List Value->Prop
 | [],vs=>vs=[]
 |c::s,vs=> ∃v r,vs=v::r/\fit c v/\fF fit s r
def kM:List CT->List Value->Prop:=fF vJ
theorem Nr{α:Type}{fit:α->Value->Prop}: ∀{s:List α} {vs:List Value},fF fit s vs->vs.length=s.length
 | [],_,h=>by rw[h];rfl
 |_::s,_,⟨v,r,e,_,h⟩=>by rw[e];simp[Nr h]
theorem DD{α:Type}{fit:α->Value->Prop}: ∀{s t:List α} {vs us:List Value},fF fit s vs->fF fit t us->fF fit (s++t) (vs++us)
 | [],_,_,_,h,k=>by rw[h];exact k
 |_::s,_,_,_,⟨v,r,e,h1,h⟩,k=>⟨v,_,by grind,h1,DD h k⟩
section
variable{H:Type}{enc:TypeId×Value->H}{P:Program}{w:World}{base:Nat}{sp:Nat->Bool}{hd:Bool}
theorem RI{α O:Type}{g:α->Option O}: ∀{l:List α} {r:List O},l.mapM g=some r-> ∀a∈l,∃b∈r,g a=some b
 | [],_,_,_,h=>by cases h
 |x::l,r,h,a,ha=>by
  simp[Option.bind_eq_bind,m7,Option.pure_def,j0]at h;obtain⟨y,hy,ys,hys,rfl⟩:=h;rcases n5.1 ha with rfl|ha
  .grind
  .obtain⟨b,hb,e⟩:=RI hys a ha;grind
theorem RZ{α:Type}{fit:α->Value->Prop}{g:TypeId->Option (List α)}{cs:List Value}{Q:TypeId->List Value->Prop}(hg: ∀t l vs,g t=some l->Q t vs->fF fit l vs): ∀{fs:List Field} {o:Nat} {l:List α},Bg P g fs o=some l->(∀f∈fs,Q f.type ((cs.drop f.offset).take (P.cellsOf f.type)))->
 fF fit l ((cs.drop o).take l.length)
 | [],o,l,h,_=>by
   simp[Bg,j0]at h;subst h;simp[fF]
 |f::r,o,l,h,hq=>by
  simp[Bg]at h;split at h
  .rename_i l1 h1;cases hc:(Nat.beq f.offset o&&Nat.beq (P.cellsOf f.type) l1.length)with
   |false=>rw[hc]at h;cases h
   |true=>
    rw[hc]at h;simp at h;obtain⟨c1,c2⟩:=W5 hc;have c1:=Z1.1 c1;have c2:=Z1.1 c2;split at h
    .rename_i l2 h2;simp at h;subst h;have a:=hg _ _ _ h1 (hq f (B6 ..));rw[c1,c2]at a;have b:=RZ hg h2 (λf hf=>hq f (x9 _ hf));have:=DD a b;rw[k7,List.take_add,N3];exact this
    .cases h
  .cases h
theorem WU: ∀{m:Nat} {n:Nat} {t:TypeId} {cs:List Value} {x:DataW H×List MemPlace} {l:List CT},Kf P m t=some l->DataW.trod enc P w base sp hd n t cs=some x->kM l cs
 |0,_,_,_,_,_,h,_=>by cases h
 |m+1,0,_,_,_,_,_,h=>by simp[DataW.trod]at h
 |m+1,n+1,t,cs,x,l,hc,ht=>by
  unfold DataW.trod at ht;simp[Kf]at hc;cases hu:P.underlying t with
  |none=>grind
  |some d=>
   rw[hu]at hc ht;cases d with
   |bool=>
    simp at hc;subst hc;split at ht<;>simp_all [kM,fF,vJ]
   |int k=>
    simp at hc;subst hc;split at ht<;>simp_all [kM,fF,vJ,Lit.wf]
   |string=>
    simp at hc;subst hc;split at ht<;>simp_all [kM,fF,vJ]
   |struct fs=>
    simp only at hc;split at hc
    .rename_i l1 h1;cases hb:Nat.beq (P.cellsOf t) l1.length with
     |false=>rw[hb]at hc;cases hc
     |true=>
      rw[hb]at hc;simp at hc;subst hc;split at ht<;>simp_all;rename_i heq;subst heq;obtain⟨hlen,ys,hys,_⟩:=ht;have key: ∀cs:List Value,cs.length=l1.length->(fs.toList.mapM λf=>DataW.trod enc P w base sp hd n f.type ((cs.drop f.offset).take (P.cellsOf f.type)))=some ys->kM l1 cs:=λcs hl hy=>by
       have:=RZ (cs:=cs) (Q:=λt vs=> ∃x,DataW.trod enc P w base sp hd n t vs=some x) (λt l vs hl ⟨x,hx⟩=>WU hl hx) h1 (λf hf=>by
        obtain⟨b,_,e⟩:=RI hy f hf;exact⟨b,e⟩)
       rw[G9,<-hl,A1]at this;exact this
      exact key _ hlen (by simpa using hys)
    grind
   |_=>cases hc
inductive Sh where
 |col (c:CT)
 |sl (sig:List CT)
def Qz(P:Program):Nat->TypeId->Option (List Sh)
 |0,_=>none
 |n+1,t=>match P.underlying t with
  |some .bool=>some [.col .bool]
  |some (.int k)=>some [.col (.int k)]
  |some .string=>some [.col .str]
  |some (.slice e)=>match Kf P n e with
   |some l=>bif Nat.beq (P.cellsOf e) l.length&&Nat.blt 0 l.length then some [.sl l]else none
   |none=>none
  |some (.struct fs)=>match Bg P (Qz P n) fs.toList 0 with
   |some l=>bif Nat.beq (P.cellsOf t) l.length then some l else none
   |none=>none
  |_=>none
def kd(w:World):Sh->Value->Prop
 | .col c,v=>vJ c v
 | .sl sig,v=>v= .slice none 0 0\/ ∃a len cap,v= .slice (some a) len cap/\0<sig.length/\(len<=cap/\cap<=maxLen)/\(∀i,i<len-> ∃vs,w.cells? 0 (a.add (i*sig.length)) sig.length=some vs/\kM sig vs)/\ ∀j,j<len*sig.length->w.frozen? ⟨a.block,a.off+j,none⟩=false
def Dw(w:World)(ps:List MemPlace):Prop:= ∀b off,MemPlace.cell b off∈ps->w.frozen? ⟨b,off,none⟩=false
theorem GL: ∀{m:Nat} {n:Nat} {t:TypeId} {cs:List Value} {x:DataW H×List MemPlace} {l:List Sh},Qz P m t=some l->DataW.trod enc P w 0 sp hd n t cs=some x->Dw w x.2->fF (kd w) l cs
 |0,_,_,_,_,_,h,_,_=>by cases h
 |m+1,0,_,_,_,_,_,h,_=>by simp[DataW.trod]at h
 |m+1,n+1,t,cs,x,l,hc,ht,hw=>by
  simp[Qz]at hc;cases hu:P.underlying t with
  |none=>grind
  |some d=>
   have ht0:=ht;unfold DataW.trod at ht;rw[hu]at hc ht;cases d with
   |bool=>
    grind[Option.some.injEq,fF,kd,vJ]
   |int k=>
    grind[Option.some.injEq,fF,kd,vJ,Lit.wf]
   |string=>
    grind[Option.some.injEq,fF,kd,vJ]
   |slice e=>
    simp_all;split at hc
    .rename_i l1 h1;cases hb:(Nat.beq (P.cellsOf e) l1.length&&Nat.blt 0 l1.length)with
     |false=>rw[hb]at hc;cases hc
     |true=>
      rw[hb]at hc;simp at hc;subst hc;obtain⟨hb,hb0⟩:=W5 hb;rw[dQ]at hb0;have hb:=Z1.1 hb;rcases DataW.trod_slice hu ht0 with⟨rfl,_⟩|⟨a,len,cap,elems,rest,n',hn,rfl,rfl,_,hlc,hcm,hel,hi,_⟩
      .exact⟨_,_,rfl,.inl rfl,rfl⟩
      .refine⟨_,_,rfl,.inr ⟨a,len,cap,rfl,hb0,⟨hlc,hcm⟩,λi hlt=> ?_,λj hj=> ?_⟩,rfl⟩
       .have:=hi i hlt;rw[k9 (by omega),m7]at this;obtain⟨vs,h2,h3⟩:=this;rw[hb]at h2;exact⟨vs,h2,WU h1 h3⟩
       .apply hw;simp only[x8,MemPlace.row,j8,o8];refine .inl ⟨j,?_,rfl⟩;rw[hb,hel,s8];omega
    grind
   |struct fs=>
    simp only at hc;split at hc
    .rename_i l1 h1;cases hb:Nat.beq (P.cellsOf t) l1.length with
     |false=>rw[hb]at hc;cases hc
     |true=>
      rw[hb]at hc;simp at hc;subst hc;split at ht<;>simp_all;rename_i heq;subst heq;obtain⟨hlen,ys,hys,hx⟩:=ht;have hw2: ∀y∈ys,Dw w y.2:=λy hy b off hm=>hw b off (by
       rw[<-hx];exact C1.2 ⟨y,hy,hm⟩)
      have key: ∀cs:List Value,cs.length=l1.length->(fs.toList.mapM λf=>DataW.trod enc P w 0 sp hd n f.type ((cs.drop f.offset).take (P.cellsOf f.type)))=some ys->fF (kd w) l1 cs:=λcs hl hy=>by
       have:=RZ (cs:=cs) (fit:=kd w) (Q:=λt vs=> ∃x,DataW.trod enc P w 0 sp hd n t vs=some x/\Dw w x.2) (λt l vs hl ⟨x,hx,hz⟩=>GL hl hx hz) h1 (λf hf=>by
        obtain⟨b,hb,e⟩:=RI hy f hf;exact⟨b,e,hw2 b hb⟩)
       rw[G9,<-hl,A1]at this;exact this
      exact key _ hlen (by simpa using hys)
    grind
   |_=>cases hc
def rK(w:World)(sz:Nat)(a:Addr)(len:Nat):List Val:=(List.range len).map λi=> .vl (((w.cells? 0 (a.add (i*sz)) sz).getD []).map Gr)
def pQ(w:World)(s:Sh)(v:Value):Val:=match s,v with
 | .col _,v=>Gr v
 | .sl sig,.slice (some a) len _=> .vl (rK w sig.length a len)
 |_,_=> .vl []
def Dd(sig:List CT)(v:Value):Option Loc:=match v with
 | .slice (some a) len _=>if 0<len then some ⟨a.block,a.off,len*sig.length⟩else none
 |_=>none
def Qx:Sh->Nat
 | .sl _=>1
 | .col _=>0
def dS5(n b:Nat):Sh->AV
 | .col (.int k)=> .oint k (.va n)
 | .col .str=> .ostr (.va n)
 | .col .bool=> .obool (.va n)
 | .sl sig=> .osl b (.ci 0) (.op .llen [.va n]) sig.length
def JY:List Sh->Nat->Nat->List AV
 | [],_,_=>[]
 |s::r,n,b=>dS5 n b s::JY r (n+1) (b+Qx s)
def lh:List Sh->Nat->List Blk
 | [],_=>[]
 | .sl sig::r,n=> .arr iD sig (.va n)::lh r (n+1)
 | .col _::r,n=>lh r (n+1)
def nY:List Sh->List Value->List (Option Loc)
 | .sl sig::r,v::vs=>Dd sig v::nY r vs
 | .col _::r,_::vs=>nY r vs
 |_,_=>[]
theorem bW2{a:Addr}{n:Nat}{vs:List Value}(h:w.cells? 0 a n=some vs):vs.length=n/\ ∀j,j<n->w.cell? (a.add j)=vs[j]? :=by
 unfold World.cells? at h;have: ∀(l:List Nat) (vs:List Value),(l.mapM λi=>w.cell? (a.add i))=some vs->vs.length=l.length/\ ∀j (hj:j<l.length),w.cell? (a.add l[j])=vs[j]? :=by
  intro l;induction l with
  |nil=>intro vs h;simp at h;subst h;exact⟨rfl,λj hj=>by simp at hj⟩
  |cons x l ih=>
   intro vs h;simp[Option.bind_eq_bind,m7,Option.pure_def,j0]at h;obtain⟨y,hy,ys,hys,rfl⟩:=h;obtain⟨h1,h2⟩:=ih ys hys;refine⟨by simp[h1],λj hj=> ?_⟩;cases j with
   |zero=>simpa using hy
   |succ j=>simpa using h2 j (by simpa using hj)
 grind
theorem bv9{a:Addr}{k:Nat}{v:Value}(h:w.cell? (a.add k)=some v): ∃C e lo hi,w.heap[a.block]? =some (.cells C e (lo,hi))/\C[a.off+k]? =some v/\(k=0->a.spot=none):=by
 have hb:(a.add k).block=a.block:=by grind[Addr.add]
 have ho:(a.add k).off=a.off+k:=by grind[Addr.add]
 unfold World.cell? at h;rw[hb,ho]at h;split at h
 .rename_i C e fr hh;split at h
  .cases h
  .refine⟨C,e,fr.1,fr.2,hh,h,λhk=> ?_⟩;simp_all[Addr.add]
 .cases h
theorem Yn: ∀{sig:List CT} {vs:List Value} {j:Nat},kM sig vs->j<sig.length-> ∃u,vs[j]? =some u/\gr (sig.getD j .bool) (Gr u)=u
 |c::s,vs,0,⟨v,r,e,h,_⟩,_=>by
  refine⟨v,by grind,?_⟩;cases c with
  |int k=>obtain⟨n,rfl,_⟩:=h;rfl
  |str=>obtain⟨n,rfl⟩:=h;rfl
  |bool=>obtain⟨n,rfl⟩:=h;rfl
 |c::s,vs,j+1,⟨v,r,e,_,h⟩,hj=>by
  obtain⟨u,h1,h2⟩:=Yn (sig:=s) (vs:=r) (j:=j) h (by simpa using hj);grind
 | [],_,_,_,hj=>by simp at hj
theorem dC0{O:bY}{I:Opq}{sig:List CT}{a:Addr}{len n:Nat}(h0:0<len)(hs:0<sig.length)(hc: ∀i,i<len-> ∃vs,w.cells? 0 (a.add (i*sig.length)) sig.length=some vs/\kM sig vs)
 (hf: ∀j,j<len*sig.length->w.frozen? ⟨a.block,a.off+j,none⟩=false) (hw:I.w n= .vl (rK w sig.length a len)):BR O I ⟨a.block,a.off,len*sig.length⟩ w.heap[a.block]? (.arr iD sig (.va n)):=by
 have hcell: ∀i j,i<len->j<sig.length-> ∃u C e lo hi,w.heap[a.block]? =some (.cells C e (lo,hi))/\C[a.off+(i*sig.length+j)]? =some u/\gr (sig.getD j .bool) ((((rK w sig.length a len).getD i (.vl [])).toL).getD j default)=u:=by
  intro i j hi hj;obtain⟨vs,h1,h2⟩:=hc i hi;obtain⟨h3,h4⟩:=bW2 h1;obtain⟨u,h5,h6⟩:=Yn h2 hj;have h7:=h4 j hj;rw[h5]at h7;obtain⟨C,e,lo,hi',h8,h9,_⟩:=bv9 h7;have hb:(a.add (i*sig.length)).block=a.block:=by unfold Addr.add;split<;>rfl
  have ho:(a.add (i*sig.length)).off=a.off+i*sig.length:=by unfold Addr.add;split<;>simp_all
  rw[hb]at h8;rw[ho,y5]at h9;refine⟨u,C,e,lo,hi',h8,h9,?_⟩;rw[<-h6];simp[rK,j9,B9,List.getElem?_range hi,Option.map_some,Option.getD_some,Val.toL,h1,h5]
 obtain⟨_,C,e,lo,hi,hh,_,_⟩:=hcell 0 0 h0 hs;have hC: ∀i j,i<len->j<sig.length-> ∃u,C[a.off+(i*sig.length+j)]? =some u/\gr (sig.getD j .bool) ((((rK w sig.length a len).getD i (.vl [])).toL).getD j default)=u:=by
  intro i j h1 h2;obtain⟨u,C',e',lo',hi',g1,g2,g3⟩:=hcell i j h1 h2;rw[hh]at g1;obtain⟨rfl,rfl,rfl,rfl⟩:=g1;exact⟨u,g2,g3⟩
 have hl:(dL I (.va n))=rK w sig.length a len:=by show(I.w n).toL=_;rw[hw];rfl
 have hlen:(rK w sig.length a len).length=len:=by simp[rK]
 refine⟨C,e,lo,hi,hh,.inr rfl,?_,by rw[hl,hlen];exact i6 _,λi v hi'=> ?_,λi hi'=> ?_⟩
 .obtain⟨u,h1,_⟩:=hC (len-1) (sig.length-1) (by omega) (by omega);have:=(S2.1 h1).1;have e1:(len-1)*sig.length+sig.length=len*sig.length:=by rw[<-Nat.succ_mul];congr 1;omega
  show a.off+len*sig.length<=C.size;omega
 .rw[hl]at hi';have hlt:i<len*sig.length:=by
   have:=(A0.1 hi').1;rw[iJ,hlen]at this;exact this
  have hq:i/sig.length<len:=Nat.div_lt_of_lt_mul (by rw[K7];exact hlt);have hr:i % sig.length<sig.length:=N6 _ hs;have hi2:i=i/sig.length*sig.length+i % sig.length:=by rw[K7];exact(Nat.div_add_mod i sig.length).symm
  obtain⟨u,h1,h2⟩:=hC _ _ hq hr;rw[hi2,CU hr (by rw[hlen];exact hq),h2,j0]at hi';rw[hi2,h1,hi']
 grind[World.frozen?,Bool.and_eq_false_iff,decide_eq_false_iff_not]
theorem NZ{α:Type}{fit:α->Value->Prop}: ∀{s:List α} {vs:List Value} {i:Nat} {a:α} {v:Value},fF fit s vs->s[i]? =some a->vs[i]? =some v->fit a v
 |_::_,_,0,_,_,⟨v,r,rfl,h,_⟩,h1,h2=>by
  grind
 |_::_,_,i+1,_,_,⟨v,r,rfl,_,h⟩,h1,h2=>NZ (i:=i) h (by grind) (by grind)
 | [],_,_,_,_,_,h1,_=>by simp at h1
theorem NK: ∀{L:List Sh} {vs:List Value} {n:Nat},fF (kd w) L vs->(nY L vs).length=(lh L n).length/\ ∀(j:Nat) (x:Blk),(lh L n)[j]? =some x-> ∃sig m v,x= .arr iD sig (.va (n+m))/\L[m]? =some (.sl sig)/\vs[m]? =some v/\(nY L vs)[j]? =some (Dd sig v)
 | [],vs,n,h=>⟨by rfl,λj x hx=>by grind[lh]⟩
 | .col c::r,_,n,⟨v,vs,rfl,_,h⟩=>by
   obtain⟨h1,h2⟩:=NK (n:=n+1) h;refine⟨h1,λj x hx=> ?_⟩;obtain⟨sig,m,v',e1,e2,e3,e4⟩:=h2 j x hx;exact⟨sig,m+1,v',by grind,by grind,by grind,e4⟩
 | .sl sig::r,_,n,⟨v,vs,rfl,_,h⟩=>by
   obtain⟨h1,h2⟩:=NK (n:=n+1) h;refine⟨by grind[nY,lh,List.length_cons],λj x hx=> ?_⟩;cases j with
   |zero=>
    simp[lh,List.getElem?_cons_zero,j0]at hx;exact⟨sig,0,v,hx.symm,rfl,rfl,rfl⟩
   |succ j=>
    obtain⟨sig',m,v',e1,e2,e3,e4⟩:=h2 j x (by grind[lh]);exact⟨sig',m+1,v',by grind,by grind,by grind,by grind[nY]⟩
theorem cu1{sig:List CT}{v:Value}{M:Loc}(e:Dd sig v=some M): ∃a len cap,v= .slice (some a) len cap/\0<len/\M=⟨a.block,a.off,len*sig.length⟩:=by
 unfold Dd at e;grind
theorem dC1{O:bY}{I:Opq}{L:List Sh}{vs:List Value}(hfit:fF (kd w) L vs)(ae: ∀(i:Nat) s v,L[i]? =some s->vs[i]? =some v->I.w i=pQ w s v)(ap: ∀b,O b=((nY L vs)[b]?).getD none)
 {h:Heap} (hn:h.next=(lh L 0).length) (hwm:h.wm=(lh L 0).length) (hg: ∀b,h.get b=(lh L 0)[b]?):HR O I (· <w.heap.size) w h w:=by
 obtain⟨hlen,hat⟩:=NK (n:=0) hfit;have hlt: ∀b x,h.get b=some x->b<(lh L 0).length:=λb x hx=>by
  rw[hg]at hx;exact(A0.1 hx).1
 have harr: ∀b x,h.get b=some x->x.isArr=true:=λb x hx=>by
  rw[hg]at hx;obtain⟨sig,m,v,e,_⟩:=hat b x hx;rw[e];rfl
 have hloc: ∀b M,O b=some M-> ∃sig m a len cap,L[m]? =some (.sl sig)/\vs[m]? =some (.slice (some a) len cap)/\0<len/\M=⟨a.block,a.off,len*sig.length⟩/\(lh L 0)[b]? =some (.arr iD sig (.va m)):=by
  intro b M hb;rw[ap]at hb;have hb':b<(lh L 0).length:=by
   rcases k5 b (nY L vs).length with hh|hh
   .omega
   .rw[t7 hh]at hb;cases hb
  obtain⟨sig,m,v,e1,e2,e3,e4⟩:=hat b _ (k9 hb');rw[e4,Option.getD_some]at hb;obtain⟨a,len,cap,rfl,h0,rfl⟩:=cu1 hb;exact⟨sig,m,a,len,cap,e2,e3,h0,rfl,by rw[k9 hb',e1,l9]⟩
 have hbr: ∀b x M,h.get b=some x->O b=some M->BR O I M w.heap[M.blk]? x:=by
  intro b x M hx hb;obtain⟨sig,m,a,len,cap,h1,h2,h0,rfl,h4⟩:=hloc b M hb;rw[hg,h4,j0]at hx;subst hx;have hf:=NZ hfit h1 h2;rcases hf with hf|⟨a',len',cap',hf,hs,_,hc,hz⟩
  .cases hf
  .obtain⟨rfl,rfl,rfl⟩:=hf;exact dC0 h0 hs hc hz (ae m _ _ h1 h2)
 refine⟨hbr,λb b' x x' M M' h1 h2 _ _ _ h5=> ?_,λb hb=> ?_,λb hb=> ?_,λb M hb=> ?_,λi hi=>hi,λi _=>rfl,λb x M h1 h2 _=> ?_,i6 _,rfl,rfl,rfl,i6 _⟩
 .have q1:=hlt _ _ h1;have q2:=hlt _ _ h2;rcases h5 with h5|h5|h5|h5
  .omega
  .omega
  .rw[harr _ _ h1]at h5;cases h5
  .rw[harr _ _ h2]at h5;cases h5
 .rw[ap,t7 (by omega)];rfl
 .rw[hn]at hb;rw[hg,t7 hb]
 .obtain⟨sig,m,a,len,cap,h1,h2,h0,rfl,h4⟩:=hloc b M hb;obtain⟨C,e',lo,hi,hh,_⟩:=hbr b _ _ (by rw[hg];exact h4) hb;exact(S2.1 hh).1
 grind
theorem cu2{O:bY}{I:Opq}: ∀{L:List Sh} {vs:List Value} {n b:Nat},fF (kd w) L vs->(∀(i:Nat) s v,L[i]? =some s->vs[i]? =some v->I.w (n+i)=pQ w s v)->(∀(j:Nat) x,(nY L vs)[j]? =some x->O (b+j)=x)->cj O I (JY L n b) vs
 | [],_,_,_,h,_,_=>by rw[h];rfl
 |s::r,_,n,b,⟨v,vs,rfl,hf,h⟩,ae,ap=>by
  have hv:=ae 0 s v rfl rfl;rw[Nat.add_zero]at hv;have hrest:cj O I (JY r (n+1) (b+Qx s)) vs:=by
   refine cu2 h (λi s' v' h1 h2=> ?_) (λj x hx=> ?_)
   .have:=ae (i+1) s' v' (by simpa using h1) (by simpa using h2);grind
   .cases s with
    |col c=>exact ap j x hx
    |sl sig=>
     have:=ap (j+1) x (by simpa[nY]using hx);grind[Qx]
  refine⟨v,vs,rfl,?_,hrest⟩;cases s with
  |col c=>
   cases c with
   |int k=>obtain⟨m,rfl,_⟩:=hf;show Value.int k m= .int k (I.w n).toI;rw[hv];rfl
   |str=>obtain⟨m,rfl⟩:=hf;show Value.string m= .string ⟨(I.w n).toS.toArray⟩;simp_all[pQ,Gr,Val.toS]
   |bool=>obtain⟨m,rfl⟩:=hf;show Value.bool m= .bool (I.w n).toB;rw[hv];rfl
  |sl sig=>
   rcases hf with rfl|⟨a,len,cap,rfl,hs,hlc,hc,hz⟩
   .refine .inr ⟨none,0,rfl,λ_=>rfl,?_⟩;show(((I.w n).toL.length:Nat):Int)=0;rw[hv];rfl
   .have hd:dI I (.op .llen [.va n])=(len:Int):=by
     show(((I.w n).toL.length:Nat):Int)=len;grind[pQ,rK,Val.toL]
    by_cases h0:0<len
    .refine .inl ⟨⟨a.block,a.off,len*sig.length⟩,cap,a,?_,by grind,by omega,λ_=> ?_⟩
     .have:=ap 0 (some ⟨a.block,a.off,len*sig.length⟩) (by simp[nY,Dd,h0]);exact this
     .obtain⟨us,h1,h2⟩:=hc 0 h0;obtain⟨h3,h4⟩:=bW2 h1;have h5:=h4 0 hs;rw[k9 (by omega)]at h5;have e0:(a.add (0*sig.length)).add 0=a.add 0:=by simp[Addr.add]
      rw[e0]at h5;obtain⟨_,_,_,_,_,_,h6⟩:=bv9 h5;have:(dI I (.ci 0)).toNat=0:=rfl;rw[this,J5,Nat.add_zero,<-h6 rfl]
    .obtain rfl:len=0:=by omega
     exact .inr ⟨some a,cap,rfl,λhh=>(by cases hh),hd⟩
def Ds(F:Nat->List Val->Val)(P:Program)(w:World)(L:List Sh)(cells:List Value):Opq:=⟨λ_=> .bool false,λn=>pQ w (L.getD n (.col .bool)) (cells.getD n (.bool false)),F,λ_=>rfl,λt=>fC P t,λ_=>none⟩
def IF(r:Res):Option (SX×AV):=match r with
 | .val v _=>some (.cb true,v)
 | .need e v _=>some (e,v)
 |_=>none
theorem c95{r:Res}{e:SX}{v:AV}{I:Opq}(h:IF r=some (e,v))(hd:dB I e=true): ∃h',r= .val v h'\/ ∃x,r= .need x v h'/\dB I x=true:=by
 unfold IF at h;grind
theorem df7{E:Env}{F:Nat->List Val->Val}{x:HC}(hx:ct E (Qd F E.P) x)(ho:rM x.c x.nv=true){L:List Sh}{cells:List Value}(hfit:fF (kd w) L cells)(hb:x.c.blks=lh L 0)(hmt:x.c.mt=x.c.blks.length)
 {us:List Value} (hus: ∀O I,cj O I (JY L 0 0) cells->cj O I x.c.args us) {e:SX} (he:IF (jQ x.c x.nv x.c.args x.c.heap)=some (e,.obool (.cb true))) (hd:dB (Ds F E.P w L cells) e=true):
 Calls E.P x.f us.toArray w (λe w'=>e= .returned (.bool true)/\RowKit.Below w.heap.size w w'):=by
 obtain⟨h',hh⟩:=c95 he hd;obtain⟨hn,hwm,eD⟩:=x.c.heap_ok (cs3 ho).lt;have ae: ∀(i:Nat) s v,L[i]? =some s->cells[i]? =some v->(Ds F E.P w L cells).w i=pQ w s v:=λi s v h1 h2=>by
  show pQ w (L.getD i (.col .bool)) (cells.getD i (.bool false))=_;grind
 have hr:HR (λb=>((nY L cells)[b]?).getD none) (Ds F E.P w L cells) (· <w.heap.size) w x.c.heap w:=
  dC1 hfit ae (λ_=>rfl) (by grind) (by grind) (λb=>by grind)
 have hv:=hus _ _ (cu2 (O:=λb=>((nY L cells)[b]?).getD none) (I:=Ds F E.P w L cells) (n:=0) (b:=0) hfit (λi s v h1 h2=>by grind) (λj y hy=>by
  grind))
 refine Calls.mono (hx _ ⟨rfl,λ_=>rfl⟩ _ _ _ _ hh (· <w.heap.size) w _ w us hr hv) ?_;rintro e' w' ⟨u,ac,rfl,h1,h3,_⟩;exact⟨by rw[show u= .bool true from h1],h3.os,h3.tape,h3.out,h3.size,h3.keep⟩
def bw1(P:Program)(t:TypeId):Bool:=match P.underlying t with
 |some (.struct _)=>true
 |_=>false
theorem bw2{r:Reach}{b:Nat}{t:TypeId}{v:Value}(h:bw1 P t=true)(hv:Value.okWide P w r b t v): ∃cs,v= .agg cs:=by
 grind[bw1,Value.okWide]
end
end Go.Ev
