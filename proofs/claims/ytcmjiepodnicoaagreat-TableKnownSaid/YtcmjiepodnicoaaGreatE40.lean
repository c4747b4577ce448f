import Derived.Test.YtcmjiepodnicoaaGreatE36
import Derived.Test.YtcmjiepodnicoaaGreatE28
import Derived.ChangeArms
set_option linter.unusedSimpArgs false
set_option linter.unusedVariables false
namespace Go.Ev
open Go
variable{c:FC}{h':Heap}{v:AV}{Ω:Opq->Prop}{f:FuncId}{nv:Nat}{args:List AV}
variable{E E0:Env}{I:Opq}{O:cq}{K:Nat->Prop}{w0 w:World}{h h2:Heap}
def Qa(E0:Env)(Ω:Opq->Prop)(n:Nat)(f:FuncId)(c:FC):Prop:= ∀I,Ω I->dB I c.need=true-> ∃args,(∀(O:cq) us,ct O I c.args us->ct O I args us)/\Z0 (FC.run E0 n f c args) I=some (0,ck I c.outs)
def XX(E:Env)(Ω:Opq->Prop)(n:Nat)(f:FuncId)(c:FC):Prop:= ∀I,Ω I->dB I c.need=true-> ∃E0:Env,E0.P=E.P/\ED E0 I n/\ ∃args,(∀(O:cq) us,ct O I c.args us->ct O I args us)/\Z0 (FC.run E0 n f c args) I=some (0,ck I c.outs)
theorem cL0{b:Binding}(e:yP c b h= .val v h'\/ ∃x,yP c b h= .need x v h'/\dB I x=true):
 dB I b.nd=true/\dB I (kS b.es c.need)=true/\v=jd (fX b.src h.next) (jn (uu b.es c.outs) c.out)/\h'=nD (fX b.src h.next) (uu b.es c.outs) c.blks.length c.post c.mt h:=by
 unfold yP KO at e;rcases e with e|⟨x,e,hd⟩
 .split at e
  .rename_i hn;have:dB I (jf b.nd (kS b.es c.need))=true:=by rw[hn];rfl
   grind[Cb]
  .cases e
 .split at e
  .cases e
  grind[Res.need.injEq,Cb]
theorem co5{x x':AV}{nd:SX}{u:Value}(e:OZ x h=some (nd,x',h'))(hd:dB I nd=true)(r:HR O I K w0 h w)(hx:VR O I x u):VR O I x' u/\HR O I K w0 h' w/\St h O h' O:=by
 unfold OZ at e;split at e
 .rename_i b len s;split at e
  .rename_i el sig l hg;obtain⟨hc,e⟩:=Z2 e;obtain⟨hc,c3⟩:=Z1 hc;obtain⟨c1,_⟩:=Z1 hc;rw[cW]at c1;obtain⟨rfl,rfl,rfl⟩:=e;obtain⟨d1,d2⟩:=Z1 (a:=dB I (.op (.cmp .leq) [.ci 0,len])) (b:=dB I (.op (.cmp .leq) [len,.op .llen [l]])) hd;have d1:0<=dI I len:=j5 d1;have d2:dI I len<=((dL I l).length:Int):=j5 d2;have hsub:dL I (.op .lsub [l,.ci 0,len])=(dL I l).take (dI I len).toNat:=by
    show((dL I l).drop (0:Int).toNat).take (dI I len-0).toNat=_;simp
   have hlen:dI I (.op .llen [.op .lsub [l,.ci 0,len]])=dI I len:=by
    show((dL I (.op .lsub [l,.ci 0,len])).length:Int)=_;grind
   have hb65:=Heap.get_lim h b _ hg;refine⟨?_,?_,?_⟩
   .grind[VR]
   .refine HR.retell (y:= .arr el sig (.op .lsub [l,.ci 0,len])) r hg (.inl c1) ?_ rfl rfl (λz=>by rw[Heap.get_put,e8 hb65]);intro L' hL' hbr;obtain⟨C,e',lo,hi,z1,z0,z2,z3,z4,z5⟩:=hbr;refine⟨C,e',lo,hi,z1,z0,z2,?_,λi v hv=> ?_,z5⟩
    .rw[hsub,l5];exact m7 (A1 _ (Nat.min_le_right _ _)) z3
    grind[List.take_append_drop,dI,dL,Dk,List.getElem?_append_left,List.getElem?_eq_some_iff]
   .refine⟨e9 _,λ_ _=>rfl,λz hz hzn=> ?_,rfl⟩;by_cases e1:z=b
    .subst e1;exact .inr (.inr (.of hg))
    simp_all[Heap.get_put,b9]
  .cases e
 .cases e
theorem KU: ∀{args args':List AV} {nd:SX} {h h':Heap} {us:List Value},sU args h=(nd,args',h')->dB I nd=true->HR O I K w0 h w->ct O I args us->ct O I args' us/\HR O I K w0 h' w/\St h O h' O
 | [],args',nd,h,h',us,e,hd,r,ra=>by
   obtain⟨rfl,rfl,rfl⟩:=e;exact⟨ra,r,.refl _ _⟩
 |x::rest,args',nd,h,h',us,e,hd,r,ra=>by
  obtain⟨u,ur,rfl,rx,rr⟩:=ra;unfold sU at e;split at e
  .rename_i e1 x1 h1 ht;generalize hq:sU rest h1=q at e;obtain⟨rfl,rfl,rfl⟩:=e;obtain⟨d1,d2⟩:=Cb hd;obtain⟨a1,a2,a3⟩:=co5 ht d1 r rx;obtain⟨b1,b2,b3⟩:=KU hq d2 a2 rr;exact⟨.cons a1 b1,b2,a3.trans b3⟩
  .generalize hq:sU rest h=q at e;obtain⟨rfl,rfl,rfl⟩:=e;obtain⟨b1,b2,b3⟩:=KU hq hd r rr;exact⟨.cons rx b1,b2,b3⟩
theorem da6{xs:List AV}{us:List Value}{hc:Heap}{ak:cq}{t:Nat×List Val}(hk:oH I t (Pl c xs h))(hx:ct ak I xs us)(r:HR ak I K w0 h w)(s:St hc O h ak):
 ∃xs' h',oH I t (PB c h' (yT h' xs'))/\ct ak I xs' us/\HR ak I K w0 h' w/\St hc O h' ak:=by
 unfold Pl at hk;cases hq:xs.any (Xz h)with
 |false=>grind
 |true=>
  rw[hq]at hk;obtain⟨nd,xs',h',ht⟩: ∃nd xs' h',sU xs h=(nd,xs',h'):=⟨_,_,_,rfl⟩;rw[ht]at hk;obtain⟨hd,hk⟩:=(vC I t).need _ _ hk;obtain⟨a1,a2,a3⟩:=KU ht hd r hx;exact⟨xs',h',hk,a1,a2,s.trans a3⟩
def uX(E:Env)(Ω:Opq->Prop)(f:FuncId)(c:FC):Prop:= ∀I,Ω I->dB I c.need=true-> ∀(K:Nat->Prop) (w0:World) (O:cq) (w:World) (us:List Value),HR O I K w0 c.heap w->ct O I c.args us->
 Calls E.P f us.toArray w (λe w'=> ∃u ac v h',e= .returned u/\oH I (0,ck I c.outs) (qp c v h')/\VR ac I v u/\HR ac I K w0 h' w'/\St c.heap O h' ac)
theorem co6{n:Nat}(hc:tr c nv=true)(hm:XX E Ω n f c):uX E Ω f c:=by
 intro aa ae hn K w0 O w us r ra;obtain⟨E0,hP,hb,args',hvar,hrun⟩:=hm _ ae hn;exact hP▸hb iP lJ (oH aa (0,ck aa c.outs)) (vC aa _) f args' c.heap (qp c) ⟨[],mD,hrun⟩ _ w0 _ w us r (hvar _ _ ra)
set_option maxHeartbeats 1000000 in
theorem co7(an: ∀I v0 l,Ω I->Ω (I.upd v0 l))(hc:tr c nv=true)(hm:uX E Ω f c)(ae:Ω I)
 (e:Fq c nv args h= .val v h'\/ ∃x,Fq c nv args h= .need x v h'/\dB I x=true):wy E I f args h v h':=by
 intro K w0 O w us r ra;have fo:=ZF hc;have: ∃b,Dl c nv args h=some b/\(yP c b h= .val v h'\/ ∃x,yP c b h= .need x v h'/\dB I x=true):=by
  unfold Fq at e;grind
 obtain⟨b,hbd,e⟩:=this;have bo:=cK7 hbd;obtain⟨hnd,hneed,rfl,rfl⟩:=cL0 e;obtain⟨hargs,hhr⟩:=cK8 r ra fo bo hnd;have aC:Ω (I.upd 0 (ck I b.es)):=an _ _ _ ae;have hneed':dB (I.upd 0 (ck I b.es)) c.need=true:=by
  have:=Iz (I:=I) (es:=b.es) c.need (by rw[bo.len];exact fo.need);show(bZ _ c.need).toB=true;rw[<-this];exact hneed
 have hm:=hm _ aC hneed';obtain⟨hn,hwm,gf⟩:=c.heap_ok fo.lt;generalize aK:I.upd 0 (ck I b.es)=aa at*
 have hag:Agr 0 I aa:=by grind[EE]
 refine Calls.mono (hm _ w _ w us hhr hargs) ?_;rintro _ w' ⟨u,ak,v1,h1,rfl,hk,hv1,hr1,hs1⟩;unfold qp at hk;cases hsh:(jH c.out v1&&Nat.ble (iH v1).length 256)with
 |false=>rw[hsh]at hk;obtain⟨_,_,hk⟩:=hk;grind[Z0]
 |true=>
 rw[hsh]at hk;obtain⟨hsh,hl256⟩:=Z1 hsh;rw[cW]at hl256;obtain⟨fu,hfu1,hback⟩:=XY v1 u hv1;obtain⟨xs0,h1,hk,hfu,hr1,hs1⟩:=da6 hk hfu1 hr1 hs1;obtain⟨hdn,pcx,hpcx,hk⟩:=(vC aa (0,ck aa c.outs)).need _ _ hk;have hfu2:=bu3 (h:=h1) hdn hfu;generalize hxs:(yT h1 xs0).2=xs at hk hfu2;have hxl:xs.length=(iH v1).length:=by rw[<-hfu2.length,hfu1.length]
 unfold e35 at hk;split at hk
 .rename_i p hcv;have hf0:=dx2 (O:=ak) hfu2 (by rw[hxl];exact hl256);obtain⟨ap,cv⟩:=RO (a':=p.1) (h':=p.2) hcv hf0 (hr1.upto (n:=Nat.add h1.next (wD c.post c.mt c.blks.length h1.next (iH c.out) 0).length) (E6 _ _));generalize hbase:h1.next=base at*
  have az: ∀x,x<base->ap x=ak x:=λx hx=>cv.bij x (by
   rintro⟨o,ho,rfl⟩;have:=Hw ho;omega)
  have hbm:c.blks.length<=base:=by rw[<-hbase,<-hn];exact hs1.le
  have aB: ∀i,i<c.blks.length->ak i=nN O I b.src c.blks i:=λi hi=>hs1.ext i (by rw[hn];exact hi)
  have hw: ∀i x,b.src[i]? =some (.whole x)->ap i=O x:=by
   intro i x hx;have hi:i<c.blks.length:=by rw[<-bo.slen];exact(A4.1 hx).1
   rw[az i (by omega),aB i hi];unfold nN;rw[hx]
  have hwm2:p.2.wm=c.mt:=by rw[cv.wm,Heap.wm_upto,hs1.wm,hwm]
  unfold e34 at hk;split at hk
  .rename_i es hes;split at hk
   .rename_i fs hfs;simp[Z0,j0,A3,true_and,co0 hpcx]at hk;have hq: ∀(j:Nat) (x:SX),(es++fs)[j]? =some x->bZ I (uu b.es c.outs j)=bZ aa x:=by
     intro j x hj;have h3:(ck aa (es++fs))[j]? =some (bZ aa x):=by rw[Ht,B0,hj];rfl
     rw[hk,Ht,B0]at h3;cases ho:c.outs[j]? with
     |none=>rw[ho]at h3;cases h3
     |some o=>
      rw[ho]at h3;simp at h3;unfold uu;rw[j8,ho,Option.getD_some,<-h3,<-aK];exact Iz o (by
       rw[bo.len];have:=fo.outs;have hmem:=I1 ho;revert this hmem;induction c.outs with
       |nil=>intro _ hh;cases hh
       |cons y ys ih=>
        intro h1 h2;simp[qD,j6]at h1;rcases m8.1 h2 with rfl|h2
        .exact h1.1
        .exact ih h1.2 h2)
    have hslots:=ZG (P:=λj x=>bZ I (uu b.es c.outs j)=bZ aa x) hes (λj x hj=>hq (0+j) x (by
     have hlt:=(A4.1 hj).1;rw[m9,x6 hlt];exact hj))
    have hblks:=bS3 (P:=λj x=>bZ I (uu b.es c.outs j)=bZ aa x) hfs (λj x hj=>hq (es.length+j) x (by
     rw[o7 (E6 _ _),I4];exact hj))
    obtain⟨hpl,hpost⟩:=RZ bo.post;rw[bo.slen]at hpl hpost;have hout:=k8.1 bo.out;generalize hQ:uu b.es c.outs=Q at*
    generalize hm0:c.blks.length=m at*
    have hlay:=Ul (Q:=Q) (ρ:=fX b.src h.next) (m:=m) c.post c.mt h (λj x hj hmj=>(hpost j x hj).2 hmj) (λj hj hmj=>by
     have: ∃s,b.src[c.mt+j]? =some s:=⟨_,l7 (by rw[bo.slen,hm0];exact hmj)⟩;obtain⟨s,hs⟩:=this;obtain⟨y,rfl,_,hy,_⟩:=MA r ra bo.mutb _ s hs (by omega);rw[ID hs];exact hy)
    have hmut: ∀i,c.mt<=i->i<m-> ∃y,b.src[i]? =some (.whole y)/\h.wm<=y/\y<h.next/\(O y≠none\/c.post[i-c.mt]? =some none\/RowB (h.get y))/\fX b.src h.next i=y:=by
     intro i h1 h2;have: ∃s,b.src[i]? =some s:=⟨_,l7 (by rw[bo.slen,hm0];exact h2)⟩;obtain⟨s,hs⟩:=this;obtain⟨y,rfl,h3,h4,h5⟩:=MA r ra bo.mutb i s hs (by omega);rw[m9]at h5;exact⟨y,hs,h3,h4,h5,ID hs⟩
    have hmax:Nat.max c.mt m=m:=S2 (by rw[<-hm0];exact fo.mt);have hnext2:(nD (fX b.src h.next) Q m c.post c.mt h).next=h.next+(c.mt+c.post.length-m):=by rw[hlay.next,hmax]
    let aq:cq:=λx=>if x<h.next then O x else if x<h.next+(c.mt+c.post.length-m)then ap (base+(x-h.next))else none
    have hlow: ∀x,x<h.next->aq x=O x:=λx hx=>e8 hx
    have hhigh: ∀x,h.next<=x->x<h.next+(c.mt+c.post.length-m)->aq x=ap (base+(x-h.next)):=λx h1 h2=>by
     show(if x<h.next then O x else _)=_;rw[b9 (by omega),e8 h2]
    have hle:Le O aq:=by
     intro x L hx;rcases j9 x h.next with hh|hh
     .rw[hlow x hh];exact hx
     .rw[r.fresh x hh]at hx;cases hx
    have hFw: ∀i x,b.src[i]? =some (.whole x)->aq x=ap i:=by
     intro i x hx;rw[hw i x hx];have hi:i<m:=by rw[<-hm0,<-bo.slen];exact(A4.1 hx).1
     have:x<h.next:=by
      obtain⟨_,hB⟩:=Hn bo.blks hnd;have hp: ∃y,c.blks[i]? =some y:=⟨_,l7 (by rw[hm0];exact hi)⟩;obtain⟨y,hy⟩:=hp;obtain⟨nd,g1,_⟩:=hB i y _ hy hx;rcases j9 x h.next with hh|hh
      .exact hh
      .simp[te]at g1;rw[r.fget x hh]at g1;split at g1
       .rename_i hg;cases hg
       .rename_i hg;cases hg
       .rename_i hg;cases hg
       .rename_i hg;cases hg
       .rename_i hg;cases hg
       .cases g1
     exact hlow x this
    have hFblk: ∀j x y L,c.post[j]? =some x->ol (fX b.src h.next) (oF Q x)=some y->ap (bif Nat.blt (c.mt+j) m then c.mt+j else base+(c.mt+j-m))=some L->
     (∃z,p.2.get (bif Nat.blt (c.mt+j) m then c.mt+j else base+(c.mt+j-m))=some z/\z.isArr=y.isArr)/\BR aq I L w'.heap[L.blk]? y:=by
     intro j x y L hj hy hL;obtain⟨n',es',g1,g2⟩:=hblks j x hj;cases x with
     |none=>cases hy
     |some q=>
      simp[sH]at g1;split at g1
      .rename_i z hz;have hkind:q.isArr=z.isArr:=bt3 g1;have hkind2:q.isArr=y.isArr:=by
        cases q<;>simp only[oF,ol,j0,reduceCtorEq]at hy<;>subst hy<;>rfl
       have hz':p.2.get (bif Nat.blt (c.mt+j) m then c.mt+j else base+(c.mt+j-m))=some z:=hz;refine⟨⟨z,hz',hkind.symm.trans hkind2⟩,?_⟩;have hcl:La b.src c.mt c.post (some q)=true:=by
        rcases j9 (c.mt+j) m with hh|hh
        .exact(hpost j _ hj).1 hh
        .have:=(hpost j _ hj).2 hh;unfold DA at this;split at this
         .rename_i heq;simp at heq;subst heq;exact this
         .cases this
       exact cn9 (N:=h.next) hag hcl g1 g2 (cv.hr.blk _ z L hz' hL) hFw hy
      .cases g1
    refine⟨u,aq,rfl,?_,?_,?_⟩
    .
     have hF1: ∀l,(λx=>jd (fX b.src h.next) (jn Q x)) (.agg l)= .agg (l.map λx=>jd (fX b.src h.next) (jn Q x)):=λl=>by
      simp only[jn,jd,Vl,SQ,n7];rfl
     have hF2: ∀l,(λx=>jd (fX b.src h.next) (jn Q x)) (.tup l)= .tup (l.map λx=>jd (fX b.src h.next) (jn Q x)):=λl=>by
      simp only[jn,jd,Vl,SQ,n7];rfl
     have hF3: ∀x,iM x=true->iM ((λx=>jd (fX b.src h.next) (jn Q x)) x)=true:=λx hx=>by
      cases x<;>first|rfl|(simp only[jn,Pw];unfold pa;split<;>rfl)|(simp[iM]at hx;done)
     refine hback aq I _ (WA hF1 hF2 hF3 c.out v1 hsh) ?_;rw[XS hF1 hF2 hF3];have hfl:(iH c.out).length=fu.length:=by rw[Pn hsh,hfu1.length]
     refine WQ hfl λk q x hq hx=> ?_
     obtain⟨n',es',g1,g2⟩:=hslots k q hq;have hcl:=hout q (I1 hq);have hsv:VR ap aa (p.1.slot k) x:=by
      have:=cv.fr.slot k id;have h5:(fu.toArray)[k]? =some x:=by rw[N2];exact hx
      simp[h5,Option.getD_some]at this;exact this
     rw[m9]at g1;unfold Sf at g1;split at g1
     .rename_i i y s;cases hmi:Nat.ble m i with
      |false=>
       rw[hmi]at g1;refine VD (N:=h.next) hag hcl ?_ g1 g2 hsv hFw;simp[BF,bo.slen,hm0,fc];cases hh:Nat.blt i m with
       |true=>exact fc.1 hh
       |false=>
        have: ¬i<m:=λhlt=>by rw[jm hlt]at hh;cases hh
        rw[cW.2 (by omega)]at hmi;cases hmi
      |true=>
       rw[hmi]at g1;obtain⟨hown,_⟩:=Z2 g1;rw[cW]at hmi;unfold dw6 at hown;split at hown
       .rename_i c' l s' e' sg' l' hsl hgb;obtain⟨hown,o3⟩:=Z1 hown;obtain⟨o1,o2⟩:=Z1 hown;obtain rfl:=Z4.1 o1;obtain rfl:=Z4.1 o2;have o3:=SX.beq_eq _ _ o3;subst o3;simp only[tu]at hcl;rw[show Nat.ble b.src.length i=true by rw[cW,bo.slen,hm0];exact hmi]at hcl;split at hcl
        .rename_i qq ee sig q' hpi;obtain⟨k1,k2⟩:=Z1 hcl;have k1:=SX.beq_eq _ _ k1;subst k1;have hmt:c.mt<=i:=m7 (by rw[<-hm0];exact fo.mt) hmi;obtain⟨n2,es2,a1,a2⟩:=hblks (i-c.mt) _ hpi;rw[show c.mt+(i-c.mt)=i by omega,jv (by omega: ¬i<m)]at a1;simp[cond_false,sH,hgb]at a1;obtain⟨a3,a4⟩:=Z2 a1;have hrow:=(hpost (i-c.mt) _ hpi).2 (by omega);have hden:=sV hag a4 hrow a2;have hlen:dI I (.op .llen [eN 1000 Q qq])=dI aa (.op .llen [l]):=by
          exact congrArg (λz:Val=>(z.toL.length:Int)) hden
         have hname:fX b.src h.next i=h.next+(i-m):=by
          unfold fX;rw[t7 (by rw[bo.slen,hm0];exact hmi),bo.slen,hm0]
         have hpl2:i-c.mt<c.post.length:=(A4.1 hpi).1;have hFi:aq (h.next+(i-m))=ap (base+(i-m)):=by
          rw[hhigh _ (E6 _ _) (by omega),show h.next+(i-m)-h.next=i-m by omega]
         show VR aq I (.ous (fX b.src h.next i) (NX Q (.op .llen [qq])) _) x;rw[hname];rw[hsl]at hsv;simp[NX,VR]at hsv⊢;rw[hlen,hFi];exact hsv
        .cases hcl
       .cases hown
     .refine VD (N:=h.next) hag hcl ?_ g1 g2 hsv hFw;rename_i hne;cases q<;>first|rfl|exact absurd rfl (hne _ _ _)
    .
     have kind: ∀x y L,(nD (fX b.src h.next) Q m c.post c.mt h).get x=some y->aq x=some L->
      (∃i z,c.mt<=i/\ap i=some L/\p.2.get i=some z/\z.isArr=y.isArr/\BR aq I L w'.heap[L.blk]? y/\(i<m/\fX b.src h.next i=x/\x<h.next\/m<=i/\h.next<=x/\i=base+(x-h.next)/\base<=i))\/
      (x<h.next/\h.get x=some y/\O x=some L/\ ∀i,c.mt<=i->i<m->fX b.src h.next i≠x):=by
      intro x y L hy hL;rcases hlay.get x y hy with⟨j,q,g1,g2,g3,g4⟩|⟨j,q,g1,g2,g3,g4⟩|⟨g1,g2⟩
      .obtain⟨y0,s1,s2,s3,s4,s5⟩:=hmut (c.mt+j) (by omega) g2;have hxlt:x<h.next:=by rw[<-g3,s5];exact s3
       have hL2:ap (c.mt+j)=some L:=by
        rw[<-hFw _ _ s1,<-s5,g3];exact hL
       obtain⟨⟨z,z1,z2⟩,z3⟩:=hFblk j q y L g1 g4 (by rw[jm g2];exact hL2);rw[jm g2]at z1;exact .inl ⟨c.mt+j,z,by omega,hL2,z1,z2,z3,.inl ⟨g2,g3,hxlt⟩⟩
      .have hjl:j<c.post.length:=(A4.1 g1).1;have hL2:ap (base+(c.mt+j-m))=some L:=by
        rw[hhigh x (by omega) (by omega),show x-h.next=c.mt+j-m by omega]at hL;exact hL
       obtain⟨⟨z,z1,z2⟩,z3⟩:=hFblk j q y L g1 g4 (by rw[jv (by omega)];exact hL2);rw[jv (by omega)]at z1;exact .inl ⟨base+(c.mt+j-m),z,by omega,hL2,z1,z2,z3,.inr ⟨by omega,by omega,by omega,by omega⟩⟩
      .have hxlt:x<h.next:=by
        rcases j9 x h.next with hh|hh
        .exact hh
        .rw[r.fget x hh]at g1;cases g1
       refine .inr ⟨hxlt,g1,by rw[<-hlow x hxlt];exact hL,λi h1 h2=> ?_⟩;have:=g2 (i-c.mt) (by omega) (by omega);rw[show c.mt+(i-c.mt)=i by omega]at this;exact this
     have hr2:=cv.hr;have hKc: ∀k,K k->Qr O b.src c.mt w k:=λk hk=>⟨x9 (r.kin k hk) r.size,λi y L h1 h2 h3 hh=>by
      have hi:i<m:=by rw[<-hm0,<-bo.slen];exact(A4.1 h2).1
      obtain⟨y0,s1,s2,s3,s4,s5⟩:=hmut i h1 hi;rw[h2]at s1;simp at s1;subst s1;obtain⟨_,hB⟩:=Hn bo.blks hnd;obtain⟨q,hq⟩: ∃q,c.blks[i]? =some q:=⟨_,l7 (by rw[hm0];exact hi)⟩;obtain⟨nd,g1,_⟩:=hB i q _ hq h2;simp[te]at g1;split at g1
      .rename_i hg;exact r.free y _ L hg s2 h3 (hh▸hk)
      .rename_i hg;exact r.free y _ L hg s2 h3 (hh▸hk)
      .rename_i hg;exact r.free y _ L hg s2 h3 (hh▸hk)
      .rename_i hg;exact r.free y _ L hg s2 h3 (hh▸hk)
      .rename_i hg;exact r.free y _ L hg s2 h3 (hh▸hk)
      .cases g1⟩
     have hold: ∀x y L,x<h.next->h.get x=some y->O x=some L->(∀i,c.mt<=i->i<m->fX b.src h.next i≠x)->Qr O b.src c.mt w L.blk:=by
      intro x y L h1 h2 h3 h4;refine⟨r.lt x L h3,λi y0 M g1 g2 g3=> ?_⟩;have hi:i<m:=by rw[<-hm0,<-bo.slen];exact(A4.1 g2).1
      obtain⟨y1,s1,s2,s3,s4,s5⟩:=hmut i g1 hi;rw[g2]at s1;simp at s1;subst s1;obtain⟨_,hB⟩:=Hn bo.blks hnd;obtain⟨q,hq⟩: ∃q,c.blks[i]? =some q:=⟨_,l7 (by rw[hm0];exact hi)⟩;obtain⟨nd,k1,_⟩:=hB i q _ hq g2;have hz: ∃z,h.get y0=some z:=by
       simp[te]at k1;split at k1
       .rename_i hg;exact⟨_,hg⟩
       .rename_i hg;exact⟨_,hg⟩
       .rename_i hg;exact⟨_,hg⟩
       .rename_i hg;exact⟨_,hg⟩
       .rename_i hg;exact⟨_,hg⟩
       .cases k1
      obtain⟨z,hz⟩:=hz;exact r.sep x y0 y z L M h2 hz h3 g3 (λhh=>h4 i g1 hi (by rw[s5,hh])) (.inr (.inl s2))
     refine⟨λx y L hy hL=> ?_,λx x' y y' L L' hy hy' hL hL' hne hwk=> ?_,λx hx=> ?_,λx hx=> ?_,λx L hL=> ?_,r.kin,λk hk=>(hr2.keep k (hKc k hk)).trans (r.keep k hk),λx y L hy hwx hL hk=> ?_,
      m7 r.size hr2.size,hr2.os.trans r.os,hr2.tape.trans r.tape,hr2.out.trans r.out,m7 r.dr hr2.dr⟩
     .rcases kind x y L hy hL with⟨i,z,_,_,_,_,hbr,_⟩|⟨h1,h2,h3,h4⟩
      .exact hbr
      .rw[hr2.keep _ (hold x y L h1 h2 h3 h4)];exact(r.blk x y L h2 h3).mono hle
     .rcases kind x y L hy hL with⟨i,z,a1,a2,a3,a4,a5,a6⟩|⟨a1,a2,a3,a4⟩
      .rcases kind x' y' L' hy' hL' with⟨j,z',b1,b2,b3,b4,b5,b6⟩|⟨b1,b2,b3,b4⟩
       .refine hr2.sep i j z z' L L' a3 b3 a2 b2 (λhh=>hne ?_) (.inl (by rw[hwm2];exact a1));subst hh;rcases a6 with⟨c1,c2,c3⟩|⟨c1,c2,c3,c4⟩
        .rcases b6 with⟨d1,d2,d3⟩|⟨d1,d2,d3,d4⟩
         .rw[<-c2,<-d2]
         .omega
        .rcases b6 with⟨d1,d2,d3⟩|⟨d1,d2,d3,d4⟩
         .omega
         .omega
       .exactλhh=>hr2.free i z L a3 (by rw[hwm2];exact a1) a2 (hh▸hold x' y' L' b1 b2 b3 b4)
      .rcases kind x' y' L' hy' hL' with⟨j,z',b1,b2,b3,b4,b5,b6⟩|⟨b1,b2,b3,b4⟩
       .exactλhh=>hr2.free j z' L' b3 (by rw[hwm2];exact b1) b2 (hh▸hold x y L a1 a2 a3 a4)
       .exact r.sep x x' y y' L L' a2 b2 a3 b3 hne (by rw[hlay.wm]at hwk;exact hwk)
     .show(if x<h.next then O x else if x<h.next+(c.mt+c.post.length-m)then ap (base+(x-h.next))else none)=none;rw[b9 (by omega),b9 (by omega)]
     .cases hy:(nD (fX b.src h.next) Q m c.post c.mt h).get x with
      |none=>rfl
      |some y=>
       rcases hlay.get x y hy with⟨j,q,g1,g2,g3,g4⟩|⟨j,q,g1,g2,g3,g4⟩|⟨g1,g2⟩
       .obtain⟨y0,s1,s2,s3,s4,s5⟩:=hmut (c.mt+j) (by omega) g2;omega
       .have hjl:j<c.post.length:=(A4.1 g1).1;omega
       .rw[r.fget x (by omega)]at g1;cases g1
     .rcases j9 x h.next with hh|hh
      .rw[hlow x hh]at hL;exact x9 (r.lt x L hL) hr2.size
      .have hlt:x<h.next+(c.mt+c.post.length-m):=by
        rcases j9 x (h.next+(c.mt+c.post.length-m))with q|q
        .exact q
        .have:aq x=none:=by
          show(if x<h.next then O x else if x<h.next+(c.mt+c.post.length-m)then ap (base+(x-h.next))else none)=none;rw[b9 (by omega),b9 (by omega)]
         rw[this]at hL;cases hL
       rw[hhigh x hh hlt]at hL;exact hr2.lt _ L hL
     .rcases kind x y L hy hL with⟨i,z,a1,a2,a3,a4,a5,a6⟩|⟨a1,a2,a3,a4⟩
      .exact hr2.free i z L a3 (by rw[hwm2];exact a1) a2 (hKc _ hk)
      .exact r.free x y L a2 (by rw[hlay.wm]at hwx;exact hwx) a3 hk
    .
     refine⟨by rw[hnext2];exact E6 _ _,hlow,λx hx hno=> ?_,hlay.wm⟩;by_cases hex: ∃j,j<c.post.length/\c.mt+j<m/\fX b.src h.next (c.mt+j)=x
     .obtain⟨j,hj,hmj,hh⟩:=hex;obtain⟨y0,s1,s2,s3,s4,s5⟩:=hmut (c.mt+j) (by omega) hmj;right;rw[s5]at hh;subst hh;rcases s4 with s4|s4|s4
      .exact absurd hno s4
      .by_cases har:RowB (h.get y0)
       .exact .inr har
       left;cases hy:(nD (fX b.src h.next) Q m c.post c.mt h).get y0 with
       |none=>rfl
       |some y=>
        exfalso;rcases hlay.get y0 y hy with⟨j',q,g1,g2,g3,g4⟩|⟨j',q,g1,g2,g3,g4⟩|⟨g1,g2⟩
        .obtain⟨y1,t1,t2,t3,t4,t5⟩:=hmut (c.mt+j') (by omega) g2;rw[t5]at g3;subst g3;rcases t4 with t4|t4|t4
         .exact t4 hno
         .rw[show c.mt+j'-c.mt=j' by omega,g1,j0]at t4;subst t4;cases g4
         .exact har t4
        .omega
        .exact g2 j hj hmj s5
      .exact .inr s4
     .left;exact hlay.keep x hx λj hj hmj hh=>hex ⟨j,hj,hmj,hh⟩
   .simp[Z0]at hk
  trivial
 grind[Z0]
theorem co8{nd:SX}{r:Res}(e:DH nd r= .val v h'\/ ∃x,DH nd r= .need x v h'/\dB I x=true):dB I nd=true/\(r= .val v h'\/ ∃x,r= .need x v h'/\dB I x=true):=by
 cases r with
 |val v1 h1=>
  simp[DH,KO]at e;split at e
  .trivial
  grind
 |need e1 v1 h1=>
  simp only[DH]at e;rcases e with e|⟨x,e,hd⟩
  .cases e
  .obtain⟨rfl,rfl,rfl⟩:=e;obtain⟨d1,d2⟩:=Cb hd;grind
 |_=>
  grind[DH]
theorem co9(an: ∀I v0 l,Ω I->Ω (I.upd v0 l))(hc:tr c nv=true)(hm:uX E Ω f c)(ae:Ω I)
 (e:kH c nv args h= .val v h'\/ ∃x,kH c nv args h= .need x v h'/\dB I x=true):wy E I f args h v h':=by
 unfold kH at e;cases hbd:Dl c nv args h with
 |some b=>
  grind[co7,Fq]
 |none=>
  rw[hbd]at e;generalize hq:sU args h=q at e;obtain⟨hd,e⟩:=co8 (I:=I) e;intro K w0 O w us r ra;obtain⟨a1,a2,a3⟩:=KU hq hd r ra;refine Calls.mono (co7 an hc hm ae e K w0 O w us a2 a1) ?_;rintro e' w' ⟨u,ac,rfl,h1,h2,h3⟩;exact⟨u,ac,rfl,h1,h2,a3.trans h3⟩
theorem da7(an: ∀I v0 l,Ω I->Ω (I.upd v0 l)){n:Nat}(hc:tr c nv=true)(hm:XX E Ω n f c)(ae:Ω I)
 (e:kH c nv args h= .val v h'\/ ∃x,kH c nv args h= .need x v h'/\dB I x=true):wy E I f args h v h':=
 co9 an hc (co6 hc hm) ae e
theorem dx3(an: ∀I v0 l,Ω I->Ω (I.upd v0 l))(hP:E0.P=E.P){n:Nat}(hc:tr c nv=true)(hb: ∀I,Ω I->ED E0 I n)(hm:Qa E0 Ω n f c)(ae:Ω I)
 (e:kH c nv args h= .val v h'\/ ∃x,kH c nv args h= .need x v h'/\dB I x=true):wy E I f args h v h':=
 da7 an hc (λI ae hn=>⟨E0,hP,hb I ae,hm I ae hn⟩) ae e
end Go.Ev
namespace Go.Ev
open Go
structure HC where
 f:FuncId
 nv:Nat
 c:FC
def dx4(a b:Res):Res:=match a with
 | .bad=>b
 |r=>r
noncomputable def xD:List HC->FuncId->List AV->Heap->Res
 | [],_,_,_=> .bad
 |x::r,f,args,h=>bif Nat.beq x.f f then dx4 (kH x.c x.nv args h) (xD r f args h)else xD r f args h
noncomputable def Env.hooks(E:Env)(cs:List HC):Env:={E with hook:=xD cs}
def cD(E:Env)(Ω:Opq->Prop)(x:HC):Prop:= ∀I,Ω I-> ∀(args:List AV) (h:Heap) (v:AV) (h':Heap),(kH x.c x.nv args h= .val v h'\/ ∃e,kH x.c x.nv args h= .need e v h'/\dB I e=true)->wy E I x.f args h v h'
theorem KV{f:FuncId}{args:List AV}{h:Heap}{y:Res}: ∀{cs:List HC},xD cs f args h=y->y≠ .bad-> ∃x∈cs,x.f=f/\kH x.c x.nv args h=y
 | [],e,hy=>absurd e.symm hy
 |x::r,e,hy=>by
  unfold xD at e;cases hc:Nat.beq x.f f with
  |false=>
   rw[hc]at e;obtain⟨z,hz,h1,h2⟩:=KV e hy;grind
  |true=>
   rw[hc]at e;cases hr:kH x.c x.nv args h with
   |bad=>
    rw[hr]at e;obtain⟨z,hz,h1,h2⟩:=KV (cs:=r) e hy;grind
   |_=>
    rw[hr]at e;exact⟨x,B8 ..,Z4.1 hc,hr.trans e⟩
theorem cL1{E:Env}{Ω:Opq->Prop}{cs:List HC}(hc: ∀x∈cs,cD E Ω x){I:Opq}(ae:Ω I):HookOk (E.hooks cs) I:=by
 refine⟨λf args h v h' e=> ?_,λf args h e v h' hh hd=> ?_⟩
 .obtain⟨x,hx,rfl,h2⟩:=KV (show xD cs f args h=_ from e) (by simp);exact hc x hx I ae args h v h' (.inl h2)
 .obtain⟨x,hx,rfl,h2⟩:=KV (show xD cs f args h=_ from hh) (by simp);exact hc x hx I ae args h v h' (.inr ⟨e,h2,hd⟩)
theorem Env.Ok.hooks{E:Env}{I:Opq}(h:E.Ok I)(cs:List HC):(E.hooks cs).Ok I:=⟨h.fix,h.name,h.ext,h.bin,h.un,h.conv,h.blt⟩
theorem Cg{E:Env}{Ω:Opq->Prop}(an: ∀I v0 l,Ω I->Ω (I.upd v0 l))(hE: ∀I,Ω I->E.Ok I)(hm:E.P.follows .mixedOrders=true){cs:List HC}(hc: ∀x∈cs,cD E Ω x){x:HC}{n:Nat}(ho:tr x.c x.nv=true)(hx:Qa (E.hooks cs) Ω n x.f x.c):cD E Ω x:=
 λI ae args h v h' e=>dx3 (E:=E) (E0:=E.hooks cs) an rfl ho (λI ae=>(Pk (E:=E.hooks cs) an (λI h=>(hE I h).hooks cs) (λI h=>cL1 hc h) hm n I ae).2.1) hx ae e
theorem dp{E:Env}{Ω:Opq->Prop}{cs:List HC}{x:HC}(h: ∀x∈cs,cD E Ω x)(hx:cD E Ω x): ∀y∈x::cs,cD E Ω y:=λy hy=>by
 grind
theorem ff{E:Env}{Ω:Opq->Prop}{as cs:List HC}(h: ∀x∈cs,cD E Ω x)(hx: ∀x∈as,cD E Ω x): ∀y∈as++cs,cD E Ω y:=λy hy=>by
 grind
def OB(F:Nat->List Val->Val)(P:Program)(I:Opq):Prop:=I.f=F/\ ∀t,I.fix t=gv P t
theorem SZ{E:Env}{Ω:Opq->Prop}{n:Nat}{f:FuncId}{c:FC}{T:VT}(ht:FC.run E n f c c.args=T)(h: ∀I,Ω I->dB I c.need=true->Z0 T I=some (0,ck I c.outs)):Qa E Ω n f c:=
 λI ae hn=>⟨c.args,λ_ _ h=>h,by grind⟩
end Go.Ev
namespace Go.Ev
open Go Go.RowKit Go.WideShapes Go.ChangeShapes
def XT:CT->Value->Prop
 | .int k,v=> ∃n,v= .int k n/\k.min<=n/\n<=k.max
 | .str,v=> ∃s,v= .string s
 | .bool,v=> ∃b,v= .bool b
def yF{α:Type}(fit:α->Value->Prop):List α->List Value->Prop
 | [],vs=>vs=[]
 |c::s,vs=> ∃v r,vs=v::r/\fit c v/\yF fit s r
def sb:List CT->List Value->Prop:=yF XT
section
variable{H:Type}{enc:TypeId×Value->H}{P:Program}{w:World}{base:Nat}{sp:Nat->Bool}{hd:Bool}
inductive Sh where
 |col (c:CT)
 |sl (sig:List CT)
def KJ(w:World):Sh->Value->Prop
 | .col c,v=>XT c v
 | .sl sig,v=>v= .slice none 0 0\/ ∃a len cap,v= .slice (some a) len cap/\0<sig.length/\(len<=cap/\cap<=maxLen)/\(∀i,i<len-> ∃vs,w.cells? 0 (a.add (i*sig.length)) sig.length=some vs/\sb sig vs)/\ ∀j,j<len*sig.length->w.frozen? ⟨a.block,a.off+j,none⟩=false
def Wl(w:World)(ps:List MemPlace):Prop:= ∀b off,MemPlace.cell b off∈ps->w.frozen? ⟨b,off,none⟩=false
def tU(w:World)(sz:Nat)(a:Addr)(len:Nat):List Val:=(List.range len).map λi=> .vl (((w.cells? 0 (a.add (i*sz)) sz).getD []).map Nj)
def AC(w:World)(s:Sh)(v:Value):Val:=match s,v with
 | .col _,v=>Nj v
 | .sl sig,.slice (some a) len _=> .vl (tU w sig.length a len)
 |_,_=> .vl []
def Ez(sig:List CT)(v:Value):Option Loc:=match v with
 | .slice (some a) len _=>if 0<len then some ⟨a.block,a.off,len*sig.length⟩else none
 |_=>none
def Py:Sh->Nat
 | .sl _=>1
 | .col _=>0
def dP3(n b:Nat):Sh->AV
 | .col (.int k)=> .oint k (.va n)
 | .col .str=> .ostr (.va n)
 | .col .bool=> .obool (.va n)
 | .sl sig=> .osl b (.ci 0) (.op .llen [.va n]) sig.length
def Ja:List Sh->Nat->Nat->List AV
 | [],_,_=>[]
 |s::r,n,b=>dP3 n b s::Ja r (n+1) (b+Py s)
def mE:List Sh->Nat->List Blk
 | [],_=>[]
 | .sl sig::r,n=> .arr jM sig (.va n)::mE r (n+1)
 | .col _::r,n=>mE r (n+1)
def pg:List Sh->List Value->List (Option Loc)
 | .sl sig::r,v::vs=>Ez sig v::pg r vs
 | .col _::r,_::vs=>pg r vs
 |_,_=>[]
theorem XB{a:Addr}{n:Nat}{vs:List Value}(h:w.cells? 0 a n=some vs):vs.length=n/\ ∀j,j<n->w.cell? (a.add j)=vs[j]? :=by
 unfold World.cells? at h;have: ∀(l:List Nat) (vs:List Value),(l.mapM λi=>w.cell? (a.add i))=some vs->vs.length=l.length/\ ∀j (hj:j<l.length),w.cell? (a.add l[j])=vs[j]? :=by
  intro l;induction l with
  |nil=>intro vs h;simp at h;subst h;exact⟨rfl,λj hj=>by simp at hj⟩
  |cons x l ih=>
   intro vs h;simp[Option.bind_eq_bind,o8,Option.pure_def,j0]at h;obtain⟨y,hy,ys,hys,rfl⟩:=h;obtain⟨h1,h2⟩:=ih ys hys;refine⟨by simp[h1],λj hj=> ?_⟩;cases j with
   |zero=>trivial
   |succ j=>simpa using h2 j (by simpa using hj)
 grind
theorem WC{a:Addr}{k:Nat}{v:Value}(h:w.cell? (a.add k)=some v): ∃C e lo hi,w.heap[a.block]? =some (.cells C e (lo,hi))/\C[a.off+k]? =some v/\(k=0->a.spot=none):=by
 have hb:(a.add k).block=a.block:=by grind[Addr.add]
 have ho:(a.add k).off=a.off+k:=by grind[Addr.add]
 unfold World.cell? at h;rw[hb,ho]at h;split at h
 .rename_i C e fr hh;split at h
  .cases h
  .refine⟨C,e,fr.1,fr.2,hh,h,λhk=> ?_⟩;simp_all[Addr.add]
 .cases h
theorem cU8: ∀{sig:List CT} {vs:List Value} {j:Nat},sb sig vs->j<sig.length-> ∃u,vs[j]? =some u/\gX (sig.getD j .bool) (Nj u)=u
 |c::s,vs,0,⟨v,r,e,h,_⟩,_=>by
  refine⟨v,by grind,?_⟩;cases c with
  |int k=>obtain⟨n,rfl,_⟩:=h;rfl
  |str=>obtain⟨n,rfl⟩:=h;rfl
  |bool=>obtain⟨n,rfl⟩:=h;rfl
 |c::s,vs,j+1,⟨v,r,e,_,h⟩,hj=>by
  obtain⟨u,h1,h2⟩:=cU8 (sig:=s) (vs:=r) (j:=j) h (by simpa using hj);grind
 | [],_,_,_,hj=>by simp at hj
theorem dx6{O:cq}{I:Opq}{sig:List CT}{a:Addr}{len n:Nat}(h0:0<len)(hs:0<sig.length)(hc: ∀i,i<len-> ∃vs,w.cells? 0 (a.add (i*sig.length)) sig.length=some vs/\sb sig vs)
 (hf: ∀j,j<len*sig.length->w.frozen? ⟨a.block,a.off+j,none⟩=false) (hw:I.w n= .vl (tU w sig.length a len)):BR O I ⟨a.block,a.off,len*sig.length⟩ w.heap[a.block]? (.arr jM sig (.va n)):=by
 have hcell: ∀i j,i<len->j<sig.length-> ∃u C e lo hi,w.heap[a.block]? =some (.cells C e (lo,hi))/\C[a.off+(i*sig.length+j)]? =some u/\gX (sig.getD j .bool) ((((tU w sig.length a len).getD i (.vl [])).toL).getD j default)=u:=by
  intro i j hi hj;obtain⟨vs,h1,h2⟩:=hc i hi;obtain⟨h3,h4⟩:=XB h1;obtain⟨u,h5,h6⟩:=cU8 h2 hj;have h7:=h4 j hj;rw[h5]at h7;obtain⟨C,e,lo,hi',h8,h9,_⟩:=WC h7;have hb:(a.add (i*sig.length)).block=a.block:=by unfold Addr.add;split<;>rfl
  have ho:(a.add (i*sig.length)).off=a.off+i*sig.length:=by unfold Addr.add;split<;>simp_all
  rw[hb]at h8;rw[ho,y5]at h9;refine⟨u,C,e,lo,hi',h8,h9,?_⟩;rw[<-h6];simp[tU,j8,B0,List.getElem?_range hi,Option.map_some,Option.getD_some,Val.toL,h1,h5]
 obtain⟨_,C,e,lo,hi,hh,_,_⟩:=hcell 0 0 h0 hs;have hC: ∀i j,i<len->j<sig.length-> ∃u,C[a.off+(i*sig.length+j)]? =some u/\gX (sig.getD j .bool) ((((tU w sig.length a len).getD i (.vl [])).toL).getD j default)=u:=by
  intro i j h1 h2;obtain⟨u,C',e',lo',hi',g1,g2,g3⟩:=hcell i j h1 h2;rw[hh]at g1;obtain⟨rfl,rfl,rfl,rfl⟩:=g1;exact⟨u,g2,g3⟩
 have hl:(dL I (.va n))=tU w sig.length a len:=by show(I.w n).toL=_;rw[hw];rfl
 have hlen:(tU w sig.length a len).length=len:=by simp[tU]
 refine⟨C,e,lo,hi,hh,.inr rfl,?_,by rw[hl,hlen];exact e9 _,λi v hi'=> ?_,λi hi'=> ?_⟩
 .obtain⟨u,h1,_⟩:=hC (len-1) (sig.length-1) (by omega) (by omega);have:=(S4.1 h1).1;have e1:(len-1)*sig.length+sig.length=len*sig.length:=by rw[<-Nat.succ_mul];congr 1;omega
  show a.off+len*sig.length<=C.size;omega
 .rw[hl]at hi';have hlt:i<len*sig.length:=by
   have:=(A4.1 hi').1;rw[jK,hlen]at this;exact this
  have hq:i/sig.length<len:=Nat.div_lt_of_lt_mul (by rw[K4];exact hlt);have hr:i % sig.length<sig.length:=N4 _ hs;have hi2:i=i/sig.length*sig.length+i % sig.length:=by rw[K4];exact(Nat.div_add_mod i sig.length).symm
  obtain⟨u,h1,h2⟩:=hC _ _ hq hr;rw[hi2,GW hr (by rw[hlen];exact hq),h2,j0]at hi';rw[hi2,h1,hi']
 grind[World.frozen?,Bool.and_eq_false_iff,decide_eq_false_iff_not]
theorem bS7{α:Type}{fit:α->Value->Prop}: ∀{s:List α} {vs:List Value} {i:Nat} {a:α} {v:Value},yF fit s vs->s[i]? =some a->vs[i]? =some v->fit a v
 |_::_,_,0,_,_,⟨v,r,rfl,h,_⟩,h1,h2=>by
  grind
 |_::_,_,i+1,_,_,⟨v,r,rfl,_,h⟩,h1,h2=>bS7 (i:=i) h (by grind) (by grind)
 | [],_,_,_,_,_,h1,_=>by simp at h1
theorem UH: ∀{L:List Sh} {vs:List Value} {n:Nat},yF (KJ w) L vs->(pg L vs).length=(mE L n).length/\ ∀(j:Nat) (x:Blk),(mE L n)[j]? =some x-> ∃sig m v,x= .arr jM sig (.va (n+m))/\L[m]? =some (.sl sig)/\vs[m]? =some v/\(pg L vs)[j]? =some (Ez sig v)
 | [],vs,n,h=>⟨by rfl,λj x hx=>by grind[mE]⟩
 | .col c::r,_,n,⟨v,vs,rfl,_,h⟩=>by
   obtain⟨h1,h2⟩:=UH (n:=n+1) h;refine⟨h1,λj x hx=> ?_⟩;obtain⟨sig,m,v',e1,e2,e3,e4⟩:=h2 j x hx;exact⟨sig,m+1,v',by grind,by grind,by grind,e4⟩
 | .sl sig::r,_,n,⟨v,vs,rfl,_,h⟩=>by
   obtain⟨h1,h2⟩:=UH (n:=n+1) h;refine⟨by grind[pg,mE,List.length_cons],λj x hx=> ?_⟩;cases j with
   |zero=>
    simp[mE,List.getElem?_cons_zero,j0]at hx;exact⟨sig,0,v,hx.symm,rfl,rfl,rfl⟩
   |succ j=>
    obtain⟨sig',m,v',e1,e2,e3,e4⟩:=h2 j x (by grind[mE]);exact⟨sig',m+1,v',by grind,by grind,by grind,by grind[pg]⟩
theorem cp0{sig:List CT}{v:Value}{M:Loc}(e:Ez sig v=some M): ∃a len cap,v= .slice (some a) len cap/\0<len/\M=⟨a.block,a.off,len*sig.length⟩:=by
 unfold Ez at e;grind
theorem dx7{O:cq}{I:Opq}{L:List Sh}{vs:List Value}(hfit:yF (KJ w) L vs)(ae: ∀(i:Nat) s v,L[i]? =some s->vs[i]? =some v->I.w i=AC w s v)(ao: ∀b,O b=((pg L vs)[b]?).getD none)
 {h:Heap} (hn:h.next=(mE L 0).length) (hwm:h.wm=(mE L 0).length) (hg: ∀b,h.get b=(mE L 0)[b]?):HR O I (· <w.heap.size) w h w:=by
 obtain⟨hlen,hat⟩:=UH (n:=0) hfit;have hlt: ∀b x,h.get b=some x->b<(mE L 0).length:=λb x hx=>by
  rw[hg]at hx;exact(A4.1 hx).1
 have harr: ∀b x,h.get b=some x->x.isArr=true:=λb x hx=>by
  rw[hg]at hx;obtain⟨sig,m,v,e,_⟩:=hat b x hx;rw[e];rfl
 have hloc: ∀b M,O b=some M-> ∃sig m a len cap,L[m]? =some (.sl sig)/\vs[m]? =some (.slice (some a) len cap)/\0<len/\M=⟨a.block,a.off,len*sig.length⟩/\(mE L 0)[b]? =some (.arr jM sig (.va m)):=by
  intro b M hb;rw[ao]at hb;have hb':b<(mE L 0).length:=by
   rcases j9 b (pg L vs).length with hh|hh
   .omega
   .rw[t7 hh]at hb;cases hb
  obtain⟨sig,m,v,e1,e2,e3,e4⟩:=hat b _ (l7 hb');rw[e4,Option.getD_some]at hb;obtain⟨a,len,cap,rfl,h0,rfl⟩:=cp0 hb;exact⟨sig,m,a,len,cap,e2,e3,h0,rfl,by rw[l7 hb',e1,m9]⟩
 have hbr: ∀b x M,h.get b=some x->O b=some M->BR O I M w.heap[M.blk]? x:=by
  intro b x M hx hb;obtain⟨sig,m,a,len,cap,h1,h2,h0,rfl,h4⟩:=hloc b M hb;rw[hg,h4,j0]at hx;subst hx;have hf:=bS7 hfit h1 h2;rcases hf with hf|⟨a',len',cap',hf,hs,_,hc,hz⟩
  .cases hf
  .obtain⟨rfl,rfl,rfl⟩:=hf;exact dx6 h0 hs hc hz (ae m _ _ h1 h2)
 refine⟨hbr,λb b' x x' M M' h1 h2 _ _ _ h5=> ?_,λb hb=> ?_,λb hb=> ?_,λb M hb=> ?_,λi hi=>hi,λi _=>rfl,λb x M h1 h2 _=> ?_,e9 _,rfl,rfl,rfl,e9 _⟩
 .have q1:=hlt _ _ h1;have q2:=hlt _ _ h2;rcases h5 with h5|h5|h5|h5
  .omega
  .omega
  .rw[harr _ _ h1]at h5;cases h5
  .rw[harr _ _ h2]at h5;cases h5
 .rw[ao,t7 (by omega)];rfl
 .rw[hn]at hb;rw[hg,t7 hb]
 .obtain⟨sig,m,a,len,cap,h1,h2,h0,rfl,h4⟩:=hloc b M hb;obtain⟨C,e',lo,hi,hh,_⟩:=hbr b _ _ (by rw[hg];exact h4) hb;exact(S4.1 hh).1
 grind
theorem XW{O:cq}{I:Opq}: ∀{L:List Sh} {vs:List Value} {n b:Nat},yF (KJ w) L vs->(∀(i:Nat) s v,L[i]? =some s->vs[i]? =some v->I.w (n+i)=AC w s v)->(∀(j:Nat) x,(pg L vs)[j]? =some x->O (b+j)=x)->ct O I (Ja L n b) vs
 | [],_,_,_,h,_,_=>by rw[h];rfl
 |s::r,_,n,b,⟨v,vs,rfl,hf,h⟩,ae,ao=>by
  have hv:=ae 0 s v rfl rfl;rw[Nat.add_zero]at hv;have hrest:ct O I (Ja r (n+1) (b+Py s)) vs:=by
   refine XW h (λi s' v' h1 h2=> ?_) (λj x hx=> ?_)
   .have:=ae (i+1) s' v' (by trivial) (by trivial);grind
   .cases s with
    |col c=>exact ao j x hx
    |sl sig=>
     have:=ao (j+1) x (by trivial);grind[Py]
  refine⟨v,vs,rfl,?_,hrest⟩;cases s with
  |col c=>
   cases c with
   |int k=>obtain⟨m,rfl,_⟩:=hf;show Value.int k m= .int k (I.w n).toI;rw[hv];rfl
   |str=>obtain⟨m,rfl⟩:=hf;show Value.string m= .string ⟨(I.w n).toS.toArray⟩;simp_all[AC,Nj,Val.toS]
   |bool=>obtain⟨m,rfl⟩:=hf;show Value.bool m= .bool (I.w n).toB;rw[hv];rfl
  |sl sig=>
   rcases hf with rfl|⟨a,len,cap,rfl,hs,hlc,hc,hz⟩
   .refine .inr ⟨none,0,rfl,λ_=>rfl,?_⟩;show(((I.w n).toL.length:Nat):Int)=0;rw[hv];rfl
   .have hd:dI I (.op .llen [.va n])=(len:Int):=by
     show(((I.w n).toL.length:Nat):Int)=len;grind[AC,tU,Val.toL]
    by_cases h0:0<len
    .refine .inl ⟨⟨a.block,a.off,len*sig.length⟩,cap,a,?_,by grind,by omega,λ_=> ?_⟩
     .have:=ao 0 (some ⟨a.block,a.off,len*sig.length⟩) (by simp[pg,Ez,h0]);exact this
     .obtain⟨us,h1,h2⟩:=hc 0 h0;obtain⟨h3,h4⟩:=XB h1;have h5:=h4 0 hs;rw[l7 (by omega)]at h5;have e0:(a.add (0*sig.length)).add 0=a.add 0:=by simp[Addr.add]
      rw[e0]at h5;obtain⟨_,_,_,_,_,_,h6⟩:=WC h5;have:(dI I (.ci 0)).toNat=0:=rfl;rw[this,Q9,Nat.add_zero,<-h6 rfl]
    .obtain rfl:len=0:=by omega
     exact .inr ⟨some a,cap,rfl,λhh=>(by cases hh),hd⟩
def MT(F:Nat->List Val->Val)(P:Program)(w:World)(L:List Sh)(cells:List Value):Opq:=⟨λ_=> .bool false,λn=>AC w (L.getD n (.col .bool)) (cells.getD n (.bool false)),F,λ_=>rfl,λt=>gv P t,λ_=>none⟩
def Lx(r:Res):Option (SX×AV):=match r with
 | .val v _=>some (.cb true,v)
 | .need e v _=>some (e,v)
 |_=>none
theorem c64{r:Res}{e:SX}{v:AV}{I:Opq}(h:Lx r=some (e,v))(hd:dB I e=true): ∃h',r= .val v h'\/ ∃x,r= .need x v h'/\dB I x=true:=by
 unfold Lx at h;grind
theorem da9{E:Env}{F:Nat->List Val->Val}{x:HC}(hx:cD E (OB F E.P) x)(ho:tr x.c x.nv=true){L:List Sh}{cells:List Value}(hfit:yF (KJ w) L cells)(hb:x.c.blks=mE L 0)(hmt:x.c.mt=x.c.blks.length)
 {us:List Value} (hus: ∀O I,ct O I (Ja L 0 0) cells->ct O I x.c.args us) {e:SX} (he:Lx (kH x.c x.nv x.c.args x.c.heap)=some (e,.obool (.cb true))) (hd:dB (MT F E.P w L cells) e=true):
 Calls E.P x.f us.toArray w (λe w'=>e= .returned (.bool true)/\RowKit.Below w.heap.size w w'):=by
 obtain⟨h',hh⟩:=c64 he hd;obtain⟨hn,hwm,gf⟩:=x.c.heap_ok (ZF ho).lt;have ae: ∀(i:Nat) s v,L[i]? =some s->cells[i]? =some v->(MT F E.P w L cells).w i=AC w s v:=λi s v h1 h2=>by
  show AC w (L.getD i (.col .bool)) (cells.getD i (.bool false))=_;grind
 have hr:HR (λb=>((pg L cells)[b]?).getD none) (MT F E.P w L cells) (· <w.heap.size) w x.c.heap w:=
  dx7 hfit ae (λ_=>rfl) (by grind) (by grind) (λb=>by grind)
 have hv:=hus _ _ (XW (O:=λb=>((pg L cells)[b]?).getD none) (I:=MT F E.P w L cells) (n:=0) (b:=0) hfit (λi s v h1 h2=>by grind) (λj y hy=>by
  grind))
 refine Calls.mono (hx _ ⟨rfl,λ_=>rfl⟩ _ _ _ _ hh (· <w.heap.size) w _ w us hr hv) ?_;rintro e' w' ⟨u,ac,rfl,h1,h3,_⟩;exact⟨by rw[show u= .bool true from h1],h3.os,h3.tape,h3.out,h3.size,h3.keep⟩
end
end Go.Ev
