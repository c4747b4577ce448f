import Derived.Test.YtcmjiepodnicoaaGreatE27a
import Derived.Below
import Derived.Carry
import Derived.OpenShut
import Derived.ChangeSame
import Derived.ChangeMaps5
import Derived.Test.YtcmjiepodnicoaaGreatE1
set_option linter.unusedSimpArgs false
set_option linter.unusedVariables false
namespace Go.Ev
open Go
variable{E:Env}{I:Opq}
theorem aZ8: ∀(vs:List AV) (i:Nat) (t:TF),i+vs.length<=256-> ∀n,(uM vs i t).get n=if i<=n/\n<i+vs.length then vs.getD (n-i) .undef else t.get n
 | [],i,t,_,n=>by rw[b9 (λhh=>by grind)];rfl
 |v::r,i,t,h,n=>by
  simp at h;simp[uM];rw[aZ8 r (i+1) _ (by omega) n,TF.get_set t i n v (by omega)];grind
theorem Yb{fn:FuncId}{O:cq}{args:List AV}{us:List Value}{nt:Nat}(ra:ct O I args us)(hl:Nat.max nt args.length<=256):
 dU O I ⟨uM args 0 TF.empty,Nat.max nt args.length,[],fn,[],none⟩ {tmps:=us.toArray++Array.replicate (nt-us.toArray.size) Go.undef,defers:=[]}:=by
 have hlen:=ra.length;have hargs:args.length<=256:=m7 (Nat.le_max_right _ _) hl;refine⟨?_,hl,λt _=> ?_,rfl,λp hp=>by cases hp⟩
 .grind
 .show VR O I ((uM args 0 TF.empty).get t) _;rw[aZ8 args 0 TF.empty (by omega) t];have hu: ∀v:Value,v=Go.undef->VR O I .undef v:=λv hv=>by subst hv;exact⟨#[],rfl,rfl⟩
  by_cases ht:t<args.length
  .have hg:args[t]? =some args[t]:=l7 ht;obtain⟨y,hy,ry⟩:=ra.get t _ hg;simp_all[j8,Nat.sub_zero,x7,Array.getElem?_append_left]
  .rw[b9 (by omega),TF.get_empty];rw[x7,Array.getElem?_append_right (by simp;omega),U9];grind
def Mh(tmps:Array Value):ResultVar->Sem Value
 | .tmp t=>pure (tmps.getD t Go.undef)
 | .cell x t=>do loadVar t (<-asAddr (tmps.getD x Go.undef))
theorem c49(fn:Func)(tmps:Array Value):results fn tmps=(do
 let vs <-fn.results.mapM (Mh tmps)
 pure (if h:vs.size=1 then vs[0]else .tuple vs)):=by
 rfl
theorem Wb{K:Nat->Prop}{w0 w:World}{h:Heap}{O:cq}{a:Fr}{act:Act}(r:HR O I K w0 h w)(f:dU O I a act): ∀{rs:List ResultVar} {vs:List AV},sB E.P a h rs=some vs->
 ∃us:List Value,ct O I vs us/\(rs.mapM (m:=Sem) (Mh act.tmps)).run E.P w= .ok us w
 | [],vs,e=>by simp[sB,j0]at e;subst e;exact⟨[],.nil,rfl⟩
 |q::rs,vs,e=>by
  simp[sB]at e;split at e
  .rename_i v vs' h1 h2;simp at e;subst e;obtain⟨us,u1,u2⟩:=Wb r f h2;cases q with
   |tmp t=>
    simp[Vp,j0]at h1;subst h1;refine⟨_::us,.cons (f.slot t id) u1,?_⟩;simp[M5,Mh,Sem.run_bind,Sem.run_pure,Result.andThen_ok,u2]
   |cell x t=>
    simp[Vp]at h1;obtain⟨u,v1,v2⟩:=bO2 (P:=E.P) r h1 (f.slot x id);refine⟨u::us,.cons v1 u1,?_⟩;have hp: ∃b o,a.slot x= .ptr b o:=by
     unfold Fw at h1;split at h1
     .exact⟨_,_,by assumption⟩
     .cases h1
    obtain⟨b,o,hbo⟩:=hp;have hs:=f.slot x id;rw[hbo]at hs;obtain⟨L,_,hs⟩:=hs;rw[hs]at v2;have v3:(loadVar t ⟨L.blk,L.off+o,none⟩).run E.P w= .ok u w:=v2;simp[M5,Mh,Sem.run_bind,hs,asAddr,Sem.run_pure,Result.andThen_ok,v3,u2]
  .cases e
theorem c50{K:Nat->Prop}{w0 w:World}{h:Heap}{O:cq}{a:Fr}{act:Act}(r:HR O I K w0 h w)(f:dU O I a act){fn:Func}{vs:List AV}(e:sB E.P a h fn.results.toList=some vs):
 ∃u,VR O I (VA vs) u/\(results fn act.tmps).run E.P w= .ok u w:=by
 obtain⟨us,u1,u2⟩:=Wb r f e;have hrun: ∀v,(if h:us.toArray.size=1 then us.toArray[0]else Value.tuple us.toArray)=v->(results fn act.tmps).run E.P w= .ok v w:=by
  grind[c49,Sem.run_bind,Array.mapM_eq_mapM_toList,Sem.run_map,Result.andThen_ok,Sem.run_pure]
 cases vs with
 |nil=>
  rw[show us=[]from u1]at hrun;exact⟨_,⟨#[],rfl,rfl⟩,hrun _ rfl⟩
 |cons v vs=>
  obtain⟨y,ys,rfl,p,q⟩:=u1;cases vs with
  |nil=>
   rw[show ys=[]from q]at hrun;exact⟨y,p,hrun _ rfl⟩
  |cons v2 vs=>
   obtain⟨y2,ys2,rfl,p2,q2⟩:=q;refine⟨_,⟨_,rfl,.cons p (.cons p2 q2)⟩,hrun _ ?_⟩;rfl
theorem Gs{F:Fence}{n:Nat}{P:Program}{fn:Func}{tmps:Array Value}{R R':Ending->World->Prop}(hr: ∀e w,R e w->R' e w): ∀{ds:List Deferred} {u:FrameMode} {w:World},LeavesInM F n P fn tmps R ds u w->LeavesInM F n P fn tmps R' ds u w
 | [],u,w,h=>by
   cases u with
   |run=>exact h
   |returning=>obtain⟨v,h1,h2⟩:=h;exact⟨v,h1,hr _ _ h2⟩
   |panicking c=>exact hr _ _ h
 |d::ds,u,w,⟨h0,h⟩=>by
  refine⟨h0,?_⟩;rcases h with⟨r,w',h1,h2,h3⟩|⟨h1,fv,cap,f,args,h2,h3,h4,h5⟩
  .exact .inl ⟨r,w',h1,h2,Gs hr h3⟩
  .refine .inr ⟨h1,fv,cap,f,args,h2,h3,h4,h5.mono λe u' w' he=> ?_⟩;cases e with
   |returned v=>exact Gs hr he
   |panicked c=>exact Gs hr he
   |outgrown=>grind
theorem Ze{R:Type}{A:Alg R}{T:R->Prop}(hA:AlgOk A T I){a:Fr}{act:Act}{h' hs:Heap}{k:AV->Heap->R}{fn:Func}{K:Nat->Prop}{w0 w':World}{ac ah:cq}(hke:T (Jp A h' k (sB E.P a h' fn.results.toList)))
 (hr':HR ac I K w0 h' w') (hf':dU ac I a act) (hst':St hs ah h' ac):
 ∃v,(results fn act.tmps).run E.P w'= .ok v w'/\ ∃u am v' h'',Ending.returned v= .returned u/\T (k v' h'')/\VR am I v' u/\HR am I K w0 h'' w'/\St hs ah h'' am:=by
 cases hres:sB E.P a h' fn.results.toList with
 |none=>rw[hres]at hke;exact absurd hke hA.bad
 |some vs=>
  rw[hres]at hke;obtain⟨u,u1,u2⟩:=c50 hr' hf' hres;exact⟨u,u2,u,ac,VA vs,h',rfl,hke,u1,hr',hst'⟩
theorem c51{n:Nat}(hk:oR E I n):SJ E I (n+1):=by
 intro R A T hA f args h k he K w0 O w us m r ra;have he:T (Uo E.P (ev E n) A f args h k (E.P.funcs[f]?)):=he;unfold Uo at he;split at he
 .exact absurd he hA.bad
 exact absurd (by assumption) hA.bad
theorem c52(hE:E.Ok I){n:Nat}(hl:JQ E I n)(hd:SJ E I n):JQ E I (n+1):=by
 intro R A T hA fn a ds h k he K w0 O act w dd r f hds;cases ds with
 |nil=>
  rw[show dd=[]from hds];obtain⟨v,h1,h2⟩:=Ze hA he r f (.refl _ _);exact⟨v,h1,h2⟩
 |cons x ds=>
  obtain⟨d,dr,rfl,hx,hds⟩:=hds;refine⟨by simp,?_⟩;cases x with
  |coll b=>
   obtain⟨L,hL,rfl⟩:=hx;replace he:T (RD (ev E n) A fn.results.toList a ds b h k (h.get b)):=he;unfold RD at he;split at he
   .rename_i hg;obtain⟨hwm,he⟩:Nat.ble h.wm b=true/\T (ev E n R A (.leave fn.results.toList a ds (h.put b (some (.defd true))) k)):=by
     cases hcc:Nat.ble h.wm b with
     |false=>rw[hcc]at he;exact absurd he hA.bad
     |true=>grind
    rw[cW]at hwm;have hobj:w.heap[L.blk]? =some (.deferred (some [])):=r.blk b _ L hg hL;obtain⟨r1,s1⟩:=r.upd b _ (.defd true) L hg hL hwm (w':=w.putObj L.blk (.deferred none)) (λi hi=>World.putObj_heap_other hi) World.putObj_size rfl rfl rfl rfl (by
     rw[World.putObj_heap_same (r.lt b L hL)];rfl)
    left;refine⟨L.blk,_,rfl,run_takeDeferred hobj,?_⟩;have:=hl R A T hA fn a ds _ k he K w0 O act _ dr r1 f hds;refine Gs ?_ this;rintro e w' ⟨u,ac,v,h',h1,h2,h3,h4,h5⟩;exact⟨u,ac,v,h',h1,h2,h3,h4,s1.trans h5⟩
   .exact absurd he hA.bad
  |fn g cap args=>
   obtain⟨us,cs,rfl,ra,rc⟩:=hx;replace he:T (QY (ev E n) A fn.results.toList a ds h k (Cp E g (args++cap) h)):=he;have hs:=ZT hE (f:=g) (args:=args++cap) (us:=us.toList++cs.toList) r (ra.append rc);unfold QY at he;split at he
   .exact absurd (by assumption) hA.bad
   .exact absurd he hA.bad
theorem cm0{n:Nat}(hk:oR E I n)(hlv:JQ E I n):ED E I (n+1):=by
 intro R A T hA f args h k he K w0 O w us r ra;have he:T (Tf E.P (ev E n) A f args h k (E.P.funcs[f]?)):=he;unfold Tf at he;split at he
 .exact absurd he hA.bad
 .rename_i fn hf;split at he
  .exact absurd he hA.bad
  .rename_i c hb;obtain⟨hlim,he⟩:Nat.ble (Nat.max fn.ntmps args.length) 256=true/\T (ev E n R A (.code c ⟨uM args 0 TF.empty,Nat.max fn.ntmps args.length,[],f,[],none⟩ h (cS6 E.P (ev E n) A fn.results.toList k))):=by
    cases hc:Nat.ble (Nat.max fn.ntmps args.length) 256 with
    |false=>rw[hc]at he;exact absurd he hA.bad
    |true=>grind
   rw[cW]at hlim;refine(callsIn_wide (n:=0)).1 (callsIn_of_wp_marks (F:=gT none) hf hb trivial (hk R A T hA c _ h _ he K w0 O _ w none _ r (Yb ra hlim) rfl ?_));intro e a' h' ac act' w' hke _ hf' hr' hst';have fin:(e= .norm\/e= .ret)->LeavesInM Fence.wide 0 E.P fn act'.tmps (λe w'=> ∃u ac v h',e= .returned u/\T (k v h')/\VR ac I v u/\HR ac I K w0 h' w'/\St h O h' ac) act'.defers .returning w':=by
    intro hee;have hke:T (match a'.ds with
     | []=>Jp A h' k (sB E.P a' h' fn.results.toList)
     |ds=>ev E n R A (.leave fn.results.toList a' ds h' k)):=by
     rcases hee with rfl|rfl<;>exact hke
    have hd:=hf'.defers;cases hds:a'.ds with
    |nil=>
     rw[hds]at hke hd;rw[show act'.defers=[]from hd];obtain⟨v,h1,h2⟩:=Ze hA hke hr' hf' hst';exact⟨v,h1,h2⟩
    |cons x y=>
     rw[hds]at hke;refine Gs ?_ (hlv R A T hA fn a' _ h' k hke K w0 ac act' w' _ hr' hf' (hds▸hd));rintro e w' ⟨u,ac,v,h',h1,h2,h3,h4,h5⟩;exact⟨u,ac,v,h',h1,h2,h3,h4,hst'.trans h5⟩
   cases e with
   |norm=>exact fin (.inl rfl)
   |ret=>exact fin (.inr rfl)
   |exit id=>exact absurd hke hA.bad
end Go.Ev
namespace Go.Ev
open Go
variable{E:Env}{I:Opq}{K:Nat->Prop}{w0 w w':World}{h h':Heap}{O ac:cq}
theorem HR.later(r:HR O I K w0 h w)(hpre: ∀i,i<w.heap.size->w'.heap[i]? =w.heap[i]?)(hsz:w.heap.size<=w'.heap.size)(hos:w'.os=w.os)(htp:w'.tape=w.tape)(hout:w'.output=w.output)(hdr:w.drawn<=w'.drawn):HR O I K w0 h w':=by
 refine⟨λb x L hg hb=> ?_,r.sep,r.fresh,r.fget,λb L hb=>x9 (r.lt b L hb) hsz,r.kin,λi hi=> ?_,r.free,m7 r.size hsz,hos.trans r.os,htp.trans r.tape,hout.trans r.out,m7 r.dr hdr⟩
 .rw[hpre _ (r.lt b L hb)];exact r.blk b x L hg hb
 .rw[hpre _ (x9 (r.kin i hi) r.size)];exact r.keep i hi
theorem HR.later2(r:HR O I K w0 h w)(hpre: ∀b x L,h.get b=some x->O b=some L->w'.heap[L.blk]? =w.heap[L.blk]?)(hK: ∀i,K i->w'.heap[i]? =w.heap[i]?)(hsz:w.heap.size<=w'.heap.size)(hos:w'.os=w.os)(htp:w'.tape=w.tape)(hout:w'.output=w.output)(hdr:w.drawn<=w'.drawn):HR O I K w0 h w':=by
 refine⟨λb x L hg hb=> ?_,r.sep,r.fresh,r.fget,λb L hb=>x9 (r.lt b L hb) hsz,r.kin,λi hi=> ?_,r.free,m7 r.size hsz,hos.trans r.os,htp.trans r.tape,hout.trans r.out,m7 r.dr hdr⟩
 .rw[hpre b x L hg hb];exact r.blk b x L hg hb
 .rw[hK i hi];exact r.keep i hi
theorem HR.row(r:HR O I K w0 h w')(L:Loc)(hn: ∀b y M,h.get b=some y->O b=some M->M.blk≠L.blk)(hk: ¬K L.blk)(hlt:L.blk<w'.heap.size)(x:Blk)(hx:BR (O.add h.next L) I L w'.heap[L.blk]? x):
 HR (O.add h.next L) I K w0 (h.new x) w'/\St h O (h.new x) (O.add h.next L):=by
 have hst:St h O (h.new x) (O.add h.next L):=by
  refine⟨by simp,λb hb=> ?_,λb hb _=> ?_,rfl⟩
  .simp[cq.add];grind
  .left;rw[Heap.get_new,b9 (by omega)]
 have hle:=hst.Le r;refine⟨⟨?_,?_,?_,?_,?_,r.kin,r.keep,?_,r.size,r.os,r.tape,r.out,r.dr⟩,hst⟩
 .intro b y M hg hb;rw[Heap.get_new]at hg;simp[cq.add]at hb;by_cases e:b=h.next
  .grind
  .rw[b9 e]at hg hb;exact(r.blk b y M hg hb).mono hle
 .intro b1 b2 y1 y2 M1 M2 g1 g2 m1 m2 hne hw;rw[Heap.get_new]at g1 g2;simp[cq.add]at m1 m2;by_cases e1:b1=h.next
  .grind
  .rw[b9 e1]at g1 m1;by_cases e2:b2=h.next
   .grind
   .rw[b9 e2]at g2 m2;exact r.sep b1 b2 y1 y2 M1 M2 g1 g2 m1 m2 hne hw
 .intro b hb;simp at hb;simp[cq.add];rw[b9 (by omega)];exact r.fresh b (by omega)
 .intro b hb;simp at hb;rw[Heap.get_new,b9 (by omega)];exact r.fget b (by omega)
 .intro b M hb;simp[cq.add]at hb;split at hb
  .grind
  .exact r.lt b M hb
 .intro b y M hg hw hb;rw[Heap.get_new]at hg;simp[cq.add]at hb;by_cases e:b=h.next
  .grind
  .rw[b9 e]at hg hb;exact r.free b y M hg hw hb
theorem OG{v:AV}{u:Value}(hp:AR v=true)(r:VR O I v u):VR ac I v u:=by
 cases v<;>simp only[AR,s6]at hp<;>exact r
theorem bb3: ∀{vs:List AV} {us:List Value},vs.all AR=true->ct O I vs us->ct ac I vs us
 | [],_,_,r=>r
 |v::vs,_,hp,⟨u,ur,e,p,q⟩=>by
  simp only[List.all_cons,j6]at hp;exact⟨u,ur,e,OG hp.1 p,bb3 hp.2 q⟩
theorem Out.beq_eq: ∀{a b:Out},Out.beq a b=true->a=b
 | .plain a,.plain b,h=>by trivial
 | .row e l s c,.row e' l' s' c',h=>by
   simp[Out.beq,j6,Nat.beq_eq]at h;grind[AV.beqs_eq]
 | .plain _,.row _ _ _ _,h=>by cases h
 | .row _ _ _ _,.plain _,h=>by cases h
theorem bb4: ∀{a b:List Out},Kf a b=true->a=b
 | [],[],_=>rfl
 | [],_::_,h=>by cases h
 |_::_,[],h=>by cases h
 |a::x,b::y,h=>by
  simp[Kf,j6]at h;rw[Out.beq_eq h.1,bb4 h.2]
end Go.Ev
namespace Go.Ev
open Go
variable{cs:List AV}
variable{E:Env}{I:Opq}{K:Nat->Prop}{w0 w w':World}{h h':Heap}{O ac:cq}
theorem Yn{n:Nat}{v:AV}{o:Out}(e:UY n h' v=some o):(AR v=true/\o= .plain v)\/
 (∃b len sz t cs,v= .us b 0 len sz/\n<=b/\h'.get b=some (.cells t 0 cs)/\cs.length=len*sz/\cs.all AR=true/\o= .row t len sz cs):=by
 unfold UY at e;split at e
 .rename_i b len sz;cases hb:Nat.ble n b with
  |false=>rw[hb]at e;cases e
  |true=>
   rw[hb]at e;split at e
   .rename_i t cs hg;cases hc:(Nat.beq cs.length (len*sz)&&cs.all AR)with
    |false=>rw[hc]at e;cases e
    |true=>
     rw[hc]at e;simp at e;simp only[j6,Nat.beq_eq]at hc;exact .inr ⟨b,len,sz,t,cs,rfl,cW.1 hb,hg,hc.1,hc.2,e.symm⟩
   .cases e
 grind
theorem Yp{am:cq}{n:Nat}: ∀{vs:List AV} {us:List Value} {l:List Out},uB n h' vs=some l->tg l=0->ct ac I vs us-> ∀h,(mq l h).2=h/\ct am I (mq l h).1 us
 | [],us,l,e,hr,r,h=>by
   simp[uB,j0]at e;subst e;trivial
 |v::vs,us,l,e,hr,⟨u,ur,e2,p,q⟩,h=>by
  simp[uB]at e;split at e
  .rename_i o os h1 h2;simp at e;subst e;rcases Yn h1 with⟨hp,rfl⟩|⟨b,len,sz,t,cs,rfl,_,_,_,_,rfl⟩
   .obtain⟨g1,g2⟩:=Yp (am:=am) h2 (by trivial) q h;exact⟨g1,u,ur,e2,OG hp p,g2⟩
   grind[tg]
  .cases e
def NI(K:Nat->Prop)(hd:Heap)(O:cq)(h':Heap)(ac:cq):Prop:=
 ∀b L y,h'.get b=some y->hd.next<=b->ac b=some L->(∀b2 x M,hd.get b2=some x->O b2=some M->M.blk≠L.blk)/\ ¬K L.blk
theorem WV{K':Nat->Prop}{w1:World}(rh:HR O I K w0 h w')(r':HR ac I K' w1 h' w')(hap:NI K h O h' ac): ∀{vs:List AV} {us:List Value} {l:List Out},
 uB h.next h' vs=some l->tg l<=1->ct ac I vs us-> ∃am,ct am I (mq l h).1 us/\HR am I K w0 (mq l h).2 w'/\St h O (mq l h).2 am
 | [],us,l,e,hr,ra=>by
   simp[uB,j0]at e;subst e;exact⟨O,ra,rh,.refl _ _⟩
 |v::vs,us,l,e,hr,⟨u,ur,e2,p,q⟩=>by
  simp[uB]at e;split at e
  .rename_i o os h1 h2;simp at e;subst e;rcases Yn h1 with⟨hp,rfl⟩|⟨b,len,sz,t,cs,rfl,hb,hg,hl,hall,rfl⟩
   .obtain⟨am,g1,g2,g3⟩:=WV rh r' hap h2 (by grind[tg]) q;exact⟨am,⟨u,ur,e2,OG hp p,g1⟩,g2,g3⟩
   .obtain⟨L,cap,hL,hcap,hu⟩:=p;obtain⟨ha1,ha2⟩:=hap b L _ hg hb hL;obtain⟨C,lo,hi,xs,b1,b2,b3,b4,b5,b6,b7,b8⟩:=r'.blk b _ L hg hL;have hrow:=HR.row rh L ha1 ha2 (r'.lt b L hL) (.cells t 0 cs) ⟨C,lo,hi,xs,b1,b2,b3,b4,bb3 hall b5,b6,b7,b8⟩;obtain⟨k1,k2⟩:=Yp (am:=O.add h.next L) h2 (by simp[tg]at hr;exact hr) q (h.new (.cells t 0 cs));have hlay1:(mq (Out.row t len sz cs::os) h).1= .us h.next 0 len sz::(mq os (h.new (.cells t 0 cs))).1:=rfl
    have hlay2:(mq (Out.row t len sz cs::os) h).2=(mq os (h.new (.cells t 0 cs))).2:=rfl;refine⟨O.add h.next L,?_,?_,?_⟩
    .refine⟨u,ur,e2,⟨L,cap,?_,hcap,hu⟩,k2⟩;simp[cq.add]
    .rw[hlay2,k1];exact hrow.1
    grind
  .cases e
theorem Zw{K':Nat->Prop}{w1:World}(rh:HR O I K w0 h w')(r':HR ac I K' w1 h' w')(hap:NI K h O h' ac){v:AV}{u:Value}{b:Bool}{l:List Out}
 (e:BP h.next h' v=some (b,l)) (p:VR ac I v u): ∃am,VR am I (Oh b l h).1 u/\HR am I K w0 (Oh b l h).2 w'/\St h O (Oh b l h).2 am:=by
 have one: ∀{c:Bool} {m:List Out},Va c m=some (b,l)->c=b/\m=l/\tg l<=1:=by
  intro c m hh;unfold Va at hh;cases hc:Nat.ble (tg m) 1 with
  |false=>grind
  |true=>
   simp_all
 unfold BP at e;split at e
 .trivial
 .cases ho:uB h.next h' [v]with
  |none=>grind
  |some m=>
   rw[ho]at e;obtain⟨rfl,rfl,h1⟩:=one e;obtain⟨am,g1,g2,g3⟩:=WV (vs:=[v]) (us:=[u]) rh r' hap ho h1 ⟨u,[],rfl,p,rfl⟩;refine⟨am,?_,g2,g3⟩;obtain⟨x,xr,e2,p2⟩: ∃a as,(mq m h).1=a::as/\VR am I a u:=by
    cases hh:(mq m h).1 with
    |nil=>rw[hh]at g1;cases g1
    |cons a as=>
     rw[hh]at g1;obtain⟨y,yr,e3,p3,_⟩:=g1;cases e3;exact⟨a,as,rfl,p3⟩
   show VR am I ((mq m h).1.headD .undef) u;grind
def wy(E:Env)(I:Opq)(f:FuncId)(args:List AV)(h:Heap)(v:AV)(h':Heap):Prop:=
 ∀(K:Nat->Prop) (w0:World) (O:cq) (w:World) (us:List Value),HR O I K w0 h w->ct O I args us->
  Calls E.P f us.toArray w (λe w'=> ∃u ac,e= .returned u/\VR ac I v u/\HR ac I K w0 h' w'/\St h O h' ac)
structure HookOk (E:Env) (I:Opq):Prop where
 val: ∀(f:FuncId) (args:List AV) (h:Heap) (v:AV) (h':Heap),E.hook f args h= .val v h'->wy E I f args h v h'
 need: ∀(f:FuncId) (args:List AV) (h:Heap) (e:SX) (v:AV) (h':Heap),E.hook f args h= .need e v h'->dB I e=true->wy E I f args h v h'
theorem bF5(hn: ∀f args h,E.hook f args h= .bad):HookOk E I:=
 ⟨λf args h v h' e=>(by grind),λf args h c v h' e=>(by grind)⟩
@[simp]theorem Heap.get_raise(h:Heap)(b:Nat):h.raise.get b=h.get b:=by rfl
@[simp]theorem Heap.next_raise(h:Heap):h.raise.next=h.next:=by rfl
@[simp]theorem Heap.wm_raise(h:Heap):h.raise.wm=h.next:=by rfl
theorem HR.raise(r:HR O I K w0 h w):HR O I (· <w.heap.size) w h.raise w:=by
 refine⟨λb x L hg hb=>r.blk b x L (by simp_all) hb,λb b' x x' L L' hg hg' hb hb' hne hw=>r.sep b b' x x' L L' (by simp_all) (by simp_all) hb hb' hne (by
  rcases hw with q|q|q
  .rw[r.fresh b q]at hb;cases hb
  .rw[r.fresh b' q]at hb';cases hb'
  grind),λb hb=>r.fresh b (by simp_all),
  λb hb=>by exact r.fget b (by simp_all),r.lt,λi hi=>hi,λi _=>rfl,?_,e9 _,rfl,rfl,rfl,e9 _⟩
 intro b x L hg hw hb;rw[r.fresh b hw]at hb;cases hb
theorem cm1{n:Nat}{b:Bool}{l:List Out}{v:AV}(h1:CJ n (some (b,l)) v h'=true):BP n h' v=some (b,l):=by
 simp[CJ]at h1;cases hx:BP n h' v with
 |none=>rw[hx]at h1;cases h1
 |some p=>
  rw[hx]at h1;simp[YR,j6]at h1;obtain⟨c,m⟩:=p;simp only at h1;rw[bb4 h1.2];grind
theorem cm2(r:HR O I K w0 h w)(r':HR ac I (· <w.heap.size) w h' w')(s':St h.raise O h' ac):HR O I K w0 h w'/\NI K h O h' ac:=by
 refine⟨r.later (λi hi=>r'.keep i hi) r'.size r'.os r'.tape r'.out r'.dr,λb L y hg hb hL=> ?_⟩;have hwm:h'.wm=h.next:=s'.wm
 have hge:w.heap.size<=L.blk:=by
  have:=r'.free b _ L hg (by omega) hL;omega
 refine⟨λb2 x M _ hM=> ?_,λhk=> ?_⟩
 .have:=r.lt b2 M hM;omega
 .have:=x9 (r.kin _ hk) r.size;omega
theorem Yk: ∀{n:Nat} {l:List Value},l.length=n->ct O I (dZ n [.any]) l
 |0,[],_=> .nil
 |n+1,v::l,h=>⟨v,l,rfl,trivial,Yk (by grind)⟩
theorem bR6: ∀n:Nat,(dZ n [AV.any]).all AV.oneA=true
 |0=>rfl
 |n+1=>bR6 n
theorem QU: ∀n:Nat,(dZ n [AV.any]).length=n
 |0=>rfl
 |n+1=>by show(dZ n [AV.any]).length+1=n+1;rw[QU n]
theorem BR.wide{L:Loc}{o:Option Obj}{e sz:Nat}(r:BR O I L o (.cells e 0 cs))(hs:cs.length+sz<=L.ext):BR O I L o (.cells e 0 (cs++dZ sz [.any])):=by
 obtain⟨C,lo,hi,vs,q1,q2,q3,q4,q5,q6,q7,q8⟩:=r;have hl:=q5.length;have hlen:((C.toList.drop (L.off+cs.length)).take sz).length=sz:=by
  rw[l5,N9,Array.length_toList];omega
 refine⟨C,lo,hi,vs++(C.toList.drop (L.off+cs.length)).take sz,q1,q2,by rw[k5,QU];exact hs,by rw[C9,q4,bR6];rfl,q5.append (Yk hlen),λi hi2=> ?_,q7,q8⟩;rw[k5,QU]at hi2;grind
theorem HR.capH{b e sz:Nat}{L:Loc}(r:HR O I K w0 h w)(hg:h.get b=some (.cells e 0 cs))(hL:O b=some L)(hs:cs.length+sz<=L.ext):
 HR (O.add h.next L) I (λi=>i<w.heap.size/\i≠L.blk) w (capH h b e (cs++dZ sz [.any])) w:=by
 have hle:Le O (O.add h.next L):=by
  intro b' M hb;simp[cq.add];by_cases e:b'=h.next
  .subst e;rw[r.fresh _ (e9 _)]at hb;cases hb
  grind
 have gf: ∀z u,(Ev.capH h b e (cs++dZ sz [.any])).get z=some u->z=h.next/\u= .cells e 0 (cs++dZ sz [.any])\/z≠h.next/\z≠b/\h.get z=some u:=by
  intro z u hu;simp[Ev.capH]at hu;rw[Heap.get_new]at hu;simp at hu;by_cases hz:z=h.next
  .rw[e8 hz]at hu;split at hu
   .simp at hu;exact .inl ⟨hz,hu.symm⟩
   .cases hu
  simp_all[b9,Heap.get_put,e8]
 have ao: ∀z M,z≠h.next->(O.add h.next L) z=some M->O z=some M:=by
  simp_all[cq.add,b9]
 have aD: ∀M,(O.add h.next L) h.next=some M->M=L:=by
  grind[cq.add_self,Option.some.injEq]
 refine⟨?_,?_,?_,?_,?_,λi hi=>hi.1,λi _=>rfl,?_,e9 _,rfl,rfl,rfl,e9 _⟩
 .intro z u M hu hM;rcases gf z u hu with⟨rfl,rfl⟩|⟨h1,h2,h3⟩
  .obtain rfl:=aD _ hM;exact BR.wide ((r.blk b _ M hg hL).mono hle) hs
  .exact(r.blk z u M h3 (ao z M h1 hM)).mono hle
 .intro z1 z2 u1 u2 M1 M2 g1 g2 m1 m2 hne hw;rcases gf z1 u1 g1 with⟨rfl,rfl⟩|⟨h1,h2,h3⟩
  .obtain rfl:=aD _ m1;rcases gf z2 u2 g2 with⟨rfl,rfl⟩|⟨k1,k2,k3⟩
   .omega
   .exact r.sep b z2 _ _ M1 M2 hg k3 hL (ao z2 M2 k1 m2) (λhh=>k2 hh.symm) (.inr (.inr (.inl rfl)))
  .rcases gf z2 u2 g2 with⟨rfl,rfl⟩|⟨k1,k2,k3⟩
   .obtain rfl:=aD _ m2;exact r.sep z1 b _ _ M1 M2 h3 hg (ao z1 M1 h1 m1) hL h2 (.inr (.inr (.inr rfl)))
   .refine r.sep z1 z2 _ _ M1 M2 h3 k3 (ao z1 M1 h1 m1) (ao z2 M2 k1 m2) hne ?_;rcases hw with q|q|q
    .rw[r.fget z1 q]at h3;cases h3
    .rw[r.fget z2 q]at k3;cases k3
    grind
 .intro z hz;simp[Ev.capH,Heap.next_new,Heap.next_raise,Heap.next_put]at hz;simp[cq.add];rw[b9 (by omega)];exact r.fresh z (by omega)
 .intro z hz;simp[Ev.capH,Heap.next_new,Heap.next_raise,Heap.next_put]at hz;cases hu:(Ev.capH h b e (cs++dZ sz [.any])).get z with
  |none=>rfl
  |some u=>
   rcases gf z u hu with⟨rfl,rfl⟩|⟨h1,h2,h3⟩
   .omega
   .rw[r.fget z (by omega)]at h3;cases h3
 .intro z M hM;by_cases hz:z=h.next
  .subst hz;obtain rfl:=aD _ hM;exact r.lt b M hL
  .exact r.lt z M (ao z M hz hM)
 .intro z u M hu hw hM hk;rcases gf z u hu with⟨rfl,rfl⟩|⟨h1,h2,h3⟩
  .grind
  .rw[r.fget z hw]at h3;cases h3
theorem d88{b e sz:Nat}{L:Loc}(r:HR O I K w0 h w)(hg:h.get b=some (.cells e 0 cs))(hL:O b=some L)(hwm:h.wm<=b)
 (r':HR ac I (λi=>i<w.heap.size/\i≠L.blk) w h' w') (s':St (capH h b e (cs++dZ sz [.any])) (O.add h.next L) h' ac):
 HR O I K w0 (h.put b none) w'/\NI K (h.put b none) O h' ac:=by
 have hlive: ∀z u M,(h.put b none).get z=some u->O z=some M->M.blk<w.heap.size/\M.blk≠L.blk:=by
  intro z u M hu hM;rw[Heap.get_put]at hu;by_cases hb:z=b
  .grind
  .rw[b9 hb]at hu;exact⟨r.lt z M hM,r.sep z b _ _ M L hu hg hM hL hb (.inr (.inr (.inr rfl)))⟩
 have hkl: ∀i,K i->i≠L.blk:=λi hi hh=>r.free b _ L hg hwm hL (hh▸hi)
 refine⟨HR.later2 (r.drop b).1 (λz u M hu hM=>r'.keep _ (hlive z u M hu hM)) (λi hi=>r'.keep _ ⟨x9 (r.kin i hi) r.size,hkl i hi⟩) r'.size r'.os r'.tape r'.out r'.dr,λz M u hu hz hM=> ?_⟩;have hw:h'.wm=h.next:=s'.wm
 have hf:=r'.free z u M hu (by simp_all) hM;refine⟨λz2 u2 M2 hu2 hM2 hh=> ?_,λhk=> ?_⟩
 .grind
 .exact hf ⟨x9 (r.kin _ hk) r.size,hkl _ hk⟩
theorem d89{args:List AV}{c:Cap2}(e:Mf args h=some c): ∃(len sz e:Nat) (k:IntKind) (i:Int) (rest cs:List AV),args= .us c.b 0 len sz:: .int k i::rest/\h.get c.b=some (.cells e 0 cs)/\h.wm<=c.b/\cs.length=len*sz/\0<sz/\
 c.full= .sl c.b 0 len len:: .int k i::rest/\c.wide= .us h.next 0 len sz:: .int k i::rest/\c.h=capH h c.b e (cs++dZ sz [.any]):=by
 unfold Mf at e;split at e
 .rename_i b len sz k i rest;split at e
  .rename_i el cs hg;obtain⟨hc,e⟩:=Z2 e;obtain⟨hc,h4⟩:=Z1 hc;obtain⟨hc,h3⟩:=Z1 hc;obtain⟨h1,h2⟩:=Z1 hc;rw[cW]at h1;rw[fc]at h4;simp at e;subst e;exact⟨len,sz,el,k,_,rest,cs,rfl,hg,h1,by simp_all,h4,rfl,rfl,rfl⟩
  .cases e
 .cases e
theorem cm4(hk:HookOk E I){n:Nat}(hb:ED E I n):QD E I (n+1):=by
 intro R A T hA f args h k he0 K w0 O w us r ra;have hc0:T (dt2 E (ev E n) A f args h k (E.hook f args h)):=he0;have fin: ∀(v:AV) (h':Heap),T (k v h')->wy E I f args h v h'->Calls E.P f us.toArray w (λe w'=> ∃u ac v h',e= .returned u/\T (k v h')/\VR ac I v u/\HR ac I K w0 h' w'/\St h O h' ac):=by
  intro v h' ht hp;refine Calls.mono (hp K w0 O w us r ra) ?_;grind
 have old:T (bif E.amb f then QJ (ev E n) A f args h k ((ev E n) (Option (AV×Heap)) TP (.body f args h.raise Qn))else
  bif E.caps f then US (ev E n) A f args h k (Mf args h)else(ev E n) R A (.body f args h k))->Calls E.P f us.toArray w (λe w'=> ∃u ac v h',e= .returned u/\T (k v h')/\VR ac I v u/\HR ac I K w0 h' w'/\St h O h' ac):=by
  intro he;cases ham:E.amb f with
  |false=>
   rw[ham]at he;cases hcp:E.caps f with
   |false=>
    rw[hcp]at he;exact hb R A T hA f args h k he K w0 O w us r ra
   |true=>
    rw[hcp]at he;unfold US at he;split at he
    .exact hb R A T hA f args h k he K w0 O w us r ra
    .rename_i c hc;unfold cS5 at he;split at he
     .exact absurd he hA.bad
     .unfold cS4 at he;split at he
      .exact absurd he hA.bad
      .rename_i b l hout;cases hrun:(ev E n Bool wL (.body f c.full h.raise (CJ h.next (some (b,l))))&&ev E n Bool wL (.body f c.wide c.h (CJ h.next (some (b,l)))))with
       |false=>rw[hrun]at he;exact absurd he hA.bad
       |true=>
        rw[hrun]at he;simp at hrun;obtain⟨run1,run2⟩:=hrun;obtain⟨len,sz,el,kk,i,rest,cs,rfl,hg,hwm,hlen,hsz,hf,hw,hch⟩:=d89 hc;obtain⟨u0,ur,rfl,p0,p1⟩:=ra;obtain⟨L,cap,hL,hcap,rfl⟩:=p0;have hdrop:=r.drop c.b;have hext:cs.length<=L.ext:=(r.cells hg hL).choose_spec.choose_spec.choose_spec.choose_spec.2.2.1;have hlc:len<=cap:=by
         rw[hlen,<-hcap,m9]at hext;exact F5 hext hsz
        by_cases hfull:cap=len
        .subst hfull;refine Calls.mono (hb Bool wL (· =true) (Xo I) f c.full h.raise _ run1 (· <w.heap.size) w O w _ r.raise (by rw[hf];exact⟨_,ur,rfl,⟨L,hL,rfl⟩,p1⟩)) ?_;rintro e w' ⟨u,ac,v,h',rfl,h1,h2,h3,h4⟩;obtain⟨g1,g2⟩:=cm2 r h3 h4;have hnx:(h.put c.b none).next=h.next:=by simp
         obtain⟨am,q1,q2,q3⟩:=Zw (h:=h.put c.b none) (g1.drop c.b).1 h3 (λz M y hy hz hM=>by
          obtain⟨a1,a2⟩:=g2 z M y hy (by exact hz) hM;refine⟨λz2 x2 M2 hx2 hM2=> ?_,a2⟩;rw[Heap.get_put]at hx2;grind) (by exact cm1 h1) h2
         exact⟨u,am,_,_,rfl,he,q1,q2,hdrop.2.trans q3⟩
        .have hmul:(len+1)*sz<=cap*sz:=A1 _ (by omega);have hs:cs.length+sz<=L.ext:=by grind
         have r1:=r.capH (e:=el) hg hL hs;have hle:Le O (O.add h.next L):=by
          intro b' M hb';simp[cq.add];by_cases e:b'=h.next
          .subst e;rw[r.fresh _ (e9 _)]at hb';cases hb'
          grind
         rw[hch]at run2;refine Calls.mono (hb Bool wL (· =true) (Xo I) f c.wide _ _ run2 _ w _ w _ r1 (by rw[hw];exact⟨_,ur,rfl,⟨L,cap,by simp[cq.add],hcap,rfl⟩,ct.mono hle _ _ p1⟩)) ?_;rintro e w' ⟨u,ac,v,h',rfl,h1,h2,h3,h4⟩;obtain⟨g1,g2⟩:=d88 r hg hL hwm h3 h4;have hnx:(h.put c.b none).next=h.next:=by simp
         obtain⟨am,q1,q2,q3⟩:=Zw (h:=h.put c.b none) g1 h3 g2 (by exact cm1 h1) h2;exact⟨u,am,_,_,rfl,he,q1,q2,hdrop.2.trans q3⟩
  |true=>
   rw[ham]at he;unfold QJ at he;split at he
   .exact absurd he hA.bad
   exact absurd (by assumption) hA.bad
 cases hh:E.hook f args h with
 |val v h'=>rw[hh]at hc0;exact fin v h' hc0 (hk.val _ _ _ _ _ hh)
 |need e v h'=>
  rw[hh]at hc0;obtain⟨h1,h2⟩:=hA.needA _ _ hc0;exact fin v h' h2 (hk.need _ _ _ _ _ _ hh h1)
 |_=>rw[hh]at hc0;exact old hc0
theorem Pk{Ω:Opq->Prop}(an: ∀I v0 l,Ω I->Ω (I.upd v0 l))(hE: ∀I,Ω I->E.Ok I)(hk: ∀I,Ω I->HookOk E I)(hm:E.P.follows .mixedOrders=true): ∀n,∀I,Ω I->(∀m,m<=n->yx E I m)/\ED E I n/\ML E I n/\wp E I n/\SJ E I n/\JQ E I n
 |0=>by
  intro I ae;refine⟨λm hm=> ?_,?_,?_,?_,?_,?_⟩
  .obtain rfl:m=0:=by omega
   refine⟨?_,?_⟩
   .intro R A T hA f args h k he;exact absurd he hA.bad
   .intro R A T hA c a h k he;exact absurd he hA.bad
  .intro R A T hA f args h k he;exact absurd he hA.bad
  .intro R A T hA c a h k he;exact absurd he hA.bad
  .intro R A T hA ops rest i a h k _ he;exact absurd he hA.bad
  .intro R A T hA f args h k he;exact absurd he hA.bad
  .intro R A T hA fn a ds h k he;exact absurd he hA.bad
 |n+1=>by
  intro I ae;have ih:=Pk an hE hk hm n;obtain⟨hc,hb,hl,ho,hdb,hlv⟩:=ih I ae;have hcd:oR E I n:=(hc n (e9 _)).2;refine⟨λm hmn=> ?_,cm0 hcd hlv,cl9 an ae (λaa h'=>((ih aa h').1 n (e9 _)).2) (λaa h'=>(ih aa h').2.2.2.1) hcd hl,cI4 (hE I ae) (hc n (e9 _)) ho,c51 hcd,c52 (hE I ae) hlv hdb⟩;rcases j9 m (n+1)with hlt|hge
  .grind
  .obtain rfl:m=n+1:=by omega
   exact⟨cm4 (hk I ae) hb,cl8 an ae (hE I ae) hm hc (λaa h'=>((ih aa h').1 n (e9 _)).2) hl ho⟩
end Go.Ev
namespace Go.Ev
open Go
variable{E:Env}{I:Opq}
theorem HR.start(w:World):HR (λ_=>none) I (· <w.heap.size) w Heap.empty w:=
 ⟨λb x L _ hb=>(by cases hb),λb b' x x' L L' _ _ hb=>(by cases hb),λ_ _=>rfl,λb _=>Heap.get_empty b,λb L hb=>(by cases hb),λi hi=>hi,λi _=>rfl,
  λb x L _ _ hb=>(by cases hb),e9 _,rfl,rfl,rfl,e9 _⟩
end Go.Ev
namespace Go.Ev
open Go Go.RowKit Go.WideShapes Go.ChangeShapes
section
variable{H:Type}{enc:TypeId×Value->H}{P:Program}
theorem aH7(hl:laidOutB P=true){W W':World}{sp':Nat->Bool}: ∀{ts:List TypeId} {vs:List Value} {ds:List (DataW H)} {ps:List MemPlace},DataW.TrodAll enc P W 0 (λ_=>true) true ts vs ds ps->
 (ts.all λt=>P.readableRec t&&decide (t<P.types.size))=true->(∀p∈ps,W.sameAt W' p)->(∀p∈ps,sp' p.block=true)->DataW.TrodAll enc P W' 0 sp' true ts vs ds ps
 | [],vs,ds,ps,h,_,_,_=>by
   obtain⟨rfl,rfl,rfl⟩:=trodAll_nil h;rfl
 |t::ts,vs,ds,ps,h,hr,hs,hp=>by
  obtain⟨v,vs',d,ds',p,q,rfl,rfl,rfl,h1,h2⟩:=trodAll_cons h;simp only[List.all_cons,j6,decide_eq_true_eq]at hr;exact trodAll_cons_mk (WideElems.Trod_stays hl hr.1.1 hr.1.2 h1 (λx hx=>hs x (by simp[hx])) (λx hx=>hp x (by simp[hx])))
   (aH7 hl h2 hr.2 (λx hx=>hs x (by simp[hx])) (λx hx=>hp x (by simp[hx])))
theorem cJ3{f:Func}{s:ChangeSpec}{W W':World}{args:Array Value}{ds:List (DataW H)}{before:List MemPlace}{tb:TypeId}
 (hW:DataW.Whole enc P f.params.toList s.vars false W args.toList ds [] before) (hv:s.vars=[]) (hfn:s.fn H ds={results:=[.lit (.bool true)],args:=ds})
 (hl:laidOutB P=true) (hr:(f.params.toList.all λt=>P.readableRec t&&decide (t<P.types.size))=true) (hb:Below W.heap.size W W')
 (hbool:P.underlying tb=some .bool) (hres:f.resultTypes= #[tb]):s.post enc P f false true false false W args (.bool true) W':=by
 have hlt: ∀p∈before,p.block<W.heap.size:=λp hp=>hW.lt p hp
 have hWW:=hW;obtain⟨p,q,hA,hV,rfl,hz,_⟩:=hWW;rw[hv]at hV;obtain rfl:q=[]:=hV;simp at hlt hz;have hsame: ∀x∈p,W.sameAt W' x:=λx hx=>hb.same (hlt x hx)
 have hargs: ∀sp:Nat->Bool,(∀x∈p,sp x.block=true)->DataW.TrodAll enc P W' 0 sp true f.params.toList args.toList ds p:=λsp hsp=>aH7 hl hA hr hsame hsp
 have hress: ∀(b:Nat) (sp:Nat->Bool) (hd:Bool),DataW.TrodAll enc P W' b sp hd f.resultTypes.toList ((Value.bool true).resultList f.resultTypes.size) [.lit (.bool true)] []:=λb sp hd=>by
  rw[hres];exact trodAll_mk1 (shut_bool hbool true)
 have hvs: ∀sp:Nat->Bool,DataW.TrodVars enc P W' sp s.vars [] []:=λsp=>by rw[hv];rfl
 have h0:s.fn H (ds++[])={results:=[.lit (.bool true)],args:=ds}:=by rw[s8];exact hfn
 refine⟨ds,[],p,[],p,[],by simpa using hW,?_,?_,?_,World.keptBut_mono (λx hx=>⟨hx,.inr (.inl hx)⟩) (hb.frame (· ∈p)),λh=>by cases h⟩
 .rw[h0];exact hress _ _ _
 .rw[h0];exact hargs _ (λx hx=>by simpa using hlt x hx)
 grind
end
def Nj:Value->Val
 | .int _ n=> .vi n
 | .string s=> .vs s.data.toList
 | .bool b=> .vb b
 |_=> .vb false
end Go.Ev
namespace Go.Ev
open Go
noncomputable section
structure LGen where
 id:Nat
 v0:Nat
 dead:List Nat
 own:List (Nat×Option Nat×Nat×List CT)
 abs:List Nat
 mem:List Nat
 fvs:List Nat
 exits:List (Ex×List (Nat×AV))
 maps:List (Nat×List CT×List CT):=[]
 gone:List Ex:=[]
 mapr:Bool:=false
 xown:List (Nat×Nat×List CT):=[]
mutual
def SB:AV->List SX
 | .oint _ e=>[e]
 | .ostr e=>[e]
 | .obool e=>[e]
 | .osl _ x y _=>[x,y]
 | .ous _ x _=>[x]
 | .agg l=>Us l
 | .iface _ x=>SB x
 |_=>[]
def Us:List AV->List SX
 | []=>[]
 |a::r=>SB a++Us r
end
def dv4(x:Option Blk):List SX:=match x with
 |some (.cells _ _ cs)=>Us cs
 |some (.arr _ _ l)=>[l]
 |some (.marr _ _ _ l)=>[l]
 |some (.bag _ _ l)=>[l]
 |some (.mrg _ _ _ _ l)=>[l]
 |_=>[]
mutual
def On(n:Nat):AV->AV×Nat
 | .int k _=>(.oint k (.va n),n+1)
 | .oint k _=>(.oint k (.va n),n+1)
 | .str _=>(.ostr (.va n),n+1)
 | .ostr _=>(.ostr (.va n),n+1)
 | .bool _=>(.obool (.va n),n+1)
 | .obool _=>(.obool (.va n),n+1)
 | .osl b _ _ s=>(.osl b (.va n) (.va (n+1)) s,n+2)
 | .ous b _ s=>(.ous b (.va n) s,n+1)
 | .agg l=>match UW n l with
   |(l',m)=>(.agg l',m)
 |x=>(x,n)
def UW(n:Nat):List AV->List AV×Nat
 | []=>([],n)
 |a::r=>match On n a with
  |(a',m)=>match UW m r with
   |(r',m')=>(a'::r',m')
end
def dN6(n:Nat)(x:Option Blk):Option Blk×Nat:=match x with
 |some (.cells e fz cs)=>match UW n cs with
  |(cs',m)=>(some (.cells e fz cs'),m)
 |some (.arr e sig _)=>(some (.arr e sig (.va n)),n+1)
 |some (.marr d ks vs _)=>(some (.marr d ks vs (.va n)),n+1)
 |x=>(x,n)
def Ux(t:Nat):List Nat->Bool
 | []=>false
 |a::r=>bif Nat.beq a t then true else Ux t r
def ZN(t:Nat):List (Nat×AV)->Option AV
 | []=>none
 |a::r=>bif Nat.beq a.1 t then some a.2 else ZN t r
def ON(look:Nat->Option AV):Nat->Nat->Nat->List (Nat×AV)×Nat
 |0,_,n=>([],n)
 |m+1,t,n=>match look t with
  |some v=>match On n v with
   |(v',n')=>match ON look m (t+1) n' with
    |(r,n'')=>((t,v')::r,n'')
  |none=>ON look m (t+1) n
def PV(b:Nat):List (Nat×List Nat)->Option (List Nat)
 | []=>none
 |x::r=>bif Nat.beq x.1 b then(match x.2,PV b r with
  | [],_=>some []
  |l,some []=>some []
  |l,some l'=>some (l++l')
  |l,none=>some l)else PV b r
def Pt(l:List Nat):Nat->Nat->List AV->List AV×Nat
 |_,n,[]=>([],n)
 |i,n,a::r=>bif Ux i l then(match On n a with
  |(a',m)=>match Pt l (i+1) m r with
   |(r',m')=>(a'::r',m'))
  else(match Pt l (i+1) n r with
   |(r',m')=>(a::r',m'))
def dN9(l:List Nat)(n:Nat)(x:Option Blk):Option Blk×Nat:=match l,x with
 |_::_,some (.cells e fz cs)=>(match Pt l 0 n cs with
  |(cs',m)=>(some (.cells e fz cs'),m))
 |_,x=>dN6 n x
def Vw(bs:List (Nat×List Nat))(h:Heap):Nat->Nat->Nat->List (Nat×Option Blk)×Nat
 |0,_,n=>([],n)
 |m+1,b,n=>match PV b bs with
  |some l=>(match dN9 l n (h.get b)with
   |(x,n')=>match Vw bs h m (b+1) n' with
    |(r,n'')=>((b,x)::r,n''))
  |none=>Vw bs h m (b+1) n
def PK(look:Nat->Option AV)(bs:List (Nat×List Nat))(nt:Nat)(h:Heap)(v0:Nat):StP:=match ON look nt 0 v0 with
 |(sl,n)=>match Vw bs h h.next 0 n with
  |(bl,_)=>⟨sl,bl,h.next⟩
def Vz(a:Fr)(n0 n:Nat):List (Nat×Option Nat×Nat×List CT)->List OwnP
 | []=>[]
 |(t,none,e,sig)::r=>⟨t,n,e,sig,none,false⟩::Vz a n0 (n+1) r
 |(t,some i,e,sig)::r=>(bif Nat.ble 1000 i then⟨t,n,e,sig,some (n0+(i/1000-1),i % 1000),false⟩else match a.slot t with
  | .ptr b o=>⟨t,n,e,sig,some (b,o+i),false⟩
  |_=>⟨t,n,e,sig,none,false⟩)::Vz a n0 (n+1) r
mutual
def sY:AV->List Nat
 | .ptr b _=>[b]
 | .osl b _ _ _=>[b]
 | .ous b _ _=>[b]
 | .map b=>[b]
 | .agg l=>HS l
 | .func _ _ l=>HS l
 |_=>[]
def HS:List AV->List Nat
 | []=>[]
 |a::r=>sY a++HS r
end
def dv6(a:Fr)(l:List Nat)(t:Nat):Option AV:=bif Ux t l then some (a.slot t)else none
def XV(a:Fr)(l:List Nat)(x:List (Nat×AV))(t:Nat):Option AV:=match ZN t x with
 |some v=>some v
 |none=>dv6 a l t
def dO0(h:Heap)(x:Option Blk):List SX:=match x with
 |some (.cells _ _ cs)=>(HS cs).flatMap λb=>dv4 (h.get b)
 |_=>[]
def wJ(h:Heap)(b:Nat):List Nat:=match h.get b with
 |some (.cells _ _ cs)=>HS cs
 |_=>[]
def e31(h:Heap)(b:Nat):List SX:=match h.get b with
 |some (.arr _ _ l)=>[l]
 |_=>[]
def fvS(a:Fr)(h:Heap)(t:Nat):List SX:=
 bif Nat.ble 2000 t then((sY (a.slot (t-2000))).flatMap (wJ h)).flatMap λb=>(wJ h b).flatMap (e31 h)
 else bif Nat.ble 1000 t then(sY (a.slot (t-1000))).flatMap λb=>(wJ h b).flatMap (e31 h)
 else SB (a.slot t)++((sY (a.slot t)).flatMap λb=>dv4 (h.get b)++dO0 h (h.get b))
def VZ(a:Fr)(h:Heap):List Nat->List SX
 | []=>[]
 |t::r=>fvS a h t++VZ a h r
def KC(l:List Nat):List (Nat×List Nat):=l.map λb=>(b,[])
def ea1(a:Fr)(h:Heap)(t:Nat):List (Nat×List Nat):=bif Nat.ble 10000 t then(sY (a.slot (t % 100))).map λb=>(b,[(t-10000)/100])
 else bif Nat.ble 1000 t then KC ((sY (a.slot (t-1000))).flatMap (wJ h))else KC (sY (a.slot t))
def exB:Ex->Ex->Bool
 | .norm,.norm=>true
 | .exit i,.exit j=>Nat.beq i j
 | .ret,.ret=>true
 |_,_=>false
def ea2(owns:List OwnP)(b:Nat):Bool:=owns.any λo=>Nat.beq o.blk b
def dv8(g:Bool)(owns:List OwnP)(s:StP):StP:=bif g then⟨s.slots,s.blks.map λx=>bif ea2 owns x.1 then(x.1,none)else x,s.next⟩else s
def dv9(n:Nat):List (Nat×Nat×List CT)->List OwnP
 | []=>[]
 |(t,e,sig)::r=>⟨t,n,e,sig,none,true⟩::dv9 (n+1) r
def Zo:List OwnP->Heap->Heap
 | [],h=>h
 |o::r,h=>Zo r (h.put o.blk (some (.arr o.elem o.sig (.op .row []))))
def slX(l:List OwnP):List (Nat×AV):=l.map λo=>(o.slot,.ous o.blk (.va 0) o.sig.length)
def dO1(g:LGen)(owns lz:List OwnP)(p:Fr×Heap)(bs:List (Nat×List Nat))(x:Ex×List (Nat×AV)):StP:=bif exB .ret x.1 then PK (XV p.1 g.abs (x.2++slX lz)) (bs++KC (lz.map (·.blk))) p.1.nt (Zo lz p.2) g.v0 else PK (XV p.1 g.abs x.2) bs p.1.nt p.2 g.v0
def dO2(g:LGen)(owns lz:List OwnP)(p:Fr×Heap)(bs:List (Nat×List Nat)):LSpec:=
 ⟨g.id,owns++lz,g.v0,VZ p.1 p.2 g.fvs,g.dead,PK (dv6 p.1 g.abs) bs p.1.nt p.2 g.v0,g.exits.map λx=>(x.1,dv8 (g.gone.any (exB x.1)) owns (dO1 g owns lz p bs x)),g.mapr⟩
def Jg(ks vs:List CT)(h:Heap)(b:Nat):Heap:=match h.get b with
 |some (.map [] c)=>h.put b (some (.marr (Nat.beq c 0) ks vs (.op .row [])))
 |_=>h
def Rp(h:Heap):AV->Heap
 | .map b=>(match h.get b with
   |some (.marr _ ks vs l)=>h.put b (some (.marr false ks vs l))
   |_=>h)
 |_=>h
def xR(a:Fr):List (Nat×List CT×List CT)->Heap->Heap
 | [],h=>h
 |(t,ks,vs)::r,h=>bif Nat.ble 40000 t then xR a r ((((sY (a.slot (t-40000))).flatMap (wJ h)).flatMap (wJ h)).foldl (λh b=>Rp (Jg ks vs h b) (.map b)) h)else bif Nat.ble 30000 t then xR a r (((sY (a.slot (t-30000))).flatMap (wJ h)).foldl (λh b=>Rp (Jg ks vs h b) (.map b)) h)else bif Nat.ble 20000 t then xR a r (Rp h (a.slot (t-20000)))else bif Nat.ble 1000 t then xR a r (((sY (a.slot (t-1000))).flatMap (wJ h)).foldl (Jg ks vs) h)else(match a.slot t with
  | .map b=>xR a r (Jg ks vs h b)
  |_=>xR a r h)
def dw0(h:Heap)(o:OwnP):Bool:=match h.get o.blk with
 |some (.cells _ _ _)=>false
 |_=>true
def dO3(g:LGen)(a:Fr)(h:Heap)(owns lz:List OwnP):LSpec:=
 match iZ ⟨g.id,owns++lz,g.v0,[],g.dead,⟨[],[],0⟩,[],false⟩ (fH owns a h).2 (h.upto (Nat.add h.next (Nat.add owns.length lz.length)))with
  |p=>dO2 g owns lz (p.1,xR p.1 g.maps p.2) (KC ((owns.filter (dw0 p.2)).map (·.blk))++(g.mem.map (ea1 p.1 p.2)).flatten)
def dy(g:LGen)(a:Fr)(h:Heap):LSpec:=dO3 g a h (Vz a h.next h.next g.own) (dv9 (Nat.add h.next g.own.length) g.xown)
mutual
def iH:AV->List AV
 | .agg cs=>cs
 | .tup vs=>sJ vs
 |v=>[v]
def sJ:List AV->List AV
 | []=>[]
 |a::r=>iH a++sJ r
end
inductive BSrc where
 |whole (b:Nat)
 |view (v:AV)
 deriving Inhabited
structure FC where
 args:List AV
 blks:List Blk
 mt:Nat
 need:SX
 out:AV
 post:List (Option Blk)
 outs:List SX
mutual
def kS(es:List SX):SX->SX
 | .va n=>es.getD n (.va n)
 | .op p l=> .op p (IF es l)
 | .app f l=> .app f (IF es l)
 |x=>x
def IF(es:List SX):List SX->List SX
 | []=>[]
 |a::r=>kS es a::IF es r
end
def Nf(sz:Nat)(sig:List CT)(n:Nat)(cs:List AV):Option (SX×SX):=match nT sig sz n cs with
 |some rs=>some (.cb true,.op .row rs)
 |none=>none
def Em(sz elem:Nat)(sig:List CT)(x:AV)(h:Heap):Option (SX×SX):=match x with
 | .nils=>some (.cb true,.op .row [])
 | .ous b len s=>match h.get b with
   |some (.arr e sg l)=>bif Nat.beq s sz&&Nat.beq e elem&&iE sg sig then(bif SX.beq len (.op .llen [l])then some (.cb true,l)else some (.op .and [.op (.cmp .leq) [.ci 0,len],.op (.cmp .leq) [len,.op .llen [l]]],.op .lsub [l,.ci 0,len]))else none
   |_=>none
 | .osl b off len s=>match h.get b with
   |some (.arr e sg l)=>bif Nat.beq s sz&&Nat.beq e elem&&iE sg sig then(bif SX.beq off (.ci 0)&&SX.beq len (.op .llen [l])then some (.cb true,l)else some (.op .and [.op (.cmp .leq) [.ci 0,off],.op .and [.op (.cmp .leq) [.ci 0,len],.op (.cmp .leq) [.op .iadd [off,len],.op .llen [l]]]],.op .lsub [l,off,.op .iadd [off,len]]))else none
   |_=>none
 | .sl b o n c=>match h.get b with
   |some (.cells e fz cs)=>bif Nat.beq e elem&&Nat.ble n c&&Nat.ble fz o&&Nat.ble (o+n*sz) cs.length&&Nat.blt 0 n then Nf sz sig n ((cs.drop o).take (n*sz))else none
   |_=>none
 | .us b o n s=>match h.get b with
   |some (.cells e fz cs)=>bif Nat.blt 0 sz&&Nat.beq s sz&&Nat.beq e elem&&Nat.ble fz o&&Nat.ble (o+n*sz) cs.length then Nf sz sig n ((cs.drop o).take (n*sz))else none
   |_=>none
 |_=>none
def IW(elem:Nat)(x:Option Blk):Nat:=match x with
 |some (.arr e _ _)=>e
 |some (.cells e _ _)=>e
 |_=>elem
def dO4(x:AV)(h:Heap)(elem:Nat):Nat:=match x with
 | .ous b _ _=>IW elem (h.get b)
 | .osl b _ _ _=>IW elem (h.get b)
 | .sl b _ _ _=>IW elem (h.get b)
 | .us b _ _ _=>IW elem (h.get b)
 |_=>elem
def ZS(x:AV)(h:Heap)(elem:Nat):Nat:=bif Nat.beq elem jM then dO4 x h elem else elem
def Cn(sz elem:Nat)(sig:List CT)(x:AV)(h:Heap):Option (SX×SX):=Em sz (ZS x h elem) sig x h
structure Bnd where
 src:List (Nat×BSrc)
 sx:List (Nat×SX)
def Tx{α:Type}(i:Nat):List (Nat×α)->Bool
 | []=>false
 |a::r=>bif Nat.beq a.1 i then true else Tx i r
def Bnd.addS(B:Bnd)(i:Nat)(s:BSrc):Bnd:=bif Tx i B.src then B else⟨(i,s)::B.src,B.sx⟩
def KI{α:Type}(i:Nat):List (Nat×α)->Option α
 | []=>none
 |a::r=>bif Nat.beq a.1 i then some a.2 else KI i r
def Bnd.addG(B:Bnd)(j:Nat)(x:SX):Bnd:=match KI j B.sx with
 |none=>(match x with
  | .op .lget [.app f l,.ci (.ofNat 0),_]=>⟨B.src,(j,.app f l)::B.sx⟩
  | .op .lget [.va n,.ci (.ofNat 0),_]=>⟨B.src,(j,.va n)::B.sx⟩
  |x=>⟨B.src,(j,.op .row [.op .row [x]])::B.sx⟩)
 |some (.op .row [.op .row l])=>⟨B.src,(j,.op .row [.op .row (l++[x])])::B.sx⟩
 |some _=>B
def Bnd.addX(B:Bnd)(p x:SX):Bnd:=match p with
 | .va j=>bif Tx j B.sx then B else⟨B.src,(j,x)::B.sx⟩
 | .op .lget [.va j,_,_]=>B.addG j x
 |_=>B
def Bnd.addO(B:Bnd)(p:SX)(x:Option SX):Bnd:=match x with
 |some x=>B.addX p x
 |none=>B
def yZ(p q:SX):Bool:=match p,q with
 | .ci 0,.op .llen _=>true
 |_,_=>false
mutual
def Xp(B:Bnd):AV->AV->Bnd
 | .oint _ p,x=>B.addO p ((kz x).map (·.2))
 | .ostr p,x=>B.addO p (oN x)
 | .obool p,x=>B.addO p (ut x)
 | .agg ps,.agg xs=>yV B ps xs
 | .iface _ p,.iface _ x=>Xp B p x
 | .func _ a b,.func _ c d=>yV (yV B a c) b d
 | .ptr i _,.ptr b _=>B.addS i (.whole b)
 | .map i,.map b=>B.addS i (.whole b)
 | .sl i _ _ _,.sl b _ _ _=>B.addS i (.whole b)
 | .osl i p q _,x=>bif yZ p q then B.addS i (.view x)else(match x with
   | .osl b p' q' _=>((B.addS i (.whole b)).addX p p').addX q q'
   |_=>B)
 | .ous i q _,.ous b q' _=>(B.addS i (.whole b)).addX q q'
 |_,_=>B
def yV(B:Bnd):List AV->List AV->Bnd
 | [],_=>B
 |_::_,[]=>B
 |p::ps,x::xs=>yV (Xp B p x) ps xs
end
def dO6(h:Heap)(B:Bnd)(p:Blk)(s:Option BSrc):Bnd:=match s with
 |some (.whole b)=>(match p,h.get b with
  | .cells _ _ ps,some (.cells _ _ xs)=>yV B ps xs
  | .arr _ _ q,some (.arr _ _ l)=>B.addX q l
  | .bag _ _ q,some (.bag _ _ l)=>B.addX q l
  | .marr _ _ _ q,some (.marr _ _ _ l)=>B.addX q l
  | .marr _ _ _ q,some (.map [] _)=>B.addX q (.op .row [])
  |_,_=>B)
 |some (.view v)=>(match p with
  | .arr e sig q=>(match Cn sig.length e sig v h with
    |some (_,l)=>B.addX q l
    |none=>B)
  |_=>B)
 |none=>B
def KN(h:Heap)(B:Bnd):List Blk->Nat->Bnd
 | [],_=>B
 |p::r,i=>KN h (dO6 h B p (KI i B.src)) r (i+1)
def CI{α:Type}(l:List (Nat×α)):Nat->Nat->Option (List α)
 |0,_=>some []
 |n+1,i=>match KI i l,CI l n (i+1)with
  |some x,some r=>some (x::r)
  |_,_=>none
def AI:AV->Bool
 | .bool _| .int _ _| .str _| .nilp| .glob _| .nils| .nilm| .nilf| .nili=>true
 |_=>false
def xU(s:Option BSrc)(b:Nat):Bool:=match s with
 |some (.whole c)=>Nat.beq c b
 |_=>false
def OC(s:Option BSrc)(x:AV):Bool:=match s with
 |some (.view v)=>AV.beq v x
 |_=>false
def Ra(e:SX):SX:=match e with
 | .op .lget [.op .row [.op .row l],.ci (.ofNat 0),.ci (.ofNat k)]=>(match l[k]? with
   |some x=>x
   |none=>e)
 |e=>e
def FP(es:List SX)(p x:SX):Bool:=SX.beq (Ra (kS es p)) x
def Km(es:List SX)(p:SX)(x:Option SX):Bool:=match x with
 |some x=>FP es p x
 |none=>false
def UU(es:List SX)(k:IntKind)(p:SX)(x:Option (IntKind×SX)):Bool:=match x with
 |some (k',x)=>decide (k=k')&&FP es p x
 |none=>false
def EP(blks:List Blk)(i s:Nat)(q:SX):Bool:=match blks[i]? with
 |some (.arr _ sig l)=>Nat.beq sig.length s&&SX.beq q (.op .llen [l])
 |_=>false
def QC(src:List BSrc)(es:List SX)(i:Nat)(p q:SX)(s:Nat)(x:AV):Bool:=match x with
 | .osl b p' q' s'=>Nat.beq s s'&&xU src[i]? b&&FP es p p'&&FP es q q'
 |_=>false
def Ub(src:List BSrc)(es:List SX)(i:Nat)(q:SX)(s:Nat)(x:AV):Bool:=match x with
 | .ous b q' s'=>Nat.beq s s'&&xU src[i]? b&&SX.beq (kS es q) q'
 |_=>false
def UX(src:List BSrc)(i o:Nat)(x:AV):Bool:=match x with
 | .ptr b o'=>Nat.beq o o'&&xU src[i]? b
 |_=>false
def VJ(src:List BSrc)(i:Nat)(x:AV):Bool:=match x with
 | .map b=>xU src[i]? b
 |_=>false
def PG(src:List BSrc)(i o n c:Nat)(x:AV):Bool:=match x with
 | .sl b o' n' c'=>Nat.beq o o'&&Nat.beq n n'&&Nat.beq c c'&&xU src[i]? b
 |_=>false
mutual
def jp(src:List BSrc)(es:List SX)(blks:List Blk):AV->AV->Bool
 | .oint k p,x=>UU es k p (kz x)
 | .ostr p,x=>Km es p (oN x)
 | .obool p,x=>Km es p (ut x)
 | .agg ps,x=>(match x with
   | .agg xs=>sW src es blks ps xs
   |_=>false)
 | .iface t p,x=>(match x with
   | .iface u y=>Nat.beq t u&&jp src es blks p y
   |_=>false)
 | .func f a b,x=>(match x with
   | .func g c d=>decide (f=g)&&sW src es blks a c&&sW src es blks b d
   |_=>false)
 | .ptr i o,x=>UX src i o x
 | .map i,x=>VJ src i x
 | .sl i o n c,x=>PG src i o n c x
 | .osl i p q s,x=>bif yZ p q then EP blks i s q&&OC src[i]? x else QC src es i p q s x
 | .ous i q s,x=>Ub src es i q s x
 |p,x=>AI p&&AV.beq p x
def sW(src:List BSrc)(es:List SX)(blks:List Blk):List AV->List AV->Bool
 | [],xs=>(match xs with
   | []=>true
   |_=>false)
 |p::ps,xs=>(match xs with
  |x::xs=>jp src es blks p x&&sW src es blks ps xs
  |_=>false)
end
def te(src:List BSrc)(es:List SX)(blks:List Blk)(h:Heap)(p:Blk)(s:BSrc):Option SX:=match s with
 | .whole b=>(match p,h.get b with
   | .cells e fz ps,some (.cells e' fz' xs)=>bif Nat.beq e e'&&Nat.beq fz fz'&&ps.all AV.oneA&&sW src es blks ps xs then some (.cb true)else none
   | .arr e sig q,some (.arr e' sig' l)=>bif Nat.beq e e'&&iE sig sig'&&SX.beq (kS es q) l then some (.cb true)else none
   | .bag e sig q,some (.bag e' sig' l)=>bif Nat.beq e e'&&iE sig sig'&&SX.beq (kS es q) l then some (.cb true)else none
   | .marr d ks vs q,some (.marr d' ks' vs' l)=>bif (!d||d')&&iE ks ks'&&iE vs vs'&&SX.beq (kS es q) l then some (.cb true)else none
   | .marr d _ _ q,some (.map [] c)=>bif (!d||Nat.beq c 0)&&SX.beq (kS es q) (.op .row [])then some (.cb true)else none
   |_,_=>none)
 | .view v=>(match p with
   | .arr e sig q=>(match Cn sig.length e sig v h with
     |some (nd,l)=>bif SX.beq (kS es q) l then some nd else none
     |none=>none)
   |_=>none)
def Gx(src:List BSrc)(es:List SX)(blks:List Blk)(h:Heap):List Blk->List BSrc->Option SX
 | [],[]=>some (.cb true)
 |p::ps,s::ss=>match te src es blks h p s,Gx src es blks h ps ss with
  |some a,some b=>some (jf a b)
  |_,_=>none
 |_,_=>none
def kY:BSrc->Option Nat
 | .whole b=>some b
 | .view (.ous b _ _)=>some b
 | .view (.osl b _ _ _)=>some b
 | .view (.sl b _ _ _)=>some b
 | .view (.us b _ _ _)=>some b
 | .view _=>none
def neB(a b:Option Nat):Bool:=match a,b with
 |some x,some y=> !(Nat.beq x y)
 |_,_=>true
def YY(p:Option Blk):Bool:=match p with
 |some (.arr _ _ _)=>true
 |_=>false
def dw4(p:Option Blk):Bool:=match p with
 |some (.arr _ _ _)=>true
 |some (.bag _ _ _)=>true
 |_=>false
def ea3(p:Option Blk):Bool:=match p with
 |some (.arr _ _ _)=>true
 |some (.bag _ _ _)=>true
 |some (.vec _)=>true
 |_=>false
def Pv(h:Heap)(b:Option Nat):Bool:=match b with
 |some b=>ea3 (h.get b)
 |none=>false
def To(n:Nat)(b:Option Nat):Bool:=match b with
 |some b=>Nat.ble n b
 |none=>true
def FY(blks:List Blk)(mt:Nat)(h:Heap)(i j:Nat)(a b:Option Nat):Bool:=
 (Nat.blt i mt&&Nat.blt j mt&&YY blks[i]? &&YY blks[j]?)||(neB a b&&(To h.wm a||To h.wm b|| !(Pv h a)|| !(Pv h b)))
def NU(blks:List Blk)(mt:Nat)(h:Heap)(i:Nat)(s:BSrc):List BSrc->Nat->Bool
 | [],_=>true
 |t::r,j=>FY blks mt h i j (kY s) (kY t)&&NU blks mt h i s r (j+1)
def seps(blks:List Blk)(mt:Nat)(h:Heap):List BSrc->Nat->Bool
 | [],_=>true
 |s::r,i=>NU blks mt h i s r (i+1)&&seps blks mt h r (i+1)
def CW(b:Nat):List AV->Bool
 | []=>false
 |x::r=>(match x with
  | .ptr c _=>Nat.beq c b
  | .map c=>Nat.beq c b
  |_=>false)||CW b r
def Qy(h:Heap)(b c:Nat):Bool:=match h.get c with
 |some (.cells _ _ cs)=>CW b cs
 |_=>false
def LR(args:List AV)(h:Heap)(b:Nat):List BSrc->Bool
 | []=>false
 |s::r=>(match s with
  | .whole c=>CW c args&&Qy h b c
  | .view _=>false)||LR args h b r
def Wn(x:Option (Option Blk)):Bool:=match x with
 |some none=>true
 |_=>false
def Gl(mt:Nat)(args:List AV)(h:Heap)(all:List BSrc)(post:List (Option Blk)):List BSrc->Nat->Bool
 | [],_=>true
 |s::r,i=>(Nat.blt i mt||(match s with
  | .whole b=>Nat.ble h.wm b&&Nat.blt b h.next&&(Wn post[i-mt]? ||CW b args||LR args h b all||dw4 (h.get b))
  | .view _=>false))&&Gl mt args h all post r (i+1)
def oe(e:SX):Bool:=(Bg 1000 e).isSome||gb 0 e
def kZ(src:List BSrc)(i:Nat):Bool:=match src[i]? with
 |some (.whole _)=>true
 |_=>false
def tu(src:List BSrc)(mt:Nat)(post:List (Option Blk))(p:AV):Bool:=match p with
 | .oint _ e=>oe e
 | .ostr e=>oe e
 | .obool e=>oe e
 | .osl i x y _=>kZ src i&&oe x&&oe y
 | .ous i x s=>bif Nat.ble src.length i then(match x,post[i-mt]? with
  | .op .llen [q],some (some (.arr _ sig q'))=>SX.beq q q'&&Nat.beq sig.length s
  |_,_=>false)else kZ src i&&(Bg 1000 x).isSome
 | .ptr i _=>kZ src i
 |p=>AI p
def BF(n:Nat)(p:AV):Bool:=match p with
 | .ous i _ _=>Nat.blt i n
 |_=>true
def La(src:List BSrc)(mt:Nat)(post:List (Option Blk))(x:Option Blk):Bool:=match x with
 |none=>true
 |some (.cells _ _ ps)=>ps.all λp=>tu src mt post p&&BF src.length p&&p.oneA
 |some (.arr _ _ q)=>oe q
 |some (.marr _ _ _ q)=>oe q
 |_=>false
def DA(x:Option Blk):Bool:=match x with
 |some (.arr _ _ q)=>oe q
 |_=>false
def yv(src:List BSrc)(mt:Nat)(post:List (Option Blk)):List (Option Blk)->Nat->Bool
 | [],i=>Nat.ble src.length i
 |x::r,i=>bif Nat.blt i src.length then La src mt post x&&yv src mt post r (i+1)else DA x&&yv src mt post r (i+1)
structure Binding where
 src:List BSrc
 es:List SX
 nd:SX
def tr(c:FC)(nv:Nat):Bool:=pF nv c.blks.length c.args&&c.blks.all (λx=>AB nv c.blks.length (some x))&&gb nv c.need&&qD nv c.outs&&Nat.ble c.mt c.blks.length&&Nat.blt c.blks.length 60000&&c.blks.all (λx=>match x with
 | .cells _ _ _=>true
 | .arr _ _ _=>true
 | .bag _ _ _=>true
 | .marr _ _ _ _=>true
 |_=>false)
def da2(c:FC)(args:List AV)(h:Heap):Bnd:=
 KN h (yV ⟨(KN h ⟨(KN h (yV ⟨[],[]⟩ c.args args) c.blks 0).src,[]⟩ c.blks 0).src,[]⟩ c.args args) c.blks 0
def Dl(c:FC)(nv:Nat)(args:List AV)(h:Heap):Option Binding:=
 match da2 c args h with
 |B=>match CI B.src c.blks.length 0,CI B.sx nv 0 with
  |some src,some es=>bif sW src es c.blks c.args args&&seps c.blks c.mt h src 0&&Gl c.mt args h src c.post src 0&&yv src c.mt c.post c.post c.mt&&(iH c.out).all (tu src c.mt c.post)then(match Gx src es c.blks h c.blks src with
   |some nd=>some ⟨src,es,nd⟩
   |none=>none)else none
  |_,_=>none
def uu(es outs:List SX)(k:Nat):SX:=kS es (outs.getD k (.cb false))
def fX(src:List BSrc)(n:Nat)(i:Nat):Nat:=match src[i]? with
 |some (.whole b)=>b
 |some (.view _)=>n
 |none=>n+(i-src.length)
mutual
def jd(ρ:Nat->Nat):AV->AV
 | .ptr b o=> .ptr (ρ b) o
 | .sl b o n c=> .sl (ρ b) o n c
 | .us b o n s=> .us (ρ b) o n s
 | .es b o s=> .es (ρ b) o s
 | .map b=> .map (ρ b)
 | .func fn a c=> .func fn (pH ρ a) (pH ρ c)
 | .yield b=> .yield (ρ b)
 | .iface t v=> .iface t (jd ρ v)
 | .agg l=> .agg (pH ρ l)
 | .tup l=> .tup (pH ρ l)
 | .osl b x y s=> .osl (ρ b) x y s
 | .optr b x j s=> .optr (ρ b) x j s
 | .ous b x s=> .ous (ρ b) x s
 |x=>x
def pH(ρ:Nat->Nat):List AV->List AV
 | []=>[]
 |a::r=>jd ρ a::pH ρ r
end
def ol(ρ:Nat->Nat):Option Blk->Option Blk
 |some (.cells e fz cs)=>some (.cells e fz (pH ρ cs))
 |some (.arr e sig l)=>some (.arr e sig l)
 |some (.marr d ks vs l)=>some (.marr d ks vs l)
 |_=>none
mutual
def jn(q:Nat->SX):AV->AV
 | .oint k e=>pa k (eN 1000 q e)
 | .ostr e=> .ostr (eN 1000 q e)
 | .obool e=> .obool (eN 1000 q e)
 | .agg l=> .agg (sa q l)
 | .tup l=> .tup (sa q l)
 | .osl b x y s=> .osl b (eN 1000 q x) (eN 1000 q y) s
 | .ous b x s=> .ous b (NX q x) s
 |x=>x
def sa(q:Nat->SX):List AV->List AV
 | []=>[]
 |a::r=>jn q a::sa q r
def NX(q:Nat->SX):SX->SX
 | .op .llen [x]=> .op .llen [eN 1000 q x]
 |x=>eN 1000 q x
end
def oF(q:Nat->SX):Option Blk->Option Blk
 |some (.cells e fz cs)=>some (.cells e fz (sa q cs))
 |some (.arr e sig l)=>some (.arr e sig (eN 1000 q l))
 |some (.marr d ks vs l)=>some (.marr d ks vs (eN 1000 q l))
 |x=>x
def nD(ρ:Nat->Nat)(q:Nat->SX)(m:Nat):List (Option Blk)->Nat->Heap->Heap
 | [],_,h=>h
 |x::r,i,h=>nD ρ q m r (i+1) (bif Nat.blt i m then h.put (ρ i) (ol ρ (oF q x))else(match ol ρ (oF q x)with
  |some y=>h.new y
  |none=>h))
def KO(e:SX)(v:AV)(h:Heap):Res:=match e with
 | .cb true=> .val v h
 |e=> .need e v h
def yP(c:FC)(b:Binding)(h:Heap):Res:=
 KO (jf b.nd (kS b.es c.need)) (jd (fX b.src h.next) (jn (uu b.es c.outs) c.out)) (nD (fX b.src h.next) (uu b.es c.outs) c.blks.length c.post c.mt h)
def OZ(x:AV)(h:Heap):Option (SX×AV×Heap):=match x with
 | .ous b len s=>(match h.get b with
   |some (.arr e sig l)=>bif Nat.ble h.wm b&& !(SX.beq len (.op .llen [l]))&&Nat.beq s sig.length then
    some (.op .and [.op (.cmp .leq) [.ci 0,len],.op (.cmp .leq) [len,.op .llen [l]]],.ous b (.op .llen [.op .lsub [l,.ci 0,len]]) s,h.put b (some (.arr e sig (.op .lsub [l,.ci 0,len]))))else none
   |_=>none)
 |_=>none
def sU:List AV->Heap->SX×List AV×Heap
 | [],h=>(.cb true,[],h)
 |x::r,h=>match OZ x h with
  |some (e,x',h')=>(match sU r h' with
   |(e',r',h2)=>(jf e e',x'::r',h2))
  |none=>(match sU r h with
   |(e',r',h2)=>(e',x::r',h2))
def DH(nd:SX)(r:Res):Res:=match r with
 | .val v h=>KO nd v h
 | .need e v h=> .need (jf nd e) v h
 |_=> .bad
def Fq(c:FC)(nv:Nat)(args:List AV)(h:Heap):Res:=match Dl c nv args h with
 |some b=>yP c b h
 |none=> .bad
def kH(c:FC)(nv:Nat)(args:List AV)(h:Heap):Res:=match Dl c nv args h with
 |some b=>yP c b h
 |none=>(match sU args h with
  |(nd,args',h')=>DH nd (Fq c nv args' h'))
mutual
def jH:AV->AV->Bool
 | .tup a,x=>(match x with
   | .tup b=>sQ a b
   |_=>false)
 | .agg a,x=>(match x with
   | .agg b=>Nat.beq a.length b.length
   |_=>false)
 |_,x=>(match x with
  | .tup _=>false
  | .agg _=>false
  |_=>true)
def sQ:List AV->List AV->Bool
 | [],x=>(match x with
   | []=>true
   |_=>false)
 |a::r,x=>(match x with
  |b::q=>jH a b&&sQ r q
  | []=>false)
end
def dP0(post:List (Option Blk))(k:Nat):Option (Nat×List CT):=match post[k]? with
 |some (some (.arr e sig _))=>some (e,sig)
 |_=>none
def wD(post:List (Option Blk))(mt m base:Nat):List AV->Nat->List OwnP
 | [],_=>[]
 | .ous i _ _::r,t=>bif Nat.ble m i then(match dP0 post (i-mt)with
   |some (e,sig)=>⟨t,base+(i-m),e,sig,none,false⟩::wD post mt m base r (t+1)
   |none=>wD post mt m base r (t+1))else wD post mt m base r (t+1)
 |_::r,t=>wD post mt m base r (t+1)
def dw6(h:Heap)(b s:Nat)(x:AV):Bool:=match x,h.get b with
 | .ous c (.op .llen [l]) s',some (.arr _ _ l')=>Nat.beq b c&&Nat.beq s s'&&SX.beq l l'
 |_,_=>false
def Sf(m base n:Nat)(h:Heap)(p x:AV):Option (List SX):=match p with
 | .ous i q s=>bif Nat.ble m i then(bif dw6 h (base+(i-m)) s x then some []else none)else eu 1000 base n (.ous i q s) x
 |p=>eu 1000 base n p x
def MJ(m base:Nat)(h:Heap)(a:Fr):List AV->Nat->Nat->Option (List SX)
 | [],_,_=>some []
 |p::ps,t,n=>match Sf m base n h p (a.slot t)with
  |some e=>match MJ m base h a ps (t+1) (n+e.length)with
   |some es=>some (e++es)
   |none=>none
  |none=>none
def Ji(m base:Nat)(h:Heap):List (Option Blk)->Nat->Nat->Option (List SX)
 | [],_,_=>some []
 |p::ps,i,n=>match sH 1000 base n p (h.get (bif Nat.blt i m then i else base+(i-m)))with
  |some e=>match Ji m base h ps (i+1) (n+e.length)with
   |some es=>some (e++es)
   |none=>none
  |none=>none
def KG(pc:PC):List SX->List SX
 | []=>[]
 |e::r=>II pc 16 e::KG pc r
def e34(c:FC)(m base:Nat)(p:Fr×Heap)(pc:PC):VT:=match MJ m base p.2 p.1 (iH c.out) 0 0 with
 |some es=>match Ji m base p.2 c.post c.mt es.length with
  |some fs=> .ret 0 (KG pc (es++fs))
  |none=> .bad
 |none=> .bad
def e35(c:FC)(m base:Nat)(owns:List OwnP)(xs:List AV)(h:Heap)(pc:PC):VT:=
 match CH owns ⟨uM xs 0 TF.empty,xs.length,[],0,[],none⟩ (h.upto (Nat.add base owns.length))with
 |some p=>e34 c m base p pc
 |none=> .bad
def CB(h:Heap)(x:AV):SX×AV:=match x with
 | .ous r len s=>match h.get r with
   |some (.arr _ _ l)=>bif SX.beq len (.op .llen [l])then(.cb true,x)else(.op (.cmp .eql) [len,.op .llen [l]],.ous r (.op .llen [l]) s)
   |_=>(.cb true,x)
 |x=>(.cb true,x)
def yT(h:Heap):List AV->SX×List AV
 | []=>(.cb true,[])
 |a::r=>match CB h a,yT h r with
  |(e,x),(e',xs)=>(jf e e',x::xs)
def PB(c:FC)(h:Heap)(p:SX×List AV):iP:=lJ.need p.1 (e35 c c.blks.length h.next (wD c.post c.mt c.blks.length h.next (iH c.out) 0) p.2 h)
def ea4(l:SX):Bool:=match l with
 | .op .lcat _=>true
 |_=>false
def Xz(h:Heap)(x:AV):Bool:=match x with
 | .ous b len _=>(match h.get b with
   |some (.arr _ _ l)=>ea4 l&& !(SX.beq len (.op .llen [l]))
   |_=>false)
 |_=>false
def ea5(c:FC)(p:SX×List AV×Heap):iP:=lJ.need p.1 (PB c p.2.2 (yT p.2.2 p.2.1))
def Pl(c:FC)(l:List AV)(h:Heap):iP:=bif l.any (Xz h)then ea5 c (sU l h)else PB c h (yT h l)
def qp(c:FC)(v:AV)(h:Heap):iP:=
 bif jH c.out v&&Nat.ble (iH v).length 256 then Pl c (iH v) h else λ_=> .bad
def iW:List Blk->Heap->Heap
 | [],h=>h
 |x::r,h=>iW r (h.new x)
def dw7(wm:Nat)(t:TH)(next _:Nat):Heap:=⟨t,next,wm⟩
def Heap.setwm(h:Heap)(wm:Nat):Heap:=Heap.rec (dw7 wm) h
def FC.heap(c:FC):Heap:=(iW c.blks Heap.empty).setwm c.mt
def FC.run(E:Env)(fuel:Nat)(f:FuncId)(c:FC)(args:List AV):VT:=ev E fuel iP lJ (.body f args c.heap (qp c)) []
end
end Go.Ev
