import Derived.Test.YtliadehnohhngaaGreatE27a
import Derived.Below
import Derived.Carry
import Derived.OpenShut
import Derived.ChangeSame
import Derived.ChangeMaps5
import Derived.Test.YtliadehnohhngaaGreatE1
set_option linter.all false
namespace Go.Ev
open Go Go.RowKit Go.WideShapes Go.ChangeShapes
variable{E:Env}{I:Opq}
def b41: ∀(vs:Fz) (i:Nat) (t:TF),i+vs.length<=256-> ∀n,(vd vs i t).get n=if i<=n/\n<i+vs.length then vs.getD (n-i) .undef else t.get n
 | [],i,t,_,n=>by rw[b9 (λhh=>by grind)];rfl
 |v::r,i,t,h,n=>by simp at h;simp[vd];rw[b41 r (i+1) _ (by omega) n,TF.get_set t i n v (by omega)];grind
def c10{fn:FuncId}{O:cn}{args:Fz}{us:List AS}{nt:Nat}(ra:ct O I args us)(hl:Nat.max nt args.length<=256):
 dA O I ⟨vd args 0 TF.empty,Nat.max nt args.length,[],fn,[],none⟩ {tmps:=us.toArray++Array.replicate (nt-us.toArray.size) Go.undef,defers:=[]}:=by
 have hlen:=ra.length;have hargs:args.length<=256:=l7 (Nat.le_max_right _ _) hl;refine⟨?_,hl,λt _=> ?_,rfl,λp hp=>by cases hp⟩;grind
 show VR O I ((vd args 0 TF.empty).get t) _;rw[b41 args 0 TF.empty (by omega) t];have hu: ∀v:AS,v=Go.undef->VR O I .undef v:=λv hv=>by subst hv;exact⟨#[],rfl,rfl⟩
 by_cases ht:t<args.length;have hg:args[t]? =some args[t]:=m7 ht;obtain⟨y,hy,ry⟩:=ra.get t _ hg;simp_all[k5,Nat.sub_zero,x8,Array.getElem?_append_left];rw[b9 (by omega),TF.get_empty];rw[x8,Array.getElem?_append_right (by simp;omega),U6];grind
def PG(tmps:Array AS):ResultVar->Sem AS
 | .tmp t=>pure (tmps.getD t Go.undef)
 | .cell x t=>do loadVar t (<-asAddr (tmps.getD x Go.undef))
theorem cd8(fn:Func)(tmps:Array AS):results fn tmps=(do
 let vs <-fn.results.mapM (PG tmps)
 pure (if h:vs.size=1 then vs[0]else .tuple vs)):=by
 rfl
def ZA{K:zI}{w0 w:yM}{h:Heap}{O:cn}{a:Fr}{act:Act}(r:HR O I K w0 h w)(f:dA O I a act): ∀{rs:aaX} {vs:Fz},tG E.P a h rs=some vs->
 ∃us:List AS,ct O I vs us/\(rs.mapM (m:=Sem) (PG act.tmps)).run E.P w= .ok us w
 | [],vs,e=>by simp[tG,j0]at e;subst e;exact⟨[],.nil,rfl⟩
 |q::rs,vs,e=>by
  simp[tG]at e;split at e
  rename_i v vs' h1 h2;simp at e;subst e;obtain⟨us,u1,u2⟩:=ZA r f h2;cases q with
  |tmp t=>
   simp[Sw,j0]at h1;subst h1;refine⟨_::us,.cons (f.slot t id) u1,?_⟩;simp[N1,PG,Sem.run_bind,Sem.run_pure,Result.andThen_ok,u2]
  |cell x t=>
   simp[Sw]at h1;obtain⟨u,v1,v2⟩:=bX4 (P:=E.P) r h1 (f.slot x id);refine⟨u::us,.cons v1 u1,?_⟩;have hp: ∃b o,a.slot x= .ptr b o:=by unfold IX at h1;split at h1;exact⟨_,_,by assumption⟩;cases h1
   obtain⟨b,o,hbo⟩:=hp;have hs:=f.slot x id;rw[hbo]at hs;obtain⟨L,_,hs⟩:=hs;rw[hs]at v2;have v3:(loadVar t ⟨L.blk,L.off+o,none⟩).run E.P w= .ok u w:=v2;simp[N1,PG,Sem.run_bind,hs,asAddr,Sem.run_pure,Result.andThen_ok,v3,u2]
  .cases e
def cd9{K:zI}{w0 w:yM}{h:Heap}{O:cn}{a:Fr}{act:Act}(r:HR O I K w0 h w)(f:dA O I a act){fn:Func}{vs:Fz}(e:tG E.P a h fn.results.toList=some vs):
 ∃u,VR O I (WW vs) u/\(results fn act.tmps).run E.P w= .ok u w:=by
 obtain⟨us,u1,u2⟩:=ZA r f e;have hrun: ∀v,(if h:us.toArray.size=1 then us.toArray[0]else Value.tuple us.toArray)=v->(results fn act.tmps).run E.P w= .ok v w:=by grind[cd8,Sem.run_bind,Array.mapM_eq_mapM_toList,Sem.run_map,Result.andThen_ok,Sem.run_pure]
 cases vs with
 |nil=>
  rw[show us=[]from u1]at hrun;exact⟨_,⟨#[],rfl,rfl⟩,hrun _ rfl⟩
 |cons v vs=>
  obtain⟨y,ys,rfl,p,q⟩:=u1;cases vs with
  |nil=>
   rw[show ys=[]from q]at hrun;exact⟨y,p,hrun _ rfl⟩
  |cons v2 vs=>
   obtain⟨y2,ys2,rfl,p2,q2⟩:=q;refine⟨_,⟨_,rfl,.cons p (.cons p2 q2)⟩,hrun _ ?_⟩;rfl
def IZ{F:Fence}{n:Nat}{P:uV}{fn:Func}{tmps:Array AS}{R R':Ending->yM->Prop}(hr: ∀e w,R e w->R' e w): ∀{ds:aa1} {u:FrameMode} {w:yM},LeavesInM F n P fn tmps R ds u w->LeavesInM F n P fn tmps R' ds u w
 | [],u,w,h=>by
   cases u with
   |run=>exact h
   |returning=>obtain⟨v,h1,h2⟩:=h;exact⟨v,h1,hr _ _ h2⟩
   |panicking c=>exact hr _ _ h
 |d::ds,u,w,⟨h0,h⟩=>by
  refine⟨h0,?_⟩;rcases h with⟨r,w',h1,h2,h3⟩|⟨h1,fv,cap,f,args,h2,h3,h4,h5⟩
  exact .inl ⟨r,w',h1,h2,IZ hr h3⟩
  refine .inr ⟨h1,fv,cap,f,args,h2,h3,h4,h5.mono λe u' w' he=> ?_⟩;cases e with
  |returned v=>exact IZ hr he
  |panicked c=>exact IZ hr he
  |outgrown=>grind
def bB1{R:Type}{A:Alg R}{T:R->Prop}(hA:AlgOk A T I){a:Fr}{act:Act}{h' hs:Heap}{k:AV->Heap->R}{fn:Func}{K:zI}{w0 w':yM}{ac ah:cn}(hke:T (MQ A h' k (tG E.P a h' fn.results.toList)))
 (hr':HR ac I K w0 h' w') (hf':dA ac I a act) (hst':St hs ah h' ac):
 ∃v,(results fn act.tmps).run E.P w'= .ok v w'/\ ∃u am v' h'',Ending.returned v= .returned u/\T (k v' h'')/\VR am I v' u/\HR am I K w0 h'' w'/\St hs ah h'' am:=by
 cases hres:tG E.P a h' fn.results.toList with
 |none=>rw[hres]at hke;exact absurd hke hA.X
 |some vs=>
  rw[hres]at hke;obtain⟨u,u1,u2⟩:=cd9 hr' hf' hres;exact⟨u,u2,u,ac,WW vs,h',rfl,hke,u1,hr',hst'⟩
def ce0{n:Nat}(hk:oO E I n):Ri E I (n+1):=by intro R A T hA f args h k he K w0 O w us m r ra;have he:T (Rd E.P (ev E n) A f args h k (E.P.funcs[f]?)):=he;unfold Rd at he;split at he;exact absurd he hA.X;exact absurd (by assumption) hA.X
def ce1(hE:E.Ok I){n:Nat}(hl:Lk E I n)(hd:Ri E I n):Lk E I (n+1):=by
 intro R A T hA fn a ds h k he K w0 O act w dd r f hds;cases ds with
 |nil=>
  rw[show dd=[]from hds];obtain⟨v,h1,h2⟩:=bB1 hA he r f (.refl _ _);exact⟨v,h1,h2⟩
 |cons x ds=>
  obtain⟨d,dr,rfl,hx,hds⟩:=hds;refine⟨by simp,?_⟩;cases x with
  |coll b=>
   obtain⟨L,hL,rfl⟩:=hx;replace he:T (YB (ev E n) A fn.results.toList a ds b h k (h.get b)):=he;unfold YB at he;split at he
   rename_i hg;obtain⟨hwm,he⟩:Nat.ble h.wm b=true/\T (ev E n R A (.leave fn.results.toList a ds (h.put b (some (.defd true))) k)):=by
    cases hcc:Nat.ble h.wm b with
    |false=>rw[hcc]at he;exact absurd he hA.X
    |true=>grind
   rw[cV]at hwm;have hobj:w.heap[L.blk]? =some (.deferred (some [])):=r.blk b _ L hg hL;obtain⟨r1,s1⟩:=r.U b _ (.defd true) L hg hL hwm (w':=w.putObj L.blk (.deferred none)) (λi hi=>World.putObj_heap_other hi) World.putObj_size rfl rfl rfl rfl (by rw[World.putObj_heap_same (r.lt b L hL)];rfl);left;refine⟨L.blk,_,rfl,run_takeDeferred hobj,?_⟩;have:=hl R A T hA fn a ds _ k he K w0 O act _ dr r1 f hds;refine IZ ?_ this;rintro e w' ⟨u,ac,v,h',h1,h2,h3,h4,h5⟩;exact⟨u,ac,v,h',h1,h2,h3,h4,s1.trans h5⟩;exact absurd he hA.X
  |fn g cap args=>
   obtain⟨us,cs,rfl,ra,rc⟩:=hx;replace he:T (UK (ev E n) A fn.results.toList a ds h k (Eh E g (args++cap) h)):=he;have hs:=bX5 hE (f:=g) (args:=args++cap) (us:=us.toList++cs.toList) r (ra.append rc);unfold UK at he;split at he;exact absurd (by assumption) hA.X;exact absurd he hA.X
def cv6{n:Nat}(hk:oO E I n)(hlv:Lk E I n):HW E I (n+1):=by
 intro R A T hA f args h k he K w0 O w us r ra;have he:T (YO E.P (ev E n) A f args h k (E.P.funcs[f]?)):=he;unfold YO at he;split at he;exact absurd he hA.X;rename_i fn hf;split at he;exact absurd he hA.X
 rename_i c hb;obtain⟨hlim,he⟩:Nat.ble (Nat.max fn.ntmps args.length) 256=true/\T (ev E n R A (.code c ⟨vd args 0 TF.empty,Nat.max fn.ntmps args.length,[],f,[],none⟩ h (d89 E.P (ev E n) A fn.results.toList k))):=by
  cases hc:Nat.ble (Nat.max fn.ntmps args.length) 256 with
  |false=>rw[hc]at he;exact absurd he hA.X
  |true=>grind
 rw[cV]at hlim;refine(callsIn_wide (n:=0)).1 (callsIn_of_wp_marks (F:=ie none) hf hb trivial (hk R A T hA c _ h _ he K w0 O _ w none _ r (c10 ra hlim) rfl ?_));intro e a' h' ac act' w' hke _ hf' hr' hst';have fin:(e= .norm\/e= .ret)->LeavesInM Fence.wide 0 E.P fn act'.tmps (λe w'=> ∃u ac v h',e= .returned u/\T (k v h')/\VR ac I v u/\HR ac I K w0 h' w'/\St h O h' ac) act'.defers .returning w':=by
  intro hee;have hke:T (match a'.ds with
   | []=>MQ A h' k (tG E.P a' h' fn.results.toList)
   |ds=>ev E n R A (.leave fn.results.toList a' ds h' k)):=by
   rcases hee with rfl|rfl<;>exact hke
  have hd:=hf'.defers;cases hds:a'.ds with
  |nil=>
   rw[hds]at hke hd;rw[show act'.defers=[]from hd];obtain⟨v,h1,h2⟩:=bB1 hA hke hr' hf' hst';exact⟨v,h1,h2⟩
  |cons x y=>
   rw[hds]at hke;refine IZ ?_ (hlv R A T hA fn a' _ h' k hke K w0 ac act' w' _ hr' hf' (hds▸hd));rintro e w' ⟨u,ac,v,h',h1,h2,h3,h4,h5⟩;exact⟨u,ac,v,h',h1,h2,h3,h4,hst'.trans h5⟩
 cases e with
 |norm=>exact fin (.inl rfl)
 |ret=>exact fin (.inr rfl)
 |exit id=>exact absurd hke hA.X
variable{E:Env}{I:Opq}{K:zI}{w0 w w':yM}{h h':Heap}{O ac:cn}
def HR.later(r:HR O I K w0 h w)(hpre: ∀i,i<w.heap.size->w'.heap[i]? =w.heap[i]?)(hsz:w.heap.size<=w'.heap.size)(hos:w'.os=w.os)(htp:w'.tape=w.tape)(hout:w'.output=w.output)(hdr:w.drawn<=w'.drawn):HR O I K w0 h w':=by refine⟨λb x L hg hb=> ?_,r.sep,r.fresh,r.fget,λb L hb=>A1 (r.lt b L hb) hsz,r.kin,λi hi=> ?_,r.free,l7 r.size hsz,hos.trans r.os,htp.trans r.tape,hout.trans r.out,l7 r.dr hdr⟩;rw[hpre _ (r.lt b L hb)];exact r.blk b x L hg hb;rw[hpre _ (A1 (r.kin i hi) r.size)];exact r.keep i hi
def HR.later2(r:HR O I K w0 h w)(hpre: ∀b x L,h.get b=some x->O b=some L->w'.heap[L.blk]? =w.heap[L.blk]?)(hK: ∀i,K i->w'.heap[i]? =w.heap[i]?)(hsz:w.heap.size<=w'.heap.size)(hos:w'.os=w.os)(htp:w'.tape=w.tape)(hout:w'.output=w.output)(hdr:w.drawn<=w'.drawn):HR O I K w0 h w':=by refine⟨λb x L hg hb=> ?_,r.sep,r.fresh,r.fget,λb L hb=>A1 (r.lt b L hb) hsz,r.kin,λi hi=> ?_,r.free,l7 r.size hsz,hos.trans r.os,htp.trans r.tape,hout.trans r.out,l7 r.dr hdr⟩;rw[hpre b x L hg hb];exact r.blk b x L hg hb;rw[hK i hi];exact r.keep i hi
def HR.row(r:HR O I K w0 h w')(L:Loc)(hn: ∀b y M,h.get b=some y->O b=some M->M.blk≠L.blk)(hk: ¬K L.blk)(hlt:L.blk<w'.heap.size)(x:Blk)(hx:BR (O.add h.next L) I L w'.heap[L.blk]? x):
 HR (O.add h.next L) I K w0 (h.new x) w'/\St h O (h.new x) (O.add h.next L):=by
 have hst:St h O (h.new x) (O.add h.next L):=by refine⟨by simp,λb hb=> ?_,λb hb _=> ?_,rfl⟩;simp[cn.add];grind;left;rw[Heap.get_new,b9 (by omega)]
 have hle:=hst.Le r;refine⟨⟨?_,?_,?_,?_,?_,r.kin,r.keep,?_,r.size,r.os,r.tape,r.out,r.dr⟩,hst⟩
 .intro b y M hg hb;rw[Heap.get_new]at hg;simp[cn.add]at hb;by_cases e:b=h.next
  .grind
  rw[b9 e]at hg hb;exact(r.blk b y M hg hb).mono hle
 .intro b1 b2 y1 y2 M1 M2 g1 g2 m1 m2 hne hw;rw[Heap.get_new]at g1 g2;simp[cn.add]at m1 m2;by_cases e1:b1=h.next
  .grind
  .rw[b9 e1]at g1 m1;by_cases e2:b2=h.next
   .grind
   rw[b9 e2]at g2 m2;exact r.sep b1 b2 y1 y2 M1 M2 g1 g2 m1 m2 hne hw
 intro b hb;simp at hb;simp[cn.add];rw[b9 (by omega)];exact r.fresh b (by omega);intro b hb;simp at hb;rw[Heap.get_new,b9 (by omega)];exact r.fget b (by omega);intro b M hb;simp[cn.add]at hb;split at hb;grind;exact r.lt b M hb
 .intro b y M hg hw hb;rw[Heap.get_new]at hg;simp[cn.add]at hb;by_cases e:b=h.next
  .grind
  rw[b9 e]at hg hb;exact r.free b y M hg hw hb
def SN{v:AV}{u:AS}(hp:yC v=true)(r:VR O I v u):VR ac I v u:=by cases v<;>simp only[yC,n9]at hp<;>exact r
def bg1: ∀{vs:Fz} {us:List AS},vs.all yC=true->ct O I vs us->ct ac I vs us
 | [],_,_,r=>r
 |v::vs,_,hp,⟨u,ur,e,p,q⟩=>by simp only[List.all_cons,j8]at hp;exact⟨u,ur,e,SN hp.1 p,bg1 hp.2 q⟩
theorem Out.beq_eq: ∀{a b:Out},Out.beq a b=true->a=b
 | .plain a,.plain b,h=>by trivial
 | .row e l s c,.row e' l' s' c',h=>by simp[Out.beq,j8,O7]at h;grind[AV.beqs_eq]
 | .plain _,.row _ _ _ _,h=>by cases h
 | .row _ _ _ _,.plain _,h=>by cases h
def bg2: ∀{a b:aa4},OS a b=true->a=b
 | [],[],_=>rfl
 | [],_::_,h=>by cases h
 |_::_,[],h=>by cases h
 |a::x,b::y,h=>by simp[OS,j8]at h;rw[Out.beq_eq h.1,bg2 h.2]
variable{cs:Fz}
variable{E:Env}{I:Opq}{K:zI}{w0 w w':yM}{h h':Heap}{O ac:cn}
def aS3{n:Nat}{v:AV}{o:Out}(e:TN n h' v=some o):(yC v=true/\o= .plain v)\/
 (∃b len sz t cs,v= .us b 0 len sz/\n<=b/\h'.get b=some (.cells t 0 cs)/\cs.length=len*sz/\cs.all yC=true/\o= .row t len sz cs):=by
 unfold TN at e;split at e
 rename_i b len sz;cases hb:Nat.ble n b with
 |false=>rw[hb]at e;cases e
 |true=>
  rw[hb]at e;split at e
  rename_i t cs hg;cases hc:(Nat.beq cs.length (len*sz)&&cs.all yC)with
  |false=>rw[hc]at e;cases e
  |true=>
   rw[hc]at e;simp at e;simp only[j8,O7]at hc;exact .inr ⟨b,len,sz,t,cs,rfl,cV.1 hb,hg,hc.1,hc.2,e.symm⟩
  .cases e
 grind
def aJ9{am:cn}{n:Nat}: ∀{vs:Fz} {us:List AS} {l:aa4},vL n h' vs=some l->tu l=0->ct ac I vs us-> ∀h,(nP l h).2=h/\ct am I (nP l h).1 us
 | [],us,l,e,hr,r,h=>by simp[vL,j0]at e;subst e;trivial
 |v::vs,us,l,e,hr,⟨u,ur,e2,p,q⟩,h=>by
  simp[vL]at e;split at e
  rename_i o os h1 h2;simp at e;subst e;rcases aS3 h1 with⟨hp,rfl⟩|⟨b,len,sz,t,cs,rfl,_,_,_,_,rfl⟩
  obtain⟨g1,g2⟩:=aJ9 (am:=am) h2 (by trivial) q h;exact⟨g1,u,ur,e2,SN hp p,g2⟩;grind[tu];cases e
def PS(K:zI)(hd:Heap)(O:cn)(h':Heap)(ac:cn):Prop:=
 ∀b L y,h'.get b=some y->hd.next<=b->ac b=some L->(∀b2 x M,hd.get b2=some x->O b2=some M->M.blk≠L.blk)/\ ¬K L.blk
def b42{K':zI}{w1:yM}(rh:HR O I K w0 h w')(r':HR ac I K' w1 h' w')(hap:PS K h O h' ac): ∀{vs:Fz} {us:List AS} {l:aa4},
 vL h.next h' vs=some l->tu l<=1->ct ac I vs us-> ∃am,ct am I (nP l h).1 us/\HR am I K w0 (nP l h).2 w'/\St h O (nP l h).2 am
 | [],us,l,e,hr,ra=>by simp[vL,j0]at e;subst e;exact⟨O,ra,rh,.refl _ _⟩
 |v::vs,us,l,e,hr,⟨u,ur,e2,p,q⟩=>by
  simp[vL]at e;split at e
  .rename_i o os h1 h2;simp at e;subst e;rcases aS3 h1 with⟨hp,rfl⟩|⟨b,len,sz,t,cs,rfl,hb,hg,hl,hall,rfl⟩
   .obtain⟨am,g1,g2,g3⟩:=b42 rh r' hap h2 (by grind[tu]) q;exact⟨am,⟨u,ur,e2,SN hp p,g1⟩,g2,g3⟩
   .obtain⟨L,cap,hL,hcap,hu⟩:=p;obtain⟨ha1,ha2⟩:=hap b L _ hg hb hL;obtain⟨C,lo,hi,xs,b1,b2,b3,b4,b5,b6,b7,b8⟩:=r'.blk b _ L hg hL;have hrow:=HR.row rh L ha1 ha2 (r'.lt b L hL) (.cells t 0 cs) ⟨C,lo,hi,xs,b1,b2,b3,b4,bg1 hall b5,b6,b7,b8⟩;obtain⟨k1,k2⟩:=aJ9 (am:=O.add h.next L) h2 (by simp[tu]at hr;exact hr) q (h.new (.cells t 0 cs));have hlay1:(nP (Out.row t len sz cs::os) h).1= .us h.next 0 len sz::(nP os (h.new (.cells t 0 cs))).1:=rfl
    have hlay2:(nP (Out.row t len sz cs::os) h).2=(nP os (h.new (.cells t 0 cs))).2:=rfl;refine⟨O.add h.next L,?_,?_,?_⟩;refine⟨u,ur,e2,⟨L,cap,?_,hcap,hu⟩,k2⟩;simp[cn.add];rw[hlay2,k1];exact hrow.1;grind
  cases e
def bB2{K':zI}{w1:yM}(rh:HR O I K w0 h w')(r':HR ac I K' w1 h' w')(hap:PS K h O h' ac){v:AV}{u:AS}{b:Bool}{l:aa4}
 (e:Fu h.next h' v=some (b,l)) (p:VR ac I v u): ∃am,VR am I (Ng b l h).1 u/\HR am I K w0 (Ng b l h).2 w'/\St h O (Ng b l h).2 am:=by
 have one: ∀{c:Bool} {m:aa4},UY c m=some (b,l)->c=b/\m=l/\tu l<=1:=by
  intro c m hh;unfold UY at hh;cases hc:Nat.ble (tu m) 1 with
  |false=>grind
  |true=>
   simp_all
 unfold Fu at e;split at e;trivial
 .cases ho:vL h.next h' [v]with
  |none=>grind
  |some m=>
   rw[ho]at e;obtain⟨rfl,rfl,h1⟩:=one e;obtain⟨am,g1,g2,g3⟩:=b42 (vs:=[v]) (us:=[u]) rh r' hap ho h1 ⟨u,[],rfl,p,rfl⟩;refine⟨am,?_,g2,g3⟩;obtain⟨x,xr,e2,p2⟩: ∃a as,(nP m h).1=a::as/\VR am I a u:=by
    cases hh:(nP m h).1 with
    |nil=>rw[hh]at g1;cases g1
    |cons a as=>
     rw[hh]at g1;obtain⟨y,yr,e3,p3,_⟩:=g1;cases e3;exact⟨a,as,rfl,p3⟩
   show VR am I ((nP m h).1.headD .undef) u;grind
def xR(E:Env)(I:Opq)(f:FuncId)(args:Fz)(h:Heap)(v:AV)(h':Heap):Prop:=
 ∀(K:zI) (w0:yM) (O:cn) (w:yM) (us:List AS),HR O I K w0 h w->ct O I args us->
  Calls E.P f us.toArray w (λe w'=> ∃u ac,e= .returned u/\VR ac I v u/\HR ac I K w0 h' w'/\St h O h' ac)
structure HookOk (E:Env) (I:Opq):Prop where
 val: ∀(f:FuncId) (args:Fz) (h:Heap) (v:AV) (h':Heap),E.hook f args h= .val v h'->xR E I f args h v h'
 N: ∀(f:FuncId) (args:Fz) (h:Heap) (e:SX) (v:AV) (h':Heap),E.hook f args h= .N e v h'->dB I e=true->xR E I f args h v h'
def bN8(hn: ∀f args h,E.hook f args h= .X):HookOk E I:=
 ⟨λf args h v h' e=>(by grind),λf args h c v h' e=>(by grind)⟩
@[simp]def Heap.get_raise(h:Heap)(b:Nat):h.raise.get b=h.get b:=by rfl
@[simp]def Heap.next_raise(h:Heap):h.raise.next=h.next:=by rfl
@[simp]def Heap.wm_raise(h:Heap):h.raise.wm=h.next:=by rfl
def HR.raise(r:HR O I K w0 h w):HR O I (· <w.heap.size) w h.raise w:=by
 refine⟨λb x L hg hb=>r.blk b x L (by simp_all) hb,λb b' x x' L L' hg hg' hb hb' hne hw=>r.sep b b' x x' L L' (by simp_all) (by simp_all) hb hb' hne (by
  rcases hw with q|q|q
  rw[r.fresh b q]at hb;cases hb;rw[r.fresh b' q]at hb';cases hb'
  grind),λb hb=>r.fresh b (by simp_all),
  λb hb=>by exact r.fget b (by simp_all),r.lt,λi hi=>hi,λi _=>rfl,?_,j5 _,rfl,rfl,rfl,j5 _⟩
 intro b x L hg hw hb;rw[r.fresh b hw]at hb;cases hb
def ZO{n:Nat}{b:Bool}{l:aa4}{v:AV}(h1:DM n (some (b,l)) v h'=true):Fu n h' v=some (b,l):=by
 simp[DM]at h1;cases hx:Fu n h' v with
 |none=>rw[hx]at h1;cases h1
 |some p=>
  rw[hx]at h1;simp[dI3,j8]at h1;obtain⟨c,m⟩:=p;simp only at h1;rw[bg2 h1.2];grind
def cv8(r:HR O I K w0 h w)(r':HR ac I (· <w.heap.size) w h' w')(s':St h.raise O h' ac):HR O I K w0 h w'/\PS K h O h' ac:=by
 refine⟨r.later (λi hi=>r'.keep i hi) r'.size r'.os r'.tape r'.out r'.dr,λb L y hg hb hL=> ?_⟩;have hwm:h'.wm=h.next:=s'.wm
 have hge:w.heap.size<=L.blk:=by have:=r'.free b _ L hg (by omega) hL;omega
 refine⟨λb2 x M _ hM=> ?_,λhk=> ?_⟩;have:=r.lt b2 M hM;omega;have:=A1 (r.kin _ hk) r.size;omega
def Zj: ∀{n:Nat} {l:List AS},l.length=n->ct O I (dP n [.any]) l
 |0,[],_=> .nil
 |n+1,v::l,h=>⟨v,l,rfl,trivial,Zj (by grind)⟩
def c11: ∀n:Nat,(dP n [AV.any]).all AV.oneA=true
 |0=>rfl
 |n+1=>c11 n
def Uv: ∀n:Nat,(dP n [AV.any]).length=n
 |0=>rfl
 |n+1=>by show(dP n [AV.any]).length+1=n+1;rw[Uv n]
def BR.wide{L:Loc}{o:aaV}{e sz:Nat}(r:BR O I L o (.cells e 0 cs))(hs:cs.length+sz<=L.ext):BR O I L o (.cells e 0 (cs++dP sz [.any])):=by
 obtain⟨C,lo,hi,vs,q1,q2,q3,q4,q5,q6,q7,q8⟩:=r;have hl:=q5.length;have hlen:((C.toList.drop (L.off+cs.length)).take sz).length=sz:=by rw[l5,J8,Array.length_toList];omega
 refine⟨C,lo,hi,vs++(C.toList.drop (L.off+cs.length)).take sz,q1,q2,by rw[k7,Uv];exact hs,by rw[G7,q4,c11];rfl,q5.append (Zj hlen),λi hi2=> ?_,q7,q8⟩;rw[k7,Uv]at hi2;grind
def HR.capH{b e sz:Nat}{L:Loc}(r:HR O I K w0 h w)(hg:h.get b=some (.cells e 0 cs))(hL:O b=some L)(hs:cs.length+sz<=L.ext):
 HR (O.add h.next L) I (λi=>i<w.heap.size/\i≠L.blk) w (capH h b e (cs++dP sz [.any])) w:=by
 have hle:Le O (O.add h.next L):=by
  intro b' M hb;simp[cn.add];by_cases e:b'=h.next
  subst e;rw[r.fresh _ (j5 _)]at hb;cases hb;grind
 have fc: ∀z u,(Ev.capH h b e (cs++dP sz [.any])).get z=some u->z=h.next/\u= .cells e 0 (cs++dP sz [.any])\/z≠h.next/\z≠b/\h.get z=some u:=by
  intro z u hu;simp[Ev.capH]at hu;rw[Heap.get_new]at hu;simp at hu;by_cases hz:z=h.next
  rw[c9 hz]at hu;split at hu;simp at hu;exact .inl ⟨hz,hu.symm⟩;cases hu;simp_all[b9,Heap.get_put,c9]
 have ao: ∀z M,z≠h.next->(O.add h.next L) z=some M->O z=some M:=by simp_all[cn.add,b9]
 have aF: ∀M,(O.add h.next L) h.next=some M->M=L:=by grind[cn.add_self,Option.some.injEq]
 refine⟨?_,?_,?_,?_,?_,λi hi=>hi.1,λi _=>rfl,?_,j5 _,rfl,rfl,rfl,j5 _⟩
 intro z u M hu hM;rcases fc z u hu with⟨rfl,rfl⟩|⟨h1,h2,h3⟩
 obtain rfl:=aF _ hM;exact BR.wide ((r.blk b _ M hg hL).mono hle) hs;exact(r.blk z u M h3 (ao z M h1 hM)).mono hle
 intro z1 z2 u1 u2 M1 M2 g1 g2 m1 m2 hne hw;rcases fc z1 u1 g1 with⟨rfl,rfl⟩|⟨h1,h2,h3⟩
 obtain rfl:=aF _ m1;rcases fc z2 u2 g2 with⟨rfl,rfl⟩|⟨k1,k2,k3⟩
 omega;exact r.sep b z2 _ _ M1 M2 hg k3 hL (ao z2 M2 k1 m2) (λhh=>k2 hh.symm) (.inr (.inr (.inl rfl)))
 rcases fc z2 u2 g2 with⟨rfl,rfl⟩|⟨k1,k2,k3⟩
 obtain rfl:=aF _ m2;exact r.sep z1 b _ _ M1 M2 h3 hg (ao z1 M1 h1 m1) hL h2 (.inr (.inr (.inr rfl)))
 refine r.sep z1 z2 _ _ M1 M2 h3 k3 (ao z1 M1 h1 m1) (ao z2 M2 k1 m2) hne ?_;rcases hw with q|q|q
 rw[r.fget z1 q]at h3;cases h3;rw[r.fget z2 q]at k3;cases k3;grind;intro z hz;simp[Ev.capH,Heap.next_new,Heap.next_raise,Heap.next_put]at hz;simp[cn.add];rw[b9 (by omega)];exact r.fresh z (by omega)
 intro z hz;simp[Ev.capH,Heap.next_new,Heap.next_raise,Heap.next_put]at hz;cases hu:(Ev.capH h b e (cs++dP sz [.any])).get z with
 |none=>rfl
 |some u=>
  rcases fc z u hu with⟨rfl,rfl⟩|⟨h1,h2,h3⟩
  omega;rw[r.fget z (by omega)]at h3;cases h3
 .intro z M hM;by_cases hz:z=h.next
  .subst hz;obtain rfl:=aF _ hM;exact r.lt b M hL
  exact r.lt z M (ao z M hz hM)
 intro z u M hu hw hM hk;rcases fc z u hu with⟨rfl,rfl⟩|⟨h1,h2,h3⟩
 grind;rw[r.fget z hw]at h3;cases h3
def do1{b e sz:Nat}{L:Loc}(r:HR O I K w0 h w)(hg:h.get b=some (.cells e 0 cs))(hL:O b=some L)(hwm:h.wm<=b)
 (r':HR ac I (λi=>i<w.heap.size/\i≠L.blk) w h' w') (s':St (capH h b e (cs++dP sz [.any])) (O.add h.next L) h' ac):
 HR O I K w0 (h.put b none) w'/\PS K (h.put b none) O h' ac:=by
 have hlive: ∀z u M,(h.put b none).get z=some u->O z=some M->M.blk<w.heap.size/\M.blk≠L.blk:=by intro z u M hu hM;rw[Heap.get_put]at hu;by_cases hb:z=b;grind;rw[b9 hb]at hu;exact⟨r.lt z M hM,r.sep z b _ _ M L hu hg hM hL hb (.inr (.inr (.inr rfl)))⟩
 have hkl: ∀i,K i->i≠L.blk:=λi hi hh=>r.free b _ L hg hwm hL (hh▸hi)
 refine⟨HR.later2 (r.drop b).1 (λz u M hu hM=>r'.keep _ (hlive z u M hu hM)) (λi hi=>r'.keep _ ⟨A1 (r.kin i hi) r.size,hkl i hi⟩) r'.size r'.os r'.tape r'.out r'.dr,λz M u hu hz hM=> ?_⟩;have hw:h'.wm=h.next:=s'.wm
 have hf:=r'.free z u M hu (by simp_all) hM;refine⟨λz2 u2 M2 hu2 hM2 hh=> ?_,λhk=> ?_⟩;grind;exact hf ⟨A1 (r.kin _ hk) r.size,hkl _ hk⟩
def do2{args:Fz}{c:Cap2}(e:Pr args h=some c): ∃(len sz e:Nat) (k:IntKind) (i:Int) (rest cs:Fz),args= .us c.b 0 len sz:: .int k i::rest/\h.get c.b=some (.cells e 0 cs)/\h.wm<=c.b/\cs.length=len*sz/\0<sz/\
 c.full= .sl c.b 0 len len:: .int k i::rest/\c.wide= .us h.next 0 len sz:: .int k i::rest/\c.h=capH h c.b e (cs++dP sz [.any]):=by
 unfold Pr at e;split at e;rename_i b len sz k i rest;split at e;rename_i el cs hg;obtain⟨hc,e⟩:=W8 e;obtain⟨hc,h4⟩:=W7 hc;obtain⟨hc,h3⟩:=W7 hc;obtain⟨h1,h2⟩:=W7 hc;rw[cV]at h1;rw[eH]at h4;simp at e;subst e;exact⟨len,sz,el,k,_,rest,cs,rfl,hg,h1,by simp_all,h4,rfl,rfl,rfl⟩;cases e;cases e
def cw0(hk:HookOk E I){n:Nat}(hb:HW E I n):RY E I (n+1):=by
 intro R A T hA f args h k he0 K w0 O w us r ra;have hc0:T (dK0 E (ev E n) A f args h k (E.hook f args h)):=he0;have fin: ∀(v:AV) (h':Heap),T (k v h')->xR E I f args h v h'->Calls E.P f us.toArray w (λe w'=> ∃u ac v h',e= .returned u/\T (k v h')/\VR ac I v u/\HR ac I K w0 h' w'/\St h O h' ac):=by intro v h' ht hp;refine Calls.mono (hp K w0 O w us r ra) ?_;grind
 have old:T (bif E.amb f then Xi (ev E n) A f args h k ((ev E n) aat Vi (.body f args h.raise Uy))else
  bif E.caps f then Yn (ev E n) A f args h k (Pr args h)else(ev E n) R A (.body f args h k))->Calls E.P f us.toArray w (λe w'=> ∃u ac v h',e= .returned u/\T (k v h')/\VR ac I v u/\HR ac I K w0 h' w'/\St h O h' ac):=by
  intro he;cases ham:E.amb f with
  |false=>
   rw[ham]at he;cases hcp:E.caps f with
   |false=>
    rw[hcp]at he;exact hb R A T hA f args h k he K w0 O w us r ra
   |true=>
    rw[hcp]at he;unfold Yn at he;split at he;exact hb R A T hA f args h k he K w0 O w us r ra
    .rename_i c hc;unfold d88 at he;split at he;exact absurd he hA.X
     .unfold d87 at he;split at he;exact absurd he hA.X
      .rename_i b l hout;cases hrun:(ev E n Bool wY (.body f c.full h.raise (DM h.next (some (b,l))))&&ev E n Bool wY (.body f c.wide c.h (DM h.next (some (b,l)))))with
       |false=>rw[hrun]at he;exact absurd he hA.X
       |true=>
        rw[hrun]at he;simp at hrun;obtain⟨run1,run2⟩:=hrun;obtain⟨len,sz,el,kk,i,rest,cs,rfl,hg,hwm,hlen,hsz,hf,hw,hch⟩:=do2 hc;obtain⟨u0,ur,rfl,p0,p1⟩:=ra;obtain⟨L,cap,hL,hcap,rfl⟩:=p0;have hdrop:=r.drop c.b;have hext:cs.length<=L.ext:=(r.cells hg hL).choose_spec.choose_spec.choose_spec.choose_spec.2.2.1;have hlc:len<=cap:=by rw[hlen,<-hcap,m9]at hext;exact E6 hext hsz
        by_cases hfull:cap=len
        .subst hfull;refine Calls.mono (hb Bool wY (· =true) (bf7 I) f c.full h.raise _ run1 (· <w.heap.size) w O w _ r.raise (by rw[hf];exact⟨_,ur,rfl,⟨L,hL,rfl⟩,p1⟩)) ?_;rintro e w' ⟨u,ac,v,h',rfl,h1,h2,h3,h4⟩;obtain⟨g1,g2⟩:=cv8 r h3 h4;have hnx:(h.put c.b none).next=h.next:=by simp
         obtain⟨am,q1,q2,q3⟩:=bB2 (h:=h.put c.b none) (g1.drop c.b).1 h3 (λz M y hy hz hM=>by obtain⟨a1,a2⟩:=g2 z M y hy (by exact hz) hM;refine⟨λz2 x2 M2 hx2 hM2=> ?_,a2⟩;rw[Heap.get_put]at hx2;grind) (by exact ZO h1) h2;exact⟨u,am,_,_,rfl,he,q1,q2,hdrop.2.trans q3⟩
        .have hmul:(len+1)*sz<=cap*sz:=B4 _ (by omega);have hs:cs.length+sz<=L.ext:=by grind
         have r1:=r.capH (e:=el) hg hL hs;have hle:Le O (O.add h.next L):=by
          intro b' M hb';simp[cn.add];by_cases e:b'=h.next
          subst e;rw[r.fresh _ (j5 _)]at hb';cases hb';grind
         rw[hch]at run2;refine Calls.mono (hb Bool wY (· =true) (bf7 I) f c.wide _ _ run2 _ w _ w _ r1 (by rw[hw];exact⟨_,ur,rfl,⟨L,cap,by simp[cn.add],hcap,rfl⟩,ct.mono hle _ _ p1⟩)) ?_;rintro e w' ⟨u,ac,v,h',rfl,h1,h2,h3,h4⟩;obtain⟨g1,g2⟩:=do1 r hg hL hwm h3 h4;have hnx:(h.put c.b none).next=h.next:=by simp
         obtain⟨am,q1,q2,q3⟩:=bB2 (h:=h.put c.b none) g1 h3 g2 (by exact ZO h1) h2;exact⟨u,am,_,_,rfl,he,q1,q2,hdrop.2.trans q3⟩
  |true=>
   rw[ham]at he;unfold Xi at he;split at he;exact absurd he hA.X;exact absurd (by assumption) hA.X
 cases hh:E.hook f args h with
 |val v h'=>rw[hh]at hc0;exact fin v h' hc0 (hk.val _ _ _ _ _ hh)
 |N e v h'=>
  rw[hh]at hc0;obtain⟨h1,h2⟩:=hA.needA _ _ hc0;exact fin v h' h2 (hk.N _ _ _ _ _ _ hh h1)
 |_=>rw[hh]at hc0;exact old hc0
def Wy{Ω:Opq->Prop}(an: ∀I v0 l,Ω I->Ω (I.U v0 l))(hE: ∀I,Ω I->E.Ok I)(hk: ∀I,Ω I->HookOk E I)(hm:E.P.follows .mixedOrders=true): ∀n,∀I,Ω I->(∀m,m<=n->zj E I m)/\HW E I n/\OF E I n/\wI E I n/\Ri E I n/\Lk E I n
 |0=>by
  intro I ae;refine⟨λm hm=> ?_,?_,?_,?_,?_,?_⟩
  obtain rfl:m=0:=by omega
  refine⟨?_,?_⟩;intro R A T hA f args h k he;exact absurd he hA.X;intro R A T hA c a h k he;exact absurd he hA.X;intro R A T hA f args h k he;exact absurd he hA.X;intro R A T hA c a h k he;exact absurd he hA.X;intro R A T hA ops rest i a h k _ he;exact absurd he hA.X;intro R A T hA f args h k he;exact absurd he hA.X;intro R A T hA fn a ds h k he;exact absurd he hA.X
 |n+1=>by
  intro I ae;have ih:=Wy an hE hk hm n;obtain⟨hc,hb,hl,ho,hdb,hlv⟩:=ih I ae;have hcd:oO E I n:=(hc n (j5 _)).2;refine⟨λm hmn=> ?_,cv6 hcd hlv,cv5 an ae (λaa h'=>((ih aa h').1 n (j5 _)).2) (λaa h'=>(ih aa h').2.2.2.1) hcd hl,cW9 (hE I ae) (hc n (j5 _)) ho,ce0 hcd,ce1 (hE I ae) hlv hdb⟩;rcases k8 m (n+1)with hlt|hge
  grind
  obtain rfl:m=n+1:=by omega
  exact⟨cw0 (hk I ae) hb,cv4 an ae (hE I ae) hm hc (λaa h'=>((ih aa h').1 n (j5 _)).2) hl ho⟩
variable{E:Env}{I:Opq}
def HR.start(w:yM):HR (λ_=>none) I (· <w.heap.size) w Heap.empty w:=
 ⟨λb x L _ hb=>(by cases hb),λb b' x x' L L' _ _ hb=>(by cases hb),λ_ _=>rfl,λb _=>Heap.get_empty b,λb L hb=>(by cases hb),λi hi=>hi,λi _=>rfl,
  λb x L _ _ hb=>(by cases hb),j5 _,rfl,rfl,rfl,j5 _⟩
section
variable{H:Type}{enc:Bg×AS->H}{P:uV}
def aK0(hl:laidOutB P=true){W W':yM}{sp':Nat->Bool}: ∀{ts:List Bg} {vs:List AS} {ds:List (DataW H)} {ps:aa6},DataW.TrodAll enc P W 0 (λ_=>true) true ts vs ds ps->
 (ts.all λt=>P.readableRec t&&decide (t<P.types.size))=true->(∀p∈ps,W.sameAt W' p)->(∀p∈ps,sp' p.block=true)->DataW.TrodAll enc P W' 0 sp' true ts vs ds ps
 | [],vs,ds,ps,h,_,_,_=>by obtain⟨rfl,rfl,rfl⟩:=trodAll_nil h;rfl
 |t::ts,vs,ds,ps,h,hr,hs,hp=>by
  obtain⟨v,vs',d,ds',p,q,rfl,rfl,rfl,h1,h2⟩:=trodAll_cons h;simp only[List.all_cons,j8,decide_eq_true_eq]at hr;exact trodAll_cons_mk (WideElems.Trod_stays hl hr.1.1 hr.1.2 h1 (λx hx=>hs x (by simp[hx])) (λx hx=>hp x (by simp[hx])))
   (aK0 hl h2 hr.2 (λx hx=>hs x (by simp[hx])) (λx hx=>hp x (by simp[hx])))
def cX8{f:Func}{s:ChangeSpec}{W W':yM}{args:Array AS}{ds:List (DataW H)}{before:aa6}{tb:Bg}
 (hW:DataW.Whole enc P f.params.toList s.vars false W args.toList ds [] before) (hv:s.vars=[]) (hfn:s.fn H ds={results:=[.lit (.bool true)],args:=ds})
 (hl:laidOutB P=true) (hr:(f.params.toList.all λt=>P.readableRec t&&decide (t<P.types.size))=true) (hb:Below W.heap.size W W')
 (hbool:P.underlying tb=some .bool) (hres:f.resultTypes= #[tb]):s.post enc P f false true false false W args (.bool true) W':=by
 have hlt: ∀p∈before,p.block<W.heap.size:=λp hp=>hW.lt p hp
 have hWW:=hW;obtain⟨p,q,hA,hV,rfl,hz,_⟩:=hWW;rw[hv]at hV;obtain rfl:q=[]:=hV;simp at hlt hz;have hsame: ∀x∈p,W.sameAt W' x:=λx hx=>hb.same (hlt x hx)
 have hargs: ∀sp:Nat->Bool,(∀x∈p,sp x.block=true)->DataW.TrodAll enc P W' 0 sp true f.params.toList args.toList ds p:=λsp hsp=>aK0 hl hA hr hsame hsp
 have hress: ∀(b:Nat) (sp:Nat->Bool) (hd:Bool),DataW.TrodAll enc P W' b sp hd f.resultTypes.toList ((Value.bool true).resultList f.resultTypes.size) [.lit (.bool true)] []:=λb sp hd=>by rw[hres];exact trodAll_mk1 (shut_bool hbool true)
 have hvs: ∀sp:Nat->Bool,DataW.TrodVars enc P W' sp s.vars [] []:=λsp=>by rw[hv];rfl
 have h0:s.fn H (ds++[])={results:=[.lit (.bool true)],args:=ds}:=by rw[o9];exact hfn
 refine⟨ds,[],p,[],p,[],by simpa using hW,?_,?_,?_,World.keptBut_mono (λx hx=>⟨hx,.inr (.inl hx)⟩) (hb.frame (· ∈p)),λh=>by cases h⟩;rw[h0];exact hress _ _ _;rw[h0];exact hargs _ (λx hx=>by simpa using hlt x hx);grind
end
def JR:AS->Val
 | .int _ n=> .D n
 | .string s=> .vs s.data.toList
 | .bool b=> .B b
 |_=> .B false
noncomputable section
structure LGen where
 id:Nat
 v0:Nat
 dead:HQ
 own:List (Nat×Bj×Nat×zd)
 abs:HQ
 mem:HQ
 fvs:HQ
 exits:List (Ex×aav)
 maps:List (Nat×zd×zd):=[]
 gone:List Ex:=[]
 mapr:Bool:=false
 xown:List (Nat×Nat×zd):=[]
mutual
def Yw:AV->Jn
 | .Z _ e=>[e]
 | .K e=>[e]
 | .H e=>[e]
 | .S _ x y _=>[x,y]
 | .U _ x _=>[x]
 | .agg l=>Vo l
 | .iface _ x=>Yw x
 |_=>[]
def Vo:Fz->Jn
 | []=>[]
 |a::r=>Yw a++Vo r
end
def dM3(x:sP):Jn:=match x with
 |some (.cells _ _ cs)=>Vo cs
 |some (.A _ _ l)=>[l]
 |some (.marr _ _ _ l)=>[l]
 |some (.bag _ _ l)=>[l]
 |some (.mrg _ _ _ _ l)=>[l]
 |_=>[]
mutual
def Xw(n:Nat):AV->AV×Nat
 | .int k _=>(.Z k (.V n),n+1)
 | .Z k _=>(.Z k (.V n),n+1)
 | .str _=>(.K (.V n),n+1)
 | .K _=>(.K (.V n),n+1)
 | .bool _=>(.H (.V n),n+1)
 | .H _=>(.H (.V n),n+1)
 | .S b _ _ s=>(.S b (.V n) (.V (n+1)) s,n+2)
 | .U b _ s=>(.U b (.V n) s,n+1)
 | .agg l=>match Wk n l with
   |(l',m)=>(.agg l',m)
 |x=>(x,n)
def Wk(n:Nat):Fz->Fz×Nat
 | []=>([],n)
 |a::r=>match Xw n a with
  |(a',m)=>match Wk m r with
   |(r',m')=>(a'::r',m')
end
def e45(n:Nat)(x:sP):sP×Nat:=match x with
 |some (.cells e fz cs)=>match Wk n cs with
  |(cs',m)=>(some (.cells e fz cs'),m)
 |some (.A e sig _)=>(some (.A e sig (.V n)),n+1)
 |some (.marr d ks vs _)=>(some (.marr d ks vs (.V n)),n+1)
 |x=>(x,n)
def dM4(t:Nat):aav->yU
 | []=>none
 |a::r=>bif Nat.beq a.1 t then some a.2 else dM4 t r
def Wf(look:Nat->yU):Nat->Nat->Nat->aav×Nat
 |0,_,n=>([],n)
 |m+1,t,n=>match look t with
  |some v=>match Xw n v with
   |(v',n')=>match Wf look m (t+1) n' with
    |(r,n'')=>((t,v')::r,n'')
  |none=>Wf look m (t+1) n
def RL(b:Nat):List (Nat×HQ)->Option HQ
 | []=>none
 |x::r=>bif Nat.beq x.1 b then(match x.2,RL b r with
  | [],_=>some []
  |l,some []=>some []
  |l,some l'=>some (l++l')
  |l,none=>some l)else RL b r
def Vf(l:HQ):Nat->Nat->Fz->Fz×Nat
 |_,n,[]=>([],n)
 |i,n,a::r=>bif Fl i l then(match Xw n a with
  |(a',m)=>match Vf l (i+1) m r with
   |(r',m')=>(a'::r',m'))
  else(match Vf l (i+1) n r with
   |(r',m')=>(a::r',m'))
def e48(l:HQ)(n:Nat)(x:sP):sP×Nat:=match l,x with
 |_::_,some (.cells e fz cs)=>(match Vf l 0 n cs with
  |(cs',m)=>(some (.cells e fz cs'),m))
 |_,x=>e45 n x
def YN(bs:List (Nat×HQ))(h:Heap):Nat->Nat->Nat->List (Nat×sP)×Nat
 |0,_,n=>([],n)
 |m+1,b,n=>match RL b bs with
  |some l=>(match e48 l n (h.get b)with
   |(x,n')=>match YN bs h m (b+1) n' with
    |(r,n'')=>((b,x)::r,n''))
  |none=>YN bs h m (b+1) n
def Ve(look:Nat->yU)(bs:List (Nat×HQ))(nt:Nat)(h:Heap)(v0:Nat):StP:=match Wf look nt 0 v0 with
 |(sl,n)=>match YN bs h h.next 0 n with
  |(bl,_)=>⟨sl,bl,h.next⟩
def SH(a:Fr)(n0 n:Nat):List (Nat×Bj×Nat×zd)->aaM
 | []=>[]
 |(t,none,e,sig)::r=>⟨t,n,e,sig,none,false⟩::SH a n0 (n+1) r
 |(t,some i,e,sig)::r=>(bif Nat.ble 1000 i then⟨t,n,e,sig,some (n0+(i/1000-1),i % 1000),false⟩else match a.slot t with
  | .ptr b o=>⟨t,n,e,sig,some (b,o+i),false⟩
  |_=>⟨t,n,e,sig,none,false⟩)::SH a n0 (n+1) r
def dM5(a:Fr)(l:HQ)(t:Nat):yU:=bif Fl t l then some (a.slot t)else none
def dM6(a:Fr)(l:HQ)(x:aav)(t:Nat):yU:=match dM4 t x with
 |some v=>some v
 |none=>dM5 a l t
def e49(h:Heap)(x:sP):Jn:=match x with
 |some (.cells _ _ cs)=>(EE cs).flatMap λb=>dM3 (h.get b)
 |_=>[]
def wz(h:Heap)(b:Nat):HQ:=match h.get b with
 |some (.cells _ _ cs)=>EE cs
 |_=>[]
def eh7(h:Heap)(b:Nat):Jn:=match h.get b with
 |some (.A _ _ l)=>[l]
 |_=>[]
def fvS(a:Fr)(h:Heap)(t:Nat):Jn:=
 bif Nat.ble 2000 t then((rO (a.slot (t-2000))).flatMap (wz h)).flatMap λb=>(wz h b).flatMap (eh7 h)
 else bif Nat.ble 1000 t then(rO (a.slot (t-1000))).flatMap λb=>(wz h b).flatMap (eh7 h)
 else Yw (a.slot t)++((rO (a.slot t)).flatMap λb=>dM3 (h.get b)++e49 h (h.get b))
def fvG(a:Fr)(h:Heap):HQ->Jn
 | []=>[]
 |t::r=>fvS a h t++fvG a h r
def Py(l:HQ):List (Nat×HQ):=l.map λb=>(b,[])
def ep2(a:Fr)(h:Heap)(t:Nat):List (Nat×HQ):=bif Nat.ble 10000 t then(rO (a.slot (t % 100))).map λb=>(b,[(t-10000)/100])
 else bif Nat.ble 1000 t then Py ((rO (a.slot (t-1000))).flatMap (wz h))else Py (rO (a.slot t))
def exB:Ex->Ex->Bool
 | .norm,.norm=>true
 | .exit i,.exit j=>Nat.beq i j
 | .ret,.ret=>true
 |_,_=>false
def ep3(owns:aaM)(b:Nat):Bool:=owns.any λo=>Nat.beq o.blk b
def dM7(g:Bool)(owns:aaM)(s:StP):StP:=bif g then⟨s.slots,s.blks.map λx=>bif ep3 owns x.1 then(x.1,none)else x,s.next⟩else s
def dM8(n:Nat):List (Nat×Nat×zd)->aaM
 | []=>[]
 |(t,e,sig)::r=>⟨t,n,e,sig,none,true⟩::dM8 (n+1) r
def eh8:aaM->Heap->Heap
 | [],h=>h
 |o::r,h=>eh8 r (h.put o.blk (some (.A o.elem o.sig (.O .row []))))
def slX(l:aaM):aav:=l.map λo=>(o.slot,.U o.blk (.V 0) o.sig.length)
def e50(g:LGen)(owns lz:aaM)(p:Fr×Heap)(bs:List (Nat×HQ))(x:Ex×aav):StP:=bif exB .ret x.1 then Ve (dM6 p.1 g.abs (x.2++slX lz)) (bs++Py (lz.map (·.blk))) p.1.nt (eh8 lz p.2) g.v0 else Ve (dM6 p.1 g.abs x.2) bs p.1.nt p.2 g.v0
def e51(g:LGen)(owns lz:aaM)(p:Fr×Heap)(bs:List (Nat×HQ)):LSpec:=
 ⟨g.id,owns++lz,g.v0,fvG p.1 p.2 g.fvs,g.dead,Ve (dM5 p.1 g.abs) bs p.1.nt p.2 g.v0,g.exits.map λx=>(x.1,dM7 (g.gone.any (exB x.1)) owns (e50 g owns lz p bs x)),g.mapr⟩
def MZ(ks vs:zd)(h:Heap)(b:Nat):Heap:=match h.get b with
 |some (.map [] c)=>h.put b (some (.marr (Nat.beq c 0) ks vs (.O .row [])))
 |_=>h
def YJ(h:Heap):AV->Heap
 | .map b=>(match h.get b with
   |some (.marr _ ks vs l)=>h.put b (some (.marr false ks vs l))
   |_=>h)
 |_=>h
def yj(a:Fr):List (Nat×zd×zd)->Heap->Heap
 | [],h=>h
 |(t,ks,vs)::r,h=>bif Nat.ble 40000 t then yj a r ((((rO (a.slot (t-40000))).flatMap (wz h)).flatMap (wz h)).foldl (λh b=>YJ (MZ ks vs h b) (.map b)) h)else bif Nat.ble 30000 t then yj a r (((rO (a.slot (t-30000))).flatMap (wz h)).foldl (λh b=>YJ (MZ ks vs h b) (.map b)) h)else bif Nat.ble 20000 t then yj a r (YJ h (a.slot (t-20000)))else bif Nat.ble 1000 t then yj a r (((rO (a.slot (t-1000))).flatMap (wz h)).foldl (MZ ks vs) h)else(match a.slot t with
  | .map b=>yj a r (MZ ks vs h b)
  |_=>yj a r h)
def dM9(h:Heap)(o:OwnP):Bool:=match h.get o.blk with
 |some (.cells _ _ _)=>false
 |_=>true
def e52(g:LGen)(a:Fr)(h:Heap)(owns:aaM):Bool:=(g.own.any λo=>o.2.2.2.isEmpty)&&(xJ owns (layDead a g.dead) h).isNone
def e53(g:LGen)(a:Fr)(h:Heap)(owns lz:aaM):LSpec:=
 bif e52 g (eU owns a h).2 (h.upto (Nat.add h.next (Nat.add owns.length lz.length))) (owns++lz)then⟨g.id,[⟨0,0,0,[],none,false⟩],g.v0,[],[],⟨[],[],0⟩,[],false⟩else
 match jj ⟨g.id,owns++lz,g.v0,[],g.dead,⟨[],[],Nat.add h.next (Nat.add owns.length lz.length)⟩,[],false⟩ (eU owns a h).2 (h.upto (Nat.add h.next (Nat.add owns.length lz.length)))with
  |p=>e51 g owns lz (p.1,yj p.1 g.maps p.2) (Py ((owns.filter (dM9 p.2)).map (·.blk))++(g.mem.map (ep2 p.1 p.2)).flatten)
def db(g:LGen)(a:Fr)(h:Heap):LSpec:=e53 g a h (SH a h.next h.next g.own) (dM8 (Nat.add h.next g.own.length) g.xown)
mutual
def iY:AV->Fz
 | .agg cs=>cs
 | .V vs=>tJ vs
 |v=>[v]
def tJ:Fz->Fz
 | []=>[]
 |a::r=>iY a++tJ r
end
inductive BSrc where
 |whole (b:Nat)
 |view (v:AV)
 deriving Inhabited
abbrev abj:= Option BSrc
abbrev aaA:= List BSrc
structure FC where
 args:Fz
 blks:aaL
 mt:Nat
 N:SX
 out:AV
 post:List sP
 outs:Jn
mutual
def lG(es:Jn):SX->SX
 | .V n=>es.getD n (.V n)
 | .O p l=> .O p (Gu es l)
 | .Q f l=> .Q f (Gu es l)
 |x=>x
def Gu(es:Jn):Jn->Jn
 | []=>[]
 |a::r=>lG es a::Gu es r
end
def OH(sz:Nat)(sig:zd)(n:Nat)(cs:Fz):Option (SX×SX):=match pB sig sz n cs with
 |some rs=>some (.cb true,.O .row rs)
 |none=>none
def Gh(sz elem:Nat)(sig:zd)(x:AV)(h:Heap):Option (SX×SX):=match x with
 | .N=>some (.cb true,.O .row [])
 | .U b len s=>match h.get b with
   |some (.A e sg l)=>bif Nat.beq s sz&&Nat.beq e elem&&hZ sg sig then(bif SX.beq len (.O .Y [l])then some (.cb true,l)else some (.O .and [.O (.cmp .leq) [.C 0,len],.O (.cmp .leq) [len,.O .Y [l]]],.O .lsub [l,.C 0,len]))else none
   |_=>none
 | .S b off len s=>match h.get b with
   |some (.A e sg l)=>bif Nat.beq s sz&&Nat.beq e elem&&hZ sg sig then(bif SX.beq off (.C 0)&&SX.beq len (.O .Y [l])then some (.cb true,l)else some (.O .and [.O (.cmp .leq) [.C 0,off],.O .and [.O (.cmp .leq) [.C 0,len],.O (.cmp .leq) [.O .iadd [off,len],.O .Y [l]]]],.O .lsub [l,off,.O .iadd [off,len]]))else none
   |_=>none
 | .sl b o n c=>match h.get b with
   |some (.cells e fz cs)=>bif Nat.beq e elem&&Nat.ble n c&&Nat.ble fz o&&Nat.ble (o+n*sz) cs.length&&Nat.blt 0 n then OH sz sig n ((cs.drop o).take (n*sz))else none
   |_=>none
 | .us b o n s=>match h.get b with
   |some (.cells e fz cs)=>bif Nat.blt 0 sz&&Nat.beq s sz&&Nat.beq e elem&&Nat.ble fz o&&Nat.ble (o+n*sz) cs.length then OH sz sig n ((cs.drop o).take (n*sz))else none
   |_=>none
 |_=>none
def NK(elem:Nat)(x:sP):Nat:=match x with
 |some (.A e _ _)=>e
 |some (.cells e _ _)=>e
 |_=>elem
def e54(x:AV)(h:Heap)(elem:Nat):Nat:=match x with
 | .U b _ _=>NK elem (h.get b)
 | .S b _ _ _=>NK elem (h.get b)
 | .sl b _ _ _=>NK elem (h.get b)
 | .us b _ _ _=>NK elem (h.get b)
 |_=>elem
def d99(x:AV)(h:Heap)(elem:Nat):Nat:=bif Nat.beq elem jP then e54 x h elem else elem
def DK(sz elem:Nat)(sig:zd)(x:AV)(h:Heap):Option (SX×SX):=Gh sz (d99 x h elem) sig x h
structure Bnd where
 src:List (Nat×BSrc)
 sx:List (Nat×SX)
def Sm{α:Type}(i:Nat):List (Nat×α)->Bool
 | []=>false
 |a::r=>bif Nat.beq a.1 i then true else Sm i r
def Bnd.addS(B:Bnd)(i:Nat)(s:BSrc):Bnd:=bif Sm i B.src then B else⟨(i,s)::B.src,B.sx⟩
def QN{α:Type}(i:Nat):List (Nat×α)->Option α
 | []=>none
 |a::r=>bif Nat.beq a.1 i then some a.2 else QN i r
def Bnd.addG(B:Bnd)(j:Nat)(x:SX):Bnd:=match QN j B.sx with
 |none=>(match x with
  | .O .G [.Q f l,.C (.ofNat 0),_]=>⟨B.src,(j,.Q f l)::B.sx⟩
  | .O .G [.V n,.C (.ofNat 0),_]=>⟨B.src,(j,.V n)::B.sx⟩
  |x=>⟨B.src,(j,.O .row [.O .row [x]])::B.sx⟩)
 |some (.O .row [.O .row l])=>⟨B.src,(j,.O .row [.O .row (l++[x])])::B.sx⟩
 |some _=>B
def Bnd.addX(B:Bnd)(p x:SX):Bnd:=match p with
 | .V j=>bif Sm j B.sx then B else⟨B.src,(j,x)::B.sx⟩
 | .O .G [.V j,_,_]=>B.addG j x
 |_=>B
def Bnd.addO(B:Bnd)(p:SX)(x:aaD):Bnd:=match x with
 |some x=>B.addX p x
 |none=>B
def Ai(p q:SX):Bool:=match p,q with
 | .C 0,.O .Y _=>true
 |_,_=>false
mutual
def ZM(B:Bnd):AV->AV->Bnd
 | .Z _ p,x=>B.addO p ((kr x).map (·.2))
 | .K p,x=>B.addO p (pI x)
 | .H p,x=>B.addO p (nl x)
 | .agg ps,.agg xs=>Bl B ps xs
 | .iface _ p,.iface _ x=>ZM B p x
 | .func _ a b,.func _ c d=>Bl (Bl B a c) b d
 | .ptr i _,.ptr b _=>B.addS i (.whole b)
 | .map i,.map b=>B.addS i (.whole b)
 | .sl i _ _ _,.sl b _ _ _=>B.addS i (.whole b)
 | .S i p q _,x=>bif Ai p q then B.addS i (.view x)else(match x with
   | .S b p' q' _=>((B.addS i (.whole b)).addX p p').addX q q'
   |_=>B)
 | .U i q _,.U b q' _=>(B.addS i (.whole b)).addX q q'
 |_,_=>B
def Bl(B:Bnd):Fz->Fz->Bnd
 | [],_=>B
 |_::_,[]=>B
 |p::ps,x::xs=>Bl (ZM B p x) ps xs
end
def e57(h:Heap)(B:Bnd)(p:Blk)(s:abj):Bnd:=match s with
 |some (.whole b)=>(match p,h.get b with
  | .cells _ _ ps,some (.cells _ _ xs)=>Bl B ps xs
  | .A _ _ q,some (.A _ _ l)=>B.addX q l
  | .bag _ _ q,some (.bag _ _ l)=>B.addX q l
  | .marr _ _ _ q,some (.marr _ _ _ l)=>B.addX q l
  | .marr _ _ _ q,some (.map [] _)=>B.addX q (.O .row [])
  |_,_=>B)
 |some (.view v)=>(match p with
  | .A e sig q=>(match DK sig.length e sig v h with
    |some (_,l)=>B.addX q l
    |none=>B)
  |_=>B)
 |none=>B
def Kx(h:Heap)(B:Bnd):aaL->Nat->Bnd
 | [],_=>B
 |p::r,i=>Kx h (e57 h B p (QN i B.src)) r (i+1)
def DF{α:Type}(l:List (Nat×α)):Nat->Nat->Option (List α)
 |0,_=>some []
 |n+1,i=>match QN i l,DF l n (i+1)with
  |some x,some r=>some (x::r)
  |_,_=>none
def Br:AV->Bool
 | .bool _| .int _ _| .str _| .nilp| .glob _| .N| .nilm| .nilf| .nili=>true
 |_=>false
def ye(s:abj)(b:Nat):Bool:=match s with
 |some (.whole c)=>Nat.beq c b
 |_=>false
def SA(s:abj)(x:AV):Bool:=match s with
 |some (.view v)=>AV.beq v x
 |_=>false
def VQ(e:SX):SX:=match e with
 | .O .G [.O .row [.O .row l],.C (.ofNat 0),.C (.ofNat k)]=>(match l[k]? with
   |some x=>x
   |none=>e)
 |e=>e
def Hn(es:Jn)(p x:SX):Bool:=SX.beq (VQ (lG es p)) x
def NI(es:Jn)(p:SX)(x:aaD):Bool:=match x with
 |some x=>Hn es p x
 |none=>false
def Ym(es:Jn)(k:IntKind)(p:SX)(x:abf):Bool:=match x with
 |some (k',x)=>decide (k=k')&&Hn es p x
 |none=>false
def HS(blks:aaL)(i s:Nat)(q:SX):Bool:=match blks[i]? with
 |some (.A _ sig l)=>Nat.beq sig.length s&&SX.beq q (.O .Y [l])
 |_=>false
def XJ(src:aaA)(es:Jn)(i:Nat)(p q:SX)(s:Nat)(x:AV):Bool:=match x with
 | .S b p' q' s'=>Nat.beq s s'&&ye src[i]? b&&Hn es p p'&&Hn es q q'
 |_=>false
def SM(src:aaA)(es:Jn)(i:Nat)(q:SX)(s:Nat)(x:AV):Bool:=match x with
 | .U b q' s'=>Nat.beq s s'&&ye src[i]? b&&SX.beq (lG es q) q'
 |_=>false
def RS(src:aaA)(i o:Nat)(x:AV):Bool:=match x with
 | .ptr b o'=>Nat.beq o o'&&ye src[i]? b
 |_=>false
def WT(src:aaA)(i:Nat)(x:AV):Bool:=match x with
 | .map b=>ye src[i]? b
 |_=>false
def Sn(src:aaA)(i o n c:Nat)(x:AV):Bool:=match x with
 | .sl b o' n' c'=>Nat.beq o o'&&Nat.beq n n'&&Nat.beq c c'&&ye src[i]? b
 |_=>false
mutual
def jw(src:aaA)(es:Jn)(blks:aaL):AV->AV->Bool
 | .Z k p,x=>Ym es k p (kr x)
 | .K p,x=>NI es p (pI x)
 | .H p,x=>NI es p (nl x)
 | .agg ps,x=>(match x with
   | .agg xs=>uj src es blks ps xs
   |_=>false)
 | .iface t p,x=>(match x with
   | .iface u y=>Nat.beq t u&&jw src es blks p y
   |_=>false)
 | .func f a b,x=>(match x with
   | .func g c d=>decide (f=g)&&uj src es blks a c&&uj src es blks b d
   |_=>false)
 | .ptr i o,x=>RS src i o x
 | .map i,x=>WT src i x
 | .sl i o n c,x=>Sn src i o n c x
 | .S i p q s,x=>bif Ai p q then HS blks i s q&&SA src[i]? x else XJ src es i p q s x
 | .U i q s,x=>SM src es i q s x
 |p,x=>Br p&&AV.beq p x
def uj(src:aaA)(es:Jn)(blks:aaL):Fz->Fz->Bool
 | [],xs=>(match xs with
   | []=>true
   |_=>false)
 |p::ps,xs=>(match xs with
  |x::xs=>jw src es blks p x&&uj src es blks ps xs
  |_=>false)
end
def uD(src:aaA)(es:Jn)(blks:aaL)(h:Heap)(p:Blk)(s:BSrc):aaD:=match s with
 | .whole b=>(match p,h.get b with
   | .cells e fz ps,some (.cells e' fz' xs)=>bif Nat.beq e e'&&Nat.beq fz fz'&&ps.all AV.oneA&&uj src es blks ps xs then some (.cb true)else none
   | .A e sig q,some (.A e' sig' l)=>bif Nat.beq e e'&&hZ sig sig'&&SX.beq (lG es q) l then some (.cb true)else none
   | .bag e sig q,some (.bag e' sig' l)=>bif Nat.beq e e'&&hZ sig sig'&&SX.beq (lG es q) l then some (.cb true)else none
   | .marr d ks vs q,some (.marr d' ks' vs' l)=>bif (!d||d')&&hZ ks ks'&&hZ vs vs'&&SX.beq (lG es q) l then some (.cb true)else none
   | .marr d _ _ q,some (.map [] c)=>bif (!d||Nat.beq c 0)&&SX.beq (lG es q) (.O .row [])then some (.cb true)else none
   |_,_=>none)
 | .view v=>(match p with
   | .A e sig q=>(match DK sig.length e sig v h with
     |some (nd,l)=>bif SX.beq (lG es q) l then some nd else none
     |none=>none)
   |_=>none)
def Jc(src:aaA)(es:Jn)(blks:aaL)(h:Heap):aaL->aaA->aaD
 | [],[]=>some (.cb true)
 |p::ps,s::ss=>match uD src es blks h p s,Jc src es blks h ps ss with
  |some a,some b=>some (iC a b)
  |_,_=>none
 |_,_=>none
def lI:BSrc->Bj
 | .whole b=>some b
 | .view (.U b _ _)=>some b
 | .view (.S b _ _ _)=>some b
 | .view (.sl b _ _ _)=>some b
 | .view (.us b _ _ _)=>some b
 | .view _=>none
def neB(a b:Bj):Bool:=match a,b with
 |some x,some y=> !(Nat.beq x y)
 |_,_=>true
def eh9(p:sP):Bool:=match p with
 |some (.A _ _ _)=>true
 |_=>false
def ZZ(p:sP):Bool:=match p with
 |some (.A _ _ _)=>true
 |some (.bag _ _ _)=>true
 |_=>false
def ep4(p:sP):Bool:=match p with
 |some (.A _ _ _)=>true
 |some (.bag _ _ _)=>true
 |some (.vec _)=>true
 |_=>false
def WM(h:Heap)(b:Bj):Bool:=match b with
 |some b=>ep4 (h.get b)
 |none=>false
def Tm(n:Nat)(b:Bj):Bool:=match b with
 |some b=>Nat.ble n b
 |none=>true
def HT(blks:aaL)(mt:Nat)(h:Heap)(i j:Nat)(a b:Bj):Bool:=
 (Nat.blt i mt&&Nat.blt j mt&&eh9 blks[i]? &&eh9 blks[j]?)||(neB a b&&(Tm h.wm a||Tm h.wm b|| !(WM h a)|| !(WM h b)))
def QM(blks:aaL)(mt:Nat)(h:Heap)(i:Nat)(s:BSrc):aaA->Nat->Bool
 | [],_=>true
 |t::r,j=>HT blks mt h i j (lI s) (lI t)&&QM blks mt h i s r (j+1)
def seps(blks:aaL)(mt:Nat)(h:Heap):aaA->Nat->Bool
 | [],_=>true
 |s::r,i=>QM blks mt h i s r (i+1)&&seps blks mt h r (i+1)
def DP(b:Nat):Fz->Bool
 | []=>false
 |x::r=>(match x with
  | .ptr c _=>Nat.beq c b
  | .map c=>Nat.beq c b
  |_=>false)||DP b r
def XB(h:Heap)(b c:Nat):Bool:=match h.get c with
 |some (.cells _ _ cs)=>DP b cs
 |_=>false
def KI(args:Fz)(h:Heap)(b:Nat):aaA->Bool
 | []=>false
 |s::r=>(match s with
  | .whole c=>DP c args&&XB h b c
  | .view _=>false)||KI args h b r
def cw6(x:Option sP):Bool:=match x with
 |some none=>true
 |_=>false
def In(mt:Nat)(args:Fz)(h:Heap)(all:aaA)(post:List sP):aaA->Nat->Bool
 | [],_=>true
 |s::r,i=>(Nat.blt i mt||(match s with
  | .whole b=>Nat.ble h.wm b&&Nat.blt b h.next&&(cw6 post[i-mt]? ||DP b args||KI args h b all||ZZ (h.get b))
  | .view _=>false))&&In mt args h all post r (i+1)
def pA(e:SX):Bool:=(AB 1000 e).isSome||fT 0 e
def lQ(src:aaA)(i:Nat):Bool:=match src[i]? with
 |some (.whole _)=>true
 |_=>false
def ux(src:aaA)(mt:Nat)(post:List sP)(p:AV):Bool:=match p with
 | .Z _ e=>pA e
 | .K e=>pA e
 | .H e=>pA e
 | .S i x y _=>lQ src i&&pA x&&pA y
 | .U i x s=>bif Nat.ble src.length i then(match x,post[i-mt]? with
  | .O .Y [q],some (some (.A _ sig q'))=>SX.beq q q'&&Nat.beq sig.length s
  |_,_=>false)else lQ src i&&(AB 1000 x).isSome
 | .ptr i _=>lQ src i
 |p=>Br p
def EP(n:Nat)(p:AV):Bool:=match p with
 | .U i _ _=>Nat.blt i n
 |_=>true
def Oz(src:aaA)(mt:Nat)(post:List sP)(x:sP):Bool:=match x with
 |none=>true
 |some (.cells _ _ ps)=>ps.all λp=>ux src mt post p&&EP src.length p&&p.oneA
 |some (.A _ _ q)=>pA q
 |some (.marr _ _ _ q)=>pA q
 |_=>false
def DG(x:sP):Bool:=match x with
 |some (.A _ _ q)=>pA q
 |_=>false
def Am(src:aaA)(mt:Nat)(post:List sP):List sP->Nat->Bool
 | [],i=>Nat.ble src.length i
 |x::r,i=>bif Nat.blt i src.length then Oz src mt post x&&Am src mt post r (i+1)else DG x&&Am src mt post r (i+1)
structure Binding where
 src:aaA
 es:Jn
 nd:SX
def um(c:FC)(nv:Nat):Bool:=pP nv c.blks.length c.args&&c.blks.all (λx=>AE nv c.blks.length (some x))&&fT nv c.N&&tf nv c.outs&&Nat.ble c.mt c.blks.length&&Nat.blt c.blks.length 60000&&c.blks.all (λx=>match x with
 | .cells _ _ _=>true
 | .A _ _ _=>true
 | .bag _ _ _=>true
 | .marr _ _ _ _=>true
 |_=>false)
def dp5(c:FC)(args:Fz)(h:Heap):Bnd:=
 Kx h (Bl ⟨(Kx h ⟨(Kx h (Bl ⟨[],[]⟩ c.args args) c.blks 0).src,[]⟩ c.blks 0).src,[]⟩ c.args args) c.blks 0
def Ep(c:FC)(nv:Nat)(args:Fz)(h:Heap):Option Binding:=
 match dp5 c args h with
 |B=>match DF B.src c.blks.length 0,DF B.sx nv 0 with
  |some src,some es=>bif uj src es c.blks c.args args&&seps c.blks c.mt h src 0&&In c.mt args h src c.post src 0&&Am src c.mt c.post c.post c.mt&&(iY c.out).all (ux src c.mt c.post)then(match Jc src es c.blks h c.blks src with
   |some nd=>some ⟨src,es,nd⟩
   |none=>none)else none
  |_,_=>none
def wa(es outs:Jn)(k:Nat):SX:=lG es (outs.getD k (.cb false))
def fQ(src:aaA)(n:Nat)(i:Nat):Nat:=match src[i]? with
 |some (.whole b)=>b
 |some (.view _)=>n
 |none=>n+(i-src.length)
mutual
def jb(ρ:Nat->Nat):AV->AV
 | .ptr b o=> .ptr (ρ b) o
 | .sl b o n c=> .sl (ρ b) o n c
 | .us b o n s=> .us (ρ b) o n s
 | .es b o s=> .es (ρ b) o s
 | .map b=> .map (ρ b)
 | .func fn a c=> .func fn (qp ρ a) (qp ρ c)
 | .yield b=> .yield (ρ b)
 | .iface t v=> .iface t (jb ρ v)
 | .agg l=> .agg (qp ρ l)
 | .V l=> .V (qp ρ l)
 | .S b x y s=> .S (ρ b) x y s
 | .optr b x j s=> .optr (ρ b) x j s
 | .U b x s=> .U (ρ b) x s
 |x=>x
def qp(ρ:Nat->Nat):Fz->Fz
 | []=>[]
 |a::r=>jb ρ a::qp ρ r
end
def oT(ρ:Nat->Nat):sP->sP
 |some (.cells e fz cs)=>some (.cells e fz (qp ρ cs))
 |some (.A e sig l)=>some (.A e sig l)
 |some (.marr d ks vs l)=>some (.marr d ks vs l)
 |_=>none
mutual
def jq(q:Nat->SX):AV->AV
 | .Z k e=>pT k (eC 1000 q e)
 | .K e=> .K (eC 1000 q e)
 | .H e=> .H (eC 1000 q e)
 | .agg l=> .agg (uI q l)
 | .V l=> .V (uI q l)
 | .S b x y s=> .S b (eC 1000 q x) (eC 1000 q y) s
 | .U b x s=> .U b (Pk q x) s
 |x=>x
def uI(q:Nat->SX):Fz->Fz
 | []=>[]
 |a::r=>jq q a::uI q r
def Pk(q:Nat->SX):SX->SX
 | .O .Y [x]=> .O .Y [eC 1000 q x]
 |x=>eC 1000 q x
end
def oV(q:Nat->SX):sP->sP
 |some (.cells e fz cs)=>some (.cells e fz (uI q cs))
 |some (.A e sig l)=>some (.A e sig (eC 1000 q l))
 |some (.marr d ks vs l)=>some (.marr d ks vs (eC 1000 q l))
 |x=>x
def ol(ρ:Nat->Nat)(q:Nat->SX)(m:Nat):List sP->Nat->Heap->Heap
 | [],_,h=>h
 |x::r,i,h=>ol ρ q m r (i+1) (bif Nat.blt i m then h.put (ρ i) (oT ρ (oV q x))else(match oT ρ (oV q x)with
  |some y=>h.new y
  |none=>h))
def OE(e:SX)(v:AV)(h:Heap):Res:=match e with
 | .cb true=> .val v h
 |e=> .N e v h
def zN(c:FC)(b:Binding)(h:Heap):Res:=
 OE (iC b.nd (lG b.es c.N)) (jb (fQ b.src h.next) (jq (wa b.es c.outs) c.out)) (ol (fQ b.src h.next) (wa b.es c.outs) c.blks.length c.post c.mt h)
def VY(x:AV)(h:Heap):Option (SX×AV×Heap):=match x with
 | .U b len s=>(match h.get b with
   |some (.A e sig l)=>bif Nat.ble h.wm b&& !(SX.beq len (.O .Y [l]))&&Nat.beq s sig.length then
    some (.O .and [.O (.cmp .leq) [.C 0,len],.O (.cmp .leq) [len,.O .Y [l]]],.U b (.O .Y [.O .lsub [l,.C 0,len]]) s,h.put b (some (.A e sig (.O .lsub [l,.C 0,len]))))else none
   |_=>none)
 |_=>none
def tv:Fz->Heap->SX×Fz×Heap
 | [],h=>(.cb true,[],h)
 |x::r,h=>match VY x h with
  |some (e,x',h')=>(match tv r h' with
   |(e',r',h2)=>(iC e e',x'::r',h2))
  |none=>(match tv r h with
   |(e',r',h2)=>(e',x::r',h2))
def De(nd:SX)(r:Res):Res:=match r with
 | .val v h=>OE nd v h
 | .N e v h=> .N (iC nd e) v h
 |_=> .X
def Kb(c:FC)(nv:Nat)(args:Fz)(h:Heap):Res:=match Ep c nv args h with
 |some b=>zN c b h
 |none=> .X
def kT(c:FC)(nv:Nat)(args:Fz)(h:Heap):Res:=match Ep c nv args h with
 |some b=>zN c b h
 |none=>(match tv args h with
  |(nd,args',h')=>De nd (Kb c nv args' h'))
mutual
def jW:AV->AV->Bool
 | .V a,x=>(match x with
   | .V b=>tW a b
   |_=>false)
 | .agg a,x=>(match x with
   | .agg b=>Nat.beq a.length b.length
   |_=>false)
 |_,x=>(match x with
  | .V _=>false
  | .agg _=>false
  |_=>true)
def tW:Fz->Fz->Bool
 | [],x=>(match x with
   | []=>true
   |_=>false)
 |a::r,x=>(match x with
  |b::q=>jW a b&&tW r q
  | []=>false)
end
def e61(post:List sP)(k:Nat):Option (Nat×zd):=match post[k]? with
 |some (some (.A e sig _))=>some (e,sig)
 |_=>none
def xH(post:List sP)(mt m base:Nat):Fz->Nat->aaM
 | [],_=>[]
 | .U i _ _::r,t=>bif Nat.ble m i then(match e61 post (i-mt)with
   |some (e,sig)=>⟨t,base+(i-m),e,sig,none,false⟩::xH post mt m base r (t+1)
   |none=>xH post mt m base r (t+1))else xH post mt m base r (t+1)
 |_::r,t=>xH post mt m base r (t+1)
def dN5(h:Heap)(b s:Nat)(x:AV):Bool:=match x,h.get b with
 | .U c (.O .Y [l]) s',some (.A _ _ l')=>Nat.beq b c&&Nat.beq s s'&&SX.beq l l'
 |_,_=>false
def Tt(m base n:Nat)(h:Heap)(p x:AV):Option Jn:=match p with
 | .U i q s=>bif Nat.ble m i then(bif dN5 h (base+(i-m)) s x then some []else none)else ef 1000 base n (.U i q s) x
 |p=>ef 1000 base n p x
def Lp(m base:Nat)(h:Heap)(a:Fr):Fz->Nat->Nat->Option Jn
 | [],_,_=>some []
 |p::ps,t,n=>match Tt m base n h p (a.slot t)with
  |some e=>match Lp m base h a ps (t+1) (n+e.length)with
   |some es=>some (e++es)
   |none=>none
  |none=>none
def Qu(m base:Nat)(h:Heap):List sP->Nat->Nat->Option Jn
 | [],_,_=>some []
 |p::ps,i,n=>match ud 1000 base n p (h.get (bif Nat.blt i m then i else base+(i-m)))with
  |some e=>match Qu m base h ps (i+1) (n+e.length)with
   |some es=>some (e++es)
   |none=>none
  |none=>none
def KR(pc:PC):Jn->Jn
 | []=>[]
 |e::r=>Nc pc 16 e::KR pc r
def ei0(c:FC)(m base:Nat)(p:Fr×Heap)(pc:PC):VT:=match Lp m base p.2 p.1 (iY c.out) 0 0 with
 |some es=>match Qu m base p.2 c.post c.mt es.length with
  |some fs=> .W 0 (KR pc (es++fs))
  |none=> .X
 |none=> .X
def ei1(c:FC)(m base:Nat)(owns:aaM)(xs:Fz)(h:Heap)(pc:PC):VT:=
 match xJ owns ⟨vd xs 0 TF.empty,xs.length,[],0,[],none⟩ (h.upto (Nat.add base owns.length))with
 |some p=>ei0 c m base p pc
 |none=> .X
def Fh(h:Heap)(x:AV):SX×AV:=match x with
 | .U r len s=>match h.get r with
   |some (.A _ _ l)=>bif SX.beq len (.O .Y [l])then(.cb true,x)else(.O (.cmp .eql) [len,.O .Y [l]],.U r (.O .Y [l]) s)
   |_=>(.cb true,x)
 |x=>(.cb true,x)
def CH(h:Heap):Fz->SX×Fz
 | []=>(.cb true,[])
 |a::r=>match Fh h a,CH h r with
  |(e,x),(e',xs)=>(iC e e',x::xs)
def UL(c:FC)(h:Heap)(p:SX×Fz):iT:=mq.N p.1 (ei1 c c.blks.length h.next (xH c.post c.mt c.blks.length h.next (iY c.out) 0) p.2 h)
def ep5(l:SX):Bool:=match l with
 | .O .lcat _=>true
 |_=>false
def ei2(h:Heap)(x:AV):Bool:=match x with
 | .U b len _=>(match h.get b with
   |some (.A _ _ l)=>ep5 l&& !(SX.beq len (.O .Y [l]))
   |_=>false)
 |_=>false
def ep6(c:FC)(p:SX×Fz×Heap):iT:=mq.N p.1 (UL c p.2.2 (CH p.2.2 p.2.1))
def TX(c:FC)(l:Fz)(h:Heap):iT:=bif l.any (ei2 h)then ep6 c (tv l h)else UL c h (CH h l)
def qM(c:FC)(v:AV)(h:Heap):iT:=
 bif jW c.out v&&Nat.ble (iY v).length 256 then TX c (iY v) h else λ_=> .X
def jh:aaL->Heap->Heap
 | [],h=>h
 |x::r,h=>jh r (h.new x)
def dN6(wm:Nat)(t:TH)(next _:Nat):Heap:=⟨t,next,wm⟩
def Heap.setwm(h:Heap)(wm:Nat):Heap:=Heap.rec (dN6 wm) h
def FC.heap(c:FC):Heap:=(jh c.blks Heap.empty).setwm c.mt
def FC.run(E:Env)(fuel:Nat)(f:FuncId)(c:FC)(args:Fz):VT:=ev E fuel iT mq (.body f args c.heap (qM c)) []
