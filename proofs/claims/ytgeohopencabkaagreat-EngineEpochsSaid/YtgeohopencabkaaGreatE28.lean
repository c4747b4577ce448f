import Derived.Test.YtgeohopencabkaaGreatE27a
import Derived.Below
import Derived.Carry
import Derived.OpenShut
import Derived.ChangeSame
import Derived.ChangeMaps5
import Derived.Test.YtgeohopencabkaaGreatE1
set_option linter.all false
namespace Go.Ev
open Go Go.RowKit Go.WideShapes Go.ChangeShapes
variable{E:Env}{I:Opq}
def ZN: ∀(vs:zw) (i:Nat) (t:TF),i+vs.length<=256-> ∀n,(qN vs i t).get n=if i<=n/\n<i+vs.length then vs.getD (n-i) .undef else t.get n
 | [],i,t,_,n=>by rw[b9 (λhh=>by grind)];rfl
 |v::r,i,t,h,n=>by simp at h;simp[qN];rw[ZN r (i+1) _ (by omega) n,TF.get_set t i n v (by omega)];grind
def PB{fn:FuncId}{O:cj}{args:zw}{us:List Zl}{nt:Nat}(ra:co O I args us)(hl:Nat.max nt args.length<=256):
 cS O I ⟨qN args 0 TF.empty,Nat.max nt args.length,[],fn,[],none⟩ {tmps:=us.toArray++Array.replicate (nt-us.toArray.size) Go.undef,defers:=[]}:=by
 have hlen:=ra.length;have hargs:args.length<=256:=p9 (Nat.le_max_right _ _) hl;refine⟨?_,hl,λt _=> ?_,rfl,λp hp=>by cases hp⟩;grind
 show VR O I ((qN args 0 TF.empty).get t) _;rw[ZN args 0 TF.empty (by omega) t];have hu: ∀v:Zl,v=Go.undef->VR O I .undef v:=λv hv=>by subst hv;exact⟨#[],rfl,rfl⟩
 by_cases ht:t<args.length;have hg:args[t]? =some args[t]:=m7 ht;obtain⟨y,hy,ry⟩:=ra.get t _ hg;simp_all[k5,Nat.sub_zero,x6,U8];rw[b9 (by omega),TF.get_empty];rw[x6,Array.getElem?_append_right (by simp;omega),V4];grind
def Is(tmps:Array Zl):ResultVar->Sem Zl
 | .tmp t=>pure (tmps.getD t Go.undef)
 | .cell x t=>do loadVar t (<-asAddr (tmps.getD x Go.undef))
theorem cb4(fn:Func)(tmps:Array Zl):results fn tmps=(do
 let vs <-fn.results.mapM (Is tmps)
 pure (if h:vs.size=1 then vs[0]else .tuple vs)):=by
 rfl
def Wy{K:wW}{w0 w:Ac}{h:Heap}{O:cj}{a:Fr}{act:Act}(r:HR O I K w0 h w)(f:cS O I a act): ∀{rs:aaT} {vs:zw},oF E.P a h rs=some vs->
 ∃us:List Zl,co O I vs us/\(rs.mapM (m:=Sem) (Is act.tmps)).run E.P w= .ok us w
 | [],vs,e=>by simp[oF,j5]at e;subst e;exact⟨[],.nil,rfl⟩
 |q::rs,vs,e=>by
  simp[oF]at e;split at e
  rename_i v vs' h1 h2;simp at e;subst e;obtain⟨us,u1,u2⟩:=Wy r f h2;cases q with
  |tmp t=>
   simp[Sl,j5]at h1;subst h1;refine⟨_::us,.cons (f.slot t id) u1,?_⟩;simp[N3,Is,Sem.run_bind,Sem.run_pure,Result.andThen_ok,u2]
  |cell x t=>
   simp[Sl]at h1;obtain⟨u,v1,v2⟩:=Zk (P:=E.P) r h1 (f.slot x id);refine⟨u::us,.cons v1 u1,?_⟩;have hp: ∃b o,a.slot x= .ptr b o:=by unfold FY at h1;split at h1;exact⟨_,_,by assumption⟩;cases h1
   obtain⟨b,o,hbo⟩:=hp;have hs:=f.slot x id;rw[hbo]at hs;obtain⟨L,_,hs⟩:=hs;rw[hs]at v2;have v3:(loadVar t ⟨L.blk,L.off+o,none⟩).run E.P w= .ok u w:=v2;simp[N3,Is,Sem.run_bind,hs,asAddr,Sem.run_pure,Result.andThen_ok,v3,u2]
  .cases e
def cb5{K:wW}{w0 w:Ac}{h:Heap}{O:cj}{a:Fr}{act:Act}(r:HR O I K w0 h w)(f:cS O I a act){fn:Func}{vs:zw}(e:oF E.P a h fn.results.toList=some vs):
 ∃u,VR O I (OA vs) u/\(results fn act.tmps).run E.P w= .ok u w:=by
 obtain⟨us,u1,u2⟩:=Wy r f e;have hrun: ∀v,(if h:us.toArray.size=1 then us.toArray[0]else Value.tuple us.toArray)=v->(results fn act.tmps).run E.P w= .ok v w:=by grind[cb4,Sem.run_bind,Array.mapM_eq_mapM_toList,Sem.run_map,Result.andThen_ok,Sem.run_pure]
 cases vs with
 |nil=>
  rw[show us=[]from u1]at hrun;exact⟨_,⟨#[],rfl,rfl⟩,hrun _ rfl⟩
 |cons v vs=>
  obtain⟨y,ys,rfl,p,q⟩:=u1;cases vs with
  |nil=>
   rw[show ys=[]from q]at hrun;exact⟨y,p,hrun _ rfl⟩
  |cons v2 vs=>
   obtain⟨y2,ys2,rfl,p2,q2⟩:=q;refine⟨_,⟨_,rfl,.cons p (.cons p2 q2)⟩,hrun _ ?_⟩;rfl
def Co{F:Fence}{n:Nat}{P:yJ}{fn:Func}{tmps:Array Zl}{R R':Ending->Ac->Prop}(hr: ∀e w,R e w->R' e w): ∀{ds:aaU} {u:FrameMode} {w:Ac},LeavesInM F n P fn tmps R ds u w->LeavesInM F n P fn tmps R' ds u w
 | [],u,w,h=>by
   cases u with
   |run=>exact h
   |returning=>obtain⟨v,h1,h2⟩:=h;exact⟨v,h1,hr _ _ h2⟩
   |panicking c=>exact hr _ _ h
 |d::ds,u,w,⟨h0,h⟩=>by
  refine⟨h0,?_⟩;rcases h with⟨r,w',h1,h2,h3⟩|⟨h1,fv,cap,f,args,h2,h3,h4,h5⟩
  exact .inl ⟨r,w',h1,h2,Co hr h3⟩
  refine .inr ⟨h1,fv,cap,f,args,h2,h3,h4,h5.mono λe u' w' he=> ?_⟩;cases e with
  |returned v=>exact Co hr he
  |panicked c=>exact Co hr he
  |outgrown=>grind
def Rk{R:Type}{A:Alg R}{T:R->Prop}(hA:AlgOk A T I){a:Fr}{act:Act}{h' hs:Heap}{k:AV->Heap->R}{fn:Func}{K:wW}{w0 w':Ac}{ac ah:cj}(hke:T (Bp A h' k (oF E.P a h' fn.results.toList)))
 (hr':HR ac I K w0 h' w') (hf':cS ac I a act) (hst':St hs ah h' ac):
 ∃v,(results fn act.tmps).run E.P w'= .ok v w'/\ ∃u am v' h'',Ending.returned v= .returned u/\T (k v' h'')/\VR am I v' u/\HR am I K w0 h'' w'/\St hs ah h'' am:=by
 cases hres:oF E.P a h' fn.results.toList with
 |none=>rw[hres]at hke;exact absurd hke hA.X
 |some vs=>
  rw[hres]at hke;obtain⟨u,u1,u2⟩:=cb5 hr' hf' hres;exact⟨u,u2,u,ac,OA vs,h',rfl,hke,u1,hr',hst'⟩
def cb6{n:Nat}(hk:md E I n):Qg E I (n+1):=by
 intro R A T hA f args h k he K w0 O w us m r ra;have he:T (VK E.P (ev E n) A f args h k (E.P.funcs[f]?)):=he;unfold VK at he;split at he;exact absurd he hA.X;rename_i fn hf;split at he;exact absurd he hA.X
 rename_i c hb;obtain⟨hlim,he⟩:Nat.ble (Nat.max fn.ntmps args.length) 256=true/\T (ev E n R A (.code c ⟨qN args 0 TF.empty,Nat.max fn.ntmps args.length,[],f,[],none⟩ h (cn4 E.P A fn.results.toList k))):=by
  cases hc:Nat.ble (Nat.max fn.ntmps args.length) 256 with
  |false=>rw[hc]at he;exact absurd he hA.X
  |true=>grind
 rw[X6]at hlim;refine callsDIn_of_wp (F:=fA none) hf hb trivial (hk R A T hA c _ h _ he K w0 O _ w none _ r (PB ra hlim) rfl ?_);intro e a' h' ac act' w' hke _ hf' hr' hst';have fin:(e= .norm\/e= .ret)->act'.defers=[]/\ ∃v,(results fn act'.tmps).run E.P w'= .ok v w'/\ ∃u am v' h'',Ending.returned v= .returned u/\T (k v' h'')/\VR am I v' u/\HR am I K w0 h'' w'/\St h O h'' am:=by
  intro hee;have hke:T (match a'.ds with
   | []=>Bp A h' k (oF E.P a' h' fn.results.toList)
   |_=>A.X):=by
   rcases hee with rfl|rfl<;>exact hke
  cases hds:a'.ds with
  |nil=>
   rw[hds]at hke;have hd:=hf'.defers;rw[hds]at hd;exact⟨hd,Rk hA hke hr' hf' hst'⟩
  |cons x y=>rw[hds]at hke;exact absurd hke hA.X
 cases e with
 |norm=>exact fin (.inl rfl)
 |ret=>exact fin (.inr rfl)
 |exit id=>exact absurd hke hA.X
def cb7(hE:E.Ok I){n:Nat}(hl:MY E I n)(hd:Qg E I n):MY E I (n+1):=by
 intro R A T hA fn a ds h k he K w0 O act w dd r f hds;cases ds with
 |nil=>
  rw[show dd=[]from hds];obtain⟨v,h1,h2⟩:=Rk hA he r f (.refl _ _);exact⟨v,h1,h2⟩
 |cons x ds=>
  obtain⟨d,dr,rfl,hx,hds⟩:=hds;refine⟨by simp,?_⟩;cases x with
  |coll b=>
   obtain⟨L,hL,rfl⟩:=hx;replace he:T (Vo (ev E n) A fn.results.toList a ds b h k (h.get b)):=he;unfold Vo at he;split at he
   rename_i hg;obtain⟨hwm,he⟩:Nat.ble h.wm b=true/\T (ev E n R A (.leave fn.results.toList a ds (h.put b (some (.defd true))) k)):=by
    cases hcc:Nat.ble h.wm b with
    |false=>rw[hcc]at he;exact absurd he hA.X
    |true=>grind
   rw[X6]at hwm;have hobj:w.heap[L.blk]? =some (.deferred (some [])):=r.blk b _ L hg hL;obtain⟨r1,s1⟩:=r.U b _ (.defd true) L hg hL hwm (w':=w.putObj L.blk (.deferred none)) (λi hi=>World.putObj_heap_other hi) World.putObj_size rfl rfl rfl rfl (by rw[World.putObj_heap_same (r.lt b L hL)];rfl);left;refine⟨L.blk,_,rfl,run_takeDeferred hobj,?_⟩;have:=hl R A T hA fn a ds _ k he K w0 O act _ dr r1 f hds;refine Co ?_ this;rintro e w' ⟨u,ac,v,h',h1,h2,h3,h4,h5⟩;exact⟨u,ac,v,h',h1,h2,h3,h4,s1.trans h5⟩;exact absurd he hA.X
  |fn g cap args=>
   obtain⟨us,cs,rfl,ra,rc⟩:=hx;replace he:T (Qt (ev E n) A fn.results.toList a ds h k (BI E g (args++cap) h)):=he;have hs:=bU2 hE (f:=g) (args:=args++cap) (us:=us.toList++cs.toList) r (ra.append rc);unfold Qt at he;split at he;rename_i gf args' hres;rw[hres]at hs;obtain⟨vs,hrun,ra'⟩:=hs;right;refine⟨(λhh=>by cases hh),.func g,cs,gf,vs.toArray,rfl,?_,λ_ _=>trivial,?_⟩
   have:(us.toList++cs.toList).toArray=us++cs:=by simp
   grind[invoke];refine CallsDIn.mono (hd R A T hA gf args' h _ he K w0 O w vs .returning r ra') ?_;rintro e m' w' ⟨rfl,u,ac,v,h',rfl,hke,-,hr',hst'⟩;have:=hl R A T hA fn a ds h' k hke K w0 ac act w' dr hr' (f.mono (hst'.Le r)) (hds.mono (hst'.Le r));refine Co ?_ this;rintro e w' ⟨u,ac,v,h',h1,h2,h3,h4,h5⟩;exact⟨u,ac,v,h',h1,h2,h3,h4,hst'.trans h5⟩;exact absurd he hA.X
def cv8{n:Nat}(hk:md E I n)(hlv:MY E I n):HJ E I (n+1):=by
 intro R A T hA f args h k he K w0 O w us r ra;have he:T (UR E.P (ev E n) A f args h k (E.P.funcs[f]?)):=he;unfold UR at he;split at he;exact absurd he hA.X;rename_i fn hf;split at he;exact absurd he hA.X
 rename_i c hb;obtain⟨hlim,he⟩:Nat.ble (Nat.max fn.ntmps args.length) 256=true/\T (ev E n R A (.code c ⟨qN args 0 TF.empty,Nat.max fn.ntmps args.length,[],f,[],none⟩ h (da5 E.P (ev E n) A fn.results.toList k))):=by
  cases hc:Nat.ble (Nat.max fn.ntmps args.length) 256 with
  |false=>rw[hc]at he;exact absurd he hA.X
  |true=>grind
 rw[X6]at hlim;refine(callsIn_wide (n:=0)).1 (callsIn_of_wp_marks (F:=fA none) hf hb trivial (hk R A T hA c _ h _ he K w0 O _ w none _ r (PB ra hlim) rfl ?_));intro e a' h' ac act' w' hke _ hf' hr' hst';have fin:(e= .norm\/e= .ret)->LeavesInM Fence.wide 0 E.P fn act'.tmps (λe w'=> ∃u ac v h',e= .returned u/\T (k v h')/\VR ac I v u/\HR ac I K w0 h' w'/\St h O h' ac) act'.defers .returning w':=by
  intro hee;have hke:T (match a'.ds with
   | []=>Bp A h' k (oF E.P a' h' fn.results.toList)
   |ds=>ev E n R A (.leave fn.results.toList a' ds h' k)):=by
   rcases hee with rfl|rfl<;>exact hke
  have hd:=hf'.defers;cases hds:a'.ds with
  |nil=>
   rw[hds]at hke hd;rw[show act'.defers=[]from hd];obtain⟨v,h1,h2⟩:=Rk hA hke hr' hf' hst';exact⟨v,h1,h2⟩
  |cons x y=>
   rw[hds]at hke;refine Co ?_ (hlv R A T hA fn a' _ h' k hke K w0 ac act' w' _ hr' hf' (hds▸hd));rintro e w' ⟨u,ac,v,h',h1,h2,h3,h4,h5⟩;exact⟨u,ac,v,h',h1,h2,h3,h4,hst'.trans h5⟩
 cases e with
 |norm=>exact fin (.inl rfl)
 |ret=>exact fin (.inr rfl)
 |exit id=>exact absurd hke hA.X
variable{E:Env}{I:Opq}{K:wW}{w0 w w':Ac}{h h':Heap}{O ac:cj}
def HR.later(r:HR O I K w0 h w)(hpre: ∀i,i<w.heap.size->w'.heap[i]? =w.heap[i]?)(hsz:w.heap.size<=w'.heap.size)(hos:w'.os=w.os)(htp:w'.tape=w.tape)(hout:w'.output=w.output)(hdr:w.drawn<=w'.drawn):HR O I K w0 h w':=by refine⟨λb x L hg hb=> ?_,r.sep,r.fresh,r.fget,λb L hb=>y7 (r.lt b L hb) hsz,r.kin,λi hi=> ?_,r.free,p9 r.size hsz,hos.trans r.os,htp.trans r.tape,hout.trans r.out,p9 r.dr hdr⟩;rw[hpre _ (r.lt b L hb)];exact r.blk b x L hg hb;rw[hpre _ (y7 (r.kin i hi) r.size)];exact r.keep i hi
def HR.later2(r:HR O I K w0 h w)(hpre: ∀b x L,h.get b=some x->O b=some L->w'.heap[L.blk]? =w.heap[L.blk]?)(hK: ∀i,K i->w'.heap[i]? =w.heap[i]?)(hsz:w.heap.size<=w'.heap.size)(hos:w'.os=w.os)(htp:w'.tape=w.tape)(hout:w'.output=w.output)(hdr:w.drawn<=w'.drawn):HR O I K w0 h w':=by refine⟨λb x L hg hb=> ?_,r.sep,r.fresh,r.fget,λb L hb=>y7 (r.lt b L hb) hsz,r.kin,λi hi=> ?_,r.free,p9 r.size hsz,hos.trans r.os,htp.trans r.tape,hout.trans r.out,p9 r.dr hdr⟩;rw[hpre b x L hg hb];exact r.blk b x L hg hb;rw[hK i hi];exact r.keep i hi
def HR.row(r:HR O I K w0 h w')(L:Loc)(hn: ∀b y M,h.get b=some y->O b=some M->M.blk≠L.blk)(hk: ¬K L.blk)(hlt:L.blk<w'.heap.size)(x:Blk)(hx:BR (O.add h.next L) I L w'.heap[L.blk]? x):
 HR (O.add h.next L) I K w0 (h.new x) w'/\St h O (h.new x) (O.add h.next L):=by
 have hst:St h O (h.new x) (O.add h.next L):=by refine⟨by simp,λb hb=> ?_,λb hb _=> ?_,rfl⟩;simp[cj.add];grind;left;rw[Heap.get_new,b9 (by omega)]
 have hle:=hst.Le r;refine⟨⟨?_,?_,?_,?_,?_,r.kin,r.keep,?_,r.size,r.os,r.tape,r.out,r.dr⟩,hst⟩
 .intro b y M hg hb;rw[Heap.get_new]at hg;simp[cj.add]at hb;by_cases e:b=h.next
  .grind
  rw[b9 e]at hg hb;exact(r.blk b y M hg hb).mono hle
 .intro b1 b2 y1 y2 M1 M2 g1 g2 m1 m2 hne hw;rw[Heap.get_new]at g1 g2;simp[cj.add]at m1 m2;by_cases e1:b1=h.next
  .grind
  .rw[b9 e1]at g1 m1;by_cases e2:b2=h.next
   .grind
   rw[b9 e2]at g2 m2;exact r.sep b1 b2 y1 y2 M1 M2 g1 g2 m1 m2 hne hw
 intro b hb;simp at hb;simp[cj.add];rw[b9 (by omega)];exact r.fresh b (by omega);intro b hb;simp at hb;rw[Heap.get_new,b9 (by omega)];exact r.fget b (by omega);intro b M hb;simp[cj.add]at hb;split at hb;grind;exact r.lt b M hb
 .intro b y M hg hw hb;rw[Heap.get_new]at hg;simp[cj.add]at hb;by_cases e:b=h.next
  .grind
  rw[b9 e]at hg hb;exact r.free b y M hg hw hb
def Rw{v:AV}{u:Zl}(hp:wc v=true)(r:VR O I v u):VR ac I v u:=by cases v<;>simp only[wc,n7]at hp<;>exact r
def bc4: ∀{vs:zw} {us:List Zl},vs.all wc=true->co O I vs us->co ac I vs us
 | [],_,_,r=>r
 |v::vs,_,hp,⟨u,ur,e,p,q⟩=>by simp only[List.all_cons,j8]at hp;exact⟨u,ur,e,Rw hp.1 p,bc4 hp.2 q⟩
theorem Out.beq_eq: ∀{a b:Out},Out.beq a b=true->a=b
 | .plain a,.plain b,h=>by rw[AV.beq_eq a b h]
 | .row e l s c,.row e' l' s' c',h=>by simp[Out.beq,j8,I9]at h;grind[AV.beqs_eq]
 | .plain _,.row _ _ _ _,h=>by cases h
 | .row _ _ _ _,.plain _,h=>by cases h
def Zg: ∀{a b:aa1},Jy a b=true->a=b
 | [],[],_=>rfl
 | [],_::_,h=>by cases h
 |_::_,[],h=>by cases h
 |a::x,b::y,h=>by simp[Jy,j8]at h;rw[Out.beq_eq h.1,Zg h.2]
variable{cs:zw}
variable{E:Env}{I:Opq}{K:wW}{w0 w w':Ac}{h h':Heap}{O ac:cj}
def aO8{n:Nat}{v:AV}{o:Out}(e:Vk n h' v=some o):(wc v=true/\o= .plain v)\/
 (∃b len sz t cs,v= .us b 0 len sz/\n<=b/\h'.get b=some (.cells t 0 cs)/\cs.length=len*sz/\cs.all wc=true/\o= .row t len sz cs):=by
 unfold Vk at e;split at e
 rename_i b len sz;cases hb:Nat.ble n b with
 |false=>rw[hb]at e;cases e
 |true=>
  rw[hb]at e;split at e
  rename_i t cs hg;cases hc:(Nat.beq cs.length (len*sz)&&cs.all wc)with
  |false=>rw[hc]at e;cases e
  |true=>
   rw[hc]at e;simp at e;simp only[j8,I9]at hc;exact .inr ⟨b,len,sz,t,cs,rfl,X6.1 hb,hg,hc.1,hc.2,e.symm⟩
  .cases e
 grind
def XD{am:cj}{n:Nat}: ∀{vs:zw} {us:List Zl} {l:aa1},rI n h' vs=some l->qI l=0->co ac I vs us-> ∀h,(lK l h).2=h/\co am I (lK l h).1 us
 | [],us,l,e,hr,r,h=>by simp[rI,j5]at e;subst e;exact⟨rfl,r⟩
 |v::vs,us,l,e,hr,⟨u,ur,e2,p,q⟩,h=>by
  simp[rI]at e;split at e
  rename_i o os h1 h2;simp at e;subst e;rcases aO8 h1 with⟨hp,rfl⟩|⟨b,len,sz,t,cs,rfl,_,_,_,_,rfl⟩
  obtain⟨g1,g2⟩:=XD (am:=am) h2 (by simpa[qI]using hr) q h;exact⟨g1,u,ur,e2,Rw hp p,g2⟩;grind[qI];cases e
def LB(K:wW)(hd:Heap)(O:cj)(h':Heap)(ac:cj):Prop:=
 ∀b L y,h'.get b=some y->hd.next<=b->ac b=some L->(∀b2 x M,hd.get b2=some x->O b2=some M->M.blk≠L.blk)/\ ¬K L.blk
def Ox{K':wW}{w1:Ac}(rh:HR O I K w0 h w')(r':HR ac I K' w1 h' w')(hap:LB K h O h' ac): ∀{vs:zw} {us:List Zl} {l:aa1},
 rI h.next h' vs=some l->qI l<=1->co ac I vs us-> ∃am,co am I (lK l h).1 us/\HR am I K w0 (lK l h).2 w'/\St h O (lK l h).2 am
 | [],us,l,e,hr,ra=>by simp[rI,j5]at e;subst e;exact⟨O,ra,rh,.refl _ _⟩
 |v::vs,us,l,e,hr,⟨u,ur,e2,p,q⟩=>by
  simp[rI]at e;split at e
  .rename_i o os h1 h2;simp at e;subst e;rcases aO8 h1 with⟨hp,rfl⟩|⟨b,len,sz,t,cs,rfl,hb,hg,hl,hall,rfl⟩
   .obtain⟨am,g1,g2,g3⟩:=Ox rh r' hap h2 (by grind[qI]) q;exact⟨am,⟨u,ur,e2,Rw hp p,g1⟩,g2,g3⟩
   .obtain⟨L,cap,hL,hcap,hu⟩:=p;obtain⟨ha1,ha2⟩:=hap b L _ hg hb hL;obtain⟨C,lo,hi,xs,b1,b2,b3,b4,b5,b6,b7,b8⟩:=r'.blk b _ L hg hL;have hrow:=HR.row rh L ha1 ha2 (r'.lt b L hL) (.cells t 0 cs) ⟨C,lo,hi,xs,b1,b2,b3,b4,bc4 hall b5,b6,b7,b8⟩;obtain⟨k1,k2⟩:=XD (am:=O.add h.next L) h2 (by simp[qI]at hr;exact hr) q (h.new (.cells t 0 cs));have hlay1:(lK (Out.row t len sz cs::os) h).1= .us h.next 0 len sz::(lK os (h.new (.cells t 0 cs))).1:=rfl
    have hlay2:(lK (Out.row t len sz cs::os) h).2=(lK os (h.new (.cells t 0 cs))).2:=rfl;refine⟨O.add h.next L,?_,?_,?_⟩;refine⟨u,ur,e2,⟨L,cap,?_,hcap,hu⟩,k2⟩;simp[cj.add];rw[hlay2,k1];exact hrow.1;grind
  cases e
def Oh{K':wW}{w1:Ac}(rh:HR O I K w0 h w')(r':HR ac I K' w1 h' w')(hap:LB K h O h' ac){v:AV}{u:Zl}{b:Bool}{l:aa1}
 (e:wJ h.next h' v=some (b,l)) (p:VR ac I v u): ∃am,VR am I (Dm b l h).1 u/\HR am I K w0 (Dm b l h).2 w'/\St h O (Dm b l h).2 am:=by
 have one: ∀{c:Bool} {m:aa1},Jg c m=some (b,l)->c=b/\m=l/\qI l<=1:=by
  intro c m hh;unfold Jg at hh;cases hc:Nat.ble (qI m) 1 with
  |false=>grind
  |true=>
   simp_all
 unfold wJ at e;split at e
 .rename_i vs;cases ho:rI h.next h' vs with
  |none=>grind
  |some m=>
   rw[ho]at e;obtain⟨rfl,rfl,h1⟩:=one e;obtain⟨xs,rfl,q⟩:=p;obtain⟨am,g1,g2,g3⟩:=Ox rh r' hap ho h1 q;exact⟨am,⟨xs,rfl,g1⟩,g2,g3⟩
 .cases ho:rI h.next h' [v]with
  |none=>grind
  |some m=>
   rw[ho]at e;obtain⟨rfl,rfl,h1⟩:=one e;obtain⟨am,g1,g2,g3⟩:=Ox (vs:=[v]) (us:=[u]) rh r' hap ho h1 ⟨u,[],rfl,p,rfl⟩;refine⟨am,?_,g2,g3⟩;obtain⟨x,xr,e2,p2⟩: ∃a as,(lK m h).1=a::as/\VR am I a u:=by
    cases hh:(lK m h).1 with
    |nil=>rw[hh]at g1;cases g1
    |cons a as=>
     rw[hh]at g1;obtain⟨y,yr,e3,p3,_⟩:=g1;cases e3;exact⟨a,as,rfl,p3⟩
   show VR am I ((lK m h).1.headD .undef) u;grind
def vR(E:Env)(I:Opq)(f:FuncId)(args:zw)(h:Heap)(v:AV)(h':Heap):Prop:=
 ∀(K:wW) (w0:Ac) (O:cj) (w:Ac) (us:List Zl),HR O I K w0 h w->co O I args us->
  Calls E.P f us.toArray w (λe w'=> ∃u ac,e= .returned u/\VR ac I v u/\HR ac I K w0 h' w'/\St h O h' ac)
structure HookOk (E:Env) (I:Opq):Prop where
 val: ∀(f:FuncId) (args:zw) (h:Heap) (v:AV) (h':Heap),E.hook f args h= .val v h'->vR E I f args h v h'
 N: ∀(f:FuncId) (args:zw) (h:Heap) (e:SX) (v:AV) (h':Heap),E.hook f args h= .N e v h'->dB I e=true->vR E I f args h v h'
def bJ7(hn: ∀f args h,E.hook f args h= .X):HookOk E I:=
 ⟨λf args h v h' e=>(by grind),λf args h c v h' e=>(by grind)⟩
@[simp]def Heap.get_raise(h:Heap)(b:Nat):h.raise.get b=h.get b:=by rfl
@[simp]def Heap.next_raise(h:Heap):h.raise.next=h.next:=by rfl
@[simp]def Heap.wm_raise(h:Heap):h.raise.wm=h.next:=by rfl
def HR.raise(r:HR O I K w0 h w):HR O I (· <w.heap.size) w h.raise w:=by
 refine⟨λb x L hg hb=>r.blk b x L (by simp_all) hb,λb b' x x' L L' hg hg' hb hb' hne hw=>r.sep b b' x x' L L' (by simp_all) (by simp_all) hb hb' hne (by
  rcases hw with q|q|q
  rw[r.fresh b q]at hb;cases hb;rw[r.fresh b' q]at hb';cases hb'
  grind),λb hb=>r.fresh b (by simp_all),
  λb hb=>by exact r.fget b (by simp_all),r.lt,λi hi=>hi,λi _=>rfl,?_,j6 _,rfl,rfl,rfl,j6 _⟩
 intro b x L hg hw hb;rw[r.fresh b hw]at hb;cases hb
def Wk{n:Nat}{b:Bool}{l:aa1}{v:AV}(h1:vD n (some (b,l)) v h'=true):wJ n h' v=some (b,l):=by
 simp[vD]at h1;cases hx:wJ n h' v with
 |none=>rw[hx]at h1;cases h1
 |some p=>
  rw[hx]at h1;simp[dI1,j8]at h1;obtain⟨c,m⟩:=p;simp only at h1;rw[Zg h1.2];grind
def ZH(r:HR O I K w0 h w)(r':HR ac I (· <w.heap.size) w h' w')(s':St h.raise O h' ac):HR O I K w0 h w'/\LB K h O h' ac:=by
 refine⟨r.later (λi hi=>r'.keep i hi) r'.size r'.os r'.tape r'.out r'.dr,λb L y hg hb hL=> ?_⟩;have hwm:h'.wm=h.next:=s'.wm
 have hge:w.heap.size<=L.blk:=by have:=r'.free b _ L hg (by omega) hL;omega
 refine⟨λb2 x M _ hM=> ?_,λhk=> ?_⟩;have:=r.lt b2 M hM;omega;have:=y7 (r.kin _ hk) r.size;omega
def cv9: ∀{n:Nat} {l:List Zl},l.length=n->co O I (dx n [.any]) l
 |0,[],_=> .nil
 |n+1,v::l,h=>⟨v,l,rfl,trivial,cv9 (by grind)⟩
def bX9: ∀n:Nat,(dx n [AV.any]).all AV.oneA=true
 |0=>rfl
 |n+1=>bX9 n
def OT: ∀n:Nat,(dx n [AV.any]).length=n
 |0=>rfl
 |n+1=>by show(dx n [AV.any]).length+1=n+1;rw[OT n]
def BR.wide{L:Loc}{o:aaY}{e sz:Nat}(r:BR O I L o (.cells e 0 cs))(hs:cs.length+sz<=L.ext):BR O I L o (.cells e 0 (cs++dx sz [.any])):=by
 obtain⟨C,lo,hi,vs,q1,q2,q3,q4,q5,q6,q7,q8⟩:=r;have hl:=q5.length;have hlen:((C.toList.drop (L.off+cs.length)).take sz).length=sz:=by rw[n8,K5,Array.length_toList];omega
 refine⟨C,lo,hi,vs++(C.toList.drop (L.off+cs.length)).take sz,q1,q2,by rw[k9,OT];exact hs,by rw[I0,q4,bX9];rfl,q5.append (cv9 hlen),λi hi2=> ?_,q7,q8⟩;rw[k9,OT]at hi2;grind
def HR.capH{b e sz:Nat}{L:Loc}(r:HR O I K w0 h w)(hg:h.get b=some (.cells e 0 cs))(hL:O b=some L)(hs:cs.length+sz<=L.ext):
 HR (O.add h.next L) I (λi=>i<w.heap.size/\i≠L.blk) w (capH h b e (cs++dx sz [.any])) w:=by
 have hle:Le O (O.add h.next L):=by
  intro b' M hb;simp[cj.add];by_cases e:b'=h.next
  subst e;rw[r.fresh _ (j6 _)]at hb;cases hb;grind
 have eK: ∀z u,(Ev.capH h b e (cs++dx sz [.any])).get z=some u->z=h.next/\u= .cells e 0 (cs++dx sz [.any])\/z≠h.next/\z≠b/\h.get z=some u:=by
  intro z u hu;simp[Ev.capH]at hu;rw[Heap.get_new]at hu;simp at hu;by_cases hz:z=h.next
  rw[i6 hz]at hu;split at hu;simp at hu;exact .inl ⟨hz,hu.symm⟩;cases hu;simp_all[b9,Heap.get_put,i6]
 have ap: ∀z M,z≠h.next->(O.add h.next L) z=some M->O z=some M:=by simp_all[cj.add,b9]
 have aF: ∀M,(O.add h.next L) h.next=some M->M=L:=by grind[cj.add_self,Option.some.injEq]
 refine⟨?_,?_,?_,?_,?_,λi hi=>hi.1,λi _=>rfl,?_,j6 _,rfl,rfl,rfl,j6 _⟩
 intro z u M hu hM;rcases eK z u hu with⟨rfl,rfl⟩|⟨h1,h2,h3⟩
 obtain rfl:=aF _ hM;exact BR.wide ((r.blk b _ M hg hL).mono hle) hs;exact(r.blk z u M h3 (ap z M h1 hM)).mono hle
 intro z1 z2 u1 u2 M1 M2 g1 g2 m1 m2 hne hw;rcases eK z1 u1 g1 with⟨rfl,rfl⟩|⟨h1,h2,h3⟩
 obtain rfl:=aF _ m1;rcases eK z2 u2 g2 with⟨rfl,rfl⟩|⟨k1,k2,k3⟩
 omega;exact r.sep b z2 _ _ M1 M2 hg k3 hL (ap z2 M2 k1 m2) (λhh=>k2 hh.symm) (.inr (.inr (.inl rfl)))
 rcases eK z2 u2 g2 with⟨rfl,rfl⟩|⟨k1,k2,k3⟩
 obtain rfl:=aF _ m2;exact r.sep z1 b _ _ M1 M2 h3 hg (ap z1 M1 h1 m1) hL h2 (.inr (.inr (.inr rfl)))
 refine r.sep z1 z2 _ _ M1 M2 h3 k3 (ap z1 M1 h1 m1) (ap z2 M2 k1 m2) hne ?_;rcases hw with q|q|q
 rw[r.fget z1 q]at h3;cases h3;rw[r.fget z2 q]at k3;cases k3;grind;intro z hz;simp[Ev.capH,Heap.next_new,Heap.next_raise,Heap.next_put]at hz;simp[cj.add];rw[b9 (by omega)];exact r.fresh z (by omega)
 intro z hz;simp[Ev.capH,Heap.next_new,Heap.next_raise,Heap.next_put]at hz;cases hu:(Ev.capH h b e (cs++dx sz [.any])).get z with
 |none=>rfl
 |some u=>
  rcases eK z u hu with⟨rfl,rfl⟩|⟨h1,h2,h3⟩
  omega;rw[r.fget z (by omega)]at h3;cases h3
 .intro z M hM;by_cases hz:z=h.next
  .subst hz;obtain rfl:=aF _ hM;exact r.lt b M hL
  exact r.lt z M (ap z M hz hM)
 intro z u M hu hw hM hk;rcases eK z u hu with⟨rfl,rfl⟩|⟨h1,h2,h3⟩
 grind;rw[r.fget z hw]at h3;cases h3
def dq2{b e sz:Nat}{L:Loc}(r:HR O I K w0 h w)(hg:h.get b=some (.cells e 0 cs))(hL:O b=some L)(hwm:h.wm<=b)
 (r':HR ac I (λi=>i<w.heap.size/\i≠L.blk) w h' w') (s':St (capH h b e (cs++dx sz [.any])) (O.add h.next L) h' ac):
 HR O I K w0 (h.put b none) w'/\LB K (h.put b none) O h' ac:=by
 have hlive: ∀z u M,(h.put b none).get z=some u->O z=some M->M.blk<w.heap.size/\M.blk≠L.blk:=by intro z u M hu hM;rw[Heap.get_put]at hu;by_cases hb:z=b;grind;rw[b9 hb]at hu;exact⟨r.lt z M hM,r.sep z b _ _ M L hu hg hM hL hb (.inr (.inr (.inr rfl)))⟩
 have hkl: ∀i,K i->i≠L.blk:=λi hi hh=>r.free b _ L hg hwm hL (hh▸hi)
 refine⟨HR.later2 (r.drop b).1 (λz u M hu hM=>r'.keep _ (hlive z u M hu hM)) (λi hi=>r'.keep _ ⟨y7 (r.kin i hi) r.size,hkl i hi⟩) r'.size r'.os r'.tape r'.out r'.dr,λz M u hu hz hM=> ?_⟩;have hw:h'.wm=h.next:=s'.wm
 have hf:=r'.free z u M hu (by simp_all) hM;refine⟨λz2 u2 M2 hu2 hM2 hh=> ?_,λhk=> ?_⟩;grind;exact hf ⟨y7 (r.kin _ hk) r.size,hkl _ hk⟩
def dq3{args:zw}{c:Cap2}(e:ID args h=some c): ∃(len sz e:Nat) (k:IntKind) (i:Int) (rest cs:zw),args= .us c.b 0 len sz:: .int k i::rest/\h.get c.b=some (.cells e 0 cs)/\h.wm<=c.b/\cs.length=len*sz/\0<sz/\
 c.full= .sl c.b 0 len len:: .int k i::rest/\c.wide= .us h.next 0 len sz:: .int k i::rest/\c.h=capH h c.b e (cs++dx sz [.any]):=by
 unfold ID at e;split at e;rename_i b len sz k i rest;split at e;rename_i el cs hg;obtain⟨hc,e⟩:=W5 e;obtain⟨hc,h4⟩:=W4 hc;obtain⟨hc,h3⟩:=W4 hc;obtain⟨h1,h2⟩:=W4 hc;rw[X6]at h1;rw[Y8]at h4;simp at e;subst e;exact⟨len,sz,el,k,_,rest,cs,rfl,hg,h1,by simp_all,h4,rfl,rfl,rfl⟩;cases e;cases e
def cw0(hk:HookOk E I){n:Nat}(hb:HJ E I n):Mn E I (n+1):=by
 intro R A T hA f args h k he0 K w0 O w us r ra;have hc0:T (dJ9 E (ev E n) A f args h k (E.hook f args h)):=he0;have fin: ∀(v:AV) (h':Heap),T (k v h')->vR E I f args h v h'->Calls E.P f us.toArray w (λe w'=> ∃u ac v h',e= .returned u/\T (k v h')/\VR ac I v u/\HR ac I K w0 h' w'/\St h O h' ac):=by intro v h' ht hp;refine Calls.mono (hp K w0 O w us r ra) ?_;grind
 have old:T (bif E.amb f then SP (ev E n) A f args h k ((ev E n) aaq QA (.body f args h.raise RP))else
  bif E.caps f then QI (ev E n) A f args h k (ID args h)else(ev E n) R A (.body f args h k))->Calls E.P f us.toArray w (λe w'=> ∃u ac v h',e= .returned u/\T (k v h')/\VR ac I v u/\HR ac I K w0 h' w'/\St h O h' ac):=by
  intro he;cases ham:E.amb f with
  |false=>
   rw[ham]at he;cases hcp:E.caps f with
   |false=>
    rw[hcp]at he;exact hb R A T hA f args h k he K w0 O w us r ra
   |true=>
    rw[hcp]at he;unfold QI at he;split at he;exact hb R A T hA f args h k he K w0 O w us r ra
    .rename_i c hc;unfold XC at he;split at he;exact absurd he hA.X
     .unfold WB at he;split at he;exact absurd he hA.X
      .rename_i b l hout;cases hrun:(ev E n Bool oU (.body f c.full h.raise (vD h.next (some (b,l))))&&ev E n Bool oU (.body f c.wide c.h (vD h.next (some (b,l)))))with
       |false=>rw[hrun]at he;exact absurd he hA.X
       |true=>
        rw[hrun]at he;simp at hrun;obtain⟨run1,run2⟩:=hrun;obtain⟨len,sz,el,kk,i,rest,cs,rfl,hg,hwm,hlen,hsz,hf,hw,hch⟩:=dq3 hc;obtain⟨u0,ur,rfl,p0,p1⟩:=ra;obtain⟨L,cap,hL,hcap,rfl⟩:=p0;have hdrop:=r.drop c.b;have hext:cs.length<=L.ext:=(r.cells hg hL).choose_spec.choose_spec.choose_spec.choose_spec.2.2.1;have hlc:len<=cap:=by rw[hlen,<-hcap,n9]at hext;exact E3 hext hsz
        by_cases hfull:cap=len
        .subst hfull;refine Calls.mono (hb Bool oU (· =true) (Tz I) f c.full h.raise _ run1 (· <w.heap.size) w O w _ r.raise (by rw[hf];exact⟨_,ur,rfl,⟨L,hL,rfl⟩,p1⟩)) ?_;rintro e w' ⟨u,ac,v,h',rfl,h1,h2,h3,h4⟩;obtain⟨g1,g2⟩:=ZH r h3 h4;have hnx:(h.put c.b none).next=h.next:=by simp
         obtain⟨am,q1,q2,q3⟩:=Oh (h:=h.put c.b none) (g1.drop c.b).1 h3 (λz M y hy hz hM=>by obtain⟨a1,a2⟩:=g2 z M y hy (by exact hz) hM;refine⟨λz2 x2 M2 hx2 hM2=> ?_,a2⟩;rw[Heap.get_put]at hx2;grind) (by exact Wk h1) h2;exact⟨u,am,_,_,rfl,he,q1,q2,hdrop.2.trans q3⟩
        .have hmul:(len+1)*sz<=cap*sz:=B2 _ (by omega);have hs:cs.length+sz<=L.ext:=by grind
         have r1:=r.capH (e:=el) hg hL hs;have hle:Le O (O.add h.next L):=by
          intro b' M hb';simp[cj.add];by_cases e:b'=h.next
          subst e;rw[r.fresh _ (j6 _)]at hb';cases hb';grind
         rw[hch]at run2;refine Calls.mono (hb Bool oU (· =true) (Tz I) f c.wide _ _ run2 _ w _ w _ r1 (by rw[hw];exact⟨_,ur,rfl,⟨L,cap,by simp[cj.add],hcap,rfl⟩,co.mono hle _ _ p1⟩)) ?_;rintro e w' ⟨u,ac,v,h',rfl,h1,h2,h3,h4⟩;obtain⟨g1,g2⟩:=dq2 r hg hL hwm h3 h4;have hnx:(h.put c.b none).next=h.next:=by simp
         obtain⟨am,q1,q2,q3⟩:=Oh (h:=h.put c.b none) g1 h3 g2 (by exact Wk h1) h2;exact⟨u,am,_,_,rfl,he,q1,q2,hdrop.2.trans q3⟩
  |true=>
   rw[ham]at he;unfold SP at he;split at he;exact absurd he hA.X
   .unfold ZP at he;split at he;exact absurd he hA.X
    .rename_i b l hout;cases hrun:ev E n Bool oU (.body f args h.raise (vD h.next (some (b,l))))with
     |false=>rw[hrun]at he;exact absurd he hA.X
     |true=>
      simp[cond_true,To]at he;refine Calls.mono (hb Bool oU (· =true) (Tz I) f args h.raise _ hrun (· <w.heap.size) w O w us r.raise ra) ?_;rintro e w' ⟨u,ac,v,h',rfl,h1,h2,h3,h4⟩;obtain⟨a1,a2⟩:=ZH r h3 h4;obtain⟨am,g1,g2,g3⟩:=Oh a1 h3 a2 (Wk h1) h2;grind
 cases hh:E.hook f args h with
 |val v h'=>rw[hh]at hc0;exact fin v h' hc0 (hk.val _ _ _ _ _ hh)
 |N e v h'=>
  rw[hh]at hc0;obtain⟨h1,h2⟩:=hA.needA _ _ hc0;exact fin v h' h2 (hk.N _ _ _ _ _ _ hh h1)
 |_=>rw[hh]at hc0;exact old hc0
def Ul{Ω:Opq->Prop}(ao: ∀I v0 l,Ω I->Ω (I.U v0 l))(hE: ∀I,Ω I->E.Ok I)(hk: ∀I,Ω I->HookOk E I)(hm:E.P.follows .mixedOrders=true): ∀n,∀I,Ω I->(∀m,m<=n->zz E I m)/\HJ E I n/\Ij E I n/\vz E I n/\Qg E I n/\MY E I n
 |0=>by
  intro I ae;refine⟨λm hm=> ?_,?_,?_,?_,?_,?_⟩
  obtain rfl:m=0:=by omega
  refine⟨?_,?_⟩;intro R A T hA f args h k he;exact absurd he hA.X;intro R A T hA c a h k he;exact absurd he hA.X;intro R A T hA f args h k he;exact absurd he hA.X;intro R A T hA c a h k he;exact absurd he hA.X;intro R A T hA ops rest i a h k _ he;exact absurd he hA.X;intro R A T hA f args h k he;exact absurd he hA.X;intro R A T hA fn a ds h k he;exact absurd he hA.X
 |n+1=>by
  intro I ae;have ih:=Ul ao hE hk hm n;obtain⟨hc,hb,hl,ho,hdb,hlv⟩:=ih I ae;have hcd:md E I n:=(hc n (j6 _)).2;refine⟨λm hmn=> ?_,cv8 hcd hlv,cv7 ao ae (λaa h'=>((ih aa h').1 n (j6 _)).2) (λaa h'=>(ih aa h').2.2.2.1) hcd hl,cX8 (hE I ae) (hc n (j6 _)) ho,cb6 hcd,cb7 (hE I ae) hlv hdb⟩;rcases k8 m (n+1)with hlt|hge
  grind
  obtain rfl:m=n+1:=by omega
  exact⟨cw0 (hk I ae) hb,cv6 ao ae (hE I ae) hm hc (λaa h'=>((ih aa h').1 n (j6 _)).2) hl ho⟩
variable{E:Env}{I:Opq}
def HR.start(w:Ac):HR (λ_=>none) I (· <w.heap.size) w Heap.empty w:=
 ⟨λb x L _ hb=>(by cases hb),λb b' x x' L L' _ _ hb=>(by cases hb),λ_ _=>rfl,λb _=>Heap.get_empty b,λb L hb=>(by cases hb),λi hi=>hi,λi _=>rfl,
  λb x L _ _ hb=>(by cases hb),j6 _,rfl,rfl,rfl,j6 _⟩
section
variable{H:Type}{enc:zX×Zl->H}{P:yJ}
def aI2(hl:laidOutB P=true){W W':Ac}{sp':Nat->Bool}: ∀{ts:List zX} {vs:List Zl} {ds:List (DataW H)} {ps:aa4},DataW.TrodAll enc P W 0 (λ_=>true) true ts vs ds ps->
 (ts.all λt=>P.readableRec t&&decide (t<P.types.size))=true->(∀p∈ps,W.sameAt W' p)->(∀p∈ps,sp' p.block=true)->DataW.TrodAll enc P W' 0 sp' true ts vs ds ps
 | [],vs,ds,ps,h,_,_,_=>by obtain⟨rfl,rfl,rfl⟩:=trodAll_nil h;rfl
 |t::ts,vs,ds,ps,h,hr,hs,hp=>by
  obtain⟨v,vs',d,ds',p,q,rfl,rfl,rfl,h1,h2⟩:=trodAll_cons h;simp only[List.all_cons,j8,decide_eq_true_eq]at hr;exact trodAll_cons_mk (WideElems.Trod_stays hl hr.1.1 hr.1.2 h1 (λx hx=>hs x (by simp[hx])) (λx hx=>hp x (by simp[hx])))
   (aI2 hl h2 hr.2 (λx hx=>hs x (by simp[hx])) (λx hx=>hp x (by simp[hx])))
def cY8{f:Func}{s:ChangeSpec}{W W':Ac}{args:Array Zl}{ds:List (DataW H)}{before:aa4}{tb:zX}
 (hW:DataW.Whole enc P f.params.toList s.vars false W args.toList ds [] before) (hv:s.vars=[]) (hfn:s.fn H ds={results:=[.lit (.bool true)],args:=ds})
 (hl:laidOutB P=true) (hr:(f.params.toList.all λt=>P.readableRec t&&decide (t<P.types.size))=true) (hb:Below W.heap.size W W')
 (hbool:P.underlying tb=some .bool) (hres:f.resultTypes= #[tb]):s.post enc P f false true false false W args (.bool true) W':=by
 have hlt: ∀p∈before,p.block<W.heap.size:=λp hp=>hW.lt p hp
 have hWW:=hW;obtain⟨p,q,hA,hV,rfl,hz,_⟩:=hWW;rw[hv]at hV;obtain rfl:q=[]:=hV;simp at hlt hz;have hsame: ∀x∈p,W.sameAt W' x:=λx hx=>hb.same (hlt x hx)
 have hargs: ∀sp:Nat->Bool,(∀x∈p,sp x.block=true)->DataW.TrodAll enc P W' 0 sp true f.params.toList args.toList ds p:=λsp hsp=>aI2 hl hA hr hsame hsp
 have hress: ∀(b:Nat) (sp:Nat->Bool) (hd:Bool),DataW.TrodAll enc P W' b sp hd f.resultTypes.toList ((Value.bool true).resultList f.resultTypes.size) [.lit (.bool true)] []:=λb sp hd=>by rw[hres];exact trodAll_mk1 (shut_bool hbool true)
 have hvs: ∀sp:Nat->Bool,DataW.TrodVars enc P W' sp s.vars [] []:=λsp=>by rw[hv];rfl
 have h0:s.fn H (ds++[])={results:=[.lit (.bool true)],args:=ds}:=by rw[x5];exact hfn
 refine⟨ds,[],p,[],p,[],by simpa using hW,?_,?_,?_,World.keptBut_mono (λx hx=>⟨hx,.inr (.inl hx)⟩) (hb.frame (· ∈p)),λh=>by cases h⟩;rw[h0];exact hress _ _ _;rw[h0];exact hargs _ (λx hx=>by simpa using hlt x hx);grind
end
def Do:Zl->Val
 | .int _ n=> .D n
 | .string s=> .vs s.data.toList
 | .bool b=> .B b
 |_=> .B false
noncomputable section
structure LGen where
 id:Nat
 v0:Nat
 dead:uq
 own:List (Nat×mB×Nat×wD)
 abs:uq
 mem:uq
 fvs:uq
 exits:List (Ex×aav)
 maps:List (Nat×wD×wD):=[]
 gone:List Ex:=[]
 mapr:Bool:=false
 xown:List (Nat×Nat×wD):=[]
mutual
def Po:AV->GF
 | .Z _ e=>[e]
 | .K e=>[e]
 | .H e=>[e]
 | .osl _ x y _=>[x,y]
 | .U _ x _=>[x]
 | .agg l=>QS l
 | .iface _ x=>Po x
 |_=>[]
def QS:zw->GF
 | []=>[]
 |a::r=>Po a++QS r
end
def dM1(x:lW):GF:=match x with
 |some (.cells _ _ cs)=>QS cs
 |some (.A _ _ l)=>[l]
 |some (.marr _ _ _ l)=>[l]
 |some (.bag _ _ l)=>[l]
 |some (.mrg _ _ _ _ l)=>[l]
 |_=>[]
mutual
def QX(n:Nat):AV->AV×Nat
 | .int k _=>(.Z k (.V n),n+1)
 | .Z k _=>(.Z k (.V n),n+1)
 | .str _=>(.K (.V n),n+1)
 | .K _=>(.K (.V n),n+1)
 | .bool _=>(.H (.V n),n+1)
 | .H _=>(.H (.V n),n+1)
 | .osl b _ _ s=>(.osl b (.V n) (.V (n+1)) s,n+2)
 | .U b _ s=>(.U b (.V n) s,n+1)
 | .agg l=>match Sb n l with
   |(l',m)=>(.agg l',m)
 |x=>(x,n)
def Sb(n:Nat):zw->zw×Nat
 | []=>([],n)
 |a::r=>match QX n a with
  |(a',m)=>match Sb m r with
   |(r',m')=>(a'::r',m')
end
def e34(n:Nat)(x:lW):lW×Nat:=match x with
 |some (.cells e fz cs)=>match Sb n cs with
  |(cs',m)=>(some (.cells e fz cs'),m)
 |some (.A e sig _)=>(some (.A e sig (.V n)),n+1)
 |some (.marr d ks vs _)=>(some (.marr d ks vs (.V n)),n+1)
 |x=>(x,n)
def XI(t:Nat):aav->EX
 | []=>none
 |a::r=>bif Nat.beq a.1 t then some a.2 else XI t r
def OY(look:Nat->EX):Nat->Nat->Nat->aav×Nat
 |0,_,n=>([],n)
 |m+1,t,n=>match look t with
  |some v=>match QX n v with
   |(v',n')=>match OY look m (t+1) n' with
    |(r,n'')=>((t,v')::r,n'')
  |none=>OY look m (t+1) n
def OF(b:Nat):List (Nat×uq)->Option uq
 | []=>none
 |x::r=>bif Nat.beq x.1 b then(match x.2,OF b r with
  | [],_=>some []
  |l,some []=>some []
  |l,some l'=>some (l++l')
  |l,none=>some l)else OF b r
def Qw(l:uq):Nat->Nat->zw->zw×Nat
 |_,n,[]=>([],n)
 |i,n,a::r=>bif Bh i l then(match QX n a with
  |(a',m)=>match Qw l (i+1) m r with
   |(r',m')=>(a'::r',m'))
  else(match Qw l (i+1) n r with
   |(r',m')=>(a::r',m'))
def e36(l:uq)(n:Nat)(x:lW):lW×Nat:=match l,x with
 |_::_,some (.cells e fz cs)=>(match Qw l 0 n cs with
  |(cs',m)=>(some (.cells e fz cs'),m))
 |_,x=>e34 n x
def UU(bs:List (Nat×uq))(h:Heap):Nat->Nat->Nat->List (Nat×lW)×Nat
 |0,_,n=>([],n)
 |m+1,b,n=>match OF b bs with
  |some l=>(match e36 l n (h.get b)with
   |(x,n')=>match UU bs h m (b+1) n' with
    |(r,n'')=>((b,x)::r,n''))
  |none=>UU bs h m (b+1) n
def RF(look:Nat->EX)(bs:List (Nat×uq))(nt:Nat)(h:Heap)(v0:Nat):StP:=match OY look nt 0 v0 with
 |(sl,n)=>match UU bs h h.next 0 n with
  |(bl,_)=>⟨sl,bl,h.next⟩
def Ut(a:Fr)(n0 n:Nat):List (Nat×mB×Nat×wD)->aaO
 | []=>[]
 |(t,none,e,sig)::r=>⟨t,n,e,sig,none,false⟩::Ut a n0 (n+1) r
 |(t,some i,e,sig)::r=>(bif Nat.ble 1000 i then⟨t,n,e,sig,some (n0+(i/1000-1),i % 1000),false⟩else match a.slot t with
  | .ptr b o=>⟨t,n,e,sig,some (b,o+i),false⟩
  |_=>⟨t,n,e,sig,none,false⟩)::Ut a n0 (n+1) r
def dM3(a:Fr)(l:uq)(t:Nat):EX:=bif Bh t l then some (a.slot t)else none
def dM4(a:Fr)(l:uq)(x:aav)(t:Nat):EX:=match XI t x with
 |some v=>some v
 |none=>dM3 a l t
def e37(h:Heap)(x:lW):GF:=match x with
 |some (.cells _ _ cs)=>(Df cs).flatMap λb=>dM1 (h.get b)
 |_=>[]
def wo(h:Heap)(b:Nat):uq:=match h.get b with
 |some (.cells _ _ cs)=>Df cs
 |_=>[]
def ed5(h:Heap)(b:Nat):GF:=match h.get b with
 |some (.A _ _ l)=>[l]
 |_=>[]
def fvS(a:Fr)(h:Heap)(t:Nat):GF:=
 bif Nat.ble 2000 t then((rL (a.slot (t-2000))).flatMap (wo h)).flatMap λb=>(wo h b).flatMap (ed5 h)
 else bif Nat.ble 1000 t then(rL (a.slot (t-1000))).flatMap λb=>(wo h b).flatMap (ed5 h)
 else Po (a.slot t)++((rL (a.slot t)).flatMap λb=>dM1 (h.get b)++e37 h (h.get b))
def fvG(a:Fr)(h:Heap):uq->GF
 | []=>[]
 |t::r=>fvS a h t++fvG a h r
def Kz(l:uq):List (Nat×uq):=l.map λb=>(b,[])
def ej1(a:Fr)(h:Heap)(t:Nat):List (Nat×uq):=bif Nat.ble 10000 t then(rL (a.slot (t % 100))).map λb=>(b,[(t-10000)/100])
 else bif Nat.ble 1000 t then Kz ((rL (a.slot (t-1000))).flatMap (wo h))else Kz (rL (a.slot t))
def exB:Ex->Ex->Bool
 | .norm,.norm=>true
 | .exit i,.exit j=>Nat.beq i j
 | .ret,.ret=>true
 |_,_=>false
def ej2(owns:aaO)(b:Nat):Bool:=owns.any λo=>Nat.beq o.blk b
def dM5(g:Bool)(owns:aaO)(s:StP):StP:=bif g then⟨s.slots,s.blks.map λx=>bif ej2 owns x.1 then(x.1,none)else x,s.next⟩else s
def WA(n:Nat):List (Nat×Nat×wD)->aaO
 | []=>[]
 |(t,e,sig)::r=>⟨t,n,e,sig,none,true⟩::WA (n+1) r
def ed6:aaO->Heap->Heap
 | [],h=>h
 |o::r,h=>ed6 r (h.put o.blk (some (.A o.elem o.sig (.O .row []))))
def slX(l:aaO):aav:=l.map λo=>(o.slot,.U o.blk (.V 0) o.sig.length)
def e38(g:LGen)(owns lz:aaO)(p:Fr×Heap)(bs:List (Nat×uq))(x:Ex×aav):StP:=bif exB .ret x.1 then RF (dM4 p.1 g.abs (x.2++slX lz)) (bs++Kz (lz.map (·.blk))) p.1.nt (ed6 lz p.2) g.v0 else RF (dM4 p.1 g.abs x.2) bs p.1.nt p.2 g.v0
def e39(g:LGen)(owns lz:aaO)(p:Fr×Heap)(bs:List (Nat×uq)):LSpec:=
 ⟨g.id,owns++lz,g.v0,fvG p.1 p.2 g.fvs,g.dead,RF (dM3 p.1 g.abs) bs p.1.nt p.2 g.v0,g.exits.map λx=>(x.1,dM5 (g.gone.any (exB x.1)) owns (e38 g owns lz p bs x)),g.mapr⟩
def Mb(ks vs:wD)(h:Heap)(b:Nat):Heap:=match h.get b with
 |some (.map [] c)=>h.put b (some (.marr (Nat.beq c 0) ks vs (.O .row [])))
 |_=>h
def UQ(h:Heap):AV->Heap
 | .map b=>(match h.get b with
   |some (.marr _ ks vs l)=>h.put b (some (.marr false ks vs l))
   |_=>h)
 |_=>h
def At(a:Fr):List (Nat×wD×wD)->Heap->Heap
 | [],h=>h
 |(t,ks,vs)::r,h=>bif Nat.ble 40000 t then At a r ((((rL (a.slot (t-40000))).flatMap (wo h)).flatMap (wo h)).foldl (λh b=>UQ (Mb ks vs h b) (.map b)) h)else bif Nat.ble 30000 t then At a r (((rL (a.slot (t-30000))).flatMap (wo h)).foldl (λh b=>UQ (Mb ks vs h b) (.map b)) h)else bif Nat.ble 20000 t then At a r (UQ h (a.slot (t-20000)))else bif Nat.ble 1000 t then At a r (((rL (a.slot (t-1000))).flatMap (wo h)).foldl (Mb ks vs) h)else(match a.slot t with
  | .map b=>At a r (Mb ks vs h b)
  |_=>At a r h)
def dM7(h:Heap)(o:OwnP):Bool:=match h.get o.blk with
 |some (.cells _ _ _)=>false
 |_=>true
def e40(g:LGen)(a:Fr)(h:Heap)(owns:aaO):Bool:=(g.own.any λo=>o.2.2.2.isEmpty)&&(wt owns (layDead a g.dead) h).isNone
def e41(g:LGen)(a:Fr)(h:Heap)(owns lz:aaO):LSpec:=
 bif e40 g (eJ owns a h).2 (h.upto (Nat.add h.next (Nat.add owns.length lz.length))) (owns++lz)then⟨g.id,[⟨0,0,0,[],none,false⟩],g.v0,[],[],⟨[],[],0⟩,[],false⟩else
 match ix ⟨g.id,owns++lz,g.v0,[],g.dead,⟨[],[],Nat.add h.next (Nat.add owns.length lz.length)⟩,[],false⟩ (eJ owns a h).2 (h.upto (Nat.add h.next (Nat.add owns.length lz.length)))with
  |p=>e39 g owns lz (p.1,At p.1 g.maps p.2) (Kz ((owns.filter (dM7 p.2)).map (·.blk))++(g.mem.map (ej1 p.1 p.2)).flatten)
def ep(g:LGen)(a:Fr)(h:Heap):LSpec:=e41 g a h (Ut a h.next h.next g.own) (WA (Nat.add h.next g.own.length) g.xown)
mutual
def hZ:AV->zw
 | .agg cs=>cs
 | .V vs=>sC vs
 |v=>[v]
def sC:zw->zw
 | []=>[]
 |a::r=>hZ a++sC r
end
inductive BSrc where
 |whole (b:Nat)
 |view (v:AV)
 deriving Inhabited
abbrev abj:= Option BSrc
abbrev aaA:= List BSrc
structure FC where
 args:zw
 blks:aaM
 mt:Nat
 N:SX
 out:AV
 post:List lW
 outs:GF
mutual
def ko(es:GF):SX->SX
 | .V n=>es.getD n (.V n)
 | .O p l=> .O p (Em es l)
 | .Q f l=> .Q f (Em es l)
 |x=>x
def Em(es:GF):GF->GF
 | []=>[]
 |a::r=>ko es a::Em es r
end
def Nk(sz:Nat)(sig:wD)(n:Nat)(cs:zw):Option (SX×SX):=match lE sig sz n cs with
 |some rs=>some (.cb true,.O .row rs)
 |none=>none
def DY(sz elem:Nat)(sig:wD)(x:AV)(h:Heap):Option (SX×SX):=match x with
 | .N=>some (.cb true,.O .row [])
 | .U b len s=>match h.get b with
   |some (.A e sg l)=>bif Nat.beq s sz&&Nat.beq e elem&&fp sg sig then(bif SX.beq len (.O .Y [l])then some (.cb true,l)else some (.O .and [.O (.cmp .leq) [.C 0,len],.O (.cmp .leq) [len,.O .Y [l]]],.O .lsub [l,.C 0,len]))else none
   |_=>none
 | .osl b off len s=>match h.get b with
   |some (.A e sg l)=>bif Nat.beq s sz&&Nat.beq e elem&&fp sg sig then(bif SX.beq off (.C 0)&&SX.beq len (.O .Y [l])then some (.cb true,l)else some (.O .and [.O (.cmp .leq) [.C 0,off],.O .and [.O (.cmp .leq) [.C 0,len],.O (.cmp .leq) [.O .iadd [off,len],.O .Y [l]]]],.O .lsub [l,off,.O .iadd [off,len]]))else none
   |_=>none
 | .sl b o n c=>match h.get b with
   |some (.cells e fz cs)=>bif Nat.beq e elem&&Nat.ble n c&&Nat.ble fz o&&Nat.ble (o+n*sz) cs.length&&Nat.blt 0 n then Nk sz sig n ((cs.drop o).take (n*sz))else none
   |_=>none
 | .us b o n s=>match h.get b with
   |some (.cells e fz cs)=>bif Nat.blt 0 sz&&Nat.beq s sz&&Nat.beq e elem&&Nat.ble fz o&&Nat.ble (o+n*sz) cs.length then Nk sz sig n ((cs.drop o).take (n*sz))else none
   |_=>none
 |_=>none
def Ih(elem:Nat)(x:lW):Nat:=match x with
 |some (.A e _ _)=>e
 |some (.cells e _ _)=>e
 |_=>elem
def e42(x:AV)(h:Heap)(elem:Nat):Nat:=match x with
 | .U b _ _=>Ih elem (h.get b)
 | .osl b _ _ _=>Ih elem (h.get b)
 | .sl b _ _ _=>Ih elem (h.get b)
 | .us b _ _ _=>Ih elem (h.get b)
 |_=>elem
def db6(x:AV)(h:Heap)(elem:Nat):Nat:=bif Nat.beq elem iU then e42 x h elem else elem
def BN(sz elem:Nat)(sig:wD)(x:AV)(h:Heap):Option (SX×SX):=DY sz (db6 x h elem) sig x h
structure Bnd where
 src:List (Nat×BSrc)
 sx:List (Nat×SX)
def US{α:Type}(i:Nat):List (Nat×α)->Bool
 | []=>false
 |a::r=>bif Nat.beq a.1 i then true else US i r
def Bnd.addS(B:Bnd)(i:Nat)(s:BSrc):Bnd:=bif US i B.src then B else⟨(i,s)::B.src,B.sx⟩
def IM{α:Type}(i:Nat):List (Nat×α)->Option α
 | []=>none
 |a::r=>bif Nat.beq a.1 i then some a.2 else IM i r
def Bnd.addG(B:Bnd)(j:Nat)(x:SX):Bnd:=match IM j B.sx with
 |none=>(match x with
  | .O .G [.Q f l,.C (.ofNat 0),_]=>⟨B.src,(j,.Q f l)::B.sx⟩
  | .O .G [.V n,.C (.ofNat 0),_]=>⟨B.src,(j,.V n)::B.sx⟩
  |x=>⟨B.src,(j,.O .row [.O .row [x]])::B.sx⟩)
 |some (.O .row [.O .row l])=>⟨B.src,(j,.O .row [.O .row (l++[x])])::B.sx⟩
 |some _=>B
def Bnd.addX(B:Bnd)(p x:SX):Bnd:=match p with
 | .V j=>bif US j B.sx then B else⟨B.src,(j,x)::B.sx⟩
 | .O .G [.V j,_,_]=>B.addG j x
 |_=>B
def Bnd.addO(B:Bnd)(p:SX)(x:aaD):Bnd:=match x with
 |some x=>B.addX p x
 |none=>B
def Ah(p q:SX):Bool:=match p,q with
 | .C 0,.O .Y _=>true
 |_,_=>false
mutual
def dM8(B:Bnd):AV->AV->Bnd
 | .Z _ p,x=>B.addO p ((jm x).map (·.2))
 | .K p,x=>B.addO p (mu x)
 | .H p,x=>B.addO p (lu x)
 | .agg ps,.agg xs=>Ai B ps xs
 | .iface _ p,.iface _ x=>dM8 B p x
 | .func _ a b,.func _ c d=>Ai (Ai B a c) b d
 | .ptr i _,.ptr b _=>B.addS i (.whole b)
 | .map i,.map b=>B.addS i (.whole b)
 | .sl i _ _ _,.sl b _ _ _=>B.addS i (.whole b)
 | .osl i p q _,x=>bif Ah p q then B.addS i (.view x)else(match x with
   | .osl b p' q' _=>((B.addS i (.whole b)).addX p p').addX q q'
   |_=>B)
 | .U i q _,.U b q' _=>(B.addS i (.whole b)).addX q q'
 |_,_=>B
def Ai(B:Bnd):zw->zw->Bnd
 | [],_=>B
 |_::_,[]=>B
 |p::ps,x::xs=>Ai (dM8 B p x) ps xs
end
def e44(h:Heap)(B:Bnd)(p:Blk)(s:abj):Bnd:=match s with
 |some (.whole b)=>(match p,h.get b with
  | .cells _ _ ps,some (.cells _ _ xs)=>Ai B ps xs
  | .A _ _ q,some (.A _ _ l)=>B.addX q l
  | .bag _ _ q,some (.bag _ _ l)=>B.addX q l
  | .marr _ _ _ q,some (.marr _ _ _ l)=>B.addX q l
  | .marr _ _ _ q,some (.map [] _)=>B.addX q (.O .row [])
  |_,_=>B)
 |some (.view v)=>(match p with
  | .A e sig q=>(match BN sig.length e sig v h with
    |some (_,l)=>B.addX q l
    |none=>B)
  |_=>B)
 |none=>B
def MN(h:Heap)(B:Bnd):aaM->Nat->Bnd
 | [],_=>B
 |p::r,i=>MN h (e44 h B p (IM i B.src)) r (i+1)
def CW{α:Type}(l:List (Nat×α)):Nat->Nat->Option (List α)
 |0,_=>some []
 |n+1,i=>match IM i l,CW l n (i+1)with
  |some x,some r=>some (x::r)
  |_,_=>none
def vS:AV->Bool
 | .bool _| .int _ _| .str _| .nilp| .glob _| .N| .nilm| .nilf| .nili=>true
 |_=>false
def Al(s:abj)(b:Nat):Bool:=match s with
 |some (.whole c)=>Nat.beq c b
 |_=>false
def Vc(s:abj)(x:AV):Bool:=match s with
 |some (.view v)=>AV.beq v x
 |_=>false
def Qc(e:SX):SX:=match e with
 | .O .G [.O .row [.O .row l],.C (.ofNat 0),.C (.ofNat k)]=>(match l[k]? with
   |some x=>x
   |none=>e)
 |e=>e
def Fo(es:GF)(p x:SX):Bool:=SX.beq (Qc (ko es p)) x
def Kl(es:GF)(p:SX)(x:aaD):Bool:=match x with
 |some x=>Fo es p x
 |none=>false
def Te(es:GF)(k:IntKind)(p:SX)(x:abf):Bool:=match x with
 |some (k',x)=>decide (k=k')&&Fo es p x
 |none=>false
def Hk(blks:aaM)(i s:Nat)(q:SX):Bool:=match blks[i]? with
 |some (.A _ sig l)=>Nat.beq sig.length s&&SX.beq q (.O .Y [l])
 |_=>false
def Ug(src:aaA)(es:GF)(i:Nat)(p q:SX)(s:Nat)(x:AV):Bool:=match x with
 | .osl b p' q' s'=>Nat.beq s s'&&Al src[i]? b&&Fo es p p'&&Fo es q q'
 |_=>false
def SC(src:aaA)(es:GF)(i:Nat)(q:SX)(s:Nat)(x:AV):Bool:=match x with
 | .U b q' s'=>Nat.beq s s'&&Al src[i]? b&&SX.beq (ko es q) q'
 |_=>false
def Oo(src:aaA)(i o:Nat)(x:AV):Bool:=match x with
 | .ptr b o'=>Nat.beq o o'&&Al src[i]? b
 |_=>false
def UN(src:aaA)(i:Nat)(x:AV):Bool:=match x with
 | .map b=>Al src[i]? b
 |_=>false
def UV(src:aaA)(i o n c:Nat)(x:AV):Bool:=match x with
 | .sl b o' n' c'=>Nat.beq o o'&&Nat.beq n n'&&Nat.beq c c'&&Al src[i]? b
 |_=>false
mutual
def fk(src:aaA)(es:GF)(blks:aaM):AV->AV->Bool
 | .Z k p,x=>Te es k p (jm x)
 | .K p,x=>Kl es p (mu x)
 | .H p,x=>Kl es p (lu x)
 | .agg ps,x=>(match x with
   | .agg xs=>tu src es blks ps xs
   |_=>false)
 | .iface t p,x=>(match x with
   | .iface u y=>Nat.beq t u&&fk src es blks p y
   |_=>false)
 | .func f a b,x=>(match x with
   | .func g c d=>decide (f=g)&&tu src es blks a c&&tu src es blks b d
   |_=>false)
 | .ptr i o,x=>Oo src i o x
 | .map i,x=>UN src i x
 | .sl i o n c,x=>UV src i o n c x
 | .osl i p q s,x=>bif Ah p q then Hk blks i s q&&Vc src[i]? x else Ug src es i p q s x
 | .U i q s,x=>SC src es i q s x
 |p,x=>vS p&&AV.beq p x
def tu(src:aaA)(es:GF)(blks:aaM):zw->zw->Bool
 | [],xs=>(match xs with
   | []=>true
   |_=>false)
 |p::ps,xs=>(match xs with
  |x::xs=>fk src es blks p x&&tu src es blks ps xs
  |_=>false)
end
def su(src:aaA)(es:GF)(blks:aaM)(h:Heap)(p:Blk)(s:BSrc):aaD:=match s with
 | .whole b=>(match p,h.get b with
   | .cells e fz ps,some (.cells e' fz' xs)=>bif Nat.beq e e'&&Nat.beq fz fz'&&ps.all AV.oneA&&tu src es blks ps xs then some (.cb true)else none
   | .A e sig q,some (.A e' sig' l)=>bif Nat.beq e e'&&fp sig sig'&&SX.beq (ko es q) l then some (.cb true)else none
   | .bag e sig q,some (.bag e' sig' l)=>bif Nat.beq e e'&&fp sig sig'&&SX.beq (ko es q) l then some (.cb true)else none
   | .marr d ks vs q,some (.marr d' ks' vs' l)=>bif (!d||d')&&fp ks ks'&&fp vs vs'&&SX.beq (ko es q) l then some (.cb true)else none
   | .marr d _ _ q,some (.map [] c)=>bif (!d||Nat.beq c 0)&&SX.beq (ko es q) (.O .row [])then some (.cb true)else none
   |_,_=>none)
 | .view v=>(match p with
   | .A e sig q=>(match BN sig.length e sig v h with
     |some (nd,l)=>bif SX.beq (ko es q) l then some nd else none
     |none=>none)
   |_=>none)
def HN(src:aaA)(es:GF)(blks:aaM)(h:Heap):aaM->aaA->aaD
 | [],[]=>some (.cb true)
 |p::ps,s::ss=>match su src es blks h p s,HN src es blks h ps ss with
  |some a,some b=>some (gL a b)
  |_,_=>none
 |_,_=>none
def kg:BSrc->mB
 | .whole b=>some b
 | .view (.U b _ _)=>some b
 | .view (.osl b _ _ _)=>some b
 | .view (.sl b _ _ _)=>some b
 | .view (.us b _ _ _)=>some b
 | .view _=>none
def neB(a b:mB):Bool:=match a,b with
 |some x,some y=> !(Nat.beq x y)
 |_,_=>true
def ed7(p:lW):Bool:=match p with
 |some (.A _ _ _)=>true
 |_=>false
def XL(p:lW):Bool:=match p with
 |some (.A _ _ _)=>true
 |some (.bag _ _ _)=>true
 |_=>false
def ej3(p:lW):Bool:=match p with
 |some (.A _ _ _)=>true
 |some (.bag _ _ _)=>true
 |some (.vec _)=>true
 |_=>false
def Ti(h:Heap)(b:mB):Bool:=match b with
 |some b=>ej3 (h.get b)
 |none=>false
def PS(n:Nat)(b:mB):Bool:=match b with
 |some b=>Nat.ble n b
 |none=>true
def Fv(blks:aaM)(mt:Nat)(h:Heap)(i j:Nat)(a b:mB):Bool:=
 (Nat.blt i mt&&Nat.blt j mt&&ed7 blks[i]? &&ed7 blks[j]?)||(neB a b&&(PS h.wm a||PS h.wm b|| !(Ti h a)|| !(Ti h b)))
def Ik(blks:aaM)(mt:Nat)(h:Heap)(i:Nat)(s:BSrc):aaA->Nat->Bool
 | [],_=>true
 |t::r,j=>Fv blks mt h i j (kg s) (kg t)&&Ik blks mt h i s r (j+1)
def seps(blks:aaM)(mt:Nat)(h:Heap):aaA->Nat->Bool
 | [],_=>true
 |s::r,i=>Ik blks mt h i s r (i+1)&&seps blks mt h r (i+1)
def Cx(b:Nat):zw->Bool
 | []=>false
 |x::r=>(match x with
  | .ptr c _=>Nat.beq c b
  | .map c=>Nat.beq c b
  |_=>false)||Cx b r
def VI(h:Heap)(b c:Nat):Bool:=match h.get c with
 |some (.cells _ _ cs)=>Cx b cs
 |_=>false
def MP(args:zw)(h:Heap)(b:Nat):aaA->Bool
 | []=>false
 |s::r=>(match s with
  | .whole c=>Cx c args&&VI h b c
  | .view _=>false)||MP args h b r
def cw6(x:Option lW):Bool:=match x with
 |some none=>true
 |_=>false
def Dy(mt:Nat)(args:zw)(h:Heap)(all:aaA)(post:List lW):aaA->Nat->Bool
 | [],_=>true
 |s::r,i=>(Nat.blt i mt||(match s with
  | .whole b=>Nat.ble h.wm b&&Nat.blt b h.next&&(cw6 post[i-mt]? ||Cx b args||MP args h b all||XL (h.get b))
  | .view _=>false))&&Dy mt args h all post r (i+1)
def nM(e:SX):Bool:=(yl 1000 e).isSome||fh 0 e
def ku(src:aaA)(i:Nat):Bool:=match src[i]? with
 |some (.whole _)=>true
 |_=>false
def qp(src:aaA)(mt:Nat)(post:List lW)(p:AV):Bool:=match p with
 | .Z _ e=>nM e
 | .K e=>nM e
 | .H e=>nM e
 | .osl i x y _=>ku src i&&nM x&&nM y
 | .U i x s=>bif Nat.ble src.length i then(match x,post[i-mt]? with
  | .O .Y [q],some (some (.A _ sig q'))=>SX.beq q q'&&Nat.beq sig.length s
  |_,_=>false)else ku src i&&(yl 1000 x).isSome
 | .ptr i _=>ku src i
 |p=>vS p
def BH(n:Nat)(p:AV):Bool:=match p with
 | .U i _ _=>Nat.blt i n
 |_=>true
def Ea(src:aaA)(mt:Nat)(post:List lW)(x:lW):Bool:=match x with
 |none=>true
 |some (.cells _ _ ps)=>ps.all λp=>qp src mt post p&&BH src.length p&&p.oneA
 |some (.A _ _ q)=>nM q
 |some (.marr _ _ _ q)=>nM q
 |_=>false
def CR(x:lW):Bool:=match x with
 |some (.A _ _ q)=>nM q
 |_=>false
def zB(src:aaA)(mt:Nat)(post:List lW):List lW->Nat->Bool
 | [],i=>Nat.ble src.length i
 |x::r,i=>bif Nat.blt i src.length then Ea src mt post x&&zB src mt post r (i+1)else CR x&&zB src mt post r (i+1)
structure Binding where
 src:aaA
 es:GF
 nd:SX
def rT(c:FC)(nv:Nat):Bool:=oe nv c.blks.length c.args&&c.blks.all (λx=>yK nv c.blks.length (some x))&&fh nv c.N&&qL nv c.outs&&Nat.ble c.mt c.blks.length&&Nat.blt c.blks.length 60000&&c.blks.all (λx=>match x with
 | .cells _ _ _=>true
 | .A _ _ _=>true
 | .bag _ _ _=>true
 | .marr _ _ _ _=>true
 |_=>false)
def dr6(c:FC)(args:zw)(h:Heap):Bnd:=
 MN h (Ai ⟨(MN h ⟨(MN h (Ai ⟨[],[]⟩ c.args args) c.blks 0).src,[]⟩ c.blks 0).src,[]⟩ c.args args) c.blks 0
def AZ(c:FC)(nv:Nat)(args:zw)(h:Heap):Option Binding:=
 match dr6 c args h with
 |B=>match CW B.src c.blks.length 0,CW B.sx nv 0 with
  |some src,some es=>bif tu src es c.blks c.args args&&seps c.blks c.mt h src 0&&Dy c.mt args h src c.post src 0&&zB src c.mt c.post c.post c.mt&&(hZ c.out).all (qp src c.mt c.post)then(match HN src es c.blks h c.blks src with
   |some nd=>some ⟨src,es,nd⟩
   |none=>none)else none
  |_,_=>none
def uL(es outs:GF)(k:Nat):SX:=ko es (outs.getD k (.cb false))
def fc(src:aaA)(n:Nat)(i:Nat):Nat:=match src[i]? with
 |some (.whole b)=>b
 |some (.view _)=>n
 |none=>n+(i-src.length)
mutual
def io(ρ:Nat->Nat):AV->AV
 | .ptr b o=> .ptr (ρ b) o
 | .sl b o n c=> .sl (ρ b) o n c
 | .us b o n s=> .us (ρ b) o n s
 | .es b o s=> .es (ρ b) o s
 | .map b=> .map (ρ b)
 | .func fn a c=> .func fn (oG ρ a) (oG ρ c)
 | .yield b=> .yield (ρ b)
 | .iface t v=> .iface t (io ρ v)
 | .agg l=> .agg (oG ρ l)
 | .V l=> .V (oG ρ l)
 | .osl b x y s=> .osl (ρ b) x y s
 | .optr b x j s=> .optr (ρ b) x j s
 | .U b x s=> .U (ρ b) x s
 |x=>x
def oG(ρ:Nat->Nat):zw->zw
 | []=>[]
 |a::r=>io ρ a::oG ρ r
end
def nG(ρ:Nat->Nat):lW->lW
 |some (.cells e fz cs)=>some (.cells e fz (oG ρ cs))
 |some (.A e sig l)=>some (.A e sig l)
 |some (.marr d ks vs l)=>some (.marr d ks vs l)
 |_=>none
mutual
def iF(q:Nat->SX):AV->AV
 | .Z k e=>oO k (dX 1000 q e)
 | .K e=> .K (dX 1000 q e)
 | .H e=> .H (dX 1000 q e)
 | .agg l=> .agg (sc q l)
 | .V l=> .V (sc q l)
 | .osl b x y s=> .osl b (dX 1000 q x) (dX 1000 q y) s
 | .U b x s=> .U b (Ma q x) s
 |x=>x
def sc(q:Nat->SX):zw->zw
 | []=>[]
 |a::r=>iF q a::sc q r
def Ma(q:Nat->SX):SX->SX
 | .O .Y [x]=> .O .Y [dX 1000 q x]
 |x=>dX 1000 q x
end
def nS(q:Nat->SX):lW->lW
 |some (.cells e fz cs)=>some (.cells e fz (sc q cs))
 |some (.A e sig l)=>some (.A e sig (dX 1000 q l))
 |some (.marr d ks vs l)=>some (.marr d ks vs (dX 1000 q l))
 |x=>x
def mW(ρ:Nat->Nat)(q:Nat->SX)(m:Nat):List lW->Nat->Heap->Heap
 | [],_,h=>h
 |x::r,i,h=>mW ρ q m r (i+1) (bif Nat.blt i m then h.put (ρ i) (nG ρ (nS q x))else(match nG ρ (nS q x)with
  |some y=>h.new y
  |none=>h))
def Kj(e:SX)(v:AV)(h:Heap):Res:=match e with
 | .cb true=> .val v h
 |e=> .N e v h
def xn(c:FC)(b:Binding)(h:Heap):Res:=
 Kj (gL b.nd (ko b.es c.N)) (io (fc b.src h.next) (iF (uL b.es c.outs) c.out)) (mW (fc b.src h.next) (uL b.es c.outs) c.blks.length c.post c.mt h)
def Pu(x:AV)(h:Heap):Option (SX×AV×Heap):=match x with
 | .U b len s=>(match h.get b with
   |some (.A e sig l)=>bif Nat.ble h.wm b&& !(SX.beq len (.O .Y [l]))&&Nat.beq s sig.length then
    some (.O .and [.O (.cmp .leq) [.C 0,len],.O (.cmp .leq) [len,.O .Y [l]]],.U b (.O .Y [.O .lsub [l,.C 0,len]]) s,h.put b (some (.A e sig (.O .lsub [l,.C 0,len]))))else none
   |_=>none)
 |_=>none
def sm:zw->Heap->SX×zw×Heap
 | [],h=>(.cb true,[],h)
 |x::r,h=>match Pu x h with
  |some (e,x',h')=>(match sm r h' with
   |(e',r',h2)=>(gL e e',x'::r',h2))
  |none=>(match sm r h with
   |(e',r',h2)=>(e',x::r',h2))
def Cr(nd:SX)(r:Res):Res:=match r with
 | .val v h=>Kj nd v h
 | .N e v h=> .N (gL nd e) v h
 |_=> .X
def Dp(c:FC)(nv:Nat)(args:zw)(h:Heap):Res:=match AZ c nv args h with
 |some b=>xn c b h
 |none=> .X
def jN(c:FC)(nv:Nat)(args:zw)(h:Heap):Res:=match AZ c nv args h with
 |some b=>xn c b h
 |none=>(match sm args h with
  |(nd,args',h')=>Cr nd (Dp c nv args' h'))
mutual
def iQ:AV->AV->Bool
 | .V a,x=>(match x with
   | .V b=>oH a b
   |_=>false)
 | .agg a,x=>(match x with
   | .agg b=>Nat.beq a.length b.length
   |_=>false)
 |_,x=>(match x with
  | .V _=>false
  | .agg _=>false
  |_=>true)
def oH:zw->zw->Bool
 | [],x=>(match x with
   | []=>true
   |_=>false)
 |a::r,x=>(match x with
  |b::q=>iQ a b&&oH r q
  | []=>false)
end
def e49(post:List lW)(k:Nat):Option (Nat×wD):=match post[k]? with
 |some (some (.A e sig _))=>some (e,sig)
 |_=>none
def vn(post:List lW)(mt m base:Nat):zw->Nat->aaO
 | [],_=>[]
 | .U i _ _::r,t=>bif Nat.ble m i then(match e49 post (i-mt)with
   |some (e,sig)=>⟨t,base+(i-m),e,sig,none,false⟩::vn post mt m base r (t+1)
   |none=>vn post mt m base r (t+1))else vn post mt m base r (t+1)
 |_::r,t=>vn post mt m base r (t+1)
def YQ(h:Heap)(b s:Nat)(x:AV):Bool:=match x,h.get b with
 | .U c (.O .Y [l]) s',some (.A _ _ l')=>Nat.beq b c&&Nat.beq s s'&&SX.beq l l'
 |_,_=>false
def Rs(m base n:Nat)(h:Heap)(p x:AV):Option GF:=match p with
 | .U i q s=>bif Nat.ble m i then(bif YQ h (base+(i-m)) s x then some []else none)else cF 1000 base n (.U i q s) x
 |p=>cF 1000 base n p x
def LJ(m base:Nat)(h:Heap)(a:Fr):zw->Nat->Nat->Option GF
 | [],_,_=>some []
 |p::ps,t,n=>match Rs m base n h p (a.slot t)with
  |some e=>match LJ m base h a ps (t+1) (n+e.length)with
   |some es=>some (e++es)
   |none=>none
  |none=>none
def LY(m base:Nat)(h:Heap):List lW->Nat->Nat->Option GF
 | [],_,_=>some []
 |p::ps,i,n=>match sU 1000 base n p (h.get (bif Nat.blt i m then i else base+(i-m)))with
  |some e=>match LY m base h ps (i+1) (n+e.length)with
   |some es=>some (e++es)
   |none=>none
  |none=>none
def II(pc:PC):GF->GF
 | []=>[]
 |e::r=>Mf pc 16 e::II pc r
def ed8(c:FC)(m base:Nat)(p:Fr×Heap)(pc:PC):VT:=match LJ m base p.2 p.1 (hZ c.out) 0 0 with
 |some es=>match LY m base p.2 c.post c.mt es.length with
  |some fs=> .W 0 (II pc (es++fs))
  |none=> .X
 |none=> .X
def YD(c:FC)(m base:Nat)(owns:aaO)(xs:zw)(h:Heap)(pc:PC):VT:=
 match wt owns ⟨qN xs 0 TF.empty,xs.length,[],0,[],none⟩ (h.upto (Nat.add base owns.length))with
 |some p=>ed8 c m base p pc
 |none=> .X
def Ca(h:Heap)(x:AV):SX×AV:=match x with
 | .U r len s=>match h.get r with
   |some (.A _ _ l)=>bif SX.beq len (.O .Y [l])then(.cb true,x)else(.O (.cmp .eql) [len,.O .Y [l]],.U r (.O .Y [l]) s)
   |_=>(.cb true,x)
 |x=>(.cb true,x)
def wK(h:Heap):zw->SX×zw
 | []=>(.cb true,[])
 |a::r=>match Ca h a,wK h r with
  |(e,x),(e',xs)=>(gL e e',x::xs)
def UJ(c:FC)(h:Heap)(p:SX×zw):gY:=jX.N p.1 (YD c c.blks.length h.next (vn c.post c.mt c.blks.length h.next (hZ c.out) 0) p.2 h)
def ej4(l:SX):Bool:=match l with
 | .O .lcat _=>true
 |_=>false
def ee0(h:Heap)(x:AV):Bool:=match x with
 | .U b len _=>(match h.get b with
   |some (.A _ _ l)=>ej4 l&& !(SX.beq len (.O .Y [l]))
   |_=>false)
 |_=>false
def ej5(c:FC)(p:SX×zw×Heap):gY:=jX.N p.1 (UJ c p.2.2 (wK p.2.2 p.2.1))
def Re(c:FC)(l:zw)(h:Heap):gY:=bif l.any (ee0 h)then ej5 c (sm l h)else UJ c h (wK h l)
def oZ(c:FC)(v:AV)(h:Heap):gY:=
 bif iQ c.out v&&Nat.ble (hZ v).length 256 then Re c (hZ v) h else λ_=> .X
def ig:aaM->Heap->Heap
 | [],h=>h
 |x::r,h=>ig r (h.new x)
def dN4(wm:Nat)(t:TH)(next _:Nat):Heap:=⟨t,next,wm⟩
def Heap.setwm(h:Heap)(wm:Nat):Heap:=Heap.rec (dN4 wm) h
def FC.heap(c:FC):Heap:=(ig c.blks Heap.empty).setwm c.mt
def FC.run(E:Env)(fuel:Nat)(f:FuncId)(c:FC)(args:zw):VT:=ev E fuel gY jX (.body f args c.heap (oZ c)) []
